import Derived.Test.YtdcgabaobopjpaaGB
namespace Go.Ab
open Go.Proofs
set_option linter.unusedVariables false
set_option maxRecDepth 100000 in
theorem C_retracelaw03_long (p0 : (List T_retracelaw03_Part)) (r : Bool) (h : F_retracelaw03_long p0 = some r) : FnOK Try.prog 13 [lv T_retracelaw03_Part.enc p0] [] (bo r) [] [] := by
  rw [F_retracelaw03_long] at h
  refine FnOK.intro Try.func13 rfl (by kernel_rfl) (by kernel_rfl) fun E gv R hR => ?_
  refine At.seq ?_
  refine At.region_end [0] [] _ (st' := ⟨[(0, lv T_retracelaw03_Part.enc p0)], []⟩) (tips := []) (by kernel_rfl) all0 (norm ?_)
  refine At.seq ?_
  refine At.seq ?_
  refine At.region_end [0, 3] [] _ (st' := ⟨[(0, lv T_retracelaw03_Part.enc p0), (3, i64 0)], []⟩) (tips := []) (by kernel_rfl) all0 (norm ?_)
  refine At.block ?_
  refine At.loop (fun s : (Int) => F_retracelaw03_long_L3 p0 s) (fun s : (Int) => ⟨[(0, lv T_retracelaw03_Part.enc p0), (3, i64 s)], []⟩) r 0 h ?_
  intro x32 oo33 h f34
  replace h : F_retracelaw03_long_L3 p0 x32 = some oo33 := h
  rw [F_retracelaw03_long_L3] at h
  refine At.seq ?_
  refine At.seqJ (S := Bool) (fun s => ⟨[(0, lv T_retracelaw03_Part.enc p0), (3, i64 x32), (11, bo s)], []⟩) (fun s => F_retracelaw03_long_J1 p0 x32 s = some oo33) ?_ ?_
  · rcases tf (decide (x32 < ((p0).length : Int))) with b62 | b62
    · replace h := cond_t b62 h
      refine At.region_end [0, 3, 11] [] _ (st' := ⟨[(0, lv T_retracelaw03_Part.enc p0), (3, i64 x32), (11, bo (decide (x32 < 40)))], []⟩) (tips := [(4, { orc := .val (.bool true) })]) (by kernel_rfl) (allc (congrArg D.bool b62) all0) (fun a w hs => ⟨(decide (x32 < 40)), h, hs⟩)
    · replace h := cond_f b62 h
      refine At.region_end [0, 3, 11] [] _ (st' := ⟨[(0, lv T_retracelaw03_Part.enc p0), (3, i64 x32), (11, bo false)], []⟩) (tips := [(4, { orc := .val (.bool false) })]) (by kernel_rfl) (allc (congrArg D.bool b62) all0) (fun a w hs => ⟨false, h, hs⟩)
  · intro x40 h
    replace h : F_retracelaw03_long_J1 p0 x32 x40 = some oo33 := h
    rw [F_retracelaw03_long_J1] at h
    refine At.cond x40 (by kernel_rfl) (fun b41 => ?_) (fun b41 => ?_)
    · replace h := cond_t b41 h
      refine At.nar [0, 3] [] (st' := ⟨[(0, lv T_retracelaw03_Part.enc p0), (3, i64 x32)], []⟩) (by kernel_rfl) ?_
      refine At.skip (norm ?_)
      refine At.seq ?_
      refine At.block ?_
      refine At.seqJ (S := Bool) (fun s => ⟨[(0, lv T_retracelaw03_Part.enc p0), (3, i64 x32), (29, bo s)], []⟩) (fun s => F_retracelaw03_long_J2 x32 s = some oo33) ?_ ?_
      · obtain ⟨y57, hy57, h⟩ := bind_some h
        rcases tf (decide (200 < (y57.S.size : Int))) with b58 | b58
        · replace h := cond_t b58 h
          refine At.region_end [0, 3, 29] [] _ (st' := ⟨[(0, lv T_retracelaw03_Part.enc p0), (3, i64 x32), (29, bo true)], []⟩) (tips := [(2, { orc := .cells (T_retracelaw03_Part.enc y57) }), (7, { orc := .val (.bool true) })]) (by kernel_rfl) (allc (elemAt_of T_retracelaw03_Part.enc_len hy57) (allc (congrArg D.bool b58) all0)) (fun a w hs => ⟨true, h, hs⟩)
        · replace h := cond_f b58 h
          obtain ⟨y59, hy59, h⟩ := bind_some h
          refine At.region_end [0, 3, 29] [] _ (st' := ⟨[(0, lv T_retracelaw03_Part.enc p0), (3, i64 x32), (29, bo (decide (60 < ((y59.L).length : Int))))], []⟩) (tips := [(2, { orc := .cells (T_retracelaw03_Part.enc y57) }), (7, { orc := .val (.bool false) }), (10, { orc := .cells (T_retracelaw03_Part.enc y59) })]) (by kernel_rfl) (allc (elemAt_of T_retracelaw03_Part.enc_len hy57) (allc (congrArg D.bool b58) (allc (elemAt_of T_retracelaw03_Part.enc_len hy59) all0))) (fun a w hs => ⟨(decide (60 < ((y59.L).length : Int))), h, hs⟩)
      · intro x53 h
        replace h : F_retracelaw03_long_J2 x32 x53 = some oo33 := h
        rw [F_retracelaw03_long_J2] at h
        refine At.cond x53 (by kernel_rfl) (fun b54 => ?_) (fun b54 => ?_)
        · replace h := cond_t b54 h
          refine At.seq ?_
          refine At.region_end [2] [] _ (st' := ⟨[(2, bo true)], []⟩) (tips := []) (by kernel_rfl) all0 (norm ?_)
          obtain ⟨r55, h, e56⟩ := map_inr h
          rw [f34 _ e56] at h
          obtain rfl := some_eq h
          exact At.ret fun a w hs => ret_ok hR (ρ := []) (gs := []) (by kernel_rfl) all0 (by kernel_rfl) rfl rfl a w hs _ (.inl rfl)
        · replace h := cond_f b54 h
          refine At.nar [0, 3] [] (st' := ⟨[(0, lv T_retracelaw03_Part.enc p0), (3, i64 x32)], []⟩) (by kernel_rfl) ?_
          refine At.skip (norm ?_)
          refine At.region_end [0, 3] [] _ (st' := ⟨[(0, lv T_retracelaw03_Part.enc p0), (3, i64 (w64 (x32 + 1)))], []⟩) (tips := []) (by kernel_rfl) all0 (fun a w hs => ⟨_, (some_eq h).symm, hs⟩)
    · replace h := cond_f b41 h
      refine At.nar [0] [] (st' := ⟨[(0, lv T_retracelaw03_Part.enc p0)], []⟩) (by kernel_rfl) ?_
      obtain ⟨r60, h, e61⟩ := map_inr h
      rw [f34 _ e61] at h
      refine At.exit (norm ?_)
      refine At.seq ?_
      refine At.region_end [2] [] _ (st' := ⟨[(2, bo (decide (40 < ((p0).length : Int))))], []⟩) (tips := []) (by kernel_rfl) all0 (norm ?_)
      obtain rfl := some_eq h
      exact At.ret fun a w hs => ret_ok hR (ρ := []) (gs := []) (by kernel_rfl) all0 (by kernel_rfl) rfl rfl a w hs _ (.inl rfl)
set_option maxRecDepth 100000 in
theorem C_vint_Zig (p0 : Int) (r : Int) (h : F_vint_Zig p0 = some r) : FnOK Try.prog 90 [i64 p0] [] (u64 r) [] [] := by
  rw [F_vint_Zig] at h
  refine FnOK.intro Try.func90 rfl (by kernel_rfl) (by kernel_rfl) fun E gv R hR => ?_
  refine At.seq ?_
  refine At.region_end [0] [] _ (st' := ⟨[(0, i64 p0)], []⟩) (tips := []) (by kernel_rfl) all0 (norm ?_)
  refine At.seq ?_
  refine At.region_end [2] [] _ (st' := ⟨[(2, u64 (bits .xor .u64 (wu64 ((wu64 p0) * 2)) (wu64 (Int.fdiv p0 9223372036854775808))))], []⟩) (tips := []) (by kernel_rfl) (allc (by decide : (0:Int) ≤ 1) (allc (by decide : (0:Int) ≤ 63) all0)) (norm ?_)
  obtain rfl := some_eq h
  exact At.ret fun a w hs => ret_ok hR (ρ := []) (gs := []) (by kernel_rfl) all0 (by kernel_rfl) rfl rfl a w hs _ (.inl rfl)
set_option maxRecDepth 100000 in
theorem C_vint_Size (p0 : Int) (r : Int) (h : F_vint_Size p0 = some r) : FnOK Try.prog 88 [u64 p0] [] (i64 r) [] [] := by
  rw [F_vint_Size] at h
  refine FnOK.intro Try.func88 rfl (by kernel_rfl) (by kernel_rfl) fun E gv R hR => ?_
  refine At.seq ?_
  refine At.region_end [0] [] _ (st' := ⟨[(0, u64 p0)], []⟩) (tips := []) (by kernel_rfl) all0 (norm ?_)
  refine At.seq ?_
  refine At.region_end [0, 3] [] _ (st' := ⟨[(0, u64 p0), (3, i64 1)], []⟩) (tips := []) (by kernel_rfl) all0 (norm ?_)
  refine At.seq ?_
  refine At.block ?_
  refine At.loop (fun s : (Int × Int) => F_vint_Size_L1 s.1 s.2) (fun s : (Int × Int) => ⟨[(0, u64 s.1), (3, i64 s.2)], []⟩) r (p0, 1) h ?_
  rintro ⟨x9, x10⟩ oo11 h f12
  replace h : F_vint_Size_L1 x9 x10 = some oo11 := h
  rw [F_vint_Size_L1] at h
  refine At.seq ?_
  refine At.seq ?_
  refine At.region_end [0, 3, 5] [] _ (st' := ⟨[(0, u64 x9), (3, i64 x10), (5, bo (decide (128 ≤ x9)))], []⟩) (tips := []) (by kernel_rfl) all0 (norm ?_)
  refine At.cond (decide (128 ≤ x9)) (by kernel_rfl) (fun b14 => ?_) (fun b14 => ?_)
  · replace h := cond_t b14 h
    refine At.nar [0, 3] [] (st' := ⟨[(0, u64 x9), (3, i64 x10)], []⟩) (by kernel_rfl) ?_
    refine At.skip (norm ?_)
    refine At.seq ?_
    refine At.block ?_
    refine At.region_end [0, 3] [] _ (st' := ⟨[(0, u64 x9), (3, i64 (w64 (x10 + 1)))], []⟩) (tips := []) (by kernel_rfl) all0 (norm ?_)
    refine At.region_end [0, 3] [] _ (st' := ⟨[(0, u64 (Int.fdiv x9 128)), (3, i64 (w64 (x10 + 1)))], []⟩) (tips := []) (by kernel_rfl) (allc (by decide : (0:Int) ≤ 7) all0) (fun a w hs => ⟨_, (some_eq h).symm, hs⟩)
  · replace h := cond_f b14 h
    refine At.nar [3] [] (st' := ⟨[(3, i64 x10)], []⟩) (by kernel_rfl) ?_
    obtain ⟨r15, h, e16⟩ := map_inr h
    rw [f12 _ e16] at h
    refine At.exit (norm ?_)
    refine At.seq ?_
    refine At.region_end [2] [] _ (st' := ⟨[(2, i64 x10)], []⟩) (tips := []) (by kernel_rfl) all0 (norm ?_)
    obtain rfl := some_eq h
    exact At.ret fun a w hs => ret_ok hR (ρ := []) (gs := []) (by kernel_rfl) all0 (by kernel_rfl) rfl rfl a w hs _ (.inl rfl)
set_option maxRecDepth 100000 in
theorem C_vint_Put (p0 : ByteArray) (p1 : Int) (r : ByteArray) (h : F_vint_Put p0 p1 = some r) : FnOK Try.prog 73 [sv p0, u64 p1] [] (sv r) [] [] := by
  rw [F_vint_Put] at h
  refine FnOK.intro Try.func73 rfl (by kernel_rfl) (by kernel_rfl) fun E gv R hR => ?_
  refine At.seq ?_
  refine At.region_end [0, 1] [] _ (st' := ⟨[(0, sv p0), (1, u64 p1)], []⟩) (tips := []) (by kernel_rfl) all0 (norm ?_)
  refine At.seq ?_
  obtain ⟨y3, hy3, h⟩ := bind_some h
  obtain ⟨g4, h⟩ := grd_some h
  refine At.region_end [0, 1, 5] [0] _ (st' := ⟨[(0, sv p0), (1, u64 p1), (5, .row 0 ([] : List Int).length)], [.row 5 1 (encL (eInt .u8) ([]))]⟩) (tips := [(3, { pc := some { ρ := [], n0 := 0, res := i64 y3, σ' := [], e := [] } })]) (by kernel_rfl) (allc (C_vint_Size p1 y3 hy3) (allc g4 all0)) (norm ?_)
  refine At.seq ?_
  obtain ⟨g6, h⟩ := grd_some h
  refine At.region_end [1, 5] [0] _ (st' := ⟨[(1, u64 p1), (5, .row 0 ((([] : List Int) ++ (sB p0))).length)], [.row 5 1 (encL (eInt .u8) (([] : List Int) ++ (sB p0)))]⟩) (tips := [(2, { form := some ((([] : List Int) ++ (sB p0)).length, encL (eInt .u8) (([] : List Int) ++ (sB p0))) })]) (by kernel_rfl) (allc (len_appS ([] : List Int) p0) (allc (encL_appS ([] : List Int) p0) (allc (app_ok (he_int .u8) (by decide) g6) all0))) (norm ?_)
  refine At.seq ?_
  refine At.block ?_
  refine At.loop (fun s : (Int × (List Int)) => F_vint_Put_L1 s.1 s.2) (fun s : (Int × (List Int)) => ⟨[(1, u64 s.1), (5, .row 0 (s.2).length)], [.row 5 1 (encL (eInt .u8) s.2)]⟩) r (p1, (([] : List Int) ++ (sB p0))) h ?_
  rintro ⟨x17, x18⟩ oo19 h f20
  replace h : F_vint_Put_L1 x17 x18 = some oo19 := h
  rw [F_vint_Put_L1] at h
  refine At.seq ?_
  refine At.seq ?_
  refine At.region_end [1, 5, 16] [0] _ (st' := ⟨[(1, u64 x17), (5, .row 0 (x18).length), (16, bo (decide (128 ≤ x17)))], [.row 5 1 (encL (eInt .u8) x18)]⟩) (tips := []) (by kernel_rfl) all0 (norm ?_)
  refine At.cond (decide (128 ≤ x17)) (by kernel_rfl) (fun b22 => ?_) (fun b22 => ?_)
  · replace h := cond_t b22 h
    refine At.nar [1, 5] [0] (st' := ⟨[(1, u64 x17), (5, .row 0 (x18).length)], [.row 5 1 (encL (eInt .u8) x18)]⟩) (by kernel_rfl) ?_
    refine At.skip (norm ?_)
    refine At.seq ?_
    refine At.block ?_
    obtain ⟨g24, h⟩ := grd_some h
    refine At.region_end [1, 5] [0] _ (st' := ⟨[(1, u64 x17), (5, .row 0 ((x18 ++ [(bits .or .u8 (wu8 x17) 128)])).length)], [.row 5 1 (encL (eInt .u8) (x18 ++ [(bits .or .u8 (wu8 x17) 128)]))]⟩) (tips := [(5, { form := some ((x18 ++ [(bits .or .u8 (wu8 x17) 128)]).length, encL (eInt .u8) (x18 ++ [(bits .or .u8 (wu8 x17) 128)])) })]) (by kernel_rfl) (allc (len_app x18 ([(bits .or .u8 (wu8 x17) 128)])) (allc (encL_app (eInt .u8) x18 ([(bits .or .u8 (wu8 x17) 128)])) (allc (app_ok (he_int .u8) (by decide) g24) (allc (encL_len (he_int .u8) ([(bits .or .u8 (wu8 x17) 128)])) all0)))) (norm ?_)
    refine At.region_end [1, 5] [0] _ (st' := ⟨[(1, u64 (Int.fdiv x17 128)), (5, .row 0 ((x18 ++ [(bits .or .u8 (wu8 x17) 128)])).length)], [.row 5 1 (encL (eInt .u8) (x18 ++ [(bits .or .u8 (wu8 x17) 128)]))]⟩) (tips := []) (by kernel_rfl) (allc (by decide : (0:Int) ≤ 7) all0) (fun a w hs => ⟨_, (some_eq h).symm, hs⟩)
  · replace h := cond_f b22 h
    refine At.nar [1, 5] [0] (st' := ⟨[(1, u64 x17), (5, .row 0 (x18).length)], [.row 5 1 (encL (eInt .u8) x18)]⟩) (by kernel_rfl) ?_
    obtain ⟨r25, h, e26⟩ := map_inr h
    rw [f20 _ e26] at h
    refine At.exit (norm ?_)
    refine At.seq ?_
    obtain ⟨g28, h⟩ := grd_some h
    refine At.region_end [4] [] _ (st' := ⟨[(4, sv (strOfNums (x18 ++ [(wu8 x17)])))], []⟩) (tips := [(4, { form := some ((x18 ++ [(wu8 x17)]).length, encL (eInt .u8) (x18 ++ [(wu8 x17)])) }), (5, { orc := .nums (x18 ++ [(wu8 x17)]) })]) (by kernel_rfl) (allc (len_app x18 ([(wu8 x17)])) (allc (encL_app (eInt .u8) x18 ([(wu8 x17)])) (allc (app_ok (he_int .u8) (by decide) g28) (allc (encL_len (he_int .u8) ([(wu8 x17)])) (allc (encL_map .u8 (x18 ++ [(wu8 x17)])) (allc (rfl : ((x18 ++ [(wu8 x17)])).length = ((x18 ++ [(wu8 x17)])).length) all0)))))) (norm ?_)
    obtain rfl := some_eq h
    exact At.ret fun a w hs => ret_ok hR (ρ := []) (gs := []) (by kernel_rfl) all0 (by kernel_rfl) rfl rfl a w hs _ (.inl rfl)
set_option maxRecDepth 100000 in
theorem C_vint_PutInt (p0 : ByteArray) (p1 : Int) (r : ByteArray) (h : F_vint_PutInt p0 p1 = some r) : FnOK Try.prog 80 [sv p0, i64 p1] [] (sv r) [] [] := by
  rw [F_vint_PutInt] at h
  refine FnOK.intro Try.func80 rfl (by kernel_rfl) (by kernel_rfl) fun E gv R hR => ?_
  refine At.seq ?_
  refine At.region_end [0, 1] [] _ (st' := ⟨[(0, sv p0), (1, i64 p1)], []⟩) (tips := []) (by kernel_rfl) all0 (norm ?_)
  refine At.seq ?_
  obtain ⟨y3, hy3, h⟩ := bind_some h
  obtain ⟨y4, hy4, h⟩ := bind_some h
  refine At.region_end [4] [] _ (st' := ⟨[(4, sv y4)], []⟩) (tips := [(2, { pc := some { ρ := [], n0 := 0, res := u64 y3, σ' := [], e := [] } }), (3, { pc := some { ρ := [], n0 := 0, res := sv y4, σ' := [], e := [] } })]) (by kernel_rfl) (allc (C_vint_Zig p1 y3 hy3) (allc (C_vint_Put p0 y3 y4 hy4) all0)) (norm ?_)
  obtain rfl := some_eq h
  exact At.ret fun a w hs => ret_ok hR (ρ := []) (gs := []) (by kernel_rfl) all0 (by kernel_rfl) rfl rfl a w hs _ (.inl rfl)
set_option maxRecDepth 100000 in
theorem C_wire_Writer_add (p1 : ByteArray) (o0 : T_wire_Writer) (r : T_wire_Writer) (h : F_wire_Writer_add p1 o0 = some r) : FnOK Try.prog 79 [.ptr 0 0, sv p1] [.blk 28 [.row 1 (o0.s).length], .row 5 1 (encL (eInt .u8) o0.s)] (.tup []) [.blk 28 [.row 1 (r.s).length], .row 5 1 (encL (eInt .u8) r.s)] [1, 2, 3] := by
  rw [F_wire_Writer_add] at h
  refine FnOK.intro Try.func79 rfl (by kernel_rfl) (by kernel_rfl) fun E gv R hR => ?_
  refine At.seq ?_
  refine At.region_end [0, 1, 5] [0, 1, 2, 3] _ (st' := ⟨[(0, .ptr 0 0), (1, sv p1), (5, bo true)], [.blk 28 [.row 1 (o0.s).length], .row 5 1 (encL (eInt .u8) o0.s), .ghost (gv 0) (.ptr 0 0), .ghost (gv 1) (.row 1 0)]⟩) (tips := []) (by kernel_rfl) all0 (norm ?_)
  refine At.cond true (by kernel_rfl) (fun _ => ?_) (fun hb => by cases hb)
  obtain ⟨g1, h⟩ := grd_some h
  obtain rfl := some_eq h
  refine At.region_end [] [0, 1, 2, 3] _ (st' := ⟨[], [.blk 28 [.row 1 ((o0.s ++ (sB p1))).length], .row 5 1 (encL (eInt .u8) (o0.s ++ (sB p1))), .ghost (gv 0) (.ptr 0 0), .ghost (gv 1) (.undef)]⟩) (tips := [(6, { form := some ((o0.s ++ (sB p1)).length, encL (eInt .u8) (o0.s ++ (sB p1))) })]) (by kernel_rfl) (allc (len_appS o0.s p1) (allc (encL_appS o0.s p1) (allc (app_ok (he_int .u8) (by decide) g1) all0))) (fun a w hs => ret_ok hR (ρ := [0, 1]) (gs := [.ghost (gv 0) (.ptr 0 0), .ghost (gv 1) (.undef)]) (by kernel_rfl) all0 (by kernel_rfl) rfl rfl a w hs _ (.inr rfl))
set_option maxRecDepth 100000 in
theorem C_wire_Writer_Int (p1 : Int) (o0 : T_wire_Writer) (r : T_wire_Writer) (h : F_wire_Writer_Int p1 o0 = some r) : FnOK Try.prog 44 [.ptr 0 0, i64 p1] [.blk 28 [.row 1 (o0.s).length], .row 5 1 (encL (eInt .u8) o0.s)] (.tup []) [.blk 28 [.row 1 (r.s).length], .row 5 1 (encL (eInt .u8) r.s)] [1, 2, 3] := by
  rw [F_wire_Writer_Int] at h
  refine FnOK.intro Try.func44 rfl (by kernel_rfl) (by kernel_rfl) fun E gv R hR => ?_
  obtain ⟨y1, hy1, h⟩ := bind_some h
  obtain ⟨y2, hy2, h⟩ := bind_some h
  obtain rfl := some_eq h
  refine At.region_end [] [0, 1, 2, 3] _ (st' := ⟨[], [.blk 28 [.row 1 (y2.s).length], .row 5 1 (encL (eInt .u8) y2.s), .ghost (gv 0) (.ptr 0 0), .ghost (gv 1) (.undef)]⟩) (tips := [(2, { pc := some { ρ := [], n0 := 0, res := sv y1, σ' := [], e := [] } }), (3, { pc := some { ρ := [0, 1], n0 := 2, res := .tup [], σ' := [.blk 28 [.row 1 (y2.s).length], .row 5 1 (encL (eInt .u8) y2.s)], e := [1, 2, 3] } })]) (by kernel_rfl) (allc (C_vint_PutInt (⟨#[]⟩ : ByteArray) p1 y1 hy1) (allc (C_wire_Writer_add y1 o0 y2 hy2) all0)) (fun a w hs => ret_ok hR (ρ := [0, 1]) (gs := [.ghost (gv 0) (.ptr 0 0), .ghost (gv 1) (.undef)]) (by kernel_rfl) all0 (by kernel_rfl) rfl rfl a w hs _ (.inr rfl))
set_option maxRecDepth 100000 in
theorem C_wire_Writer_Num (p1 : Int) (o0 : T_wire_Writer) (r : T_wire_Writer) (h : F_wire_Writer_Num p1 o0 = some r) : FnOK Try.prog 47 [.ptr 0 0, u64 p1] [.blk 28 [.row 1 (o0.s).length], .row 5 1 (encL (eInt .u8) o0.s)] (.tup []) [.blk 28 [.row 1 (r.s).length], .row 5 1 (encL (eInt .u8) r.s)] [1, 2, 3] := by
  rw [F_wire_Writer_Num] at h
  refine FnOK.intro Try.func47 rfl (by kernel_rfl) (by kernel_rfl) fun E gv R hR => ?_
  obtain ⟨y1, hy1, h⟩ := bind_some h
  obtain ⟨y2, hy2, h⟩ := bind_some h
  obtain rfl := some_eq h
  refine At.region_end [] [0, 1, 2, 3] _ (st' := ⟨[], [.blk 28 [.row 1 (y2.s).length], .row 5 1 (encL (eInt .u8) y2.s), .ghost (gv 0) (.ptr 0 0), .ghost (gv 1) (.undef)]⟩) (tips := [(2, { pc := some { ρ := [], n0 := 0, res := sv y1, σ' := [], e := [] } }), (3, { pc := some { ρ := [0, 1], n0 := 2, res := .tup [], σ' := [.blk 28 [.row 1 (y2.s).length], .row 5 1 (encL (eInt .u8) y2.s)], e := [1, 2, 3] } })]) (by kernel_rfl) (allc (C_vint_Put (⟨#[]⟩ : ByteArray) p1 y1 hy1) (allc (C_wire_Writer_add y1 o0 y2 hy2) all0)) (fun a w hs => ret_ok hR (ρ := [0, 1]) (gs := [.ghost (gv 0) (.ptr 0 0), .ghost (gv 1) (.undef)]) (by kernel_rfl) all0 (by kernel_rfl) rfl rfl a w hs _ (.inr rfl))
set_option maxRecDepth 100000 in
theorem C_wire_Writer_Text (p1 : ByteArray) (o0 : T_wire_Writer) (r : T_wire_Writer) (h : F_wire_Writer_Text p1 o0 = some r) : FnOK Try.prog 45 [.ptr 0 0, sv p1] [.blk 28 [.row 1 (o0.s).length], .row 5 1 (encL (eInt .u8) o0.s)] (.tup []) [.blk 28 [.row 1 (r.s).length], .row 5 1 (encL (eInt .u8) r.s)] [1, 2, 3] := by
  rw [F_wire_Writer_Text] at h
  refine FnOK.intro Try.func45 rfl (by kernel_rfl) (by kernel_rfl) fun E gv R hR => ?_
  refine At.seq ?_
  obtain ⟨y2, hy2, h⟩ := bind_some h
  refine At.region_end [0, 1] [0, 1, 2, 3] _ (st' := ⟨[(0, .ptr 0 0), (1, sv p1)], [.blk 28 [.row 1 (y2.s).length], .row 5 1 (encL (eInt .u8) y2.s), .ghost (gv 0) (.ptr 0 0), .ghost (gv 1) (.undef)]⟩) (tips := [(4, { pc := some { ρ := [0, 1], n0 := 2, res := .tup [], σ' := [.blk 28 [.row 1 (y2.s).length], .row 5 1 (encL (eInt .u8) y2.s)], e := [1, 2, 3] } })]) (by kernel_rfl) (allc (C_wire_Writer_Num (wu64 (p1.size : Int)) o0 y2 hy2) all0) (norm ?_)
  obtain ⟨y3, hy3, h⟩ := bind_some h
  obtain rfl := some_eq h
  refine At.region_end [] [0, 1, 2, 3] _ (st' := ⟨[], [.blk 28 [.row 1 (y3.s).length], .row 5 1 (encL (eInt .u8) y3.s), .ghost (gv 0) (.ptr 0 0), .ghost (gv 1) (.undef)]⟩) (tips := [(2, { pc := some { ρ := [0, 1], n0 := 2, res := .tup [], σ' := [.blk 28 [.row 1 (y3.s).length], .row 5 1 (encL (eInt .u8) y3.s)], e := [1, 2, 3] } })]) (by kernel_rfl) (allc (C_wire_Writer_add p1 y2 y3 hy3) all0) (fun a w hs => ret_ok hR (ρ := [0, 1]) (gs := [.ghost (gv 0) (.ptr 0 0), .ghost (gv 1) (.undef)]) (by kernel_rfl) all0 (by kernel_rfl) rfl rfl a w hs _ (.inr rfl))
set_option maxRecDepth 100000 in
theorem C_wire_Writer_Bool (p1 : Bool) (o0 : T_wire_Writer) (r : T_wire_Writer) (h : F_wire_Writer_Bool p1 o0 = some r) : FnOK Try.prog 46 [.ptr 0 0, bo p1] [.blk 28 [.row 1 (o0.s).length], .row 5 1 (encL (eInt .u8) o0.s)] (.tup []) [.blk 28 [.row 1 (r.s).length], .row 5 1 (encL (eInt .u8) r.s)] [1, 2, 3] := by
  rw [F_wire_Writer_Bool] at h
  refine FnOK.intro Try.func46 rfl (by kernel_rfl) (by kernel_rfl) fun E gv R hR => ?_
  refine At.seq ?_
  refine At.region_end [0, 4] [0, 1, 2, 3] _ (st' := ⟨[(0, .ptr 0 0), (4, bo p1)], [.blk 28 [.row 1 (o0.s).length], .row 5 1 (encL (eInt .u8) o0.s), .ghost (gv 0) (.ptr 0 0), .ghost (gv 1) (.row 1 0)]⟩) (tips := []) (by kernel_rfl) all0 (norm ?_)
  refine At.cond p1 (by kernel_rfl) (fun b1 => ?_) (fun b1 => ?_)
  · replace h := cond_t b1 h
    obtain ⟨y2, hy2, h⟩ := bind_some h
    obtain rfl := some_eq h
    refine At.region_end [] [0, 1, 2, 3] _ (st' := ⟨[], [.blk 28 [.row 1 (y2.s).length], .row 5 1 (encL (eInt .u8) y2.s), .ghost (gv 0) (.ptr 0 0), .ghost (gv 1) (.undef)]⟩) (tips := [(1, { pc := some { ρ := [0, 1], n0 := 2, res := .tup [], σ' := [.blk 28 [.row 1 (y2.s).length], .row 5 1 (encL (eInt .u8) y2.s)], e := [1, 2, 3] } })]) (by kernel_rfl) (allc (C_wire_Writer_add (⟨#[1]⟩ : ByteArray) o0 y2 hy2) all0) (fun a w hs => ret_ok hR (ρ := [0, 1]) (gs := [.ghost (gv 0) (.ptr 0 0), .ghost (gv 1) (.undef)]) (by kernel_rfl) all0 (by kernel_rfl) rfl rfl a w hs _ (.inr rfl))
  · replace h := cond_f b1 h
    obtain ⟨y3, hy3, h⟩ := bind_some h
    obtain rfl := some_eq h
    refine At.region_end [] [0, 1, 2, 3] _ (st' := ⟨[], [.blk 28 [.row 1 (y3.s).length], .row 5 1 (encL (eInt .u8) y3.s), .ghost (gv 0) (.ptr 0 0), .ghost (gv 1) (.undef)]⟩) (tips := [(1, { pc := some { ρ := [0, 1], n0 := 2, res := .tup [], σ' := [.blk 28 [.row 1 (y3.s).length], .row 5 1 (encL (eInt .u8) y3.s)], e := [1, 2, 3] } })]) (by kernel_rfl) (allc (C_wire_Writer_add (⟨#[0]⟩ : ByteArray) o0 y3 hy3) all0) (fun a w hs => ret_ok hR (ρ := [0, 1]) (gs := [.ghost (gv 0) (.ptr 0 0), .ghost (gv 1) (.undef)]) (by kernel_rfl) all0 (by kernel_rfl) rfl rfl a w hs _ (.inr rfl))
set_option maxRecDepth 100000 in
theorem C_wire_Writer_Bytes (o0 : T_wire_Writer) (r : ByteArray) (h : F_wire_Writer_Bytes o0 = some r) : FnOK Try.prog 16 [.ptr 0 0] [.blk 28 [.row 1 (o0.s).length], .row 5 1 (encL (eInt .u8) o0.s)] (sv r) [.blk 28 [.row 1 (o0.s).length], .row 5 1 (encL (eInt .u8) o0.s)] [1, 2] := by
  rw [F_wire_Writer_Bytes] at h
  refine FnOK.intro Try.func16 rfl (by kernel_rfl) (by kernel_rfl) fun E gv R hR => ?_
  refine At.seq ?_
  refine At.region_end [0] [0, 1, 2, 3] _ (st' := ⟨[(0, .ptr 0 0)], [.blk 28 [.row 1 (o0.s).length], .row 5 1 (encL (eInt .u8) o0.s), .ghost (gv 0) (.ptr 0 0), .ghost (gv 1) (.row 1 0)]⟩) (tips := []) (by kernel_rfl) all0 (norm ?_)
  refine At.seq ?_
  refine At.seq ?_
  refine At.region_end [0, 4] [0, 1, 2, 3] _ (st' := ⟨[(0, .ptr 0 0), (4, bo false)], [.blk 28 [.row 1 (o0.s).length], .row 5 1 (encL (eInt .u8) o0.s), .ghost (gv 0) (.ptr 0 0), .ghost (gv 1) (.row 1 0)]⟩) (tips := []) (by kernel_rfl) all0 (norm ?_)
  refine At.cond false (by kernel_rfl) (fun hb => by cases hb) (fun _ => ?_)
  refine At.nar [0] [0, 1, 2, 3] (st' := ⟨[(0, .ptr 0 0)], [.blk 28 [.row 1 (o0.s).length], .row 5 1 (encL (eInt .u8) o0.s), .ghost (gv 0) (.ptr 0 0), .ghost (gv 1) (.row 1 0)]⟩) (by kernel_rfl) ?_
  refine At.skip (norm ?_)
  refine At.seq ?_
  refine At.region_end [2] [0, 1, 2, 3] _ (st' := ⟨[(2, sv (strOfNums o0.s))], [.blk 28 [.row 1 (o0.s).length], .row 5 1 (encL (eInt .u8) o0.s), .ghost (gv 0) (.ptr 0 0), .ghost (gv 1) (.row 1 0)]⟩) (tips := [(4, { orc := .nums o0.s })]) (by kernel_rfl) (allc (encL_map .u8 o0.s) (allc (rfl : (o0.s).length = (o0.s).length) all0)) (norm ?_)
  obtain rfl := some_eq h
  exact At.ret fun a w hs => ret_ok hR (ρ := [0, 1]) (gs := [.ghost (gv 0) (.ptr 0 0), .ghost (gv 1) (.row 1 0)]) (by kernel_rfl) all0 (by kernel_rfl) rfl rfl a w hs _ (.inl rfl)
set_option maxRecDepth 100000 in
theorem C_wire_Open (p0 : ByteArray) (r : T_wire_Reader) (h : F_wire_Open p0 = some r) : FnOK Try.prog 17 [sv p0] [] (.ptr 0 0) [.blk 93 (T_wire_Reader.pvs r)] [] := by
  rw [F_wire_Open] at h
  refine FnOK.intro Try.func17 rfl (by kernel_rfl) (by kernel_rfl) fun E gv R hR => ?_
  refine At.seq ?_
  refine At.region_end [0] [] _ (st' := ⟨[(0, sv p0)], []⟩) (tips := []) (by kernel_rfl) all0 (norm ?_)
  refine At.seq ?_
  refine At.region_end [2] [0] _ (st' := ⟨[(2, .ptr 0 0)], [.blk 93 [sv p0, i64 0]]⟩) (tips := []) (by kernel_rfl) all0 (norm ?_)
  obtain rfl := some_eq h
  exact At.ret fun a w hs => ret_ok hR (ρ := [0]) (gs := []) (by kernel_rfl) all0 (by kernel_rfl) rfl rfl a w hs _ (.inl rfl)
set_option maxRecDepth 100000 in
theorem C_vint_Get (p0 : ByteArray) (p1 : Int) (r : Int × Int × Int) (h : F_vint_Get p0 p1 = some r) : FnOK Try.prog 67 [sv p0, i64 p1] [] (.tup [u64 r.1, i64 r.2.1, i64 r.2.2]) [] [] := by
  rw [F_vint_Get] at h
  refine FnOK.intro Try.func67 rfl (by kernel_rfl) (by kernel_rfl) fun E gv R hR => ?_
  refine At.seq ?_
  refine At.region_end [0, 1] [] _ (st' := ⟨[(0, sv p0), (1, i64 p1)], []⟩) (tips := []) (by kernel_rfl) all0 (norm ?_)
  refine At.scope ?_
  refine At.seq ?_
  refine At.seqJ (S := Bool) (fun s => ⟨[(0, sv p0), (1, i64 p1), (18, bo s)], []⟩) (fun s => F_vint_Get_J1 p0 p1 s = some r) ?_ ?_
  · rcases tf (decide (p1 < 0)) with b173 | b173
    · replace h := cond_t b173 h
      refine At.region_end [0, 1, 18] [] _ (st' := ⟨[(0, sv p0), (1, i64 p1), (18, bo true)], []⟩) (tips := [(2, { orc := .val (.bool true) })]) (by kernel_rfl) (allc (congrArg D.bool b173) all0) (fun a w hs => ⟨true, h, hs⟩)
    · replace h := cond_f b173 h
      refine At.region_end [0, 1, 18] [] _ (st' := ⟨[(0, sv p0), (1, i64 p1), (18, bo (decide ((p0.size : Int) < p1)))], []⟩) (tips := [(2, { orc := .val (.bool false) })]) (by kernel_rfl) (allc (congrArg D.bool b173) all0) (fun a w hs => ⟨(decide ((p0.size : Int) < p1)), h, hs⟩)
  · intro x6 h
    replace h : F_vint_Get_J1 p0 p1 x6 = some r := h
    rw [F_vint_Get_J1] at h
    refine At.cond x6 (by kernel_rfl) (fun b7 => ?_) (fun b7 => ?_)
    · replace h := cond_t b7 h
      refine At.seq ?_
      refine At.region_end [4, 5, 6] [] _ (st' := ⟨[(4, u64 0), (5, i64 0), (6, i64 1)], []⟩) (tips := []) (by kernel_rfl) all0 (norm ?_)
      obtain rfl := some_eq h
      exact At.ret fun a w hs => ret_ok hR (ρ := []) (gs := []) (by kernel_rfl) all0 (by kernel_rfl) rfl rfl a w hs _ (.inl rfl)
    · replace h := cond_f b7 h
      refine At.nar [0, 1] [] (st' := ⟨[(0, sv p0), (1, i64 p1)], []⟩) (by kernel_rfl) ?_
      refine At.skip (norm ?_)
      refine At.seq ?_
      refine At.region_end [0, 1, 7] [] _ (st' := ⟨[(0, sv p0), (1, i64 p1), (7, i64 2)], []⟩) (tips := []) (by kernel_rfl) all0 (norm ?_)
      refine At.seq ?_
      refine At.region_end [0, 1, 7, 8] [] _ (st' := ⟨[(0, sv p0), (1, i64 p1), (7, i64 2), (8, u64 0)], []⟩) (tips := []) (by kernel_rfl) all0 (norm ?_)
      refine At.seq ?_
      refine At.label (norm ?_)
      refine At.seqJ (S := Int) (fun s => ⟨[(7, i64 s)], []⟩) (fun s => F_vint_Get_J2 s = some r) ?_ ?_
      · refine At.seq ?_
        obtain ⟨g93, h⟩ := grd_some h
        obtain ⟨g94, h⟩ := grd_some h
        refine At.region_end [1, 7, 8, 22, 23, 24] [0] _ (st' := ⟨[(1, i64 p1), (7, i64 2), (8, u64 0), (22, .row 0 ((sB (p0.extract (Int.toNat p1) (Int.toNat (p0.size : Int))))).length), (23, i64 (((sB (p0.extract (Int.toNat p1) (Int.toNat (p0.size : Int))))).length : Int)), (24, i64 0)], [.row 5 1 (encL (eInt .u8) (sB (p0.extract (Int.toNat p1) (Int.toNat (p0.size : Int)))))]⟩) (tips := [(3, { form := some ((sB (p0.extract (Int.toNat p1) (Int.toNat (p0.size : Int)))).length, encL (eInt .u8) (sB (p0.extract (Int.toNat p1) (Int.toNat (p0.size : Int))))) })]) (by kernel_rfl) (allc g93 (allc (len_sB (p0.extract (Int.toNat p1) (Int.toNat (p0.size : Int)))) (allc (encL_sB (p0.extract (Int.toNat p1) (Int.toNat (p0.size : Int)))) (allc g94 all0)))) (norm ?_)
        refine At.block ?_
        refine At.loop (fun s : (Int × Int) => F_vint_Get_L5 p0 p1 s.1 s.2) (fun s : (Int × Int) => ⟨[(1, i64 p1), (7, i64 2), (8, u64 s.1), (22, .row 0 ((sB (p0.extract (Int.toNat p1) (Int.toNat (p0.size : Int))))).length), (23, i64 (((sB (p0.extract (Int.toNat p1) (Int.toNat (p0.size : Int))))).length : Int)), (24, i64 s.2)], [.row 5 1 (encL (eInt .u8) (sB (p0.extract (Int.toNat p1) (Int.toNat (p0.size : Int)))))]⟩) r (0, 0) h ?_
        rintro ⟨x95, x96⟩ oo97 h f98
        replace h : F_vint_Get_L5 p0 p1 x95 x96 = some oo97 := h
        rw [F_vint_Get_L5] at h
        refine At.seq ?_
        refine At.region_end [1, 7, 8, 22, 23, 24, 25] [0] _ (st' := ⟨[(1, i64 p1), (7, i64 2), (8, u64 x95), (22, .row 0 ((sB (p0.extract (Int.toNat p1) (Int.toNat (p0.size : Int))))).length), (23, i64 (((sB (p0.extract (Int.toNat p1) (Int.toNat (p0.size : Int))))).length : Int)), (24, i64 x96), (25, bo (decide (x96 < (((sB (p0.extract (Int.toNat p1) (Int.toNat (p0.size : Int))))).length : Int))))], [.row 5 1 (encL (eInt .u8) (sB (p0.extract (Int.toNat p1) (Int.toNat (p0.size : Int)))))]⟩) (tips := []) (by kernel_rfl) all0 (norm ?_)
        refine At.seq ?_
        refine At.cond (decide (x96 < (((sB (p0.extract (Int.toNat p1) (Int.toNat (p0.size : Int))))).length : Int))) (by kernel_rfl) (fun b100 => ?_) (fun b100 => ?_)
        · replace h := cond_t b100 h
          refine At.nar [1, 7, 8, 22, 23, 24] [0] (st' := ⟨[(1, i64 p1), (7, i64 2), (8, u64 x95), (22, .row 0 ((sB (p0.extract (Int.toNat p1) (Int.toNat (p0.size : Int))))).length), (23, i64 (((sB (p0.extract (Int.toNat p1) (Int.toNat (p0.size : Int))))).length : Int)), (24, i64 x96)], [.row 5 1 (encL (eInt .u8) (sB (p0.extract (Int.toNat p1) (Int.toNat (p0.size : Int)))))]⟩) (by kernel_rfl) ?_
          refine At.skip (norm ?_)
          refine At.seq ?_
          refine At.block ?_
          refine At.seq ?_
          obtain ⟨y135, hy135, h⟩ := bind_some h
          refine At.region_end [1, 7, 8, 9, 10, 22, 23, 24] [0] _ (st' := ⟨[(1, i64 p1), (7, i64 2), (8, u64 x95), (9, i64 x96), (10, u8 y135), (22, .row 0 ((sB (p0.extract (Int.toNat p1) (Int.toNat (p0.size : Int))))).length), (23, i64 (((sB (p0.extract (Int.toNat p1) (Int.toNat (p0.size : Int))))).length : Int)), (24, i64 x96)], [.row 5 1 (encL (eInt .u8) (sB (p0.extract (Int.toNat p1) (Int.toNat (p0.size : Int)))))]⟩) (tips := [(2, { orc := .val (.int .u8 y135) })]) (by kernel_rfl) (allc ((rAt_of (he_int .u8) (d := .int .u8 y135) hy135 rfl).1) (allc ((rAt_of (he_int .u8) (d := .int .u8 y135) hy135 rfl).2) all0)) (norm ?_)
          refine At.seq ?_
          refine At.block ?_
          refine At.seqJ (S := Bool) (fun s => ⟨[(1, i64 p1), (7, i64 2), (8, u64 x95), (9, i64 x96), (10, u8 y135), (22, .row 0 ((sB (p0.extract (Int.toNat p1) (Int.toNat (p0.size : Int))))).length), (23, i64 (((sB (p0.extract (Int.toNat p1) (Int.toNat (p0.size : Int))))).length : Int)), (24, i64 x96), (29, bo s)], [.row 5 1 (encL (eInt .u8) (sB (p0.extract (Int.toNat p1) (Int.toNat (p0.size : Int)))))]⟩) (fun s => F_vint_Get_J3 p1 x95 x96 y135 s = some oo97) ?_ ?_
          · refine At.seqJ (S := Bool) (fun s => ⟨[(1, i64 p1), (7, i64 2), (8, u64 x95), (9, i64 x96), (10, u8 y135), (22, .row 0 ((sB (p0.extract (Int.toNat p1) (Int.toNat (p0.size : Int))))).length), (23, i64 (((sB (p0.extract (Int.toNat p1) (Int.toNat (p0.size : Int))))).length : Int)), (24, i64 x96), (29, bo s)], [.row 5 1 (encL (eInt .u8) (sB (p0.extract (Int.toNat p1) (Int.toNat (p0.size : Int)))))]⟩) (fun s => F_vint_Get_J4 p1 x95 x96 y135 s = some oo97) ?_ ?_
            · rcases tf (x96 == 9) with b170 | b170
              · replace h := cond_t b170 h
                refine At.region_end [1, 7, 8, 9, 10, 22, 23, 24, 29] [0] _ (st' := ⟨[(1, i64 p1), (7, i64 2), (8, u64 x95), (9, i64 x96), (10, u8 y135), (22, .row 0 ((sB (p0.extract (Int.toNat p1) (Int.toNat (p0.size : Int))))).length), (23, i64 (((sB (p0.extract (Int.toNat p1) (Int.toNat (p0.size : Int))))).length : Int)), (24, i64 x96), (29, bo (decide (1 < y135)))], [.row 5 1 (encL (eInt .u8) (sB (p0.extract (Int.toNat p1) (Int.toNat (p0.size : Int)))))]⟩) (tips := [(2, { orc := .val (.bool true) })]) (by kernel_rfl) (allc (congrArg D.bool b170) all0) (fun a w hs => ⟨(decide (1 < y135)), h, hs⟩)
              · replace h := cond_f b170 h
                refine At.region_end [1, 7, 8, 9, 10, 22, 23, 24, 29] [0] _ (st' := ⟨[(1, i64 p1), (7, i64 2), (8, u64 x95), (9, i64 x96), (10, u8 y135), (22, .row 0 ((sB (p0.extract (Int.toNat p1) (Int.toNat (p0.size : Int))))).length), (23, i64 (((sB (p0.extract (Int.toNat p1) (Int.toNat (p0.size : Int))))).length : Int)), (24, i64 x96), (29, bo false)], [.row 5 1 (encL (eInt .u8) (sB (p0.extract (Int.toNat p1) (Int.toNat (p0.size : Int)))))]⟩) (tips := [(2, { orc := .val (.bool false) })]) (by kernel_rfl) (allc (congrArg D.bool b170) all0) (fun a w hs => ⟨false, h, hs⟩)
            · intro x167 h
              replace h : F_vint_Get_J4 p1 x95 x96 y135 x167 = some oo97 := h
              rw [F_vint_Get_J4] at h
              refine At.cond x167 (by kernel_rfl) (fun b168 => ?_) (fun b168 => ?_)
              · replace h := cond_t b168 h
                refine At.skip (fun a w hs => ⟨x167, h, hs⟩)
              · replace h := cond_f b168 h
                rcases tf (decide (0 < x96)) with b169 | b169
                · replace h := cond_t b169 h
                  refine At.region_end [1, 7, 8, 9, 10, 22, 23, 24, 29] [0] _ (st' := ⟨[(1, i64 p1), (7, i64 2), (8, u64 x95), (9, i64 x96), (10, u8 y135), (22, .row 0 ((sB (p0.extract (Int.toNat p1) (Int.toNat (p0.size : Int))))).length), (23, i64 (((sB (p0.extract (Int.toNat p1) (Int.toNat (p0.size : Int))))).length : Int)), (24, i64 x96), (29, bo (y135 == 0))], [.row 5 1 (encL (eInt .u8) (sB (p0.extract (Int.toNat p1) (Int.toNat (p0.size : Int)))))]⟩) (tips := [(2, { orc := .val (.bool true) })]) (by kernel_rfl) (allc (congrArg D.bool b169) all0) (fun a w hs => ⟨(y135 == 0), h, hs⟩)
                · replace h := cond_f b169 h
                  refine At.region_end [1, 7, 8, 9, 10, 22, 23, 24, 29] [0] _ (st' := ⟨[(1, i64 p1), (7, i64 2), (8, u64 x95), (9, i64 x96), (10, u8 y135), (22, .row 0 ((sB (p0.extract (Int.toNat p1) (Int.toNat (p0.size : Int))))).length), (23, i64 (((sB (p0.extract (Int.toNat p1) (Int.toNat (p0.size : Int))))).length : Int)), (24, i64 x96), (29, bo false)], [.row 5 1 (encL (eInt .u8) (sB (p0.extract (Int.toNat p1) (Int.toNat (p0.size : Int)))))]⟩) (tips := [(2, { orc := .val (.bool false) })]) (by kernel_rfl) (allc (congrArg D.bool b169) all0) (fun a w hs => ⟨false, h, hs⟩)
          · intro x156 h
            replace h : F_vint_Get_J3 p1 x95 x96 y135 x156 = some oo97 := h
            rw [F_vint_Get_J3] at h
            refine At.cond x156 (by kernel_rfl) (fun b157 => ?_) (fun b157 => ?_)
            · replace h := cond_t b157 h
              refine At.seq ?_
              refine At.region_end [7] [] _ (st' := ⟨[(7, i64 3)], []⟩) (tips := []) (by kernel_rfl) all0 (norm ?_)
              obtain ⟨r158, h, e159⟩ := map_inr h
              rw [f98 _ e159] at h
              refine At.exit (fun a w hs => ⟨3, h, hs⟩)
            · replace h := cond_f b157 h
              refine At.seq ?_
              refine At.region_end [1, 7, 8, 9, 10, 22, 23, 24, 42] [0] _ (st' := ⟨[(1, i64 p1), (7, i64 2), (8, u64 x95), (9, i64 x96), (10, u8 y135), (22, .row 0 ((sB (p0.extract (Int.toNat p1) (Int.toNat (p0.size : Int))))).length), (23, i64 (((sB (p0.extract (Int.toNat p1) (Int.toNat (p0.size : Int))))).length : Int)), (24, i64 x96), (42, bo (decide (y135 < 128)))], [.row 5 1 (encL (eInt .u8) (sB (p0.extract (Int.toNat p1) (Int.toNat (p0.size : Int)))))]⟩) (tips := []) (by kernel_rfl) all0 (norm ?_)
              refine At.cond (decide (y135 < 128)) (by kernel_rfl) (fun b160 => ?_) (fun b160 => ?_)
              · replace h := cond_t b160 h
                refine At.seq ?_
                obtain ⟨g162, h⟩ := grd_some h
                refine At.region_end [4, 5, 6] [] _ (st' := ⟨[(4, u64 (bits .or .u64 x95 (wu64 ((wu64 y135) * 2 ^ (min (Int.toNat (w64 (7 * x96))) 64))))), (5, i64 (w64 ((w64 (p1 + x96)) + 1))), (6, i64 0)], []⟩) (tips := []) (by kernel_rfl) (allc g162 all0) (norm ?_)
                obtain ⟨r163, h, e164⟩ := map_inr h
                rw [f98 _ e164] at h
                obtain rfl := some_eq h
                exact At.ret fun a w hs => ret_ok hR (ρ := []) (gs := []) (by kernel_rfl) all0 (by kernel_rfl) rfl rfl a w hs _ (.inl rfl)
              · replace h := cond_f b160 h
                refine At.nar [1, 7, 8, 9, 10, 22, 23, 24] [0] (st' := ⟨[(1, i64 p1), (7, i64 2), (8, u64 x95), (9, i64 x96), (10, u8 y135), (22, .row 0 ((sB (p0.extract (Int.toNat p1) (Int.toNat (p0.size : Int))))).length), (23, i64 (((sB (p0.extract (Int.toNat p1) (Int.toNat (p0.size : Int))))).length : Int)), (24, i64 x96)], [.row 5 1 (encL (eInt .u8) (sB (p0.extract (Int.toNat p1) (Int.toNat (p0.size : Int)))))]⟩) (by kernel_rfl) ?_
                refine At.skip (norm ?_)
                obtain ⟨g165, h⟩ := grd_some h
                refine At.region_end [1, 7, 8, 22, 23, 24] [0] _ (st' := ⟨[(1, i64 p1), (7, i64 2), (8, u64 (bits .or .u64 x95 (wu64 ((wu64 (bits .and .u8 y135 127)) * 2 ^ (min (Int.toNat (w64 (7 * x96))) 64))))), (22, .row 0 ((sB (p0.extract (Int.toNat p1) (Int.toNat (p0.size : Int))))).length), (23, i64 (((sB (p0.extract (Int.toNat p1) (Int.toNat (p0.size : Int))))).length : Int)), (24, i64 x96)], [.row 5 1 (encL (eInt .u8) (sB (p0.extract (Int.toNat p1) (Int.toNat (p0.size : Int)))))]⟩) (tips := []) (by kernel_rfl) (allc g165 all0) (norm ?_)
                refine At.region_end [1, 7, 8, 22, 23, 24] [0] _ (st' := ⟨[(1, i64 p1), (7, i64 2), (8, u64 (bits .or .u64 x95 (wu64 ((wu64 (bits .and .u8 y135 127)) * 2 ^ (min (Int.toNat (w64 (7 * x96))) 64))))), (22, .row 0 ((sB (p0.extract (Int.toNat p1) (Int.toNat (p0.size : Int))))).length), (23, i64 (((sB (p0.extract (Int.toNat p1) (Int.toNat (p0.size : Int))))).length : Int)), (24, i64 (w64 (x96 + 1)))], [.row 5 1 (encL (eInt .u8) (sB (p0.extract (Int.toNat p1) (Int.toNat (p0.size : Int)))))]⟩) (tips := []) (by kernel_rfl) all0 (fun a w hs => ⟨_, (some_eq h).symm, hs⟩)
        · replace h := cond_f b100 h
          refine At.nar [7] [] (st' := ⟨[(7, i64 2)], []⟩) (by kernel_rfl) ?_
          obtain ⟨r171, h, e172⟩ := map_inr h
          rw [f98 _ e172] at h
          refine At.exit (fun a w hs => ⟨2, h, hs⟩)
      · intro x90 h
        replace h : F_vint_Get_J2 x90 = some r := h
        rw [F_vint_Get_J2] at h
        refine At.seq ?_
        refine At.region_end [4, 5, 6] [] _ (st' := ⟨[(4, u64 0), (5, i64 0), (6, i64 x90)], []⟩) (tips := []) (by kernel_rfl) all0 (norm ?_)
        obtain rfl := some_eq h
        exact At.ret fun a w hs => ret_ok hR (ρ := []) (gs := []) (by kernel_rfl) all0 (by kernel_rfl) rfl rfl a w hs _ (.inl rfl)
set_option maxRecDepth 100000 in
theorem C_vint_Zag (p0 : Int) (r : Int) (h : F_vint_Zag p0 = some r) : FnOK Try.prog 85 [u64 p0] [] (i64 r) [] [] := by
  rw [F_vint_Zag] at h
  refine FnOK.intro Try.func85 rfl (by kernel_rfl) (by kernel_rfl) fun E gv R hR => ?_
  refine At.seq ?_
  refine At.region_end [0] [] _ (st' := ⟨[(0, u64 p0)], []⟩) (tips := []) (by kernel_rfl) all0 (norm ?_)
  refine At.seq ?_
  refine At.region_end [2] [] _ (st' := ⟨[(2, i64 (bits .xor .i64 (w64 (Int.fdiv p0 2)) (w64 (0 - (w64 (bits .and .u64 p0 1))))))], []⟩) (tips := []) (by kernel_rfl) (allc (by decide : (0:Int) ≤ 1) all0) (norm ?_)
  obtain rfl := some_eq h
  exact At.ret fun a w hs => ret_ok hR (ρ := []) (gs := []) (by kernel_rfl) all0 (by kernel_rfl) rfl rfl a w hs _ (.inl rfl)
set_option maxRecDepth 100000 in
theorem C_vint_GetInt (p0 : ByteArray) (p1 : Int) (r : Int × Int × Int) (h : F_vint_GetInt p0 p1 = some r) : FnOK Try.prog 69 [sv p0, i64 p1] [] (.tup [i64 r.1, i64 r.2.1, i64 r.2.2]) [] [] := by
  rw [F_vint_GetInt] at h
  refine FnOK.intro Try.func69 rfl (by kernel_rfl) (by kernel_rfl) fun E gv R hR => ?_
  refine At.seq ?_
  refine At.region_end [0, 1] [] _ (st' := ⟨[(0, sv p0), (1, i64 p1)], []⟩) (tips := []) (by kernel_rfl) all0 (norm ?_)
  refine At.seq ?_
  obtain ⟨y2, hy2, h⟩ := bind_some h
  refine At.region_end [7, 8, 9] [] _ (st' := ⟨[(7, u64 y2.1), (8, i64 y2.2.1), (9, i64 y2.2.2)], []⟩) (tips := [(2, { pc := some { ρ := [], n0 := 0, res := .tup [u64 y2.1, i64 y2.2.1, i64 y2.2.2], σ' := [], e := [] } })]) (by kernel_rfl) (allc (C_vint_Get p0 p1 y2 hy2) all0) (norm ?_)
  refine At.seq ?_
  obtain ⟨y4, hy4, h⟩ := bind_some h
  refine At.region_end [4, 5, 6] [] _ (st' := ⟨[(4, i64 y4), (5, i64 y2.2.1), (6, i64 y2.2.2)], []⟩) (tips := [(1, { pc := some { ρ := [], n0 := 0, res := i64 y4, σ' := [], e := [] } })]) (by kernel_rfl) (allc (C_vint_Zag y2.1 y4 hy4) all0) (norm ?_)
  obtain rfl := some_eq h
  exact At.ret fun a w hs => ret_ok hR (ρ := []) (gs := []) (by kernel_rfl) all0 (by kernel_rfl) rfl rfl a w hs _ (.inl rfl)
set_option maxRecDepth 100000 in
theorem C_wire_Reader_Int_1 (p0 : ByteArray) (o0_0 : Int) (r : Int × Int × Int) (h : F_wire_Reader_Int_1 p0 o0_0 = some r) : FnOK Try.prog 68 [sv p0, .ptr 0 0] [.blk 2 [i64 o0_0]] (.tup [i64 r.1, i64 r.2.1]) [.blk 2 [i64 r.2.2]] [1] := by
  rw [F_wire_Reader_Int_1] at h
  refine FnOK.intro Try.func68 rfl (by kernel_rfl) (by kernel_rfl) fun E gv R hR => ?_
  refine At.seq ?_
  refine At.region_end [0, 1] [0, 1] _ (st' := ⟨[(0, sv p0), (1, .ptr 0 0)], [.blk 2 [i64 o0_0], .ghost (gv 0) (.ptr 0 0)]⟩) (tips := []) (by kernel_rfl) all0 (norm ?_)
  refine At.seq ?_
  obtain ⟨y2, hy2, h⟩ := bind_some h
  refine At.region_end [3, 4] [0, 1] _ (st' := ⟨[(3, i64 y2.2.1), (4, i64 y2.2.2)], [.blk 2 [i64 y2.1], .ghost (gv 0) (.ptr 0 0)]⟩) (tips := [(1, { pc := some { ρ := [], n0 := 0, res := .tup [i64 y2.1, i64 y2.2.1, i64 y2.2.2], σ' := [], e := [] } })]) (by kernel_rfl) (allc (C_vint_GetInt p0 0 y2 hy2) all0) (norm ?_)
  refine At.seq ?_
  refine At.region_end [3, 4] [0, 1] _ (st' := ⟨[(3, i64 y2.2.1), (4, i64 y2.2.2)], [.blk 2 [i64 y2.1], .ghost (gv 0) (.ptr 0 0)]⟩) (tips := []) (by kernel_rfl) all0 (norm ?_)
  obtain rfl := some_eq h
  exact At.ret fun a w hs => ret_ok hR (ρ := [0]) (gs := [.ghost (gv 0) (.ptr 0 0)]) (by kernel_rfl) all0 (by kernel_rfl) rfl rfl a w hs _ (.inl rfl)
set_option maxRecDepth 100000 in
theorem C_wire_Reader_step (o0 : T_wire_Reader) (o1_0 : Int) (r : Bool × T_wire_Reader × Int) (h : F_wire_Reader_step o0 o1_0 = some r) : FnOK Try.prog 64 [.ptr 0 0, .fn (.func 68) [] [.ptr 1 0]] [.blk 93 (T_wire_Reader.pvs o0), .blk 2 [i64 o1_0]] (bo r.1) [.blk 93 (T_wire_Reader.pvs r.2.1), .blk 2 [i64 r.2.2]] [1, 3] := by
  rw [F_wire_Reader_step] at h
  refine FnOK.intro Try.func64 rfl (by kernel_rfl) (by kernel_rfl) fun E gv R hR => ?_
  refine At.seq ?_
  refine At.region_end [0, 1] [0, 1, 2, 3] _ (st' := ⟨[(0, .ptr 0 0), (1, .fn (.func 68) [] [.ptr 1 0])], [.blk 93 (T_wire_Reader.pvs o0), .blk 2 [i64 o1_0], .ghost (gv 0) (.ptr 0 0), .ghost (gv 1) (.ptr 1 0)]⟩) (tips := []) (by kernel_rfl) all0 (norm ?_)
  refine At.seq ?_
  refine At.seq ?_
  refine At.region_end [0, 1, 15] [0, 1, 2, 3] _ (st' := ⟨[(0, .ptr 0 0), (1, .fn (.func 68) [] [.ptr 1 0]), (15, bo (o0.e != 0))], [.blk 93 (T_wire_Reader.pvs o0), .blk 2 [i64 o1_0], .ghost (gv 0) (.ptr 0 0), .ghost (gv 1) (.ptr 1 0)]⟩) (tips := []) (by kernel_rfl) all0 (norm ?_)
  refine At.cond (o0.e != 0) (by kernel_rfl) (fun b2 => ?_) (fun b2 => ?_)
  · replace h := cond_t b2 h
    refine At.seq ?_
    refine At.region_end [4] [0, 1, 2, 3] _ (st' := ⟨[(4, bo false)], [.blk 93 (T_wire_Reader.pvs o0), .blk 2 [i64 o1_0], .ghost (gv 0) (.ptr 0 0), .ghost (gv 1) (.ptr 1 0)]⟩) (tips := []) (by kernel_rfl) all0 (norm ?_)
    obtain rfl := some_eq h
    exact At.ret fun a w hs => ret_ok hR (ρ := [0, 1]) (gs := [.ghost (gv 0) (.ptr 0 0), .ghost (gv 1) (.ptr 1 0)]) (by kernel_rfl) all0 (by kernel_rfl) rfl rfl a w hs _ (.inl rfl)
  · replace h := cond_f b2 h
    refine At.nar [0, 1] [0, 1, 2, 3] (st' := ⟨[(0, .ptr 0 0), (1, .fn (.func 68) [] [.ptr 1 0])], [.blk 93 (T_wire_Reader.pvs o0), .blk 2 [i64 o1_0], .ghost (gv 0) (.ptr 0 0), .ghost (gv 1) (.ptr 1 0)]⟩) (by kernel_rfl) ?_
    refine At.skip (norm ?_)
    refine At.seq ?_
    obtain ⟨y4, hy4, h⟩ := bind_some h
    refine At.region_end [0, 5, 6] [0, 1, 2, 3] _ (st' := ⟨[(0, .ptr 0 0), (5, i64 y4.1), (6, i64 y4.2.1)], [.blk 93 (T_wire_Reader.pvs o0), .blk 2 [i64 y4.2.2], .ghost (gv 0) (.ptr 0 0), .ghost (gv 1) (.ptr 1 0)]⟩) (tips := [(5, { pc := some { ρ := [1], n0 := 1, res := .tup [i64 y4.1, i64 y4.2.1], σ' := [.blk 2 [i64 y4.2.2]], e := [1] } })]) (by kernel_rfl) (allc (C_wire_Reader_Int_1 o0.s o1_0 y4 hy4) all0) (norm ?_)
    refine At.seq ?_
    refine At.seq ?_
    refine At.region_end [0, 5, 6, 26] [0, 1, 2, 3] _ (st' := ⟨[(0, .ptr 0 0), (5, i64 y4.1), (6, i64 y4.2.1), (26, bo (y4.2.1 != 0))], [.blk 93 (T_wire_Reader.pvs o0), .blk 2 [i64 y4.2.2], .ghost (gv 0) (.ptr 0 0), .ghost (gv 1) (.ptr 1 0)]⟩) (tips := []) (by kernel_rfl) all0 (norm ?_)
    refine At.cond (y4.2.1 != 0) (by kernel_rfl) (fun b6 => ?_) (fun b6 => ?_)
    · replace h := cond_t b6 h
      refine At.seq ?_
      refine At.region_end [] [0, 1, 2, 3] _ (st' := ⟨[], [.blk 93 [sv o0.s, i64 y4.2.1], .blk 2 [i64 y4.2.2], .ghost (gv 0) (.ptr 0 0), .ghost (gv 1) (.ptr 1 0)]⟩) (tips := []) (by kernel_rfl) all0 (norm ?_)
      refine At.seq ?_
      refine At.region_end [4] [0, 1, 2, 3] _ (st' := ⟨[(4, bo false)], [.blk 93 [sv o0.s, i64 y4.2.1], .blk 2 [i64 y4.2.2], .ghost (gv 0) (.ptr 0 0), .ghost (gv 1) (.ptr 1 0)]⟩) (tips := []) (by kernel_rfl) all0 (norm ?_)
      obtain rfl := some_eq h
      exact At.ret fun a w hs => ret_ok hR (ρ := [0, 1]) (gs := [.ghost (gv 0) (.ptr 0 0), .ghost (gv 1) (.ptr 1 0)]) (by kernel_rfl) all0 (by kernel_rfl) rfl rfl a w hs _ (.inl rfl)
    · replace h := cond_f b6 h
      refine At.nar [0, 5] [0, 1, 2, 3] (st' := ⟨[(0, .ptr 0 0), (5, i64 y4.1)], [.blk 93 (T_wire_Reader.pvs o0), .blk 2 [i64 y4.2.2], .ghost (gv 0) (.ptr 0 0), .ghost (gv 1) (.ptr 1 0)]⟩) (by kernel_rfl) ?_
      refine At.skip (norm ?_)
      refine At.seq ?_
      obtain ⟨g8, h⟩ := grd_some h
      refine At.region_end [] [0, 1, 2, 3] _ (st' := ⟨[], [.blk 93 [sv (o0.s.extract (Int.toNat y4.1) (Int.toNat (o0.s.size : Int))), i64 o0.e], .blk 2 [i64 y4.2.2], .ghost (gv 0) (.ptr 0 0), .ghost (gv 1) (.ptr 1 0)]⟩) (tips := []) (by kernel_rfl) (allc g8 all0) (norm ?_)
      refine At.seq ?_
      refine At.region_end [4] [0, 1, 2, 3] _ (st' := ⟨[(4, bo true)], [.blk 93 [sv (o0.s.extract (Int.toNat y4.1) (Int.toNat (o0.s.size : Int))), i64 o0.e], .blk 2 [i64 y4.2.2], .ghost (gv 0) (.ptr 0 0), .ghost (gv 1) (.ptr 1 0)]⟩) (tips := []) (by kernel_rfl) all0 (norm ?_)
      obtain rfl := some_eq h
      exact At.ret fun a w hs => ret_ok hR (ρ := [0, 1]) (gs := [.ghost (gv 0) (.ptr 0 0), .ghost (gv 1) (.ptr 1 0)]) (by kernel_rfl) all0 (by kernel_rfl) rfl rfl a w hs _ (.inl rfl)
set_option maxRecDepth 100000 in
theorem C_wire_Reader_Int (o0 : T_wire_Reader) (r : Int × T_wire_Reader) (h : F_wire_Reader_Int o0 = some r) : FnOK Try.prog 25 [.ptr 0 0] [.blk 93 (T_wire_Reader.pvs o0)] (i64 r.1) [.blk 93 (T_wire_Reader.pvs r.2)] [1] := by
  rw [F_wire_Reader_Int] at h
  refine FnOK.intro Try.func25 rfl (by kernel_rfl) (by kernel_rfl) fun E gv R hR => ?_
  refine At.seq ?_
  refine At.region_end [0] [0, 1] _ (st' := ⟨[(0, .ptr 0 0)], [.blk 93 (T_wire_Reader.pvs o0), .ghost (gv 0) (.ptr 0 0)]⟩) (tips := []) (by kernel_rfl) all0 (norm ?_)
  refine At.seq ?_
  refine At.region_end [0, 3] [0, 1, 2] _ (st' := ⟨[(0, .ptr 0 0), (3, .ptr 2 0)], [.blk 93 (T_wire_Reader.pvs o0), .ghost (gv 0) (.ptr 0 0), .blk 2 [i64 0]]⟩) (tips := []) (by kernel_rfl) all0 (norm ?_)
  refine At.seq ?_
  obtain ⟨y2, hy2, h⟩ := bind_some h
  refine At.region_end [3] [0, 1, 2] _ (st' := ⟨[(3, .ptr 2 0)], [.blk 93 (T_wire_Reader.pvs y2.2.1), .ghost (gv 0) (.ptr 0 0), .blk 2 [i64 y2.2.2]]⟩) (tips := [(2, { pc := some { ρ := [0, 2], n0 := 2, res := bo y2.1, σ' := [.blk 93 (T_wire_Reader.pvs y2.2.1), .blk 2 [i64 y2.2.2]], e := [1, 3] } })]) (by kernel_rfl) (allc (C_wire_Reader_step o0 0 y2 hy2) all0) (norm ?_)
  refine At.seq ?_
  refine At.region_end [2] [0, 1] _ (st' := ⟨[(2, i64 y2.2.2)], [.blk 93 (T_wire_Reader.pvs y2.2.1), .ghost (gv 0) (.ptr 0 0)]⟩) (tips := []) (by kernel_rfl) all0 (norm ?_)
  obtain rfl := some_eq h
  exact At.ret fun a w hs => ret_ok hR (ρ := [0]) (gs := [.ghost (gv 0) (.ptr 0 0)]) (by kernel_rfl) all0 (by kernel_rfl) rfl rfl a w hs _ (.inl rfl)
set_option maxRecDepth 100000 in
theorem C_wire_Reader_Upto_1 (p0 : ByteArray) (o0_0 : Int) (o1_0 : Int) (r : Int × Int × Int) (h : F_wire_Reader_Upto_1 p0 o0_0 o1_0 = some r) : FnOK Try.prog 84 [sv p0, .ptr 0 0, .ptr 1 0] [.blk 30 [u64 o0_0], .blk 3 [i64 o1_0]] (.tup [i64 r.1, i64 r.2.1]) [.blk 30 [u64 r.2.2], .blk 3 [i64 o1_0]] [1, 3] := by
  rw [F_wire_Reader_Upto_1] at h
  refine FnOK.intro Try.func84 rfl (by kernel_rfl) (by kernel_rfl) fun E gv R hR => ?_
  refine At.seq ?_
  refine At.region_end [0, 1, 2] [0, 1, 2, 3] _ (st' := ⟨[(0, sv p0), (1, .ptr 0 0), (2, .ptr 1 0)], [.blk 30 [u64 o0_0], .blk 3 [i64 o1_0], .ghost (gv 0) (.ptr 0 0), .ghost (gv 1) (.ptr 1 0)]⟩) (tips := []) (by kernel_rfl) all0 (norm ?_)
  refine At.seq ?_
  obtain ⟨y2, hy2, h⟩ := bind_some h
  refine At.region_end [1, 2, 4, 5] [0, 1, 2, 3] _ (st' := ⟨[(1, .ptr 0 0), (2, .ptr 1 0), (4, i64 y2.2.1), (5, i64 y2.2.2)], [.blk 30 [u64 y2.1], .blk 3 [i64 o1_0], .ghost (gv 0) (.ptr 0 0), .ghost (gv 1) (.ptr 1 0)]⟩) (tips := [(1, { pc := some { ρ := [], n0 := 0, res := .tup [u64 y2.1, i64 y2.2.1, i64 y2.2.2], σ' := [], e := [] } })]) (by kernel_rfl) (allc (C_vint_Get p0 0 y2 hy2) all0) (norm ?_)
  refine At.seq ?_
  refine At.seqJ (S := Bool) (fun s => ⟨[(4, i64 y2.2.1), (5, i64 y2.2.2), (23, bo s)], [.blk 30 [u64 y2.1], .blk 3 [i64 o1_0], .ghost (gv 0) (.ptr 0 0), .ghost (gv 1) (.ptr 1 0)]⟩) (fun s => F_wire_Reader_Upto_1_J1 y2 s = some r) ?_ ?_
  · rcases tf (y2.2.2 == 0) with b13 | b13
    · replace h := cond_t b13 h
      rcases tf (decide (o1_0 < 0)) with b14 | b14
      · replace h := cond_t b14 h
        refine At.region_end [4, 5, 23] [0, 1, 2, 3] _ (st' := ⟨[(4, i64 y2.2.1), (5, i64 y2.2.2), (23, bo true)], [.blk 30 [u64 y2.1], .blk 3 [i64 o1_0], .ghost (gv 0) (.ptr 0 0), .ghost (gv 1) (.ptr 1 0)]⟩) (tips := [(2, { orc := .val (.bool true) }), (5, { orc := .val (.bool true) })]) (by kernel_rfl) (allc (congrArg D.bool b13) (allc (congrArg D.bool b14) all0)) (fun a w hs => ⟨true, h, hs⟩)
      · replace h := cond_f b14 h
        refine At.region_end [4, 5, 23] [0, 1, 2, 3] _ (st' := ⟨[(4, i64 y2.2.1), (5, i64 y2.2.2), (23, bo (decide ((wu64 o1_0) < y2.1)))], [.blk 30 [u64 y2.1], .blk 3 [i64 o1_0], .ghost (gv 0) (.ptr 0 0), .ghost (gv 1) (.ptr 1 0)]⟩) (tips := [(2, { orc := .val (.bool true) }), (5, { orc := .val (.bool false) })]) (by kernel_rfl) (allc (congrArg D.bool b13) (allc (congrArg D.bool b14) all0)) (fun a w hs => ⟨(decide ((wu64 o1_0) < y2.1)), h, hs⟩)
    · replace h := cond_f b13 h
      refine At.region_end [4, 5, 23] [0, 1, 2, 3] _ (st' := ⟨[(4, i64 y2.2.1), (5, i64 y2.2.2), (23, bo false)], [.blk 30 [u64 y2.1], .blk 3 [i64 o1_0], .ghost (gv 0) (.ptr 0 0), .ghost (gv 1) (.ptr 1 0)]⟩) (tips := [(2, { orc := .val (.bool false) })]) (by kernel_rfl) (allc (congrArg D.bool b13) all0) (fun a w hs => ⟨false, h, hs⟩)
  · intro x11 h
    replace h : F_wire_Reader_Upto_1_J1 y2 x11 = some r := h
    rw [F_wire_Reader_Upto_1_J1] at h
    refine At.cond x11 (by kernel_rfl) (fun b12 => ?_) (fun b12 => ?_)
    · replace h := cond_t b12 h
      refine At.seq ?_
      refine At.region_end [4, 5] [0, 1, 2, 3] _ (st' := ⟨[(4, i64 0), (5, i64 6)], [.blk 30 [u64 y2.1], .blk 3 [i64 o1_0], .ghost (gv 0) (.ptr 0 0), .ghost (gv 1) (.ptr 1 0)]⟩) (tips := []) (by kernel_rfl) all0 (norm ?_)
      obtain rfl := some_eq h
      exact At.ret fun a w hs => ret_ok hR (ρ := [0, 1]) (gs := [.ghost (gv 0) (.ptr 0 0), .ghost (gv 1) (.ptr 1 0)]) (by kernel_rfl) all0 (by kernel_rfl) rfl rfl a w hs _ (.inl rfl)
    · replace h := cond_f b12 h
      refine At.nar [4, 5] [0, 1, 2, 3] (st' := ⟨[(4, i64 y2.2.1), (5, i64 y2.2.2)], [.blk 30 [u64 y2.1], .blk 3 [i64 o1_0], .ghost (gv 0) (.ptr 0 0), .ghost (gv 1) (.ptr 1 0)]⟩) (by kernel_rfl) ?_
      refine At.skip (norm ?_)
      refine At.seq ?_
      refine At.region_end [4, 5] [0, 1, 2, 3] _ (st' := ⟨[(4, i64 y2.2.1), (5, i64 y2.2.2)], [.blk 30 [u64 y2.1], .blk 3 [i64 o1_0], .ghost (gv 0) (.ptr 0 0), .ghost (gv 1) (.ptr 1 0)]⟩) (tips := []) (by kernel_rfl) all0 (norm ?_)
      obtain rfl := some_eq h
      exact At.ret fun a w hs => ret_ok hR (ρ := [0, 1]) (gs := [.ghost (gv 0) (.ptr 0 0), .ghost (gv 1) (.ptr 1 0)]) (by kernel_rfl) all0 (by kernel_rfl) rfl rfl a w hs _ (.inl rfl)
set_option maxRecDepth 100000 in
theorem C_wire_Reader_step_v2 (o0 : T_wire_Reader) (o1_0 : Int) (o2_0 : Int) (r : Bool × T_wire_Reader × Int) (h : F_wire_Reader_step_v2 o0 o1_0 o2_0 = some r) : FnOK Try.prog 64 [.ptr 0 0, .fn (.func 84) [] [.ptr 1 0, .ptr 2 0]] [.blk 93 (T_wire_Reader.pvs o0), .blk 30 [u64 o1_0], .blk 3 [i64 o2_0]] (bo r.1) [.blk 93 (T_wire_Reader.pvs r.2.1), .blk 30 [u64 r.2.2], .blk 3 [i64 o2_0]] [1, 3, 5] := by
  rw [F_wire_Reader_step_v2] at h
  refine FnOK.intro Try.func64 rfl (by kernel_rfl) (by kernel_rfl) fun E gv R hR => ?_
  refine At.seq ?_
  refine At.region_end [0, 1] [0, 1, 2, 3, 4, 5] _ (st' := ⟨[(0, .ptr 0 0), (1, .fn (.func 84) [] [.ptr 1 0, .ptr 2 0])], [.blk 93 (T_wire_Reader.pvs o0), .blk 30 [u64 o1_0], .blk 3 [i64 o2_0], .ghost (gv 0) (.ptr 0 0), .ghost (gv 1) (.ptr 1 0), .ghost (gv 2) (.ptr 2 0)]⟩) (tips := []) (by kernel_rfl) all0 (norm ?_)
  refine At.seq ?_
  refine At.seq ?_
  refine At.region_end [0, 1, 15] [0, 1, 2, 3, 4, 5] _ (st' := ⟨[(0, .ptr 0 0), (1, .fn (.func 84) [] [.ptr 1 0, .ptr 2 0]), (15, bo (o0.e != 0))], [.blk 93 (T_wire_Reader.pvs o0), .blk 30 [u64 o1_0], .blk 3 [i64 o2_0], .ghost (gv 0) (.ptr 0 0), .ghost (gv 1) (.ptr 1 0), .ghost (gv 2) (.ptr 2 0)]⟩) (tips := []) (by kernel_rfl) all0 (norm ?_)
  refine At.cond (o0.e != 0) (by kernel_rfl) (fun b2 => ?_) (fun b2 => ?_)
  · replace h := cond_t b2 h
    refine At.seq ?_
    refine At.region_end [4] [0, 1, 2, 3, 4, 5] _ (st' := ⟨[(4, bo false)], [.blk 93 (T_wire_Reader.pvs o0), .blk 30 [u64 o1_0], .blk 3 [i64 o2_0], .ghost (gv 0) (.ptr 0 0), .ghost (gv 1) (.ptr 1 0), .ghost (gv 2) (.ptr 2 0)]⟩) (tips := []) (by kernel_rfl) all0 (norm ?_)
    obtain rfl := some_eq h
    exact At.ret fun a w hs => ret_ok hR (ρ := [0, 1, 2]) (gs := [.ghost (gv 0) (.ptr 0 0), .ghost (gv 1) (.ptr 1 0), .ghost (gv 2) (.ptr 2 0)]) (by kernel_rfl) all0 (by kernel_rfl) rfl rfl a w hs _ (.inl rfl)
  · replace h := cond_f b2 h
    refine At.nar [0, 1] [0, 1, 2, 3, 4, 5] (st' := ⟨[(0, .ptr 0 0), (1, .fn (.func 84) [] [.ptr 1 0, .ptr 2 0])], [.blk 93 (T_wire_Reader.pvs o0), .blk 30 [u64 o1_0], .blk 3 [i64 o2_0], .ghost (gv 0) (.ptr 0 0), .ghost (gv 1) (.ptr 1 0), .ghost (gv 2) (.ptr 2 0)]⟩) (by kernel_rfl) ?_
    refine At.skip (norm ?_)
    refine At.seq ?_
    obtain ⟨y4, hy4, h⟩ := bind_some h
    refine At.region_end [0, 5, 6] [0, 1, 2, 3, 4, 5] _ (st' := ⟨[(0, .ptr 0 0), (5, i64 y4.1), (6, i64 y4.2.1)], [.blk 93 (T_wire_Reader.pvs o0), .blk 30 [u64 y4.2.2], .blk 3 [i64 o2_0], .ghost (gv 0) (.ptr 0 0), .ghost (gv 1) (.ptr 1 0), .ghost (gv 2) (.ptr 2 0)]⟩) (tips := [(5, { pc := some { ρ := [1, 2], n0 := 2, res := .tup [i64 y4.1, i64 y4.2.1], σ' := [.blk 30 [u64 y4.2.2], .blk 3 [i64 o2_0]], e := [1, 3] } })]) (by kernel_rfl) (allc (C_wire_Reader_Upto_1 o0.s o1_0 o2_0 y4 hy4) all0) (norm ?_)
    refine At.seq ?_
    refine At.seq ?_
    refine At.region_end [0, 5, 6, 26] [0, 1, 2, 3, 4, 5] _ (st' := ⟨[(0, .ptr 0 0), (5, i64 y4.1), (6, i64 y4.2.1), (26, bo (y4.2.1 != 0))], [.blk 93 (T_wire_Reader.pvs o0), .blk 30 [u64 y4.2.2], .blk 3 [i64 o2_0], .ghost (gv 0) (.ptr 0 0), .ghost (gv 1) (.ptr 1 0), .ghost (gv 2) (.ptr 2 0)]⟩) (tips := []) (by kernel_rfl) all0 (norm ?_)
    refine At.cond (y4.2.1 != 0) (by kernel_rfl) (fun b6 => ?_) (fun b6 => ?_)
    · replace h := cond_t b6 h
      refine At.seq ?_
      refine At.region_end [] [0, 1, 2, 3, 4, 5] _ (st' := ⟨[], [.blk 93 [sv o0.s, i64 y4.2.1], .blk 30 [u64 y4.2.2], .blk 3 [i64 o2_0], .ghost (gv 0) (.ptr 0 0), .ghost (gv 1) (.ptr 1 0), .ghost (gv 2) (.ptr 2 0)]⟩) (tips := []) (by kernel_rfl) all0 (norm ?_)
      refine At.seq ?_
      refine At.region_end [4] [0, 1, 2, 3, 4, 5] _ (st' := ⟨[(4, bo false)], [.blk 93 [sv o0.s, i64 y4.2.1], .blk 30 [u64 y4.2.2], .blk 3 [i64 o2_0], .ghost (gv 0) (.ptr 0 0), .ghost (gv 1) (.ptr 1 0), .ghost (gv 2) (.ptr 2 0)]⟩) (tips := []) (by kernel_rfl) all0 (norm ?_)
      obtain rfl := some_eq h
      exact At.ret fun a w hs => ret_ok hR (ρ := [0, 1, 2]) (gs := [.ghost (gv 0) (.ptr 0 0), .ghost (gv 1) (.ptr 1 0), .ghost (gv 2) (.ptr 2 0)]) (by kernel_rfl) all0 (by kernel_rfl) rfl rfl a w hs _ (.inl rfl)
    · replace h := cond_f b6 h
      refine At.nar [0, 5] [0, 1, 2, 3, 4, 5] (st' := ⟨[(0, .ptr 0 0), (5, i64 y4.1)], [.blk 93 (T_wire_Reader.pvs o0), .blk 30 [u64 y4.2.2], .blk 3 [i64 o2_0], .ghost (gv 0) (.ptr 0 0), .ghost (gv 1) (.ptr 1 0), .ghost (gv 2) (.ptr 2 0)]⟩) (by kernel_rfl) ?_
      refine At.skip (norm ?_)
      refine At.seq ?_
      obtain ⟨g8, h⟩ := grd_some h
      refine At.region_end [] [0, 1, 2, 3, 4, 5] _ (st' := ⟨[], [.blk 93 [sv (o0.s.extract (Int.toNat y4.1) (Int.toNat (o0.s.size : Int))), i64 o0.e], .blk 30 [u64 y4.2.2], .blk 3 [i64 o2_0], .ghost (gv 0) (.ptr 0 0), .ghost (gv 1) (.ptr 1 0), .ghost (gv 2) (.ptr 2 0)]⟩) (tips := []) (by kernel_rfl) (allc g8 all0) (norm ?_)
      refine At.seq ?_
      refine At.region_end [4] [0, 1, 2, 3, 4, 5] _ (st' := ⟨[(4, bo true)], [.blk 93 [sv (o0.s.extract (Int.toNat y4.1) (Int.toNat (o0.s.size : Int))), i64 o0.e], .blk 30 [u64 y4.2.2], .blk 3 [i64 o2_0], .ghost (gv 0) (.ptr 0 0), .ghost (gv 1) (.ptr 1 0), .ghost (gv 2) (.ptr 2 0)]⟩) (tips := []) (by kernel_rfl) all0 (norm ?_)
      obtain rfl := some_eq h
      exact At.ret fun a w hs => ret_ok hR (ρ := [0, 1, 2]) (gs := [.ghost (gv 0) (.ptr 0 0), .ghost (gv 1) (.ptr 1 0), .ghost (gv 2) (.ptr 2 0)]) (by kernel_rfl) all0 (by kernel_rfl) rfl rfl a w hs _ (.inl rfl)
set_option maxRecDepth 100000 in
theorem C_wire_Reader_Upto (p1 : Int) (o0 : T_wire_Reader) (r : Int × T_wire_Reader) (h : F_wire_Reader_Upto p1 o0 = some r) : FnOK Try.prog 61 [.ptr 0 0, i64 p1] [.blk 93 (T_wire_Reader.pvs o0)] (i64 r.1) [.blk 93 (T_wire_Reader.pvs r.2)] [1] := by
  rw [F_wire_Reader_Upto] at h
  refine FnOK.intro Try.func61 rfl (by kernel_rfl) (by kernel_rfl) fun E gv R hR => ?_
  refine At.seq ?_
  refine At.region_end [0, 3] [0, 1, 2] _ (st' := ⟨[(0, .ptr 0 0), (3, .ptr 2 0)], [.blk 93 (T_wire_Reader.pvs o0), .ghost (gv 0) (.ptr 0 0), .blk 3 [i64 p1]]⟩) (tips := []) (by kernel_rfl) all0 (norm ?_)
  refine At.seq ?_
  refine At.region_end [0, 3, 5] [0, 1, 2, 3] _ (st' := ⟨[(0, .ptr 0 0), (3, .ptr 2 0), (5, .ptr 3 0)], [.blk 93 (T_wire_Reader.pvs o0), .ghost (gv 0) (.ptr 0 0), .blk 3 [i64 p1], .blk 30 [u64 0]]⟩) (tips := []) (by kernel_rfl) all0 (norm ?_)
  refine At.seq ?_
  obtain ⟨y2, hy2, h⟩ := bind_some h
  refine At.region_end [5, 6] [0, 1, 3] _ (st' := ⟨[(5, .ptr 2 0), (6, bo y2.1)], [.blk 93 (T_wire_Reader.pvs y2.2.1), .ghost (gv 0) (.ptr 0 0), .blk 30 [u64 y2.2.2]]⟩) (tips := [(2, { pc := some { ρ := [0, 3, 2], n0 := 3, res := bo y2.1, σ' := [.blk 93 (T_wire_Reader.pvs y2.2.1), .blk 30 [u64 y2.2.2], .blk 3 [i64 p1]], e := [1, 3, 5] } })]) (by kernel_rfl) (allc (C_wire_Reader_step_v2 o0 0 p1 y2 hy2) all0) (norm ?_)
  refine At.seq ?_
  refine At.seq ?_
  refine At.region_end [5, 11] [0, 1, 2] _ (st' := ⟨[(5, .ptr 2 0), (11, bo (!y2.1))], [.blk 93 (T_wire_Reader.pvs y2.2.1), .ghost (gv 0) (.ptr 0 0), .blk 30 [u64 y2.2.2]]⟩) (tips := []) (by kernel_rfl) all0 (norm ?_)
  refine At.cond (!y2.1) (by kernel_rfl) (fun b4 => ?_) (fun b4 => ?_)
  · replace h := cond_t b4 h
    refine At.seq ?_
    refine At.region_end [4] [0, 1] _ (st' := ⟨[(4, i64 0)], [.blk 93 (T_wire_Reader.pvs y2.2.1), .ghost (gv 0) (.ptr 0 0)]⟩) (tips := []) (by kernel_rfl) all0 (norm ?_)
    obtain rfl := some_eq h
    exact At.ret fun a w hs => ret_ok hR (ρ := [0]) (gs := [.ghost (gv 0) (.ptr 0 0)]) (by kernel_rfl) all0 (by kernel_rfl) rfl rfl a w hs _ (.inl rfl)
  · replace h := cond_f b4 h
    refine At.nar [5] [0, 1, 2] (st' := ⟨[(5, .ptr 2 0)], [.blk 93 (T_wire_Reader.pvs y2.2.1), .ghost (gv 0) (.ptr 0 0), .blk 30 [u64 y2.2.2]]⟩) (by kernel_rfl) ?_
    refine At.skip (norm ?_)
    refine At.seq ?_
    refine At.region_end [4] [0, 1] _ (st' := ⟨[(4, i64 (w64 y2.2.2))], [.blk 93 (T_wire_Reader.pvs y2.2.1), .ghost (gv 0) (.ptr 0 0)]⟩) (tips := []) (by kernel_rfl) all0 (norm ?_)
    obtain rfl := some_eq h
    exact At.ret fun a w hs => ret_ok hR (ρ := [0]) (gs := [.ghost (gv 0) (.ptr 0 0)]) (by kernel_rfl) all0 (by kernel_rfl) rfl rfl a w hs _ (.inl rfl)
set_option maxRecDepth 100000 in
theorem C_wire_Reader_Raw_1 (p0 : ByteArray) (o0_0 : Int) (o1_0 : ByteArray) (r : Int × Int × ByteArray) (h : F_wire_Reader_Raw_1 p0 o0_0 o1_0 = some r) : FnOK Try.prog 71 [sv p0, .ptr 0 0, .ptr 1 0] [.blk 3 [i64 o0_0], .blk 9 [sv o1_0]] (.tup [i64 r.1, i64 r.2.1]) [.blk 3 [i64 o0_0], .blk 9 [sv r.2.2]] [1, 3] := by
  rw [F_wire_Reader_Raw_1] at h
  refine FnOK.intro Try.func71 rfl (by kernel_rfl) (by kernel_rfl) fun E gv R hR => ?_
  refine At.seq ?_
  refine At.region_end [0, 1, 2] [0, 1, 2, 3] _ (st' := ⟨[(0, sv p0), (1, .ptr 0 0), (2, .ptr 1 0)], [.blk 3 [i64 o0_0], .blk 9 [sv o1_0], .ghost (gv 0) (.ptr 0 0), .ghost (gv 1) (.ptr 1 0)]⟩) (tips := []) (by kernel_rfl) all0 (norm ?_)
  refine At.seq ?_
  refine At.seq ?_
  refine At.region_end [0, 1, 2, 7] [0, 1, 2, 3] _ (st' := ⟨[(0, sv p0), (1, .ptr 0 0), (2, .ptr 1 0), (7, bo (decide (o0_0 < 0)))], [.blk 3 [i64 o0_0], .blk 9 [sv o1_0], .ghost (gv 0) (.ptr 0 0), .ghost (gv 1) (.ptr 1 0)]⟩) (tips := []) (by kernel_rfl) all0 (norm ?_)
  refine At.cond (decide (o0_0 < 0)) (by kernel_rfl) (fun b2 => ?_) (fun b2 => ?_)
  · replace h := cond_t b2 h
    refine At.seq ?_
    refine At.region_end [4, 5] [0, 1, 2, 3] _ (st' := ⟨[(4, i64 0), (5, i64 1)], [.blk 3 [i64 o0_0], .blk 9 [sv o1_0], .ghost (gv 0) (.ptr 0 0), .ghost (gv 1) (.ptr 1 0)]⟩) (tips := []) (by kernel_rfl) all0 (norm ?_)
    obtain rfl := some_eq h
    exact At.ret fun a w hs => ret_ok hR (ρ := [0, 1]) (gs := [.ghost (gv 0) (.ptr 0 0), .ghost (gv 1) (.ptr 1 0)]) (by kernel_rfl) all0 (by kernel_rfl) rfl rfl a w hs _ (.inl rfl)
  · replace h := cond_f b2 h
    refine At.nar [0, 1, 2] [0, 1, 2, 3] (st' := ⟨[(0, sv p0), (1, .ptr 0 0), (2, .ptr 1 0)], [.blk 3 [i64 o0_0], .blk 9 [sv o1_0], .ghost (gv 0) (.ptr 0 0), .ghost (gv 1) (.ptr 1 0)]⟩) (by kernel_rfl) ?_
    refine At.skip (norm ?_)
    refine At.seq ?_
    refine At.seq ?_
    refine At.region_end [0, 1, 2, 11] [0, 1, 2, 3] _ (st' := ⟨[(0, sv p0), (1, .ptr 0 0), (2, .ptr 1 0), (11, bo (decide ((p0.size : Int) < o0_0)))], [.blk 3 [i64 o0_0], .blk 9 [sv o1_0], .ghost (gv 0) (.ptr 0 0), .ghost (gv 1) (.ptr 1 0)]⟩) (tips := []) (by kernel_rfl) all0 (norm ?_)
    refine At.cond (decide ((p0.size : Int) < o0_0)) (by kernel_rfl) (fun b4 => ?_) (fun b4 => ?_)
    · replace h := cond_t b4 h
      refine At.seq ?_
      refine At.region_end [4, 5] [0, 1, 2, 3] _ (st' := ⟨[(4, i64 0), (5, i64 2)], [.blk 3 [i64 o0_0], .blk 9 [sv o1_0], .ghost (gv 0) (.ptr 0 0), .ghost (gv 1) (.ptr 1 0)]⟩) (tips := []) (by kernel_rfl) all0 (norm ?_)
      obtain rfl := some_eq h
      exact At.ret fun a w hs => ret_ok hR (ρ := [0, 1]) (gs := [.ghost (gv 0) (.ptr 0 0), .ghost (gv 1) (.ptr 1 0)]) (by kernel_rfl) all0 (by kernel_rfl) rfl rfl a w hs _ (.inl rfl)
    · replace h := cond_f b4 h
      refine At.nar [0, 1, 2] [0, 1, 2, 3] (st' := ⟨[(0, sv p0), (1, .ptr 0 0), (2, .ptr 1 0)], [.blk 3 [i64 o0_0], .blk 9 [sv o1_0], .ghost (gv 0) (.ptr 0 0), .ghost (gv 1) (.ptr 1 0)]⟩) (by kernel_rfl) ?_
      refine At.skip (norm ?_)
      refine At.seq ?_
      obtain ⟨g6, h⟩ := grd_some h
      refine At.region_end [1] [0, 1, 2, 3] _ (st' := ⟨[(1, .ptr 0 0)], [.blk 3 [i64 o0_0], .blk 9 [sv (p0.extract (Int.toNat 0) (Int.toNat o0_0))], .ghost (gv 0) (.ptr 0 0), .ghost (gv 1) (.ptr 1 0)]⟩) (tips := []) (by kernel_rfl) (allc g6 all0) (norm ?_)
      refine At.seq ?_
      refine At.region_end [4, 5] [0, 1, 2, 3] _ (st' := ⟨[(4, i64 o0_0), (5, i64 0)], [.blk 3 [i64 o0_0], .blk 9 [sv (p0.extract (Int.toNat 0) (Int.toNat o0_0))], .ghost (gv 0) (.ptr 0 0), .ghost (gv 1) (.ptr 1 0)]⟩) (tips := []) (by kernel_rfl) all0 (norm ?_)
      obtain rfl := some_eq h
      exact At.ret fun a w hs => ret_ok hR (ρ := [0, 1]) (gs := [.ghost (gv 0) (.ptr 0 0), .ghost (gv 1) (.ptr 1 0)]) (by kernel_rfl) all0 (by kernel_rfl) rfl rfl a w hs _ (.inl rfl)
set_option maxRecDepth 100000 in
theorem C_wire_Reader_step_v3 (o0 : T_wire_Reader) (o1_0 : Int) (o2_0 : ByteArray) (r : Bool × T_wire_Reader × ByteArray) (h : F_wire_Reader_step_v3 o0 o1_0 o2_0 = some r) : FnOK Try.prog 64 [.ptr 0 0, .fn (.func 71) [] [.ptr 1 0, .ptr 2 0]] [.blk 93 (T_wire_Reader.pvs o0), .blk 3 [i64 o1_0], .blk 9 [sv o2_0]] (bo r.1) [.blk 93 (T_wire_Reader.pvs r.2.1), .blk 3 [i64 o1_0], .blk 9 [sv r.2.2]] [1, 3, 5] := by
  rw [F_wire_Reader_step_v3] at h
  refine FnOK.intro Try.func64 rfl (by kernel_rfl) (by kernel_rfl) fun E gv R hR => ?_
  refine At.seq ?_
  refine At.region_end [0, 1] [0, 1, 2, 3, 4, 5] _ (st' := ⟨[(0, .ptr 0 0), (1, .fn (.func 71) [] [.ptr 1 0, .ptr 2 0])], [.blk 93 (T_wire_Reader.pvs o0), .blk 3 [i64 o1_0], .blk 9 [sv o2_0], .ghost (gv 0) (.ptr 0 0), .ghost (gv 1) (.ptr 1 0), .ghost (gv 2) (.ptr 2 0)]⟩) (tips := []) (by kernel_rfl) all0 (norm ?_)
  refine At.seq ?_
  refine At.seq ?_
  refine At.region_end [0, 1, 15] [0, 1, 2, 3, 4, 5] _ (st' := ⟨[(0, .ptr 0 0), (1, .fn (.func 71) [] [.ptr 1 0, .ptr 2 0]), (15, bo (o0.e != 0))], [.blk 93 (T_wire_Reader.pvs o0), .blk 3 [i64 o1_0], .blk 9 [sv o2_0], .ghost (gv 0) (.ptr 0 0), .ghost (gv 1) (.ptr 1 0), .ghost (gv 2) (.ptr 2 0)]⟩) (tips := []) (by kernel_rfl) all0 (norm ?_)
  refine At.cond (o0.e != 0) (by kernel_rfl) (fun b2 => ?_) (fun b2 => ?_)
  · replace h := cond_t b2 h
    refine At.seq ?_
    refine At.region_end [4] [0, 1, 2, 3, 4, 5] _ (st' := ⟨[(4, bo false)], [.blk 93 (T_wire_Reader.pvs o0), .blk 3 [i64 o1_0], .blk 9 [sv o2_0], .ghost (gv 0) (.ptr 0 0), .ghost (gv 1) (.ptr 1 0), .ghost (gv 2) (.ptr 2 0)]⟩) (tips := []) (by kernel_rfl) all0 (norm ?_)
    obtain rfl := some_eq h
    exact At.ret fun a w hs => ret_ok hR (ρ := [0, 1, 2]) (gs := [.ghost (gv 0) (.ptr 0 0), .ghost (gv 1) (.ptr 1 0), .ghost (gv 2) (.ptr 2 0)]) (by kernel_rfl) all0 (by kernel_rfl) rfl rfl a w hs _ (.inl rfl)
  · replace h := cond_f b2 h
    refine At.nar [0, 1] [0, 1, 2, 3, 4, 5] (st' := ⟨[(0, .ptr 0 0), (1, .fn (.func 71) [] [.ptr 1 0, .ptr 2 0])], [.blk 93 (T_wire_Reader.pvs o0), .blk 3 [i64 o1_0], .blk 9 [sv o2_0], .ghost (gv 0) (.ptr 0 0), .ghost (gv 1) (.ptr 1 0), .ghost (gv 2) (.ptr 2 0)]⟩) (by kernel_rfl) ?_
    refine At.skip (norm ?_)
    refine At.seq ?_
    obtain ⟨y4, hy4, h⟩ := bind_some h
    refine At.region_end [0, 5, 6] [0, 1, 2, 3, 4, 5] _ (st' := ⟨[(0, .ptr 0 0), (5, i64 y4.1), (6, i64 y4.2.1)], [.blk 93 (T_wire_Reader.pvs o0), .blk 3 [i64 o1_0], .blk 9 [sv y4.2.2], .ghost (gv 0) (.ptr 0 0), .ghost (gv 1) (.ptr 1 0), .ghost (gv 2) (.ptr 2 0)]⟩) (tips := [(5, { pc := some { ρ := [1, 2], n0 := 2, res := .tup [i64 y4.1, i64 y4.2.1], σ' := [.blk 3 [i64 o1_0], .blk 9 [sv y4.2.2]], e := [1, 3] } })]) (by kernel_rfl) (allc (C_wire_Reader_Raw_1 o0.s o1_0 o2_0 y4 hy4) all0) (norm ?_)
    refine At.seq ?_
    refine At.seq ?_
    refine At.region_end [0, 5, 6, 26] [0, 1, 2, 3, 4, 5] _ (st' := ⟨[(0, .ptr 0 0), (5, i64 y4.1), (6, i64 y4.2.1), (26, bo (y4.2.1 != 0))], [.blk 93 (T_wire_Reader.pvs o0), .blk 3 [i64 o1_0], .blk 9 [sv y4.2.2], .ghost (gv 0) (.ptr 0 0), .ghost (gv 1) (.ptr 1 0), .ghost (gv 2) (.ptr 2 0)]⟩) (tips := []) (by kernel_rfl) all0 (norm ?_)
    refine At.cond (y4.2.1 != 0) (by kernel_rfl) (fun b6 => ?_) (fun b6 => ?_)
    · replace h := cond_t b6 h
      refine At.seq ?_
      refine At.region_end [] [0, 1, 2, 3, 4, 5] _ (st' := ⟨[], [.blk 93 [sv o0.s, i64 y4.2.1], .blk 3 [i64 o1_0], .blk 9 [sv y4.2.2], .ghost (gv 0) (.ptr 0 0), .ghost (gv 1) (.ptr 1 0), .ghost (gv 2) (.ptr 2 0)]⟩) (tips := []) (by kernel_rfl) all0 (norm ?_)
      refine At.seq ?_
      refine At.region_end [4] [0, 1, 2, 3, 4, 5] _ (st' := ⟨[(4, bo false)], [.blk 93 [sv o0.s, i64 y4.2.1], .blk 3 [i64 o1_0], .blk 9 [sv y4.2.2], .ghost (gv 0) (.ptr 0 0), .ghost (gv 1) (.ptr 1 0), .ghost (gv 2) (.ptr 2 0)]⟩) (tips := []) (by kernel_rfl) all0 (norm ?_)
      obtain rfl := some_eq h
      exact At.ret fun a w hs => ret_ok hR (ρ := [0, 1, 2]) (gs := [.ghost (gv 0) (.ptr 0 0), .ghost (gv 1) (.ptr 1 0), .ghost (gv 2) (.ptr 2 0)]) (by kernel_rfl) all0 (by kernel_rfl) rfl rfl a w hs _ (.inl rfl)
    · replace h := cond_f b6 h
      refine At.nar [0, 5] [0, 1, 2, 3, 4, 5] (st' := ⟨[(0, .ptr 0 0), (5, i64 y4.1)], [.blk 93 (T_wire_Reader.pvs o0), .blk 3 [i64 o1_0], .blk 9 [sv y4.2.2], .ghost (gv 0) (.ptr 0 0), .ghost (gv 1) (.ptr 1 0), .ghost (gv 2) (.ptr 2 0)]⟩) (by kernel_rfl) ?_
      refine At.skip (norm ?_)
      refine At.seq ?_
      obtain ⟨g8, h⟩ := grd_some h
      refine At.region_end [] [0, 1, 2, 3, 4, 5] _ (st' := ⟨[], [.blk 93 [sv (o0.s.extract (Int.toNat y4.1) (Int.toNat (o0.s.size : Int))), i64 o0.e], .blk 3 [i64 o1_0], .blk 9 [sv y4.2.2], .ghost (gv 0) (.ptr 0 0), .ghost (gv 1) (.ptr 1 0), .ghost (gv 2) (.ptr 2 0)]⟩) (tips := []) (by kernel_rfl) (allc g8 all0) (norm ?_)
      refine At.seq ?_
      refine At.region_end [4] [0, 1, 2, 3, 4, 5] _ (st' := ⟨[(4, bo true)], [.blk 93 [sv (o0.s.extract (Int.toNat y4.1) (Int.toNat (o0.s.size : Int))), i64 o0.e], .blk 3 [i64 o1_0], .blk 9 [sv y4.2.2], .ghost (gv 0) (.ptr 0 0), .ghost (gv 1) (.ptr 1 0), .ghost (gv 2) (.ptr 2 0)]⟩) (tips := []) (by kernel_rfl) all0 (norm ?_)
      obtain rfl := some_eq h
      exact At.ret fun a w hs => ret_ok hR (ρ := [0, 1, 2]) (gs := [.ghost (gv 0) (.ptr 0 0), .ghost (gv 1) (.ptr 1 0), .ghost (gv 2) (.ptr 2 0)]) (by kernel_rfl) all0 (by kernel_rfl) rfl rfl a w hs _ (.inl rfl)
set_option maxRecDepth 100000 in
theorem C_wire_Reader_Raw (p1 : Int) (o0 : T_wire_Reader) (r : ByteArray × T_wire_Reader) (h : F_wire_Reader_Raw p1 o0 = some r) : FnOK Try.prog 28 [.ptr 0 0, i64 p1] [.blk 93 (T_wire_Reader.pvs o0)] (sv r.1) [.blk 93 (T_wire_Reader.pvs r.2)] [1] := by
  rw [F_wire_Reader_Raw] at h
  refine FnOK.intro Try.func28 rfl (by kernel_rfl) (by kernel_rfl) fun E gv R hR => ?_
  refine At.seq ?_
  refine At.region_end [0, 3] [0, 1, 2] _ (st' := ⟨[(0, .ptr 0 0), (3, .ptr 2 0)], [.blk 93 (T_wire_Reader.pvs o0), .ghost (gv 0) (.ptr 0 0), .blk 3 [i64 p1]]⟩) (tips := []) (by kernel_rfl) all0 (norm ?_)
  refine At.seq ?_
  refine At.region_end [0, 3, 5] [0, 1, 2, 3] _ (st' := ⟨[(0, .ptr 0 0), (3, .ptr 2 0), (5, .ptr 3 0)], [.blk 93 (T_wire_Reader.pvs o0), .ghost (gv 0) (.ptr 0 0), .blk 3 [i64 p1], .blk 9 [sv (⟨#[]⟩ : ByteArray)]]⟩) (tips := []) (by kernel_rfl) all0 (norm ?_)
  refine At.seq ?_
  obtain ⟨y2, hy2, h⟩ := bind_some h
  refine At.region_end [5] [0, 1, 3] _ (st' := ⟨[(5, .ptr 2 0)], [.blk 93 (T_wire_Reader.pvs y2.2.1), .ghost (gv 0) (.ptr 0 0), .blk 9 [sv y2.2.2]]⟩) (tips := [(2, { pc := some { ρ := [0, 2, 3], n0 := 3, res := bo y2.1, σ' := [.blk 93 (T_wire_Reader.pvs y2.2.1), .blk 3 [i64 p1], .blk 9 [sv y2.2.2]], e := [1, 3, 5] } })]) (by kernel_rfl) (allc (C_wire_Reader_step_v3 o0 p1 (⟨#[]⟩ : ByteArray) y2 hy2) all0) (norm ?_)
  refine At.seq ?_
  refine At.region_end [4] [0, 1] _ (st' := ⟨[(4, sv y2.2.2)], [.blk 93 (T_wire_Reader.pvs y2.2.1), .ghost (gv 0) (.ptr 0 0)]⟩) (tips := []) (by kernel_rfl) all0 (norm ?_)
  obtain rfl := some_eq h
  exact At.ret fun a w hs => ret_ok hR (ρ := [0]) (gs := [.ghost (gv 0) (.ptr 0 0)]) (by kernel_rfl) all0 (by kernel_rfl) rfl rfl a w hs _ (.inl rfl)
set_option maxRecDepth 100000 in
theorem C_wire_Reader_Text (p1 : Int) (o0 : T_wire_Reader) (r : ByteArray × T_wire_Reader) (h : F_wire_Reader_Text p1 o0 = some r) : FnOK Try.prog 27 [.ptr 0 0, i64 p1] [.blk 93 (T_wire_Reader.pvs o0)] (sv r.1) [.blk 93 (T_wire_Reader.pvs r.2)] [1] := by
  rw [F_wire_Reader_Text] at h
  refine FnOK.intro Try.func27 rfl (by kernel_rfl) (by kernel_rfl) fun E gv R hR => ?_
  refine At.seq ?_
  refine At.region_end [0, 1] [0, 1] _ (st' := ⟨[(0, .ptr 0 0), (1, i64 p1)], [.blk 93 (T_wire_Reader.pvs o0), .ghost (gv 0) (.ptr 0 0)]⟩) (tips := []) (by kernel_rfl) all0 (norm ?_)
  refine At.seq ?_
  obtain ⟨y3, hy3, h⟩ := bind_some h
  obtain ⟨y4, hy4, h⟩ := bind_some h
  refine At.region_end [4] [0, 1] _ (st' := ⟨[(4, sv y4.1)], [.blk 93 (T_wire_Reader.pvs y4.2), .ghost (gv 0) (.ptr 0 0)]⟩) (tips := [(3, { pc := some { ρ := [0], n0 := 1, res := i64 y3.1, σ' := [.blk 93 (T_wire_Reader.pvs y3.2)], e := [1] } }), (4, { pc := some { ρ := [0], n0 := 1, res := sv y4.1, σ' := [.blk 93 (T_wire_Reader.pvs y4.2)], e := [1] } })]) (by kernel_rfl) (allc (C_wire_Reader_Upto p1 o0 y3 hy3) (allc (C_wire_Reader_Raw y3.1 y3.2 y4 hy4) all0)) (norm ?_)
  obtain rfl := some_eq h
  exact At.ret fun a w hs => ret_ok hR (ρ := [0]) (gs := [.ghost (gv 0) (.ptr 0 0)]) (by kernel_rfl) all0 (by kernel_rfl) rfl rfl a w hs _ (.inl rfl)
set_option maxRecDepth 100000 in
theorem C_wire_Reader_Bool_1 (p0 : ByteArray) (o0_0 : Int) (r : Int × Int × Int) (h : F_wire_Reader_Bool_1 p0 o0_0 = some r) : FnOK Try.prog 70 [sv p0, .ptr 0 0] [.blk 5 [u8 o0_0]] (.tup [i64 r.1, i64 r.2.1]) [.blk 5 [u8 r.2.2]] [1] := by
  rw [F_wire_Reader_Bool_1] at h
  refine FnOK.intro Try.func70 rfl (by kernel_rfl) (by kernel_rfl) fun E gv R hR => ?_
  refine At.seq ?_
  refine At.region_end [0, 1] [0, 1] _ (st' := ⟨[(0, sv p0), (1, .ptr 0 0)], [.blk 5 [u8 o0_0], .ghost (gv 0) (.ptr 0 0)]⟩) (tips := []) (by kernel_rfl) all0 (norm ?_)
  refine At.seq ?_
  refine At.seq ?_
  refine At.region_end [0, 1, 6] [0, 1] _ (st' := ⟨[(0, sv p0), (1, .ptr 0 0), (6, bo (p0.toList == (⟨#[]⟩ : ByteArray).toList))], [.blk 5 [u8 o0_0], .ghost (gv 0) (.ptr 0 0)]⟩) (tips := []) (by kernel_rfl) all0 (norm ?_)
  refine At.cond (p0.toList == (⟨#[]⟩ : ByteArray).toList) (by kernel_rfl) (fun b2 => ?_) (fun b2 => ?_)
  · replace h := cond_t b2 h
    refine At.seq ?_
    refine At.region_end [3, 4] [0, 1] _ (st' := ⟨[(3, i64 0), (4, i64 2)], [.blk 5 [u8 o0_0], .ghost (gv 0) (.ptr 0 0)]⟩) (tips := []) (by kernel_rfl) all0 (norm ?_)
    obtain rfl := some_eq h
    exact At.ret fun a w hs => ret_ok hR (ρ := [0]) (gs := [.ghost (gv 0) (.ptr 0 0)]) (by kernel_rfl) all0 (by kernel_rfl) rfl rfl a w hs _ (.inl rfl)
  · replace h := cond_f b2 h
    refine At.nar [0, 1] [0, 1] (st' := ⟨[(0, sv p0), (1, .ptr 0 0)], [.blk 5 [u8 o0_0], .ghost (gv 0) (.ptr 0 0)]⟩) (by kernel_rfl) ?_
    refine At.skip (norm ?_)
    refine At.seq ?_
    refine At.seq ?_
    obtain ⟨y7, hy7, h⟩ := bind_some h
    refine At.region_end [1] [0, 1] _ (st' := ⟨[(1, .ptr 0 0)], [.blk 5 [u8 y7], .ghost (gv 0) (.ptr 0 0)]⟩) (tips := [(1, { orc := .val (.int .u8 y7) })]) (by kernel_rfl) (allc hy7 all0) (norm ?_)
    refine At.seq ?_
    refine At.region_end [10] [0, 1] _ (st' := ⟨[(10, bo (decide (1 < y7)))], [.blk 5 [u8 y7], .ghost (gv 0) (.ptr 0 0)]⟩) (tips := []) (by kernel_rfl) all0 (norm ?_)
    refine At.cond (decide (1 < y7)) (by kernel_rfl) (fun b8 => ?_) (fun b8 => ?_)
    · replace h := cond_t b8 h
      refine At.seq ?_
      refine At.region_end [3, 4] [0, 1] _ (st' := ⟨[(3, i64 0), (4, i64 3)], [.blk 5 [u8 y7], .ghost (gv 0) (.ptr 0 0)]⟩) (tips := []) (by kernel_rfl) all0 (norm ?_)
      obtain rfl := some_eq h
      exact At.ret fun a w hs => ret_ok hR (ρ := [0]) (gs := [.ghost (gv 0) (.ptr 0 0)]) (by kernel_rfl) all0 (by kernel_rfl) rfl rfl a w hs _ (.inl rfl)
    · replace h := cond_f b8 h
      refine At.nar [] [0, 1] (st' := ⟨[], [.blk 5 [u8 y7], .ghost (gv 0) (.ptr 0 0)]⟩) (by kernel_rfl) ?_
      refine At.skip (norm ?_)
      refine At.seq ?_
      refine At.region_end [3, 4] [0, 1] _ (st' := ⟨[(3, i64 1), (4, i64 0)], [.blk 5 [u8 y7], .ghost (gv 0) (.ptr 0 0)]⟩) (tips := []) (by kernel_rfl) all0 (norm ?_)
      obtain rfl := some_eq h
      exact At.ret fun a w hs => ret_ok hR (ρ := [0]) (gs := [.ghost (gv 0) (.ptr 0 0)]) (by kernel_rfl) all0 (by kernel_rfl) rfl rfl a w hs _ (.inl rfl)
set_option maxRecDepth 100000 in
theorem C_wire_Reader_step_v4 (o0 : T_wire_Reader) (o1_0 : Int) (r : Bool × T_wire_Reader × Int) (h : F_wire_Reader_step_v4 o0 o1_0 = some r) : FnOK Try.prog 64 [.ptr 0 0, .fn (.func 70) [] [.ptr 1 0]] [.blk 93 (T_wire_Reader.pvs o0), .blk 5 [u8 o1_0]] (bo r.1) [.blk 93 (T_wire_Reader.pvs r.2.1), .blk 5 [u8 r.2.2]] [1, 3] := by
  rw [F_wire_Reader_step_v4] at h
  refine FnOK.intro Try.func64 rfl (by kernel_rfl) (by kernel_rfl) fun E gv R hR => ?_
  refine At.seq ?_
  refine At.region_end [0, 1] [0, 1, 2, 3] _ (st' := ⟨[(0, .ptr 0 0), (1, .fn (.func 70) [] [.ptr 1 0])], [.blk 93 (T_wire_Reader.pvs o0), .blk 5 [u8 o1_0], .ghost (gv 0) (.ptr 0 0), .ghost (gv 1) (.ptr 1 0)]⟩) (tips := []) (by kernel_rfl) all0 (norm ?_)
  refine At.seq ?_
  refine At.seq ?_
  refine At.region_end [0, 1, 15] [0, 1, 2, 3] _ (st' := ⟨[(0, .ptr 0 0), (1, .fn (.func 70) [] [.ptr 1 0]), (15, bo (o0.e != 0))], [.blk 93 (T_wire_Reader.pvs o0), .blk 5 [u8 o1_0], .ghost (gv 0) (.ptr 0 0), .ghost (gv 1) (.ptr 1 0)]⟩) (tips := []) (by kernel_rfl) all0 (norm ?_)
  refine At.cond (o0.e != 0) (by kernel_rfl) (fun b2 => ?_) (fun b2 => ?_)
  · replace h := cond_t b2 h
    refine At.seq ?_
    refine At.region_end [4] [0, 1, 2, 3] _ (st' := ⟨[(4, bo false)], [.blk 93 (T_wire_Reader.pvs o0), .blk 5 [u8 o1_0], .ghost (gv 0) (.ptr 0 0), .ghost (gv 1) (.ptr 1 0)]⟩) (tips := []) (by kernel_rfl) all0 (norm ?_)
    obtain rfl := some_eq h
    exact At.ret fun a w hs => ret_ok hR (ρ := [0, 1]) (gs := [.ghost (gv 0) (.ptr 0 0), .ghost (gv 1) (.ptr 1 0)]) (by kernel_rfl) all0 (by kernel_rfl) rfl rfl a w hs _ (.inl rfl)
  · replace h := cond_f b2 h
    refine At.nar [0, 1] [0, 1, 2, 3] (st' := ⟨[(0, .ptr 0 0), (1, .fn (.func 70) [] [.ptr 1 0])], [.blk 93 (T_wire_Reader.pvs o0), .blk 5 [u8 o1_0], .ghost (gv 0) (.ptr 0 0), .ghost (gv 1) (.ptr 1 0)]⟩) (by kernel_rfl) ?_
    refine At.skip (norm ?_)
    refine At.seq ?_
    obtain ⟨y4, hy4, h⟩ := bind_some h
    refine At.region_end [0, 5, 6] [0, 1, 2, 3] _ (st' := ⟨[(0, .ptr 0 0), (5, i64 y4.1), (6, i64 y4.2.1)], [.blk 93 (T_wire_Reader.pvs o0), .blk 5 [u8 y4.2.2], .ghost (gv 0) (.ptr 0 0), .ghost (gv 1) (.ptr 1 0)]⟩) (tips := [(5, { pc := some { ρ := [1], n0 := 1, res := .tup [i64 y4.1, i64 y4.2.1], σ' := [.blk 5 [u8 y4.2.2]], e := [1] } })]) (by kernel_rfl) (allc (C_wire_Reader_Bool_1 o0.s o1_0 y4 hy4) all0) (norm ?_)
    refine At.seq ?_
    refine At.seq ?_
    refine At.region_end [0, 5, 6, 26] [0, 1, 2, 3] _ (st' := ⟨[(0, .ptr 0 0), (5, i64 y4.1), (6, i64 y4.2.1), (26, bo (y4.2.1 != 0))], [.blk 93 (T_wire_Reader.pvs o0), .blk 5 [u8 y4.2.2], .ghost (gv 0) (.ptr 0 0), .ghost (gv 1) (.ptr 1 0)]⟩) (tips := []) (by kernel_rfl) all0 (norm ?_)
    refine At.cond (y4.2.1 != 0) (by kernel_rfl) (fun b6 => ?_) (fun b6 => ?_)
    · replace h := cond_t b6 h
      refine At.seq ?_
      refine At.region_end [] [0, 1, 2, 3] _ (st' := ⟨[], [.blk 93 [sv o0.s, i64 y4.2.1], .blk 5 [u8 y4.2.2], .ghost (gv 0) (.ptr 0 0), .ghost (gv 1) (.ptr 1 0)]⟩) (tips := []) (by kernel_rfl) all0 (norm ?_)
      refine At.seq ?_
      refine At.region_end [4] [0, 1, 2, 3] _ (st' := ⟨[(4, bo false)], [.blk 93 [sv o0.s, i64 y4.2.1], .blk 5 [u8 y4.2.2], .ghost (gv 0) (.ptr 0 0), .ghost (gv 1) (.ptr 1 0)]⟩) (tips := []) (by kernel_rfl) all0 (norm ?_)
      obtain rfl := some_eq h
      exact At.ret fun a w hs => ret_ok hR (ρ := [0, 1]) (gs := [.ghost (gv 0) (.ptr 0 0), .ghost (gv 1) (.ptr 1 0)]) (by kernel_rfl) all0 (by kernel_rfl) rfl rfl a w hs _ (.inl rfl)
    · replace h := cond_f b6 h
      refine At.nar [0, 5] [0, 1, 2, 3] (st' := ⟨[(0, .ptr 0 0), (5, i64 y4.1)], [.blk 93 (T_wire_Reader.pvs o0), .blk 5 [u8 y4.2.2], .ghost (gv 0) (.ptr 0 0), .ghost (gv 1) (.ptr 1 0)]⟩) (by kernel_rfl) ?_
      refine At.skip (norm ?_)
      refine At.seq ?_
      obtain ⟨g8, h⟩ := grd_some h
      refine At.region_end [] [0, 1, 2, 3] _ (st' := ⟨[], [.blk 93 [sv (o0.s.extract (Int.toNat y4.1) (Int.toNat (o0.s.size : Int))), i64 o0.e], .blk 5 [u8 y4.2.2], .ghost (gv 0) (.ptr 0 0), .ghost (gv 1) (.ptr 1 0)]⟩) (tips := []) (by kernel_rfl) (allc g8 all0) (norm ?_)
      refine At.seq ?_
      refine At.region_end [4] [0, 1, 2, 3] _ (st' := ⟨[(4, bo true)], [.blk 93 [sv (o0.s.extract (Int.toNat y4.1) (Int.toNat (o0.s.size : Int))), i64 o0.e], .blk 5 [u8 y4.2.2], .ghost (gv 0) (.ptr 0 0), .ghost (gv 1) (.ptr 1 0)]⟩) (tips := []) (by kernel_rfl) all0 (norm ?_)
      obtain rfl := some_eq h
      exact At.ret fun a w hs => ret_ok hR (ρ := [0, 1]) (gs := [.ghost (gv 0) (.ptr 0 0), .ghost (gv 1) (.ptr 1 0)]) (by kernel_rfl) all0 (by kernel_rfl) rfl rfl a w hs _ (.inl rfl)
set_option maxRecDepth 100000 in
theorem C_wire_Reader_Bool (o0 : T_wire_Reader) (r : Bool × T_wire_Reader) (h : F_wire_Reader_Bool o0 = some r) : FnOK Try.prog 26 [.ptr 0 0] [.blk 93 (T_wire_Reader.pvs o0)] (bo r.1) [.blk 93 (T_wire_Reader.pvs r.2)] [1] := by
  rw [F_wire_Reader_Bool] at h
  refine FnOK.intro Try.func26 rfl (by kernel_rfl) (by kernel_rfl) fun E gv R hR => ?_
  refine At.seq ?_
  refine At.region_end [0] [0, 1] _ (st' := ⟨[(0, .ptr 0 0)], [.blk 93 (T_wire_Reader.pvs o0), .ghost (gv 0) (.ptr 0 0)]⟩) (tips := []) (by kernel_rfl) all0 (norm ?_)
  refine At.seq ?_
  refine At.region_end [0, 3] [0, 1, 2] _ (st' := ⟨[(0, .ptr 0 0), (3, .ptr 2 0)], [.blk 93 (T_wire_Reader.pvs o0), .ghost (gv 0) (.ptr 0 0), .blk 5 [u8 0]]⟩) (tips := []) (by kernel_rfl) all0 (norm ?_)
  refine At.seq ?_
  obtain ⟨y2, hy2, h⟩ := bind_some h
  refine At.region_end [3, 4] [0, 1, 2] _ (st' := ⟨[(3, .ptr 2 0), (4, bo y2.1)], [.blk 93 (T_wire_Reader.pvs y2.2.1), .ghost (gv 0) (.ptr 0 0), .blk 5 [u8 y2.2.2]]⟩) (tips := [(2, { pc := some { ρ := [0, 2], n0 := 2, res := bo y2.1, σ' := [.blk 93 (T_wire_Reader.pvs y2.2.1), .blk 5 [u8 y2.2.2]], e := [1, 3] } })]) (by kernel_rfl) (allc (C_wire_Reader_step_v4 o0 0 y2 hy2) all0) (norm ?_)
  refine At.seqJ (S := Bool) (fun s => ⟨[(2, bo s)], [.blk 93 (T_wire_Reader.pvs y2.2.1), .ghost (gv 0) (.ptr 0 0)]⟩) (fun s => F_wire_Reader_Bool_J1 y2 s = some r) ?_ ?_
  · rcases tf y2.1 with b5 | b5
    · replace h := cond_t b5 h
      refine At.region_end [2] [0, 1] _ (st' := ⟨[(2, bo (y2.2.2 == 1))], [.blk 93 (T_wire_Reader.pvs y2.2.1), .ghost (gv 0) (.ptr 0 0)]⟩) (tips := [(1, { orc := .val (.bool true) })]) (by kernel_rfl) (allc (congrArg D.bool b5) all0) (fun a w hs => ⟨(y2.2.2 == 1), h, hs⟩)
    · replace h := cond_f b5 h
      refine At.region_end [2] [0, 1] _ (st' := ⟨[(2, bo false)], [.blk 93 (T_wire_Reader.pvs y2.2.1), .ghost (gv 0) (.ptr 0 0)]⟩) (tips := [(1, { orc := .val (.bool false) })]) (by kernel_rfl) (allc (congrArg D.bool b5) all0) (fun a w hs => ⟨false, h, hs⟩)
  · intro x4 h
    replace h : F_wire_Reader_Bool_J1 y2 x4 = some r := h
    rw [F_wire_Reader_Bool_J1] at h
    obtain rfl := some_eq h
    exact At.ret fun a w hs => ret_ok hR (ρ := [0]) (gs := [.ghost (gv 0) (.ptr 0 0)]) (by kernel_rfl) all0 (by kernel_rfl) rfl rfl a w hs _ (.inl rfl)
set_option maxRecDepth 100000 in
theorem C_wire_Reader_Err (o0 : T_wire_Reader) (r : Int) (h : F_wire_Reader_Err o0 = some r) : FnOK Try.prog 20 [.ptr 0 0] [.blk 93 (T_wire_Reader.pvs o0)] (i64 r) [.blk 93 (T_wire_Reader.pvs o0)] [1] := by
  rw [F_wire_Reader_Err] at h
  refine FnOK.intro Try.func20 rfl (by kernel_rfl) (by kernel_rfl) fun E gv R hR => ?_
  refine At.seq ?_
  refine At.region_end [0] [0, 1] _ (st' := ⟨[(0, .ptr 0 0)], [.blk 93 (T_wire_Reader.pvs o0), .ghost (gv 0) (.ptr 0 0)]⟩) (tips := []) (by kernel_rfl) all0 (norm ?_)
  refine At.seq ?_
  refine At.seq ?_
  refine At.region_end [0, 4] [0, 1] _ (st' := ⟨[(0, .ptr 0 0), (4, bo false)], [.blk 93 (T_wire_Reader.pvs o0), .ghost (gv 0) (.ptr 0 0)]⟩) (tips := []) (by kernel_rfl) all0 (norm ?_)
  refine At.cond false (by kernel_rfl) (fun hb => by cases hb) (fun _ => ?_)
  refine At.nar [0] [0, 1] (st' := ⟨[(0, .ptr 0 0)], [.blk 93 (T_wire_Reader.pvs o0), .ghost (gv 0) (.ptr 0 0)]⟩) (by kernel_rfl) ?_
  refine At.skip (norm ?_)
  refine At.seq ?_
  refine At.region_end [2] [0, 1] _ (st' := ⟨[(2, i64 o0.e)], [.blk 93 (T_wire_Reader.pvs o0), .ghost (gv 0) (.ptr 0 0)]⟩) (tips := []) (by kernel_rfl) all0 (norm ?_)
  obtain rfl := some_eq h
  exact At.ret fun a w hs => ret_ok hR (ρ := [0]) (gs := [.ghost (gv 0) (.ptr 0 0)]) (by kernel_rfl) all0 (by kernel_rfl) rfl rfl a w hs _ (.inl rfl)
set_option maxRecDepth 100000 in
theorem C_wire_Reader_Left (o0 : T_wire_Reader) (r : Int) (h : F_wire_Reader_Left o0 = some r) : FnOK Try.prog 19 [.ptr 0 0] [.blk 93 (T_wire_Reader.pvs o0)] (i64 r) [.blk 93 (T_wire_Reader.pvs o0)] [1] := by
  rw [F_wire_Reader_Left] at h
  refine FnOK.intro Try.func19 rfl (by kernel_rfl) (by kernel_rfl) fun E gv R hR => ?_
  refine At.seq ?_
  refine At.region_end [0] [0, 1] _ (st' := ⟨[(0, .ptr 0 0)], [.blk 93 (T_wire_Reader.pvs o0), .ghost (gv 0) (.ptr 0 0)]⟩) (tips := []) (by kernel_rfl) all0 (norm ?_)
  refine At.seq ?_
  refine At.seq ?_
  refine At.region_end [0, 4] [0, 1] _ (st' := ⟨[(0, .ptr 0 0), (4, bo false)], [.blk 93 (T_wire_Reader.pvs o0), .ghost (gv 0) (.ptr 0 0)]⟩) (tips := []) (by kernel_rfl) all0 (norm ?_)
  refine At.cond false (by kernel_rfl) (fun hb => by cases hb) (fun _ => ?_)
  refine At.nar [0] [0, 1] (st' := ⟨[(0, .ptr 0 0)], [.blk 93 (T_wire_Reader.pvs o0), .ghost (gv 0) (.ptr 0 0)]⟩) (by kernel_rfl) ?_
  refine At.skip (norm ?_)
  refine At.seq ?_
  refine At.region_end [2] [0, 1] _ (st' := ⟨[(2, i64 (o0.s.size : Int))], [.blk 93 (T_wire_Reader.pvs o0), .ghost (gv 0) (.ptr 0 0)]⟩) (tips := []) (by kernel_rfl) all0 (norm ?_)
  obtain rfl := some_eq h
  exact At.ret fun a w hs => ret_ok hR (ρ := [0]) (gs := [.ghost (gv 0) (.ptr 0 0)]) (by kernel_rfl) all0 (by kernel_rfl) rfl rfl a w hs _ (.inl rfl)
set_option maxRecDepth 100000 in
theorem C_wire_Reader_End (o0 : T_wire_Reader) (r : Int) (h : F_wire_Reader_End o0 = some r) : FnOK Try.prog 21 [.ptr 0 0] [.blk 93 (T_wire_Reader.pvs o0)] (i64 r) [.blk 93 (T_wire_Reader.pvs o0)] [1] := by
  rw [F_wire_Reader_End] at h
  refine FnOK.intro Try.func21 rfl (by kernel_rfl) (by kernel_rfl) fun E gv R hR => ?_
  refine At.seq ?_
  refine At.region_end [0] [0, 1] _ (st' := ⟨[(0, .ptr 0 0)], [.blk 93 (T_wire_Reader.pvs o0), .ghost (gv 0) (.ptr 0 0)]⟩) (tips := []) (by kernel_rfl) all0 (norm ?_)
  refine At.seq ?_
  refine At.seq ?_
  obtain ⟨y10, hy10, h⟩ := bind_some h
  refine At.region_end [0, 3] [0, 1] _ (st' := ⟨[(0, .ptr 0 0), (3, i64 y10)], [.blk 93 (T_wire_Reader.pvs o0), .ghost (gv 0) (.ptr 0 0)]⟩) (tips := [(1, { pc := some { ρ := [0], n0 := 1, res := i64 y10, σ' := [.blk 93 (T_wire_Reader.pvs o0)], e := [1] } })]) (by kernel_rfl) (allc (C_wire_Reader_Err o0 y10 hy10) all0) (norm ?_)
  refine At.seqJ (S := Bool) (fun s => ⟨[(3, i64 y10), (12, bo s)], [.blk 93 (T_wire_Reader.pvs o0), .ghost (gv 0) (.ptr 0 0)]⟩) (fun s => F_wire_Reader_End_J1 y10 s = some r) ?_ ?_
  · rcases tf (y10 != 0) with b15 | b15
    · replace h := cond_t b15 h
      refine At.region_end [3, 12] [0, 1] _ (st' := ⟨[(3, i64 y10), (12, bo true)], [.blk 93 (T_wire_Reader.pvs o0), .ghost (gv 0) (.ptr 0 0)]⟩) (tips := [(2, { orc := .val (.bool true) })]) (by kernel_rfl) (allc (congrArg D.bool b15) all0) (fun a w hs => ⟨true, h, hs⟩)
    · replace h := cond_f b15 h
      obtain ⟨y16, hy16, h⟩ := bind_some h
      refine At.region_end [3, 12] [0, 1] _ (st' := ⟨[(3, i64 y10), (12, bo (y16 == 0))], [.blk 93 (T_wire_Reader.pvs o0), .ghost (gv 0) (.ptr 0 0)]⟩) (tips := [(2, { orc := .val (.bool false) }), (4, { pc := some { ρ := [0], n0 := 1, res := i64 y16, σ' := [.blk 93 (T_wire_Reader.pvs o0)], e := [1] } })]) (by kernel_rfl) (allc (congrArg D.bool b15) (allc (C_wire_Reader_Left o0 y16 hy16) all0)) (fun a w hs => ⟨(y16 == 0), h, hs⟩)
  · intro x13 h
    replace h : F_wire_Reader_End_J1 y10 x13 = some r := h
    rw [F_wire_Reader_End_J1] at h
    refine At.cond x13 (by kernel_rfl) (fun b14 => ?_) (fun b14 => ?_)
    · replace h := cond_t b14 h
      refine At.seq ?_
      refine At.region_end [2] [0, 1] _ (st' := ⟨[(2, i64 y10)], [.blk 93 (T_wire_Reader.pvs o0), .ghost (gv 0) (.ptr 0 0)]⟩) (tips := []) (by kernel_rfl) all0 (norm ?_)
      obtain rfl := some_eq h
      exact At.ret fun a w hs => ret_ok hR (ρ := [0]) (gs := [.ghost (gv 0) (.ptr 0 0)]) (by kernel_rfl) all0 (by kernel_rfl) rfl rfl a w hs _ (.inl rfl)
    · replace h := cond_f b14 h
      refine At.nar [] [0, 1] (st' := ⟨[], [.blk 93 (T_wire_Reader.pvs o0), .ghost (gv 0) (.ptr 0 0)]⟩) (by kernel_rfl) ?_
      refine At.skip (norm ?_)
      refine At.seq ?_
      refine At.region_end [2] [0, 1] _ (st' := ⟨[(2, i64 3)], [.blk 93 (T_wire_Reader.pvs o0), .ghost (gv 0) (.ptr 0 0)]⟩) (tips := []) (by kernel_rfl) all0 (norm ?_)
      obtain rfl := some_eq h
      exact At.ret fun a w hs => ret_ok hR (ρ := [0]) (gs := [.ghost (gv 0) (.ptr 0 0)]) (by kernel_rfl) all0 (by kernel_rfl) rfl rfl a w hs _ (.inl rfl)
set_option maxRecDepth 100000 in
theorem C_retracelaw03_live  (r : Bool) (h : F_retracelaw03_live  = some r) : FnOK Try.prog 14 [] [] (bo r) [] [] := by
  rw [F_retracelaw03_live] at h
  refine FnOK.intro Try.func14 rfl (by kernel_rfl) (by kernel_rfl) fun E gv R hR => ?_
  refine At.seq ?_
  refine At.region_end [] [] _ (st' := ⟨[], []⟩) (tips := []) (by kernel_rfl) all0 (norm ?_)
  refine At.seq ?_
  refine At.region_end [1] [0] _ (st' := ⟨[(1, .ptr 0 0)], [.blk 28 [.d (.list true 0 [])]]⟩) (tips := []) (by kernel_rfl) all0 (norm ?_)
  refine At.seq ?_
  refine At.eds [.ownO 0 0 5 1] (st' := ⟨[(1, .ptr 0 0)], [.blk 28 [.row 1 ([] : List Int).length], .row 5 1 (encL (eInt .u8) ([]))]⟩) (by kernel_rfl) ?_
  obtain ⟨y2, hy2, h⟩ := bind_some h
  refine At.region_end [1] [0, 1] _ (st' := ⟨[(1, .ptr 0 0)], [.blk 28 [.row 1 (y2.s).length], .row 5 1 (encL (eInt .u8) y2.s)]⟩) (tips := [(1, { pc := some { ρ := [0, 1], n0 := 2, res := .tup [], σ' := [.blk 28 [.row 1 (y2.s).length], .row 5 1 (encL (eInt .u8) y2.s)], e := [1, 2, 3] } })]) (by kernel_rfl) (allc (C_wire_Writer_Int (-1) (⟨([] : List Int)⟩ : T_wire_Writer) y2 hy2) all0) (norm ?_)
  refine At.seq ?_
  obtain ⟨y4, hy4, h⟩ := bind_some h
  refine At.region_end [1] [0, 1] _ (st' := ⟨[(1, .ptr 0 0)], [.blk 28 [.row 1 (y4.s).length], .row 5 1 (encL (eInt .u8) y4.s)]⟩) (tips := [(1, { pc := some { ρ := [0, 1], n0 := 2, res := .tup [], σ' := [.blk 28 [.row 1 (y4.s).length], .row 5 1 (encL (eInt .u8) y4.s)], e := [1, 2, 3] } })]) (by kernel_rfl) (allc (C_wire_Writer_Text (⟨#[97, 98]⟩ : ByteArray) y2 y4 hy4) all0) (norm ?_)
  refine At.seq ?_
  obtain ⟨y6, hy6, h⟩ := bind_some h
  refine At.region_end [1] [0, 1] _ (st' := ⟨[(1, .ptr 0 0)], [.blk 28 [.row 1 (y6.s).length], .row 5 1 (encL (eInt .u8) y6.s)]⟩) (tips := [(1, { pc := some { ρ := [0, 1], n0 := 2, res := .tup [], σ' := [.blk 28 [.row 1 (y6.s).length], .row 5 1 (encL (eInt .u8) y6.s)], e := [1, 2, 3] } })]) (by kernel_rfl) (allc (C_wire_Writer_Bool true y4 y6 hy6) all0) (norm ?_)
  refine At.seq ?_
  obtain ⟨y9, hy9, h⟩ := bind_some h
  obtain ⟨y10, hy10, h⟩ := bind_some h
  refine At.region_end [1, 2] [0, 1, 2] _ (st' := ⟨[(1, .ptr 0 0), (2, .ptr 2 0)], [.blk 28 [.row 1 (y6.s).length], .row 5 1 (encL (eInt .u8) y6.s), .blk 93 (T_wire_Reader.pvs y10)]⟩) (tips := [(1, { pc := some { ρ := [0, 1], n0 := 2, res := sv y9, σ' := [.blk 28 [.row 1 (y6.s).length], .row 5 1 (encL (eInt .u8) y6.s)], e := [1, 2] } }), (2, { pc := some { ρ := [2], n0 := 0, res := .ptr 0 0, σ' := [.blk 93 (T_wire_Reader.pvs y10)], e := [] } })]) (by kernel_rfl) (allc (C_wire_Writer_Bytes y6 y9 hy9) (allc (C_wire_Open y9 y10 hy10) all0)) (norm ?_)
  refine At.seqJ (S := Bool) (fun s => ⟨[(0, bo s)], []⟩) (fun s => F_retracelaw03_live_J1 s = some r) ?_ ?_
  · obtain ⟨y21, hy21, h⟩ := bind_some h
    rcases tf (y21.toList == (⟨#[1, 2, 97, 98, 1]⟩ : ByteArray).toList) with b22 | b22
    · replace h := cond_t b22 h
      obtain ⟨y23, hy23, h⟩ := bind_some h
      rcases tf (y23.1 == (-1)) with b24 | b24
      · replace h := cond_t b24 h
        obtain ⟨y25, hy25, h⟩ := bind_some h
        rcases tf (y25.1.toList == (⟨#[97, 98]⟩ : ByteArray).toList) with b26 | b26
        · replace h := cond_t b26 h
          obtain ⟨y27, hy27, h⟩ := bind_some h
          rcases tf y27.1 with b28 | b28
          · replace h := cond_t b28 h
            obtain ⟨y29, hy29, h⟩ := bind_some h
            refine At.region_end [0] [] _ (st' := ⟨[(0, bo (y29 == 0))], []⟩) (tips := [(1, { pc := some { ρ := [0, 1], n0 := 2, res := sv y21, σ' := [.blk 28 [.row 1 (y6.s).length], .row 5 1 (encL (eInt .u8) y6.s)], e := [1, 2] } }), (3, { orc := .val (.bool true) }), (5, { pc := some { ρ := [2], n0 := 1, res := i64 y23.1, σ' := [.blk 93 (T_wire_Reader.pvs y23.2)], e := [1] } }), (8, { orc := .val (.bool true) }), (10, { pc := some { ρ := [2], n0 := 1, res := sv y25.1, σ' := [.blk 93 (T_wire_Reader.pvs y25.2)], e := [1] } }), (13, { orc := .val (.bool true) }), (15, { pc := some { ρ := [2], n0 := 1, res := bo y27.1, σ' := [.blk 93 (T_wire_Reader.pvs y27.2)], e := [1] } }), (17, { orc := .val (.bool true) }), (19, { pc := some { ρ := [2], n0 := 1, res := i64 y29, σ' := [.blk 93 (T_wire_Reader.pvs y27.2)], e := [1] } })]) (by kernel_rfl) (allc (C_wire_Writer_Bytes y6 y21 hy21) (allc (congrArg D.bool b22) (allc (C_wire_Reader_Int y10 y23 hy23) (allc (congrArg D.bool b24) (allc (C_wire_Reader_Text 2 y23.2 y25 hy25) (allc (congrArg D.bool b26) (allc (C_wire_Reader_Bool y25.2 y27 hy27) (allc (congrArg D.bool b28) (allc (C_wire_Reader_End y27.2 y29 hy29) all0))))))))) (fun a w hs => ⟨(y29 == 0), h, hs⟩)
          · replace h := cond_f b28 h
            refine At.region_end [0] [] _ (st' := ⟨[(0, bo false)], []⟩) (tips := [(1, { pc := some { ρ := [0, 1], n0 := 2, res := sv y21, σ' := [.blk 28 [.row 1 (y6.s).length], .row 5 1 (encL (eInt .u8) y6.s)], e := [1, 2] } }), (3, { orc := .val (.bool true) }), (5, { pc := some { ρ := [2], n0 := 1, res := i64 y23.1, σ' := [.blk 93 (T_wire_Reader.pvs y23.2)], e := [1] } }), (8, { orc := .val (.bool true) }), (10, { pc := some { ρ := [2], n0 := 1, res := sv y25.1, σ' := [.blk 93 (T_wire_Reader.pvs y25.2)], e := [1] } }), (13, { orc := .val (.bool true) }), (15, { pc := some { ρ := [2], n0 := 1, res := bo y27.1, σ' := [.blk 93 (T_wire_Reader.pvs y27.2)], e := [1] } }), (17, { orc := .val (.bool false) })]) (by kernel_rfl) (allc (C_wire_Writer_Bytes y6 y21 hy21) (allc (congrArg D.bool b22) (allc (C_wire_Reader_Int y10 y23 hy23) (allc (congrArg D.bool b24) (allc (C_wire_Reader_Text 2 y23.2 y25 hy25) (allc (congrArg D.bool b26) (allc (C_wire_Reader_Bool y25.2 y27 hy27) (allc (congrArg D.bool b28) all0)))))))) (fun a w hs => ⟨false, h, hs⟩)
        · replace h := cond_f b26 h
          refine At.region_end [0] [] _ (st' := ⟨[(0, bo false)], []⟩) (tips := [(1, { pc := some { ρ := [0, 1], n0 := 2, res := sv y21, σ' := [.blk 28 [.row 1 (y6.s).length], .row 5 1 (encL (eInt .u8) y6.s)], e := [1, 2] } }), (3, { orc := .val (.bool true) }), (5, { pc := some { ρ := [2], n0 := 1, res := i64 y23.1, σ' := [.blk 93 (T_wire_Reader.pvs y23.2)], e := [1] } }), (8, { orc := .val (.bool true) }), (10, { pc := some { ρ := [2], n0 := 1, res := sv y25.1, σ' := [.blk 93 (T_wire_Reader.pvs y25.2)], e := [1] } }), (13, { orc := .val (.bool false) })]) (by kernel_rfl) (allc (C_wire_Writer_Bytes y6 y21 hy21) (allc (congrArg D.bool b22) (allc (C_wire_Reader_Int y10 y23 hy23) (allc (congrArg D.bool b24) (allc (C_wire_Reader_Text 2 y23.2 y25 hy25) (allc (congrArg D.bool b26) all0)))))) (fun a w hs => ⟨false, h, hs⟩)
      · replace h := cond_f b24 h
        refine At.region_end [0] [] _ (st' := ⟨[(0, bo false)], []⟩) (tips := [(1, { pc := some { ρ := [0, 1], n0 := 2, res := sv y21, σ' := [.blk 28 [.row 1 (y6.s).length], .row 5 1 (encL (eInt .u8) y6.s)], e := [1, 2] } }), (3, { orc := .val (.bool true) }), (5, { pc := some { ρ := [2], n0 := 1, res := i64 y23.1, σ' := [.blk 93 (T_wire_Reader.pvs y23.2)], e := [1] } }), (8, { orc := .val (.bool false) })]) (by kernel_rfl) (allc (C_wire_Writer_Bytes y6 y21 hy21) (allc (congrArg D.bool b22) (allc (C_wire_Reader_Int y10 y23 hy23) (allc (congrArg D.bool b24) all0)))) (fun a w hs => ⟨false, h, hs⟩)
    · replace h := cond_f b22 h
      refine At.region_end [0] [] _ (st' := ⟨[(0, bo false)], []⟩) (tips := [(1, { pc := some { ρ := [0, 1], n0 := 2, res := sv y21, σ' := [.blk 28 [.row 1 (y6.s).length], .row 5 1 (encL (eInt .u8) y6.s)], e := [1, 2] } }), (3, { orc := .val (.bool false) })]) (by kernel_rfl) (allc (C_wire_Writer_Bytes y6 y21 hy21) (allc (congrArg D.bool b22) all0)) (fun a w hs => ⟨false, h, hs⟩)
  · intro x20 h
    replace h : F_retracelaw03_live_J1 x20 = some r := h
    rw [F_retracelaw03_live_J1] at h
    obtain rfl := some_eq h
    exact At.ret fun a w hs => ret_ok hR (ρ := []) (gs := []) (by kernel_rfl) all0 (by kernel_rfl) rfl rfl a w hs _ (.inl rfl)
set_option maxRecDepth 100000 in
theorem C_retraceref01_Num_B (self : Int → Option (ByteArray)) (hself : ∀ (p0 : Int) (r : ByteArray), self p0 = some r → FnOK Try.prog 48 [u64 p0] [] (sv r) [] []) (p0 : Int) (r : ByteArray) (h : F_retraceref01_Num_B self p0 = some r) : FnOK Try.prog 48 [u64 p0] [] (sv r) [] [] := by
  rw [F_retraceref01_Num_B] at h
  refine FnOK.intro Try.func48 rfl (by kernel_rfl) (by kernel_rfl) fun E gv R hR => ?_
  refine At.seq ?_
  refine At.region_end [0] [] _ (st' := ⟨[(0, u64 p0)], []⟩) (tips := []) (by kernel_rfl) all0 (norm ?_)
  refine At.seq ?_
  refine At.seq ?_
  refine At.region_end [0, 4] [] _ (st' := ⟨[(0, u64 p0), (4, bo (decide (p0 < 128)))], []⟩) (tips := []) (by kernel_rfl) all0 (norm ?_)
  refine At.cond (decide (p0 < 128)) (by kernel_rfl) (fun b2 => ?_) (fun b2 => ?_)
  · replace h := cond_t b2 h
    refine At.seq ?_
    refine At.region_end [2] [] _ (st' := ⟨[(2, sv (strOfNums ([(wu8 p0)])))], []⟩) (tips := [(3, { orc := .nums ([(wu8 p0)]) })]) (by kernel_rfl) (allc (encL_map .u8 ([(wu8 p0)])) (allc (rfl : (([(wu8 p0)])).length = (([(wu8 p0)])).length) all0)) (norm ?_)
    obtain rfl := some_eq h
    exact At.ret fun a w hs => ret_ok hR (ρ := []) (gs := []) (by kernel_rfl) all0 (by kernel_rfl) rfl rfl a w hs _ (.inl rfl)
  · replace h := cond_f b2 h
    refine At.nar [0] [] (st' := ⟨[(0, u64 p0)], []⟩) (by kernel_rfl) ?_
    refine At.skip (norm ?_)
    refine At.seq ?_
    obtain ⟨y5, hy5, h⟩ := bind_some h
    obtain ⟨g6, h⟩ := grd_some h
    refine At.draw_end mixedOrd 1 [2] [] _ (st' := ⟨[(2, sv ((strOfNums ([(wu8 ((wu8 (Int.tmod p0 128)) + 128))])) ++ y5))], []⟩) (tips := [(5, { tip := { orc := .nums ([(wu8 ((wu8 (Int.tmod p0 128)) + 128))]) }, T := [0], r := 1 }), (8, { tip := { pc := some { ρ := [], n0 := 0, res := sv y5, σ' := [], e := [] } }, r := 1 })]) (by kernel_rfl) (allc (by decide : 128 ≠ (0:Int)) (allc (encL_map .u8 ([(wu8 ((wu8 (Int.tmod p0 128)) + 128))])) (allc (rfl : (([(wu8 ((wu8 (Int.tmod p0 128)) + 128))])).length = (([(wu8 ((wu8 (Int.tmod p0 128)) + 128))])).length) (allc (by decide : 128 ≠ (0:Int)) (allc (hself (wu64 (Int.tdiv p0 128)) y5 hy5) (allc g6 all0)))))) (norm ?_)
    obtain rfl := some_eq h
    exact At.ret fun a w hs => ret_ok hR (ρ := []) (gs := []) (by kernel_rfl) all0 (by kernel_rfl) rfl rfl a w hs _ (.inl rfl)
theorem C_retraceref01_Num_N : ∀ (n : Nat) (p0 : Int) (r : ByteArray), F_retraceref01_Num_N n p0 = some r → FnOK Try.prog 48 [u64 p0] [] (sv r) [] []
  | 0, _, _, h => by simp [F_retraceref01_Num_N] at h
  | n + 1, p0, r, h => C_retraceref01_Num_B (F_retraceref01_Num_N n) (C_retraceref01_Num_N n) p0 r h
theorem C_retraceref01_Num (p0 : Int) (r : ByteArray) (h : F_retraceref01_Num p0 = some r) : FnOK Try.prog 48 [u64 p0] [] (sv r) [] [] := by
  obtain ⟨n, h⟩ := lim_some h
  exact C_retraceref01_Num_N n p0 r h
set_option maxRecDepth 100000 in
theorem C_retraceref01_Zig (p0 : Int) (r : Int) (h : F_retraceref01_Zig p0 = some r) : FnOK Try.prog 81 [i64 p0] [] (u64 r) [] [] := by
  rw [F_retraceref01_Zig] at h
  refine FnOK.intro Try.func81 rfl (by kernel_rfl) (by kernel_rfl) fun E gv R hR => ?_
  refine At.seq ?_
  refine At.region_end [0] [] _ (st' := ⟨[(0, i64 p0)], []⟩) (tips := []) (by kernel_rfl) all0 (norm ?_)
  refine At.seq ?_
  refine At.seq ?_
  refine At.region_end [0, 4] [] _ (st' := ⟨[(0, i64 p0), (4, bo (decide (p0 < 0)))], []⟩) (tips := []) (by kernel_rfl) all0 (norm ?_)
  refine At.cond (decide (p0 < 0)) (by kernel_rfl) (fun b2 => ?_) (fun b2 => ?_)
  · replace h := cond_t b2 h
    refine At.seq ?_
    refine At.region_end [2] [] _ (st' := ⟨[(2, u64 (wu64 ((wu64 ((wu64 (w64 (0 - (w64 (p0 + 1))))) * 2)) + 1)))], []⟩) (tips := []) (by kernel_rfl) all0 (norm ?_)
    obtain rfl := some_eq h
    exact At.ret fun a w hs => ret_ok hR (ρ := []) (gs := []) (by kernel_rfl) all0 (by kernel_rfl) rfl rfl a w hs _ (.inl rfl)
  · replace h := cond_f b2 h
    refine At.nar [0] [] (st' := ⟨[(0, i64 p0)], []⟩) (by kernel_rfl) ?_
    refine At.skip (norm ?_)
    refine At.seq ?_
    refine At.region_end [2] [] _ (st' := ⟨[(2, u64 (wu64 ((wu64 p0) * 2)))], []⟩) (tips := []) (by kernel_rfl) all0 (norm ?_)
    obtain rfl := some_eq h
    exact At.ret fun a w hs => ret_ok hR (ρ := []) (gs := []) (by kernel_rfl) all0 (by kernel_rfl) rfl rfl a w hs _ (.inl rfl)
set_option maxRecDepth 100000 in
theorem C_retraceref03_Int (p0 : Int) (r : ByteArray) (h : F_retraceref03_Int p0 = some r) : FnOK Try.prog 49 [i64 p0] [] (sv r) [] [] := by
  rw [F_retraceref03_Int] at h
  refine FnOK.intro Try.func49 rfl (by kernel_rfl) (by kernel_rfl) fun E gv R hR => ?_
  refine At.seq ?_
  refine At.region_end [0] [] _ (st' := ⟨[(0, i64 p0)], []⟩) (tips := []) (by kernel_rfl) all0 (norm ?_)
  refine At.seq ?_
  obtain ⟨y3, hy3, h⟩ := bind_some h
  obtain ⟨y4, hy4, h⟩ := bind_some h
  refine At.region_end [2] [] _ (st' := ⟨[(2, sv y4)], []⟩) (tips := [(1, { pc := some { ρ := [], n0 := 0, res := u64 y3, σ' := [], e := [] } }), (2, { pc := some { ρ := [], n0 := 0, res := sv y4, σ' := [], e := [] } })]) (by kernel_rfl) (allc (C_retraceref01_Zig p0 y3 hy3) (allc (C_retraceref01_Num y3 y4 hy4) all0)) (norm ?_)
  obtain rfl := some_eq h
  exact At.ret fun a w hs => ret_ok hR (ρ := []) (gs := []) (by kernel_rfl) all0 (by kernel_rfl) rfl rfl a w hs _ (.inl rfl)
set_option maxRecDepth 100000 in
theorem C_retraceref03_Bool (p0 : Bool) (r : ByteArray) (h : F_retraceref03_Bool p0 = some r) : FnOK Try.prog 50 [bo p0] [] (sv r) [] [] := by
  rw [F_retraceref03_Bool] at h
  refine FnOK.intro Try.func50 rfl (by kernel_rfl) (by kernel_rfl) fun E gv R hR => ?_
  refine At.seq ?_
  refine At.region_end [0] [] _ (st' := ⟨[(0, bo p0)], []⟩) (tips := []) (by kernel_rfl) all0 (norm ?_)
  refine At.seq ?_
  refine At.seq ?_
  refine At.region_end [3] [] _ (st' := ⟨[(3, bo p0)], []⟩) (tips := []) (by kernel_rfl) all0 (norm ?_)
  refine At.cond p0 (by kernel_rfl) (fun b2 => ?_) (fun b2 => ?_)
  · replace h := cond_t b2 h
    refine At.seq ?_
    refine At.region_end [2] [] _ (st' := ⟨[(2, sv (⟨#[1]⟩ : ByteArray))], []⟩) (tips := []) (by kernel_rfl) all0 (norm ?_)
    obtain rfl := some_eq h
    exact At.ret fun a w hs => ret_ok hR (ρ := []) (gs := []) (by kernel_rfl) all0 (by kernel_rfl) rfl rfl a w hs _ (.inl rfl)
  · replace h := cond_f b2 h
    refine At.nar [] [] (st' := ⟨[], []⟩) (by kernel_rfl) ?_
    refine At.skip (norm ?_)
    refine At.seq ?_
    refine At.region_end [2] [] _ (st' := ⟨[(2, sv (⟨#[0]⟩ : ByteArray))], []⟩) (tips := []) (by kernel_rfl) all0 (norm ?_)
    obtain rfl := some_eq h
    exact At.ret fun a w hs => ret_ok hR (ρ := []) (gs := []) (by kernel_rfl) all0 (by kernel_rfl) rfl rfl a w hs _ (.inl rfl)
set_option maxRecDepth 100000 in
theorem C_retraceref03_Text (p0 : ByteArray) (r : ByteArray) (h : F_retraceref03_Text p0 = some r) : FnOK Try.prog 51 [sv p0] [] (sv r) [] [] := by
  rw [F_retraceref03_Text] at h
  refine FnOK.intro Try.func51 rfl (by kernel_rfl) (by kernel_rfl) fun E gv R hR => ?_
  refine At.seq ?_
  refine At.region_end [0] [] _ (st' := ⟨[(0, sv p0)], []⟩) (tips := []) (by kernel_rfl) all0 (norm ?_)
  refine At.seq ?_
  obtain ⟨y3, hy3, h⟩ := bind_some h
  obtain ⟨g4, h⟩ := grd_some h
  refine At.region_end [2] [] _ (st' := ⟨[(2, sv (y3 ++ p0))], []⟩) (tips := [(3, { pc := some { ρ := [], n0 := 0, res := sv y3, σ' := [], e := [] } })]) (by kernel_rfl) (allc (C_retraceref01_Num (wu64 (p0.size : Int)) y3 hy3) (allc g4 all0)) (norm ?_)
  obtain rfl := some_eq h
  exact At.ret fun a w hs => ret_ok hR (ρ := []) (gs := []) (by kernel_rfl) all0 (by kernel_rfl) rfl rfl a w hs _ (.inl rfl)
set_option maxRecDepth 100000 in
theorem C_wire_Writer_Raw (p1 : ByteArray) (o0 : T_wire_Writer) (r : T_wire_Writer) (h : F_wire_Writer_Raw p1 o0 = some r) : FnOK Try.prog 52 [.ptr 0 0, sv p1] [.blk 28 [.row 1 (o0.s).length], .row 5 1 (encL (eInt .u8) o0.s)] (.tup []) [.blk 28 [.row 1 (r.s).length], .row 5 1 (encL (eInt .u8) r.s)] [1, 2, 3] := by
  rw [F_wire_Writer_Raw] at h
  refine FnOK.intro Try.func52 rfl (by kernel_rfl) (by kernel_rfl) fun E gv R hR => ?_
  obtain ⟨y1, hy1, h⟩ := bind_some h
  obtain rfl := some_eq h
  refine At.region_end [] [0, 1, 2, 3] _ (st' := ⟨[], [.blk 28 [.row 1 (y1.s).length], .row 5 1 (encL (eInt .u8) y1.s), .ghost (gv 0) (.ptr 0 0), .ghost (gv 1) (.undef)]⟩) (tips := [(2, { pc := some { ρ := [0, 1], n0 := 2, res := .tup [], σ' := [.blk 28 [.row 1 (y1.s).length], .row 5 1 (encL (eInt .u8) y1.s)], e := [1, 2, 3] } })]) (by kernel_rfl) (allc (C_wire_Writer_add p1 o0 y1 hy1) all0) (fun a w hs => ret_ok hR (ρ := [0, 1]) (gs := [.ghost (gv 0) (.ptr 0 0), .ghost (gv 1) (.undef)]) (by kernel_rfl) all0 (by kernel_rfl) rfl rfl a w hs _ (.inr rfl))
set_option maxRecDepth 100000 in
theorem C_wire_Writer_Ints (p1 : (List Int)) (o0 : T_wire_Writer) (r : T_wire_Writer) (h : F_wire_Writer_Ints p1 o0 = some r) : FnOK Try.prog 53 [.ptr 0 0, lv (eInt .i64) p1] [.blk 28 [.row 1 (o0.s).length], .row 5 1 (encL (eInt .u8) o0.s)] (.tup []) [.blk 28 [.row 1 (r.s).length], .row 5 1 (encL (eInt .u8) r.s)] [1, 2, 3] := by
  rw [F_wire_Writer_Ints] at h
  refine FnOK.intro Try.func53 rfl (by kernel_rfl) (by kernel_rfl) fun E gv R hR => ?_
  refine At.seq ?_
  obtain ⟨y2, hy2, h⟩ := bind_some h
  refine At.region_end [0, 1] [0, 1, 2, 3] _ (st' := ⟨[(0, .ptr 0 0), (1, lv (eInt .i64) p1)], [.blk 28 [.row 1 (y2.s).length], .row 5 1 (encL (eInt .u8) y2.s), .ghost (gv 0) (.ptr 0 0), .ghost (gv 1) (.undef)]⟩) (tips := [(4, { pc := some { ρ := [0, 1], n0 := 2, res := .tup [], σ' := [.blk 28 [.row 1 (y2.s).length], .row 5 1 (encL (eInt .u8) y2.s)], e := [1, 2, 3] } })]) (by kernel_rfl) (allc (C_wire_Writer_Num (wu64 ((p1).length : Int)) o0 y2 hy2) all0) (norm ?_)
  refine At.seq ?_
  refine At.region_end [0, 11, 12, 13] [0, 1, 2, 3] _ (st' := ⟨[(0, .ptr 0 0), (11, lv (eInt .i64) p1), (12, i64 ((p1).length : Int)), (13, i64 0)], [.blk 28 [.row 1 (y2.s).length], .row 5 1 (encL (eInt .u8) y2.s), .ghost (gv 0) (.ptr 0 0), .ghost (gv 1) (.undef)]⟩) (tips := []) (by kernel_rfl) all0 (norm ?_)
  refine At.block ?_
  refine At.loop (fun s : (Int × (List Int)) => F_wire_Writer_Ints_L1 p1 s.1 s.2) (fun s : (Int × (List Int)) => ⟨[(0, .ptr 0 0), (11, lv (eInt .i64) p1), (12, i64 ((p1).length : Int)), (13, i64 s.1)], [.blk 28 [.row 1 (s.2).length], .row 5 1 (encL (eInt .u8) s.2), .ghost (gv 0) (.ptr 0 0), .ghost (gv 1) (.undef)]⟩) r (0, y2.s) h ?_
  rintro ⟨x3, x4⟩ oo5 h f6
  replace h : F_wire_Writer_Ints_L1 p1 x3 x4 = some oo5 := h
  rw [F_wire_Writer_Ints_L1] at h
  refine At.seq ?_
  refine At.region_end [0, 11, 12, 13, 14] [0, 1, 2, 3] _ (st' := ⟨[(0, .ptr 0 0), (11, lv (eInt .i64) p1), (12, i64 ((p1).length : Int)), (13, i64 x3), (14, bo (decide (x3 < ((p1).length : Int))))], [.blk 28 [.row 1 (x4).length], .row 5 1 (encL (eInt .u8) x4), .ghost (gv 0) (.ptr 0 0), .ghost (gv 1) (.undef)]⟩) (tips := []) (by kernel_rfl) all0 (norm ?_)
  refine At.seq ?_
  refine At.cond (decide (x3 < ((p1).length : Int))) (by kernel_rfl) (fun b8 => ?_) (fun b8 => ?_)
  · replace h := cond_t b8 h
    refine At.nar [0, 11, 12, 13] [0, 1, 2, 3] (st' := ⟨[(0, .ptr 0 0), (11, lv (eInt .i64) p1), (12, i64 ((p1).length : Int)), (13, i64 x3)], [.blk 28 [.row 1 (x4).length], .row 5 1 (encL (eInt .u8) x4), .ghost (gv 0) (.ptr 0 0), .ghost (gv 1) (.undef)]⟩) (by kernel_rfl) ?_
    refine At.skip (norm ?_)
    refine At.seq ?_
    refine At.block ?_
    refine At.seq ?_
    obtain ⟨y13, hy13, h⟩ := bind_some h
    refine At.region_end [0, 5, 11, 12, 13] [0, 1, 2, 3] _ (st' := ⟨[(0, .ptr 0 0), (5, i64 y13), (11, lv (eInt .i64) p1), (12, i64 ((p1).length : Int)), (13, i64 x3)], [.blk 28 [.row 1 (x4).length], .row 5 1 (encL (eInt .u8) x4), .ghost (gv 0) (.ptr 0 0), .ghost (gv 1) (.undef)]⟩) (tips := [(0, { orc := .cells ((eInt .i64) y13) })]) (by kernel_rfl) (allc (elemAt_of (he_int .i64) hy13) all0) (norm ?_)
    obtain ⟨y14, hy14, h⟩ := bind_some h
    refine At.region_end [0, 11, 12, 13] [0, 1, 2, 3] _ (st' := ⟨[(0, .ptr 0 0), (11, lv (eInt .i64) p1), (12, i64 ((p1).length : Int)), (13, i64 x3)], [.blk 28 [.row 1 (y14.s).length], .row 5 1 (encL (eInt .u8) y14.s), .ghost (gv 0) (.ptr 0 0), .ghost (gv 1) (.undef)]⟩) (tips := [(2, { pc := some { ρ := [0, 1], n0 := 2, res := .tup [], σ' := [.blk 28 [.row 1 (y14.s).length], .row 5 1 (encL (eInt .u8) y14.s)], e := [1, 2, 3] } })]) (by kernel_rfl) (allc (C_wire_Writer_Int y13 (⟨x4⟩ : T_wire_Writer) y14 hy14) all0) (norm ?_)
    refine At.region_end [0, 11, 12, 13] [0, 1, 2, 3] _ (st' := ⟨[(0, .ptr 0 0), (11, lv (eInt .i64) p1), (12, i64 ((p1).length : Int)), (13, i64 (w64 (x3 + 1)))], [.blk 28 [.row 1 (y14.s).length], .row 5 1 (encL (eInt .u8) y14.s), .ghost (gv 0) (.ptr 0 0), .ghost (gv 1) (.undef)]⟩) (tips := []) (by kernel_rfl) all0 (fun a w hs => ⟨_, (some_eq h).symm, hs⟩)
  · replace h := cond_f b8 h
    refine At.nar [] [0, 1, 2, 3] (st' := ⟨[], [.blk 28 [.row 1 (x4).length], .row 5 1 (encL (eInt .u8) x4), .ghost (gv 0) (.ptr 0 0), .ghost (gv 1) (.undef)]⟩) (by kernel_rfl) ?_
    obtain ⟨r15, h, e16⟩ := map_inr h
    rw [f6 _ e16] at h
    obtain rfl := some_eq h
    refine At.exit (fun a w hs => ret_ok hR (ρ := [0, 1]) (gs := [.ghost (gv 0) (.ptr 0 0), .ghost (gv 1) (.undef)]) (by kernel_rfl) all0 (by kernel_rfl) rfl rfl a w hs _ (.inr rfl))
set_option maxRecDepth 100000 in
theorem C_retraceref03_Ints (p0 : (List Int)) (r : ByteArray) (h : F_retraceref03_Ints p0 = some r) : FnOK Try.prog 54 [lv (eInt .i64) p0] [] (sv r) [] [] := by
  rw [F_retraceref03_Ints] at h
  refine FnOK.intro Try.func54 rfl (by kernel_rfl) (by kernel_rfl) fun E gv R hR => ?_
  refine At.seq ?_
  refine At.region_end [0] [] _ (st' := ⟨[(0, lv (eInt .i64) p0)], []⟩) (tips := []) (by kernel_rfl) all0 (norm ?_)
  refine At.seq ?_
  obtain ⟨y2, hy2, h⟩ := bind_some h
  refine At.region_end [0, 3] [] _ (st' := ⟨[(0, lv (eInt .i64) p0), (3, sv y2)], []⟩) (tips := [(3, { pc := some { ρ := [], n0 := 0, res := sv y2, σ' := [], e := [] } })]) (by kernel_rfl) (allc (C_retraceref01_Num (wu64 ((p0).length : Int)) y2 hy2) all0) (norm ?_)
  refine At.seq ?_
  refine At.seq ?_
  refine At.region_end [0, 3, 4] [] _ (st' := ⟨[(0, lv (eInt .i64) p0), (3, sv y2), (4, i64 0)], []⟩) (tips := []) (by kernel_rfl) all0 (norm ?_)
  refine At.block ?_
  refine At.loop (fun s : (ByteArray × Int) => F_retraceref03_Ints_L1 p0 s.1 s.2) (fun s : (ByteArray × Int) => ⟨[(0, lv (eInt .i64) p0), (3, sv s.1), (4, i64 s.2)], []⟩) r (y2, 0) h ?_
  rintro ⟨x17, x18⟩ oo19 h f20
  replace h : F_retraceref03_Ints_L1 p0 x17 x18 = some oo19 := h
  rw [F_retraceref03_Ints_L1] at h
  refine At.seq ?_
  refine At.seq ?_
  refine At.region_end [0, 3, 4, 12] [] _ (st' := ⟨[(0, lv (eInt .i64) p0), (3, sv x17), (4, i64 x18), (12, bo (decide (x18 < ((p0).length : Int))))], []⟩) (tips := []) (by kernel_rfl) all0 (norm ?_)
  refine At.cond (decide (x18 < ((p0).length : Int))) (by kernel_rfl) (fun b22 => ?_) (fun b22 => ?_)
  · replace h := cond_t b22 h
    refine At.nar [0, 3, 4] [] (st' := ⟨[(0, lv (eInt .i64) p0), (3, sv x17), (4, i64 x18)], []⟩) (by kernel_rfl) ?_
    refine At.skip (norm ?_)
    refine At.seq ?_
    refine At.block ?_
    obtain ⟨y26, hy26, h⟩ := bind_some h
    obtain ⟨y27, hy27, h⟩ := bind_some h
    obtain ⟨g28, h⟩ := grd_some h
    refine At.region_end [0, 3, 4] [] _ (st' := ⟨[(0, lv (eInt .i64) p0), (3, sv (x17 ++ y27)), (4, i64 x18)], []⟩) (tips := [(3, { orc := .cells ((eInt .i64) y26) }), (5, { pc := some { ρ := [], n0 := 0, res := sv y27, σ' := [], e := [] } })]) (by kernel_rfl) (allc (elemAt_of (he_int .i64) hy26) (allc (C_retraceref03_Int y26 y27 hy27) (allc g28 all0))) (norm ?_)
    refine At.region_end [0, 3, 4] [] _ (st' := ⟨[(0, lv (eInt .i64) p0), (3, sv (x17 ++ y27)), (4, i64 (w64 (x18 + 1)))], []⟩) (tips := []) (by kernel_rfl) all0 (fun a w hs => ⟨_, (some_eq h).symm, hs⟩)
  · replace h := cond_f b22 h
    refine At.nar [3] [] (st' := ⟨[(3, sv x17)], []⟩) (by kernel_rfl) ?_
    obtain ⟨r29, h, e30⟩ := map_inr h
    rw [f20 _ e30] at h
    refine At.exit (norm ?_)
    refine At.seq ?_
    refine At.region_end [2] [] _ (st' := ⟨[(2, sv x17)], []⟩) (tips := []) (by kernel_rfl) all0 (norm ?_)
    obtain rfl := some_eq h
    exact At.ret fun a w hs => ret_ok hR (ρ := []) (gs := []) (by kernel_rfl) all0 (by kernel_rfl) rfl rfl a w hs _ (.inl rfl)
set_option maxRecDepth 100000 in
theorem C_retracelaw03_write (p1 : T_retracelaw03_Part) (o0 : T_wire_Writer) (r : ByteArray × T_wire_Writer) (h : F_retracelaw03_write p1 o0 = some r) : FnOK Try.prog 15 [.ptr 0 0, .agg (T_retracelaw03_Part.pvs p1)] [.blk 28 [.row 1 (o0.s).length], .row 5 1 (encL (eInt .u8) o0.s)] (sv r.1) [.blk 28 [.row 1 (r.2.s).length], .row 5 1 (encL (eInt .u8) r.2.s)] [1, 2, 3] := by
  rw [F_retracelaw03_write] at h
  refine FnOK.intro Try.func15 rfl (by kernel_rfl) (by kernel_rfl) fun E gv R hR => ?_
  refine At.seq ?_
  refine At.region_end [0, 3] [0, 1, 2, 3, 4] _ (st' := ⟨[(0, .ptr 0 0), (3, .ptr 4 0)], [.blk 28 [.row 1 (o0.s).length], .row 5 1 (encL (eInt .u8) o0.s), .ghost (gv 0) (.ptr 0 0), .ghost (gv 1) (.row 1 0), .blk 33 (T_retracelaw03_Part.pvs p1)]⟩) (tips := []) (by kernel_rfl) all0 (norm ?_)
  refine At.seq ?_
  refine At.seq ?_
  refine At.region_end [0, 3, 6] [0, 1, 2, 3, 4] _ (st' := ⟨[(0, .ptr 0 0), (3, .ptr 4 0), (6, i64 p1.Kind)], [.blk 28 [.row 1 (o0.s).length], .row 5 1 (encL (eInt .u8) o0.s), .ghost (gv 0) (.ptr 0 0), .ghost (gv 1) (.row 1 0), .blk 33 (T_retracelaw03_Part.pvs p1)]⟩) (tips := []) (by kernel_rfl) all0 (norm ?_)
  refine At.block ?_
  refine At.seq ?_
  refine At.region_end [0, 3, 6, 7] [0, 1, 2, 3, 4] _ (st' := ⟨[(0, .ptr 0 0), (3, .ptr 4 0), (6, i64 p1.Kind), (7, bo (p1.Kind == 0))], [.blk 28 [.row 1 (o0.s).length], .row 5 1 (encL (eInt .u8) o0.s), .ghost (gv 0) (.ptr 0 0), .ghost (gv 1) (.row 1 0), .blk 33 (T_retracelaw03_Part.pvs p1)]⟩) (tips := []) (by kernel_rfl) all0 (norm ?_)
  refine At.cond (p1.Kind == 0) (by kernel_rfl) (fun b29 => ?_) (fun b29 => ?_)
  · replace h := cond_t b29 h
    refine At.seq ?_
    obtain ⟨y31, hy31, h⟩ := bind_some h
    refine At.region_end [3] [0, 1, 2, 3, 4] _ (st' := ⟨[(3, .ptr 4 0)], [.blk 28 [.row 1 (y31.s).length], .row 5 1 (encL (eInt .u8) y31.s), .ghost (gv 0) (.ptr 0 0), .ghost (gv 1) (.undef), .blk 33 (T_retracelaw03_Part.pvs p1)]⟩) (tips := [(3, { pc := some { ρ := [0, 1], n0 := 2, res := .tup [], σ' := [.blk 28 [.row 1 (y31.s).length], .row 5 1 (encL (eInt .u8) y31.s)], e := [1, 2, 3] } })]) (by kernel_rfl) (allc (C_wire_Writer_Num p1.U o0 y31 hy31) all0) (norm ?_)
    refine At.seq ?_
    obtain ⟨y33, hy33, h⟩ := bind_some h
    refine At.region_end [4] [0, 1, 2, 3] _ (st' := ⟨[(4, sv y33)], [.blk 28 [.row 1 (y31.s).length], .row 5 1 (encL (eInt .u8) y31.s), .ghost (gv 0) (.ptr 0 0), .ghost (gv 1) (.undef)]⟩) (tips := [(2, { pc := some { ρ := [], n0 := 0, res := sv y33, σ' := [], e := [] } })]) (by kernel_rfl) (allc (C_retraceref01_Num p1.U y33 hy33) all0) (norm ?_)
    obtain rfl := some_eq h
    exact At.ret fun a w hs => ret_ok hR (ρ := [0, 1]) (gs := [.ghost (gv 0) (.ptr 0 0), .ghost (gv 1) (.undef)]) (by kernel_rfl) all0 (by kernel_rfl) rfl rfl a w hs _ (.inl rfl)
  · replace h := cond_f b29 h
    refine At.seq ?_
    refine At.region_end [0, 3, 6, 16] [0, 1, 2, 3, 4] _ (st' := ⟨[(0, .ptr 0 0), (3, .ptr 4 0), (6, i64 p1.Kind), (16, bo (p1.Kind == 1))], [.blk 28 [.row 1 (o0.s).length], .row 5 1 (encL (eInt .u8) o0.s), .ghost (gv 0) (.ptr 0 0), .ghost (gv 1) (.row 1 0), .blk 33 (T_retracelaw03_Part.pvs p1)]⟩) (tips := []) (by kernel_rfl) all0 (norm ?_)
    refine At.cond (p1.Kind == 1) (by kernel_rfl) (fun b34 => ?_) (fun b34 => ?_)
    · replace h := cond_t b34 h
      refine At.seq ?_
      obtain ⟨y36, hy36, h⟩ := bind_some h
      refine At.region_end [3] [0, 1, 2, 3, 4] _ (st' := ⟨[(3, .ptr 4 0)], [.blk 28 [.row 1 (y36.s).length], .row 5 1 (encL (eInt .u8) y36.s), .ghost (gv 0) (.ptr 0 0), .ghost (gv 1) (.undef), .blk 33 (T_retracelaw03_Part.pvs p1)]⟩) (tips := [(3, { pc := some { ρ := [0, 1], n0 := 2, res := .tup [], σ' := [.blk 28 [.row 1 (y36.s).length], .row 5 1 (encL (eInt .u8) y36.s)], e := [1, 2, 3] } })]) (by kernel_rfl) (allc (C_wire_Writer_Int p1.N o0 y36 hy36) all0) (norm ?_)
      refine At.seq ?_
      obtain ⟨y38, hy38, h⟩ := bind_some h
      refine At.region_end [4] [0, 1, 2, 3] _ (st' := ⟨[(4, sv y38)], [.blk 28 [.row 1 (y36.s).length], .row 5 1 (encL (eInt .u8) y36.s), .ghost (gv 0) (.ptr 0 0), .ghost (gv 1) (.undef)]⟩) (tips := [(2, { pc := some { ρ := [], n0 := 0, res := sv y38, σ' := [], e := [] } })]) (by kernel_rfl) (allc (C_retraceref03_Int p1.N y38 hy38) all0) (norm ?_)
      obtain rfl := some_eq h
      exact At.ret fun a w hs => ret_ok hR (ρ := [0, 1]) (gs := [.ghost (gv 0) (.ptr 0 0), .ghost (gv 1) (.undef)]) (by kernel_rfl) all0 (by kernel_rfl) rfl rfl a w hs _ (.inl rfl)
    · replace h := cond_f b34 h
      refine At.seq ?_
      refine At.region_end [0, 3, 6, 25] [0, 1, 2, 3, 4] _ (st' := ⟨[(0, .ptr 0 0), (3, .ptr 4 0), (6, i64 p1.Kind), (25, bo (p1.Kind == 2))], [.blk 28 [.row 1 (o0.s).length], .row 5 1 (encL (eInt .u8) o0.s), .ghost (gv 0) (.ptr 0 0), .ghost (gv 1) (.row 1 0), .blk 33 (T_retracelaw03_Part.pvs p1)]⟩) (tips := []) (by kernel_rfl) all0 (norm ?_)
      refine At.cond (p1.Kind == 2) (by kernel_rfl) (fun b39 => ?_) (fun b39 => ?_)
      · replace h := cond_t b39 h
        refine At.seq ?_
        obtain ⟨y41, hy41, h⟩ := bind_some h
        refine At.region_end [3] [0, 1, 2, 3, 4] _ (st' := ⟨[(3, .ptr 4 0)], [.blk 28 [.row 1 (y41.s).length], .row 5 1 (encL (eInt .u8) y41.s), .ghost (gv 0) (.ptr 0 0), .ghost (gv 1) (.undef), .blk 33 (T_retracelaw03_Part.pvs p1)]⟩) (tips := [(3, { pc := some { ρ := [0, 1], n0 := 2, res := .tup [], σ' := [.blk 28 [.row 1 (y41.s).length], .row 5 1 (encL (eInt .u8) y41.s)], e := [1, 2, 3] } })]) (by kernel_rfl) (allc (C_wire_Writer_Bool p1.B o0 y41 hy41) all0) (norm ?_)
        refine At.seq ?_
        obtain ⟨y43, hy43, h⟩ := bind_some h
        refine At.region_end [4] [0, 1, 2, 3] _ (st' := ⟨[(4, sv y43)], [.blk 28 [.row 1 (y41.s).length], .row 5 1 (encL (eInt .u8) y41.s), .ghost (gv 0) (.ptr 0 0), .ghost (gv 1) (.undef)]⟩) (tips := [(2, { pc := some { ρ := [], n0 := 0, res := sv y43, σ' := [], e := [] } })]) (by kernel_rfl) (allc (C_retraceref03_Bool p1.B y43 hy43) all0) (norm ?_)
        obtain rfl := some_eq h
        exact At.ret fun a w hs => ret_ok hR (ρ := [0, 1]) (gs := [.ghost (gv 0) (.ptr 0 0), .ghost (gv 1) (.undef)]) (by kernel_rfl) all0 (by kernel_rfl) rfl rfl a w hs _ (.inl rfl)
      · replace h := cond_f b39 h
        refine At.seq ?_
        refine At.region_end [0, 3, 6, 34] [0, 1, 2, 3, 4] _ (st' := ⟨[(0, .ptr 0 0), (3, .ptr 4 0), (6, i64 p1.Kind), (34, bo (p1.Kind == 3))], [.blk 28 [.row 1 (o0.s).length], .row 5 1 (encL (eInt .u8) o0.s), .ghost (gv 0) (.ptr 0 0), .ghost (gv 1) (.row 1 0), .blk 33 (T_retracelaw03_Part.pvs p1)]⟩) (tips := []) (by kernel_rfl) all0 (norm ?_)
        refine At.cond (p1.Kind == 3) (by kernel_rfl) (fun b44 => ?_) (fun b44 => ?_)
        · replace h := cond_t b44 h
          refine At.seq ?_
          obtain ⟨y46, hy46, h⟩ := bind_some h
          refine At.region_end [3] [0, 1, 2, 3, 4] _ (st' := ⟨[(3, .ptr 4 0)], [.blk 28 [.row 1 (y46.s).length], .row 5 1 (encL (eInt .u8) y46.s), .ghost (gv 0) (.ptr 0 0), .ghost (gv 1) (.undef), .blk 33 (T_retracelaw03_Part.pvs p1)]⟩) (tips := [(3, { pc := some { ρ := [0, 1], n0 := 2, res := .tup [], σ' := [.blk 28 [.row 1 (y46.s).length], .row 5 1 (encL (eInt .u8) y46.s)], e := [1, 2, 3] } })]) (by kernel_rfl) (allc (C_wire_Writer_Text p1.S o0 y46 hy46) all0) (norm ?_)
          refine At.seq ?_
          obtain ⟨y48, hy48, h⟩ := bind_some h
          refine At.region_end [4] [0, 1, 2, 3] _ (st' := ⟨[(4, sv y48)], [.blk 28 [.row 1 (y46.s).length], .row 5 1 (encL (eInt .u8) y46.s), .ghost (gv 0) (.ptr 0 0), .ghost (gv 1) (.undef)]⟩) (tips := [(2, { pc := some { ρ := [], n0 := 0, res := sv y48, σ' := [], e := [] } })]) (by kernel_rfl) (allc (C_retraceref03_Text p1.S y48 hy48) all0) (norm ?_)
          obtain rfl := some_eq h
          exact At.ret fun a w hs => ret_ok hR (ρ := [0, 1]) (gs := [.ghost (gv 0) (.ptr 0 0), .ghost (gv 1) (.undef)]) (by kernel_rfl) all0 (by kernel_rfl) rfl rfl a w hs _ (.inl rfl)
        · replace h := cond_f b44 h
          refine At.seq ?_
          refine At.region_end [0, 3, 6, 43] [0, 1, 2, 3, 4] _ (st' := ⟨[(0, .ptr 0 0), (3, .ptr 4 0), (6, i64 p1.Kind), (43, bo (p1.Kind == 4))], [.blk 28 [.row 1 (o0.s).length], .row 5 1 (encL (eInt .u8) o0.s), .ghost (gv 0) (.ptr 0 0), .ghost (gv 1) (.row 1 0), .blk 33 (T_retracelaw03_Part.pvs p1)]⟩) (tips := []) (by kernel_rfl) all0 (norm ?_)
          refine At.cond (p1.Kind == 4) (by kernel_rfl) (fun b49 => ?_) (fun b49 => ?_)
          · replace h := cond_t b49 h
            refine At.seq ?_
            obtain ⟨y51, hy51, h⟩ := bind_some h
            refine At.region_end [3] [0, 1, 2, 3, 4] _ (st' := ⟨[(3, .ptr 4 0)], [.blk 28 [.row 1 (y51.s).length], .row 5 1 (encL (eInt .u8) y51.s), .ghost (gv 0) (.ptr 0 0), .ghost (gv 1) (.undef), .blk 33 (T_retracelaw03_Part.pvs p1)]⟩) (tips := [(3, { pc := some { ρ := [0, 1], n0 := 2, res := .tup [], σ' := [.blk 28 [.row 1 (y51.s).length], .row 5 1 (encL (eInt .u8) y51.s)], e := [1, 2, 3] } })]) (by kernel_rfl) (allc (C_wire_Writer_Raw p1.S o0 y51 hy51) all0) (norm ?_)
            refine At.seq ?_
            refine At.region_end [4] [0, 1, 2, 3] _ (st' := ⟨[(4, sv p1.S)], [.blk 28 [.row 1 (y51.s).length], .row 5 1 (encL (eInt .u8) y51.s), .ghost (gv 0) (.ptr 0 0), .ghost (gv 1) (.undef)]⟩) (tips := []) (by kernel_rfl) all0 (norm ?_)
            obtain rfl := some_eq h
            exact At.ret fun a w hs => ret_ok hR (ρ := [0, 1]) (gs := [.ghost (gv 0) (.ptr 0 0), .ghost (gv 1) (.undef)]) (by kernel_rfl) all0 (by kernel_rfl) rfl rfl a w hs _ (.inl rfl)
          · replace h := cond_f b49 h
            refine At.seq ?_
            refine At.region_end [0, 3, 51] [0, 1, 2, 3, 4] _ (st' := ⟨[(0, .ptr 0 0), (3, .ptr 4 0), (51, bo (p1.Kind == 5))], [.blk 28 [.row 1 (o0.s).length], .row 5 1 (encL (eInt .u8) o0.s), .ghost (gv 0) (.ptr 0 0), .ghost (gv 1) (.row 1 0), .blk 33 (T_retracelaw03_Part.pvs p1)]⟩) (tips := []) (by kernel_rfl) all0 (norm ?_)
            refine At.cond (p1.Kind == 5) (by kernel_rfl) (fun b52 => ?_) (fun b52 => ?_)
            · replace h := cond_t b52 h
              refine At.seq ?_
              obtain ⟨y54, hy54, h⟩ := bind_some h
              refine At.region_end [3] [0, 1, 2, 3, 4] _ (st' := ⟨[(3, .ptr 4 0)], [.blk 28 [.row 1 (y54.s).length], .row 5 1 (encL (eInt .u8) y54.s), .ghost (gv 0) (.ptr 0 0), .ghost (gv 1) (.undef), .blk 33 (T_retracelaw03_Part.pvs p1)]⟩) (tips := [(3, { pc := some { ρ := [0, 1], n0 := 2, res := .tup [], σ' := [.blk 28 [.row 1 (y54.s).length], .row 5 1 (encL (eInt .u8) y54.s)], e := [1, 2, 3] } })]) (by kernel_rfl) (allc (C_wire_Writer_Ints p1.L o0 y54 hy54) all0) (norm ?_)
              refine At.seq ?_
              obtain ⟨y56, hy56, h⟩ := bind_some h
              refine At.region_end [4] [0, 1, 2, 3] _ (st' := ⟨[(4, sv y56)], [.blk 28 [.row 1 (y54.s).length], .row 5 1 (encL (eInt .u8) y54.s), .ghost (gv 0) (.ptr 0 0), .ghost (gv 1) (.undef)]⟩) (tips := [(2, { pc := some { ρ := [], n0 := 0, res := sv y56, σ' := [], e := [] } })]) (by kernel_rfl) (allc (C_retraceref03_Ints p1.L y56 hy56) all0) (norm ?_)
              obtain rfl := some_eq h
              exact At.ret fun a w hs => ret_ok hR (ρ := [0, 1]) (gs := [.ghost (gv 0) (.ptr 0 0), .ghost (gv 1) (.undef)]) (by kernel_rfl) all0 (by kernel_rfl) rfl rfl a w hs _ (.inl rfl)
            · replace h := cond_f b52 h
              refine At.nar [] [0, 1, 2, 3] (st' := ⟨[], [.blk 28 [.row 1 (o0.s).length], .row 5 1 (encL (eInt .u8) o0.s), .ghost (gv 0) (.ptr 0 0), .ghost (gv 1) (.row 1 0)]⟩) (by kernel_rfl) ?_
              refine At.skip (norm ?_)
              refine At.seq ?_
              refine At.region_end [4] [0, 1, 2, 3] _ (st' := ⟨[(4, sv (⟨#[]⟩ : ByteArray))], [.blk 28 [.row 1 (o0.s).length], .row 5 1 (encL (eInt .u8) o0.s), .ghost (gv 0) (.ptr 0 0), .ghost (gv 1) (.row 1 0)]⟩) (tips := []) (by kernel_rfl) all0 (norm ?_)
              refine At.edNar [.hideG 3] [4] [0, 1, 2, 3] (st' := ⟨[(4, sv (⟨#[]⟩ : ByteArray))], [.blk 28 [.row 1 (o0.s).length], .row 5 1 (encL (eInt .u8) o0.s), .ghost (gv 0) (.ptr 0 0), .ghost (gv 1) (.undef)]⟩) (by kernel_rfl) ?_
              obtain rfl := some_eq h
              exact At.ret fun a w hs => ret_ok hR (ρ := [0, 1]) (gs := [.ghost (gv 0) (.ptr 0 0), .ghost (gv 1) (.undef)]) (by kernel_rfl) all0 (by kernel_rfl) rfl rfl a w hs _ (.inl rfl)
set_option maxRecDepth 100000 in
theorem C_wire_Reader_Num_1 (p0 : ByteArray) (o0_0 : Int) (r : Int × Int × Int) (h : F_wire_Reader_Num_1 p0 o0_0 = some r) : FnOK Try.prog 66 [sv p0, .ptr 0 0] [.blk 30 [u64 o0_0]] (.tup [i64 r.1, i64 r.2.1]) [.blk 30 [u64 r.2.2]] [1] := by
  rw [F_wire_Reader_Num_1] at h
  refine FnOK.intro Try.func66 rfl (by kernel_rfl) (by kernel_rfl) fun E gv R hR => ?_
  refine At.seq ?_
  refine At.region_end [0, 1] [0, 1] _ (st' := ⟨[(0, sv p0), (1, .ptr 0 0)], [.blk 30 [u64 o0_0], .ghost (gv 0) (.ptr 0 0)]⟩) (tips := []) (by kernel_rfl) all0 (norm ?_)
  refine At.seq ?_
  obtain ⟨y2, hy2, h⟩ := bind_some h
  refine At.region_end [3, 4] [0, 1] _ (st' := ⟨[(3, i64 y2.2.1), (4, i64 y2.2.2)], [.blk 30 [u64 y2.1], .ghost (gv 0) (.ptr 0 0)]⟩) (tips := [(1, { pc := some { ρ := [], n0 := 0, res := .tup [u64 y2.1, i64 y2.2.1, i64 y2.2.2], σ' := [], e := [] } })]) (by kernel_rfl) (allc (C_vint_Get p0 0 y2 hy2) all0) (norm ?_)
  refine At.seq ?_
  refine At.region_end [3, 4] [0, 1] _ (st' := ⟨[(3, i64 y2.2.1), (4, i64 y2.2.2)], [.blk 30 [u64 y2.1], .ghost (gv 0) (.ptr 0 0)]⟩) (tips := []) (by kernel_rfl) all0 (norm ?_)
  obtain rfl := some_eq h
  exact At.ret fun a w hs => ret_ok hR (ρ := [0]) (gs := [.ghost (gv 0) (.ptr 0 0)]) (by kernel_rfl) all0 (by kernel_rfl) rfl rfl a w hs _ (.inl rfl)
set_option maxRecDepth 100000 in
theorem C_wire_Reader_step_v5 (o0 : T_wire_Reader) (o1_0 : Int) (r : Bool × T_wire_Reader × Int) (h : F_wire_Reader_step_v5 o0 o1_0 = some r) : FnOK Try.prog 64 [.ptr 0 0, .fn (.func 66) [] [.ptr 1 0]] [.blk 93 (T_wire_Reader.pvs o0), .blk 30 [u64 o1_0]] (bo r.1) [.blk 93 (T_wire_Reader.pvs r.2.1), .blk 30 [u64 r.2.2]] [1, 3] := by
  rw [F_wire_Reader_step_v5] at h
  refine FnOK.intro Try.func64 rfl (by kernel_rfl) (by kernel_rfl) fun E gv R hR => ?_
  refine At.seq ?_
  refine At.region_end [0, 1] [0, 1, 2, 3] _ (st' := ⟨[(0, .ptr 0 0), (1, .fn (.func 66) [] [.ptr 1 0])], [.blk 93 (T_wire_Reader.pvs o0), .blk 30 [u64 o1_0], .ghost (gv 0) (.ptr 0 0), .ghost (gv 1) (.ptr 1 0)]⟩) (tips := []) (by kernel_rfl) all0 (norm ?_)
  refine At.seq ?_
  refine At.seq ?_
  refine At.region_end [0, 1, 15] [0, 1, 2, 3] _ (st' := ⟨[(0, .ptr 0 0), (1, .fn (.func 66) [] [.ptr 1 0]), (15, bo (o0.e != 0))], [.blk 93 (T_wire_Reader.pvs o0), .blk 30 [u64 o1_0], .ghost (gv 0) (.ptr 0 0), .ghost (gv 1) (.ptr 1 0)]⟩) (tips := []) (by kernel_rfl) all0 (norm ?_)
  refine At.cond (o0.e != 0) (by kernel_rfl) (fun b2 => ?_) (fun b2 => ?_)
  · replace h := cond_t b2 h
    refine At.seq ?_
    refine At.region_end [4] [0, 1, 2, 3] _ (st' := ⟨[(4, bo false)], [.blk 93 (T_wire_Reader.pvs o0), .blk 30 [u64 o1_0], .ghost (gv 0) (.ptr 0 0), .ghost (gv 1) (.ptr 1 0)]⟩) (tips := []) (by kernel_rfl) all0 (norm ?_)
    obtain rfl := some_eq h
    exact At.ret fun a w hs => ret_ok hR (ρ := [0, 1]) (gs := [.ghost (gv 0) (.ptr 0 0), .ghost (gv 1) (.ptr 1 0)]) (by kernel_rfl) all0 (by kernel_rfl) rfl rfl a w hs _ (.inl rfl)
  · replace h := cond_f b2 h
    refine At.nar [0, 1] [0, 1, 2, 3] (st' := ⟨[(0, .ptr 0 0), (1, .fn (.func 66) [] [.ptr 1 0])], [.blk 93 (T_wire_Reader.pvs o0), .blk 30 [u64 o1_0], .ghost (gv 0) (.ptr 0 0), .ghost (gv 1) (.ptr 1 0)]⟩) (by kernel_rfl) ?_
    refine At.skip (norm ?_)
    refine At.seq ?_
    obtain ⟨y4, hy4, h⟩ := bind_some h
    refine At.region_end [0, 5, 6] [0, 1, 2, 3] _ (st' := ⟨[(0, .ptr 0 0), (5, i64 y4.1), (6, i64 y4.2.1)], [.blk 93 (T_wire_Reader.pvs o0), .blk 30 [u64 y4.2.2], .ghost (gv 0) (.ptr 0 0), .ghost (gv 1) (.ptr 1 0)]⟩) (tips := [(5, { pc := some { ρ := [1], n0 := 1, res := .tup [i64 y4.1, i64 y4.2.1], σ' := [.blk 30 [u64 y4.2.2]], e := [1] } })]) (by kernel_rfl) (allc (C_wire_Reader_Num_1 o0.s o1_0 y4 hy4) all0) (norm ?_)
    refine At.seq ?_
    refine At.seq ?_
    refine At.region_end [0, 5, 6, 26] [0, 1, 2, 3] _ (st' := ⟨[(0, .ptr 0 0), (5, i64 y4.1), (6, i64 y4.2.1), (26, bo (y4.2.1 != 0))], [.blk 93 (T_wire_Reader.pvs o0), .blk 30 [u64 y4.2.2], .ghost (gv 0) (.ptr 0 0), .ghost (gv 1) (.ptr 1 0)]⟩) (tips := []) (by kernel_rfl) all0 (norm ?_)
    refine At.cond (y4.2.1 != 0) (by kernel_rfl) (fun b6 => ?_) (fun b6 => ?_)
    · replace h := cond_t b6 h
      refine At.seq ?_
      refine At.region_end [] [0, 1, 2, 3] _ (st' := ⟨[], [.blk 93 [sv o0.s, i64 y4.2.1], .blk 30 [u64 y4.2.2], .ghost (gv 0) (.ptr 0 0), .ghost (gv 1) (.ptr 1 0)]⟩) (tips := []) (by kernel_rfl) all0 (norm ?_)
      refine At.seq ?_
      refine At.region_end [4] [0, 1, 2, 3] _ (st' := ⟨[(4, bo false)], [.blk 93 [sv o0.s, i64 y4.2.1], .blk 30 [u64 y4.2.2], .ghost (gv 0) (.ptr 0 0), .ghost (gv 1) (.ptr 1 0)]⟩) (tips := []) (by kernel_rfl) all0 (norm ?_)
      obtain rfl := some_eq h
      exact At.ret fun a w hs => ret_ok hR (ρ := [0, 1]) (gs := [.ghost (gv 0) (.ptr 0 0), .ghost (gv 1) (.ptr 1 0)]) (by kernel_rfl) all0 (by kernel_rfl) rfl rfl a w hs _ (.inl rfl)
    · replace h := cond_f b6 h
      refine At.nar [0, 5] [0, 1, 2, 3] (st' := ⟨[(0, .ptr 0 0), (5, i64 y4.1)], [.blk 93 (T_wire_Reader.pvs o0), .blk 30 [u64 y4.2.2], .ghost (gv 0) (.ptr 0 0), .ghost (gv 1) (.ptr 1 0)]⟩) (by kernel_rfl) ?_
      refine At.skip (norm ?_)
      refine At.seq ?_
      obtain ⟨g8, h⟩ := grd_some h
      refine At.region_end [] [0, 1, 2, 3] _ (st' := ⟨[], [.blk 93 [sv (o0.s.extract (Int.toNat y4.1) (Int.toNat (o0.s.size : Int))), i64 o0.e], .blk 30 [u64 y4.2.2], .ghost (gv 0) (.ptr 0 0), .ghost (gv 1) (.ptr 1 0)]⟩) (tips := []) (by kernel_rfl) (allc g8 all0) (norm ?_)
      refine At.seq ?_
      refine At.region_end [4] [0, 1, 2, 3] _ (st' := ⟨[(4, bo true)], [.blk 93 [sv (o0.s.extract (Int.toNat y4.1) (Int.toNat (o0.s.size : Int))), i64 o0.e], .blk 30 [u64 y4.2.2], .ghost (gv 0) (.ptr 0 0), .ghost (gv 1) (.ptr 1 0)]⟩) (tips := []) (by kernel_rfl) all0 (norm ?_)
      obtain rfl := some_eq h
      exact At.ret fun a w hs => ret_ok hR (ρ := [0, 1]) (gs := [.ghost (gv 0) (.ptr 0 0), .ghost (gv 1) (.ptr 1 0)]) (by kernel_rfl) all0 (by kernel_rfl) rfl rfl a w hs _ (.inl rfl)
set_option maxRecDepth 100000 in
theorem C_wire_Reader_Num (o0 : T_wire_Reader) (r : Int × T_wire_Reader) (h : F_wire_Reader_Num o0 = some r) : FnOK Try.prog 24 [.ptr 0 0] [.blk 93 (T_wire_Reader.pvs o0)] (u64 r.1) [.blk 93 (T_wire_Reader.pvs r.2)] [1] := by
  rw [F_wire_Reader_Num] at h
  refine FnOK.intro Try.func24 rfl (by kernel_rfl) (by kernel_rfl) fun E gv R hR => ?_
  refine At.seq ?_
  refine At.region_end [0] [0, 1] _ (st' := ⟨[(0, .ptr 0 0)], [.blk 93 (T_wire_Reader.pvs o0), .ghost (gv 0) (.ptr 0 0)]⟩) (tips := []) (by kernel_rfl) all0 (norm ?_)
  refine At.seq ?_
  refine At.region_end [0, 3] [0, 1, 2] _ (st' := ⟨[(0, .ptr 0 0), (3, .ptr 2 0)], [.blk 93 (T_wire_Reader.pvs o0), .ghost (gv 0) (.ptr 0 0), .blk 30 [u64 0]]⟩) (tips := []) (by kernel_rfl) all0 (norm ?_)
  refine At.seq ?_
  obtain ⟨y2, hy2, h⟩ := bind_some h
  refine At.region_end [3] [0, 1, 2] _ (st' := ⟨[(3, .ptr 2 0)], [.blk 93 (T_wire_Reader.pvs y2.2.1), .ghost (gv 0) (.ptr 0 0), .blk 30 [u64 y2.2.2]]⟩) (tips := [(2, { pc := some { ρ := [0, 2], n0 := 2, res := bo y2.1, σ' := [.blk 93 (T_wire_Reader.pvs y2.2.1), .blk 30 [u64 y2.2.2]], e := [1, 3] } })]) (by kernel_rfl) (allc (C_wire_Reader_step_v5 o0 0 y2 hy2) all0) (norm ?_)
  refine At.seq ?_
  refine At.region_end [2] [0, 1] _ (st' := ⟨[(2, u64 y2.2.2)], [.blk 93 (T_wire_Reader.pvs y2.2.1), .ghost (gv 0) (.ptr 0 0)]⟩) (tips := []) (by kernel_rfl) all0 (norm ?_)
  obtain rfl := some_eq h
  exact At.ret fun a w hs => ret_ok hR (ρ := [0]) (gs := [.ghost (gv 0) (.ptr 0 0)]) (by kernel_rfl) all0 (by kernel_rfl) rfl rfl a w hs _ (.inl rfl)
set_option maxRecDepth 100000 in
theorem C_wire_Reader_Ints (p1 : Int) (o0 : T_wire_Reader) (r : (List Int) × T_wire_Reader) (h : F_wire_Reader_Ints p1 o0 = some r) : FnOK Try.prog 30 [.ptr 0 0, i64 p1] [.blk 93 (T_wire_Reader.pvs o0)] (.row 1 (r.1).length) [.blk 93 (T_wire_Reader.pvs r.2), .row 3 1 (encL (eInt .i64) r.1)] [1] := by
  rw [F_wire_Reader_Ints] at h
  refine FnOK.intro Try.func30 rfl (by kernel_rfl) (by kernel_rfl) fun E gv R hR => ?_
  refine At.seq ?_
  refine At.region_end [0, 1] [0, 1] _ (st' := ⟨[(0, .ptr 0 0), (1, i64 p1)], [.blk 93 (T_wire_Reader.pvs o0), .ghost (gv 0) (.ptr 0 0)]⟩) (tips := []) (by kernel_rfl) all0 (norm ?_)
  refine At.seq ?_
  obtain ⟨y2, hy2, h⟩ := bind_some h
  refine At.region_end [0, 5] [0, 1] _ (st' := ⟨[(0, .ptr 0 0), (5, i64 y2.1)], [.blk 93 (T_wire_Reader.pvs y2.2), .ghost (gv 0) (.ptr 0 0)]⟩) (tips := [(2, { pc := some { ρ := [0], n0 := 1, res := i64 y2.1, σ' := [.blk 93 (T_wire_Reader.pvs y2.2)], e := [1] } })]) (by kernel_rfl) (allc (C_wire_Reader_Upto p1 o0 y2 hy2) all0) (norm ?_)
  refine At.seq ?_
  refine At.region_end [0, 5, 6] [0, 1] _ (st' := ⟨[(0, .ptr 0 0), (5, i64 y2.1), (6, .d (.list true 0 []))], [.blk 93 (T_wire_Reader.pvs y2.2), .ghost (gv 0) (.ptr 0 0)]⟩) (tips := []) (by kernel_rfl) all0 (norm ?_)
  refine At.seq ?_
  refine At.block ?_
  refine At.edNar [.ownS 6 3 1] [0, 5, 6] [0, 1, 2] (st' := ⟨[(0, .ptr 0 0), (5, i64 y2.1), (6, .row 2 ([] : List Int).length)], [.blk 93 (T_wire_Reader.pvs y2.2), .ghost (gv 0) (.ptr 0 0), .row 3 1 (encL (eInt .i64) ([]))]⟩) (by kernel_rfl) ?_
  refine At.loop (fun s : (ByteArray × Int × (List Int)) => F_wire_Reader_Ints_L2 y2 s.1 s.2.1 s.2.2) (fun s : (ByteArray × Int × (List Int)) => ⟨[(0, .ptr 0 0), (5, i64 y2.1), (6, .row 2 (s.2.2).length)], [.blk 93 [sv s.1, i64 s.2.1], .ghost (gv 0) (.ptr 0 0), .row 3 1 (encL (eInt .i64) s.2.2)]⟩) r (y2.2.s, y2.2.e, ([] : (List Int))) h ?_
  rintro ⟨x24, x25, x26⟩ oo27 h f28
  replace h : F_wire_Reader_Ints_L2 y2 x24 x25 x26 = some oo27 := h
  rw [F_wire_Reader_Ints_L2] at h
  refine At.seq ?_
  refine At.seqJ (S := Bool) (fun s => ⟨[(0, .ptr 0 0), (5, i64 y2.1), (6, .row 2 (x26).length), (18, bo s)], [.blk 93 [sv x24, i64 x25], .ghost (gv 0) (.ptr 0 0), .row 3 1 (encL (eInt .i64) x26)]⟩) (fun s => F_wire_Reader_Ints_J1 x24 x25 x26 s = some oo27) ?_ ?_
  · rcases tf (decide (((x26).length : Int) < y2.1)) with b49 | b49
    · replace h := cond_t b49 h
      obtain ⟨y50, hy50, h⟩ := bind_some h
      refine At.region_end [0, 5, 6, 18] [0, 1, 2] _ (st' := ⟨[(0, .ptr 0 0), (5, i64 y2.1), (6, .row 2 (x26).length), (18, bo (y50 == 0))], [.blk 93 [sv x24, i64 x25], .ghost (gv 0) (.ptr 0 0), .row 3 1 (encL (eInt .i64) x26)]⟩) (tips := [(4, { orc := .val (.bool true) }), (6, { pc := some { ρ := [0], n0 := 1, res := i64 y50, σ' := [.blk 93 [sv x24, i64 x25]], e := [1] } })]) (by kernel_rfl) (allc (congrArg D.bool b49) (allc (C_wire_Reader_Err (⟨x24, x25⟩ : T_wire_Reader) y50 hy50) all0)) (fun a w hs => ⟨(y50 == 0), h, hs⟩)
    · replace h := cond_f b49 h
      refine At.region_end [0, 5, 6, 18] [0, 1, 2] _ (st' := ⟨[(0, .ptr 0 0), (5, i64 y2.1), (6, .row 2 (x26).length), (18, bo false)], [.blk 93 [sv x24, i64 x25], .ghost (gv 0) (.ptr 0 0), .row 3 1 (encL (eInt .i64) x26)]⟩) (tips := [(4, { orc := .val (.bool false) })]) (by kernel_rfl) (allc (congrArg D.bool b49) all0) (fun a w hs => ⟨false, h, hs⟩)
  · intro x37 h
    replace h : F_wire_Reader_Ints_J1 x24 x25 x26 x37 = some oo27 := h
    rw [F_wire_Reader_Ints_J1] at h
    refine At.cond x37 (by kernel_rfl) (fun b38 => ?_) (fun b38 => ?_)
    · replace h := cond_t b38 h
      refine At.nar [0, 5, 6] [0, 1, 2] (st' := ⟨[(0, .ptr 0 0), (5, i64 y2.1), (6, .row 2 (x26).length)], [.blk 93 [sv x24, i64 x25], .ghost (gv 0) (.ptr 0 0), .row 3 1 (encL (eInt .i64) x26)]⟩) (by kernel_rfl) ?_
      refine At.skip (norm ?_)
      refine At.block ?_
      obtain ⟨y39, hy39, h⟩ := bind_some h
      obtain ⟨g40, h⟩ := grd_some h
      refine At.region_end [0, 5, 6] [0, 1, 2] _ (st' := ⟨[(0, .ptr 0 0), (5, i64 y2.1), (6, .row 2 ((x26 ++ [y39.1])).length)], [.blk 93 (T_wire_Reader.pvs y39.2), .ghost (gv 0) (.ptr 0 0), .row 3 1 (encL (eInt .i64) (x26 ++ [y39.1]))]⟩) (tips := [(2, { pc := some { ρ := [0], n0 := 1, res := i64 y39.1, σ' := [.blk 93 (T_wire_Reader.pvs y39.2)], e := [1] } }), (4, { form := some ((x26 ++ [y39.1]).length, encL (eInt .i64) (x26 ++ [y39.1])) })]) (by kernel_rfl) (allc (C_wire_Reader_Int (⟨x24, x25⟩ : T_wire_Reader) y39 hy39) (allc (len_app x26 ([y39.1])) (allc (encL_app (eInt .i64) x26 ([y39.1])) (allc (app_ok (he_int .i64) (by decide) g40) (allc (encL_len (he_int .i64) ([y39.1])) all0))))) (fun a w hs => ⟨_, (some_eq h).symm, hs⟩)
    · replace h := cond_f b38 h
      refine At.nar [0, 6] [0, 1, 2] (st' := ⟨[(0, .ptr 0 0), (6, .row 2 (x26).length)], [.blk 93 [sv x24, i64 x25], .ghost (gv 0) (.ptr 0 0), .row 3 1 (encL (eInt .i64) x26)]⟩) (by kernel_rfl) ?_
      obtain ⟨r41, h, e42⟩ := map_inr h
      rw [f28 _ e42] at h
      refine At.exit (norm ?_)
      refine At.seq ?_
      refine At.seq ?_
      obtain ⟨y47, hy47, h⟩ := bind_some h
      refine At.region_end [6, 26] [0, 1, 2] _ (st' := ⟨[(6, .row 2 (x26).length), (26, bo (y47 != 0))], [.blk 93 [sv x24, i64 x25], .ghost (gv 0) (.ptr 0 0), .row 3 1 (encL (eInt .i64) x26)]⟩) (tips := [(1, { pc := some { ρ := [0], n0 := 1, res := i64 y47, σ' := [.blk 93 [sv x24, i64 x25]], e := [1] } })]) (by kernel_rfl) (allc (C_wire_Reader_Err (⟨x24, x25⟩ : T_wire_Reader) y47 hy47) all0) (norm ?_)
      refine At.cond (y47 != 0) (by kernel_rfl) (fun b48 => ?_) (fun b48 => ?_)
      · replace h := cond_t b48 h
        refine At.seq ?_
        refine At.region_end [4] [0, 1] _ (st' := ⟨[(4, .d (.list true 0 []))], [.blk 93 [sv x24, i64 x25], .ghost (gv 0) (.ptr 0 0)]⟩) (tips := []) (by kernel_rfl) all0 (norm ?_)
        refine At.edNar [.ownS 4 3 1] [4] [0, 1, 2] (st' := ⟨[(4, .row 2 ([] : List Int).length)], [.blk 93 [sv x24, i64 x25], .ghost (gv 0) (.ptr 0 0), .row 3 1 (encL (eInt .i64) ([]))]⟩) (by kernel_rfl) ?_
        obtain rfl := some_eq h
        exact At.ret fun a w hs => ret_ok hR (ρ := [0, 2]) (gs := [.ghost (gv 0) (.ptr 0 0)]) (by kernel_rfl) all0 (by kernel_rfl) rfl rfl a w hs _ (.inl rfl)
      · replace h := cond_f b48 h
        refine At.nar [6] [0, 1, 2] (st' := ⟨[(6, .row 2 (x26).length)], [.blk 93 [sv x24, i64 x25], .ghost (gv 0) (.ptr 0 0), .row 3 1 (encL (eInt .i64) x26)]⟩) (by kernel_rfl) ?_
        refine At.skip (norm ?_)
        refine At.seq ?_
        refine At.region_end [4] [0, 1, 2] _ (st' := ⟨[(4, .row 2 (x26).length)], [.blk 93 [sv x24, i64 x25], .ghost (gv 0) (.ptr 0 0), .row 3 1 (encL (eInt .i64) x26)]⟩) (tips := []) (by kernel_rfl) all0 (norm ?_)
        obtain rfl := some_eq h
        exact At.ret fun a w hs => ret_ok hR (ρ := [0, 2]) (gs := [.ghost (gv 0) (.ptr 0 0)]) (by kernel_rfl) all0 (by kernel_rfl) rfl rfl a w hs _ (.inl rfl)
set_option maxRecDepth 100000 in
theorem C_retraceref03_Same (p1 : (List Int)) (o0 : (List Int)) (r : Bool) (h : F_retraceref03_Same p1 o0 = some r) : FnOK Try.prog 29 [.row 0 (o0).length, lv (eInt .i64) p1] [.row 3 1 (encL (eInt .i64) o0)] (bo r) [.row 3 1 (encL (eInt .i64) o0)] [0] := by
  rw [F_retraceref03_Same] at h
  refine FnOK.intro Try.func29 rfl (by kernel_rfl) (by kernel_rfl) fun E gv R hR => ?_
  refine At.seq ?_
  refine At.region_end [0, 1] [0, 1] _ (st' := ⟨[(0, .row 0 (o0).length), (1, lv (eInt .i64) p1)], [.row 3 1 (encL (eInt .i64) o0), .ghost (gv 0) (.row 0 0)]⟩) (tips := []) (by kernel_rfl) all0 (norm ?_)
  refine At.seq ?_
  refine At.seq ?_
  refine At.region_end [0, 1, 10] [0, 1] _ (st' := ⟨[(0, .row 0 (o0).length), (1, lv (eInt .i64) p1), (10, bo (((o0).length : Int) != ((p1).length : Int)))], [.row 3 1 (encL (eInt .i64) o0), .ghost (gv 0) (.row 0 0)]⟩) (tips := []) (by kernel_rfl) all0 (norm ?_)
  refine At.cond (((o0).length : Int) != ((p1).length : Int)) (by kernel_rfl) (fun b2 => ?_) (fun b2 => ?_)
  · replace h := cond_t b2 h
    refine At.seq ?_
    refine At.region_end [4] [0, 1] _ (st' := ⟨[(4, bo false)], [.row 3 1 (encL (eInt .i64) o0), .ghost (gv 0) (.row 0 0)]⟩) (tips := []) (by kernel_rfl) all0 (norm ?_)
    obtain rfl := some_eq h
    exact At.ret fun a w hs => ret_ok hR (ρ := [0]) (gs := [.ghost (gv 0) (.row 0 0)]) (by kernel_rfl) all0 (by kernel_rfl) rfl rfl a w hs _ (.inl rfl)
  · replace h := cond_f b2 h
    refine At.nar [0, 1] [0, 1] (st' := ⟨[(0, .row 0 (o0).length), (1, lv (eInt .i64) p1)], [.row 3 1 (encL (eInt .i64) o0), .ghost (gv 0) (.row 0 0)]⟩) (by kernel_rfl) ?_
    refine At.skip (norm ?_)
    refine At.seq ?_
    refine At.seq ?_
    refine At.region_end [0, 1, 5] [0, 1] _ (st' := ⟨[(0, .row 0 (o0).length), (1, lv (eInt .i64) p1), (5, i64 0)], [.row 3 1 (encL (eInt .i64) o0), .ghost (gv 0) (.row 0 0)]⟩) (tips := []) (by kernel_rfl) all0 (norm ?_)
    refine At.block ?_
    refine At.loop (fun s : (Int) => F_retraceref03_Same_L1 p1 o0 s) (fun s : (Int) => ⟨[(0, .row 0 (o0).length), (1, lv (eInt .i64) p1), (5, i64 s)], [.row 3 1 (encL (eInt .i64) o0), .ghost (gv 0) (.row 0 0)]⟩) r 0 h ?_
    intro x22 oo23 h f24
    replace h : F_retraceref03_Same_L1 p1 o0 x22 = some oo23 := h
    rw [F_retraceref03_Same_L1] at h
    refine At.seq ?_
    refine At.seq ?_
    refine At.region_end [0, 1, 5, 14] [0, 1] _ (st' := ⟨[(0, .row 0 (o0).length), (1, lv (eInt .i64) p1), (5, i64 x22), (14, bo (decide (x22 < ((o0).length : Int))))], [.row 3 1 (encL (eInt .i64) o0), .ghost (gv 0) (.row 0 0)]⟩) (tips := []) (by kernel_rfl) all0 (norm ?_)
    refine At.cond (decide (x22 < ((o0).length : Int))) (by kernel_rfl) (fun b26 => ?_) (fun b26 => ?_)
    · replace h := cond_t b26 h
      refine At.nar [0, 1, 5] [0, 1] (st' := ⟨[(0, .row 0 (o0).length), (1, lv (eInt .i64) p1), (5, i64 x22)], [.row 3 1 (encL (eInt .i64) o0), .ghost (gv 0) (.row 0 0)]⟩) (by kernel_rfl) ?_
      refine At.skip (norm ?_)
      refine At.seq ?_
      refine At.block ?_
      refine At.seq ?_
      obtain ⟨y34, hy34, h⟩ := bind_some h
      obtain ⟨y35, hy35, h⟩ := bind_some h
      refine At.draw_end mixedOrd 0 [0, 1, 5, 25] [0, 1] _ (st' := ⟨[(0, .row 0 (o0).length), (1, lv (eInt .i64) p1), (5, i64 x22), (25, bo (y34 != y35))], [.row 3 1 (encL (eInt .i64) o0), .ghost (gv 0) (.row 0 0)]⟩) (tips := [(0, { r := 2 }), (2, { r := 2 }), (3, { tip := { orc := .val (.int .i64 y34) }, T := [0], r := 2 }), (6, { tip := { orc := .cells ((eInt .i64) y35) } })]) (by kernel_rfl) (allc ((rAt_of (he_int .i64) (d := .int .i64 y34) hy34 rfl).1) (allc ((rAt_of (he_int .i64) (d := .int .i64 y34) hy34 rfl).2) (allc (elemAt_of (he_int .i64) hy35) all0))) (norm ?_)
      refine At.cond (y34 != y35) (by kernel_rfl) (fun b36 => ?_) (fun b36 => ?_)
      · replace h := cond_t b36 h
        refine At.seq ?_
        refine At.region_end [4] [0, 1] _ (st' := ⟨[(4, bo false)], [.row 3 1 (encL (eInt .i64) o0), .ghost (gv 0) (.row 0 0)]⟩) (tips := []) (by kernel_rfl) all0 (norm ?_)
        obtain ⟨r37, h, e38⟩ := map_inr h
        rw [f24 _ e38] at h
        obtain rfl := some_eq h
        exact At.ret fun a w hs => ret_ok hR (ρ := [0]) (gs := [.ghost (gv 0) (.row 0 0)]) (by kernel_rfl) all0 (by kernel_rfl) rfl rfl a w hs _ (.inl rfl)
      · replace h := cond_f b36 h
        refine At.nar [0, 1, 5] [0, 1] (st' := ⟨[(0, .row 0 (o0).length), (1, lv (eInt .i64) p1), (5, i64 x22)], [.row 3 1 (encL (eInt .i64) o0), .ghost (gv 0) (.row 0 0)]⟩) (by kernel_rfl) ?_
        refine At.skip (norm ?_)
        refine At.region_end [0, 1, 5] [0, 1] _ (st' := ⟨[(0, .row 0 (o0).length), (1, lv (eInt .i64) p1), (5, i64 (w64 (x22 + 1)))], [.row 3 1 (encL (eInt .i64) o0), .ghost (gv 0) (.row 0 0)]⟩) (tips := []) (by kernel_rfl) all0 (fun a w hs => ⟨_, (some_eq h).symm, hs⟩)
    · replace h := cond_f b26 h
      refine At.nar [] [0, 1] (st' := ⟨[], [.row 3 1 (encL (eInt .i64) o0), .ghost (gv 0) (.row 0 0)]⟩) (by kernel_rfl) ?_
      obtain ⟨r39, h, e40⟩ := map_inr h
      rw [f24 _ e40] at h
      refine At.exit (norm ?_)
      refine At.seq ?_
      refine At.region_end [4] [0, 1] _ (st' := ⟨[(4, bo true)], [.row 3 1 (encL (eInt .i64) o0), .ghost (gv 0) (.row 0 0)]⟩) (tips := []) (by kernel_rfl) all0 (norm ?_)
      obtain rfl := some_eq h
      exact At.ret fun a w hs => ret_ok hR (ρ := [0]) (gs := [.ghost (gv 0) (.row 0 0)]) (by kernel_rfl) all0 (by kernel_rfl) rfl rfl a w hs _ (.inl rfl)
set_option maxRecDepth 100000 in
set_option maxHeartbeats 4000000 in
theorem C_retracelaw03_WireBack (p0 : (List T_retracelaw03_Part)) (p1 : ByteArray) (r : Bool) (h : F_retracelaw03_WireBack p0 p1 = some r) : FnOK Try.prog 6 [lv T_retracelaw03_Part.enc p0, sv p1] [] (bo r) [] [] := by
  rw [F_retracelaw03_WireBack] at h
  refine FnOK.intro Try.func6 rfl (by as_aux_lemma => kernel_rfl) (by as_aux_lemma => kernel_rfl) fun E gv R hR => ?_
  refine At.seq ?_
  refine At.region_end [0, 1] [] _ (st' := ⟨[(0, lv T_retracelaw03_Part.enc p0), (1, sv p1)], []⟩) (tips := []) (by as_aux_lemma => kernel_rfl) all0 (norm ?_)
  refine At.seq ?_
  refine At.seqJ (S := Bool) (fun s => ⟨[(0, lv T_retracelaw03_Part.enc p0), (1, sv p1), (16, bo s)], []⟩) (fun s => F_retracelaw03_WireBack_J1 p0 p1 s = some r) ?_ ?_
  · obtain ⟨y366, hy366, h⟩ := bind_some h
    rcases tf y366 with b367 | b367
    · replace h := cond_t b367 h
      refine At.region_end [0, 1, 16] [] _ (st' := ⟨[(0, lv T_retracelaw03_Part.enc p0), (1, sv p1), (16, bo true)], []⟩) (tips := [(1, { pc := some { ρ := [], n0 := 0, res := bo y366, σ' := [], e := [] } }), (2, { orc := .val (.bool true) })]) (by as_aux_lemma => kernel_rfl) (allc (C_retracelaw03_long p0 y366 hy366) (allc (congrArg D.bool b367) all0)) (fun a w hs => ⟨true, h, hs⟩)
    · replace h := cond_f b367 h
      refine At.region_end [0, 1, 16] [] _ (st' := ⟨[(0, lv T_retracelaw03_Part.enc p0), (1, sv p1), (16, bo (decide (200 < (p1.size : Int))))], []⟩) (tips := [(1, { pc := some { ρ := [], n0 := 0, res := bo y366, σ' := [], e := [] } }), (2, { orc := .val (.bool false) })]) (by as_aux_lemma => kernel_rfl) (allc (C_retracelaw03_long p0 y366 hy366) (allc (congrArg D.bool b367) all0)) (fun a w hs => ⟨(decide (200 < (p1.size : Int))), h, hs⟩)
  · intro x11 h
    replace h : F_retracelaw03_WireBack_J1 p0 p1 x11 = some r := h
    rw [F_retracelaw03_WireBack_J1] at h
    refine At.cond x11 (by as_aux_lemma => kernel_rfl) (fun b12 => ?_) (fun b12 => ?_)
    · replace h := cond_t b12 h
      refine At.seq ?_
      obtain ⟨y14, hy14, h⟩ := bind_some h
      refine At.region_end [4] [] _ (st' := ⟨[(4, bo y14)], []⟩) (tips := [(0, { pc := some { ρ := [], n0 := 0, res := bo y14, σ' := [], e := [] } })]) (by as_aux_lemma => kernel_rfl) (allc (C_retracelaw03_live y14 hy14) all0) (norm ?_)
      obtain rfl := some_eq h
      exact At.ret fun a w hs => ret_ok hR (ρ := []) (gs := []) (by as_aux_lemma => kernel_rfl) all0 (by as_aux_lemma => kernel_rfl) rfl rfl a w hs _ (.inl rfl)
    · replace h := cond_f b12 h
      refine At.nar [0, 1] [] (st' := ⟨[(0, lv T_retracelaw03_Part.enc p0), (1, sv p1)], []⟩) (by as_aux_lemma => kernel_rfl) ?_
      refine At.skip (norm ?_)
      refine At.seq ?_
      refine At.region_end [0, 1, 5] [0] _ (st' := ⟨[(0, lv T_retracelaw03_Part.enc p0), (1, sv p1), (5, .ptr 0 0)], [.blk 28 [.d (.list true 0 [])]]⟩) (tips := []) (by as_aux_lemma => kernel_rfl) all0 (norm ?_)
      refine At.seq ?_
      refine At.seq ?_
      refine At.region_end [0, 1, 5, 6] [0] _ (st' := ⟨[(0, lv T_retracelaw03_Part.enc p0), (1, sv p1), (5, .ptr 0 0), (6, i64 0)], [.blk 28 [.d (.list true 0 [])]]⟩) (tips := []) (by as_aux_lemma => kernel_rfl) all0 (norm ?_)
      refine At.block ?_
      refine At.edNar [.ownO 0 0 5 1] [0, 1, 5, 6] [0, 1] (st' := ⟨[(0, lv T_retracelaw03_Part.enc p0), (1, sv p1), (5, .ptr 0 0), (6, i64 0)], [.blk 28 [.row 1 ([] : List Int).length], .row 5 1 (encL (eInt .u8) ([]))]⟩) (by as_aux_lemma => kernel_rfl) ?_
      refine At.loop (fun s : (Int × (List Int)) => F_retracelaw03_WireBack_L5 p0 p1 s.1 s.2) (fun s : (Int × (List Int)) => ⟨[(0, lv T_retracelaw03_Part.enc p0), (1, sv p1), (5, .ptr 0 0), (6, i64 s.1)], [.blk 28 [.row 1 (s.2).length], .row 5 1 (encL (eInt .u8) s.2)]⟩) r (0, ([] : (List Int))) h ?_
      rintro ⟨x27, x28⟩ oo29 h f30
      replace h : F_retracelaw03_WireBack_L5 p0 p1 x27 x28 = some oo29 := h
      rw [F_retracelaw03_WireBack_L5] at h
      refine At.seq ?_
      refine At.seq ?_
      refine At.region_end [0, 1, 5, 6, 23] [0, 1] _ (st' := ⟨[(0, lv T_retracelaw03_Part.enc p0), (1, sv p1), (5, .ptr 0 0), (6, i64 x27), (23, bo (decide (x27 < ((p0).length : Int))))], [.blk 28 [.row 1 (x28).length], .row 5 1 (encL (eInt .u8) x28)]⟩) (tips := []) (by as_aux_lemma => kernel_rfl) all0 (norm ?_)
      refine At.cond (decide (x27 < ((p0).length : Int))) (by as_aux_lemma => kernel_rfl) (fun b32 => ?_) (fun b32 => ?_)
      · replace h := cond_t b32 h
        refine At.nar [0, 1, 5, 6] [0, 1] (st' := ⟨[(0, lv T_retracelaw03_Part.enc p0), (1, sv p1), (5, .ptr 0 0), (6, i64 x27)], [.blk 28 [.row 1 (x28).length], .row 5 1 (encL (eInt .u8) x28)]⟩) (by as_aux_lemma => kernel_rfl) ?_
        refine At.skip (norm ?_)
        refine At.seq ?_
        refine At.block ?_
        obtain ⟨y35, hy35, h⟩ := bind_some h
        obtain ⟨y36, hy36, h⟩ := bind_some h
        refine At.region_end [0, 1, 5, 6] [0, 1] _ (st' := ⟨[(0, lv T_retracelaw03_Part.enc p0), (1, sv p1), (5, .ptr 0 0), (6, i64 x27)], [.blk 28 [.row 1 (y36.2.s).length], .row 5 1 (encL (eInt .u8) y36.2.s)]⟩) (tips := [(3, { orc := .cells (T_retracelaw03_Part.enc y35) }), (5, { pc := some { ρ := [0, 1], n0 := 2, res := sv y36.1, σ' := [.blk 28 [.row 1 (y36.2.s).length], .row 5 1 (encL (eInt .u8) y36.2.s)], e := [1, 2, 3] } })]) (by as_aux_lemma => kernel_rfl) (allc (elemAt_of T_retracelaw03_Part.enc_len hy35) (allc (C_retracelaw03_write y35 (⟨x28⟩ : T_wire_Writer) y36 hy36) all0)) (norm ?_)
        refine At.region_end [0, 1, 5, 6] [0, 1] _ (st' := ⟨[(0, lv T_retracelaw03_Part.enc p0), (1, sv p1), (5, .ptr 0 0), (6, i64 (w64 (x27 + 1)))], [.blk 28 [.row 1 (y36.2.s).length], .row 5 1 (encL (eInt .u8) y36.2.s)]⟩) (tips := []) (by as_aux_lemma => kernel_rfl) all0 (fun a w hs => ⟨_, (some_eq h).symm, hs⟩)
      · replace h := cond_f b32 h
        refine At.nar [0, 1, 5] [0, 1] (st' := ⟨[(0, lv T_retracelaw03_Part.enc p0), (1, sv p1), (5, .ptr 0 0)], [.blk 28 [.row 1 (x28).length], .row 5 1 (encL (eInt .u8) x28)]⟩) (by as_aux_lemma => kernel_rfl) ?_
        obtain ⟨r37, h, e38⟩ := map_inr h
        rw [f30 _ e38] at h
        refine At.exit (norm ?_)
        refine At.seq ?_
        obtain ⟨y42, hy42, h⟩ := bind_some h
        obtain ⟨g43, h⟩ := grd_some h
        obtain ⟨y44, hy44, h⟩ := bind_some h
        refine At.region_end [0, 1, 7] [2] _ (st' := ⟨[(0, lv T_retracelaw03_Part.enc p0), (1, sv p1), (7, .ptr 0 0)], [.blk 93 (T_wire_Reader.pvs y44)]⟩) (tips := [(1, { pc := some { ρ := [0, 1], n0 := 2, res := sv y42, σ' := [.blk 28 [.row 1 (x28).length], .row 5 1 (encL (eInt .u8) x28)], e := [1, 2] } }), (4, { pc := some { ρ := [2], n0 := 0, res := .ptr 0 0, σ' := [.blk 93 (T_wire_Reader.pvs y44)], e := [] } })]) (by as_aux_lemma => kernel_rfl) (allc (C_wire_Writer_Bytes (⟨x28⟩ : T_wire_Writer) y42 hy42) (allc g43 (allc (C_wire_Open (y42 ++ p1) y44 hy44) all0))) (norm ?_)
        refine At.seq ?_
        refine At.seq ?_
        refine At.region_end [0, 1, 7, 8] [0] _ (st' := ⟨[(0, lv T_retracelaw03_Part.enc p0), (1, sv p1), (7, .ptr 0 0), (8, i64 0)], [.blk 93 (T_wire_Reader.pvs y44)]⟩) (tips := []) (by as_aux_lemma => kernel_rfl) all0 (norm ?_)
        refine At.block ?_
        refine At.loop (fun s : (Int × ByteArray × Int) => F_retracelaw03_WireBack_L4 p0 p1 s.1 s.2.1 s.2.2) (fun s : (Int × ByteArray × Int) => ⟨[(0, lv T_retracelaw03_Part.enc p0), (1, sv p1), (7, .ptr 0 0), (8, i64 s.1)], [.blk 93 [sv s.2.1, i64 s.2.2]]⟩) r (0, y44.s, y44.e) h ?_
        rintro ⟨x200, x201, x202⟩ oo203 h f204
        replace h : F_retracelaw03_WireBack_L4 p0 p1 x200 x201 x202 = some oo203 := h
        rw [F_retracelaw03_WireBack_L4] at h
        refine At.seq ?_
        refine At.seq ?_
        refine At.region_end [0, 1, 7, 8, 40] [0] _ (st' := ⟨[(0, lv T_retracelaw03_Part.enc p0), (1, sv p1), (7, .ptr 0 0), (8, i64 x200), (40, bo (decide (x200 < ((p0).length : Int))))], [.blk 93 [sv x201, i64 x202]]⟩) (tips := []) (by as_aux_lemma => kernel_rfl) all0 (norm ?_)
        refine At.cond (decide (x200 < ((p0).length : Int))) (by as_aux_lemma => kernel_rfl) (fun b206 => ?_) (fun b206 => ?_)
        · replace h := cond_t b206 h
          refine At.nar [0, 1, 7, 8] [0] (st' := ⟨[(0, lv T_retracelaw03_Part.enc p0), (1, sv p1), (7, .ptr 0 0), (8, i64 x200)], [.blk 93 [sv x201, i64 x202]]⟩) (by as_aux_lemma => kernel_rfl) ?_
          refine At.skip (norm ?_)
          refine At.seq ?_
          refine At.block ?_
          refine At.seq ?_
          obtain ⟨y280, hy280, h⟩ := bind_some h
          refine At.region_end [0, 1, 7, 8, 9] [0, 1] _ (st' := ⟨[(0, lv T_retracelaw03_Part.enc p0), (1, sv p1), (7, .ptr 0 0), (8, i64 x200), (9, .ptr 1 0)], [.blk 93 [sv x201, i64 x202], .blk 33 (T_retracelaw03_Part.pvs y280)]⟩) (tips := [(2, { orc := .cells (T_retracelaw03_Part.enc y280) })]) (by as_aux_lemma => kernel_rfl) (allc (elemAt_of T_retracelaw03_Part.enc_len hy280) all0) (norm ?_)
          refine At.seqJ (S := Bool × ByteArray × Int) (fun s => ⟨[(0, lv T_retracelaw03_Part.enc p0), (1, sv p1), (7, .ptr 0 0), (8, i64 x200), (126, bo s.1)], [.blk 93 [sv s.2.1, i64 s.2.2]]⟩) (fun s => F_retracelaw03_WireBack_J2 x200 s.1 s.2.1 s.2.2 = some oo203) ?_ ?_
          · rcases tf (y280.Kind == 0) with b320 | b320
            · replace h := cond_t b320 h
              obtain ⟨y321, hy321, h⟩ := bind_some h
              rcases tf (y321.1 != y280.U) with b322 | b322
              · replace h := cond_t b322 h
                refine At.draw_end mixedOrd 0 [0, 1, 7, 8, 126] [0] _ (st' := ⟨[(0, lv T_retracelaw03_Part.enc p0), (1, sv p1), (7, .ptr 0 0), (8, i64 x200), (126, bo true)], [.blk 93 (T_wire_Reader.pvs y321.2)]⟩) (tips := [(0, { r := 2 }), (1, { T := [1], r := 2 }), (3, { tip := { orc := .val (.bool true) } }), (4, { r := 2 }), (5, { tip := { pc := some { ρ := [0], n0 := 1, res := u64 y321.1, σ' := [.blk 93 (T_wire_Reader.pvs y321.2)], e := [1] } }, T := [0], r := 2 }), (6, { r := 2 }), (7, { T := [1], r := 2 }), (10, { tip := { orc := .val (.bool true) } }), (11, { r := 2 }), (15, { r := 2 }), (16, { r := 2 }), (17, { r := 2 }), (23, { r := 2 }), (27, { r := 2 }), (28, { r := 2 }), (29, { r := 2 }), (35, { r := 2 }), (39, { r := 2 }), (40, { r := 2 }), (42, { r := 2 }), (43, { r := 2 }), (44, { r := 2 }), (50, { r := 2 }), (54, { r := 2 }), (55, { r := 2 }), (57, { r := 2 }), (58, { r := 2 }), (59, { r := 2 }), (65, { r := 2 }), (69, { r := 2 }), (70, { r := 2 }), (72, { r := 2 }), (73, { r := 2 }), (74, { r := 2 }), (76, { r := 2 })]) (by as_aux_lemma => kernel_rfl) (allc (congrArg D.bool b320) (allc (C_wire_Reader_Num (⟨x201, x202⟩ : T_wire_Reader) y321 hy321) (allc (congrArg D.bool b322) all0))) (fun a w hs => ⟨(true, y321.2.s, y321.2.e), h, hs⟩)
              · replace h := cond_f b322 h
                rcases tf (y280.Kind == 1) with b323 | b323
                · replace h := cond_t b323 h
                  cases h
                · replace h := cond_f b323 h
                  rcases tf (y280.Kind == 2) with b324 | b324
                  · replace h := cond_t b324 h
                    cases h
                  · replace h := cond_f b324 h
                    rcases tf (y280.Kind == 3) with b325 | b325
                    · replace h := cond_t b325 h
                      cases h
                    · replace h := cond_f b325 h
                      rcases tf (y280.Kind == 4) with b326 | b326
                      · replace h := cond_t b326 h
                        cases h
                      · replace h := cond_f b326 h
                        rcases tf (y280.Kind == 5) with b327 | b327
                        · replace h := cond_t b327 h
                          cases h
                        · replace h := cond_f b327 h
                          refine At.draw_end mixedOrd 0 [0, 1, 7, 8, 126] [0] _ (st' := ⟨[(0, lv T_retracelaw03_Part.enc p0), (1, sv p1), (7, .ptr 0 0), (8, i64 x200), (126, bo false)], [.blk 93 (T_wire_Reader.pvs y321.2)]⟩) (tips := [(0, { r := 2 }), (1, { T := [1], r := 2 }), (3, { tip := { orc := .val (.bool true) } }), (4, { r := 2 }), (5, { tip := { pc := some { ρ := [0], n0 := 1, res := u64 y321.1, σ' := [.blk 93 (T_wire_Reader.pvs y321.2)], e := [1] } }, T := [0], r := 2 }), (6, { r := 2 }), (7, { T := [1], r := 2 }), (10, { tip := { orc := .val (.bool false) } }), (11, { r := 2 }), (12, { T := [1], r := 2 }), (14, { tip := { orc := .val (.bool false) } }), (15, { r := 2 }), (16, { r := 2 }), (17, { r := 2 }), (23, { r := 2 }), (24, { T := [1], r := 2 }), (26, { tip := { orc := .val (.bool false) } }), (27, { r := 2 }), (28, { r := 2 }), (29, { r := 2 }), (35, { r := 2 }), (36, { T := [1], r := 2 }), (38, { tip := { orc := .val (.bool false) } }), (39, { r := 2 }), (40, { r := 2 }), (42, { r := 2 }), (43, { r := 2 }), (44, { r := 2 }), (50, { r := 2 }), (51, { T := [1], r := 2 }), (53, { tip := { orc := .val (.bool false) } }), (54, { r := 2 }), (55, { r := 2 }), (57, { r := 2 }), (58, { r := 2 }), (59, { r := 2 }), (65, { r := 2 }), (66, { T := [1], r := 2 }), (68, { tip := { orc := .val (.bool false) } }), (69, { r := 2 }), (70, { r := 2 }), (72, { r := 2 }), (73, { r := 2 }), (74, { r := 2 }), (76, { r := 2 })]) (by as_aux_lemma => kernel_rfl) (allc (congrArg D.bool b320) (allc (C_wire_Reader_Num (⟨x201, x202⟩ : T_wire_Reader) y321 hy321) (allc (congrArg D.bool b322) (allc (congrArg D.bool b323) (allc (congrArg D.bool b324) (allc (congrArg D.bool b325) (allc (congrArg D.bool b326) (allc (congrArg D.bool b327) all0)))))))) (fun a w hs => ⟨(false, y321.2.s, y321.2.e), h, hs⟩)
            · replace h := cond_f b320 h
              rcases tf (y280.Kind == 1) with b328 | b328
              · replace h := cond_t b328 h
                obtain ⟨y329, hy329, h⟩ := bind_some h
                rcases tf (y329.1 != y280.N) with b330 | b330
                · replace h := cond_t b330 h
                  refine At.draw_end mixedOrd 0 [0, 1, 7, 8, 126] [0] _ (st' := ⟨[(0, lv T_retracelaw03_Part.enc p0), (1, sv p1), (7, .ptr 0 0), (8, i64 x200), (126, bo true)], [.blk 93 (T_wire_Reader.pvs y329.2)]⟩) (tips := [(0, { r := 2 }), (1, { T := [1], r := 2 }), (3, { tip := { orc := .val (.bool false) } }), (4, { r := 2 }), (5, { r := 2 }), (6, { r := 2 }), (11, { r := 2 }), (12, { T := [1], r := 2 }), (14, { tip := { orc := .val (.bool true) } }), (15, { r := 2 }), (16, { tip := { pc := some { ρ := [0], n0 := 1, res := i64 y329.1, σ' := [.blk 93 (T_wire_Reader.pvs y329.2)], e := [1] } }, T := [0], r := 2 }), (17, { r := 2 }), (18, { T := [1], r := 2 }), (22, { tip := { orc := .val (.bool true) } }), (23, { r := 2 }), (27, { r := 2 }), (28, { r := 2 }), (29, { r := 2 }), (35, { r := 2 }), (39, { r := 2 }), (40, { r := 2 }), (42, { r := 2 }), (43, { r := 2 }), (44, { r := 2 }), (50, { r := 2 }), (54, { r := 2 }), (55, { r := 2 }), (57, { r := 2 }), (58, { r := 2 }), (59, { r := 2 }), (65, { r := 2 }), (69, { r := 2 }), (70, { r := 2 }), (72, { r := 2 }), (73, { r := 2 }), (74, { r := 2 }), (76, { r := 2 })]) (by as_aux_lemma => kernel_rfl) (allc (congrArg D.bool b320) (allc (congrArg D.bool b328) (allc (C_wire_Reader_Int (⟨x201, x202⟩ : T_wire_Reader) y329 hy329) (allc (congrArg D.bool b330) all0)))) (fun a w hs => ⟨(true, y329.2.s, y329.2.e), h, hs⟩)
                · replace h := cond_f b330 h
                  rcases tf (y280.Kind == 2) with b331 | b331
                  · replace h := cond_t b331 h
                    cases h
                  · replace h := cond_f b331 h
                    rcases tf (y280.Kind == 3) with b332 | b332
                    · replace h := cond_t b332 h
                      cases h
                    · replace h := cond_f b332 h
                      rcases tf (y280.Kind == 4) with b333 | b333
                      · replace h := cond_t b333 h
                        cases h
                      · replace h := cond_f b333 h
                        rcases tf (y280.Kind == 5) with b334 | b334
                        · replace h := cond_t b334 h
                          cases h
                        · replace h := cond_f b334 h
                          refine At.draw_end mixedOrd 0 [0, 1, 7, 8, 126] [0] _ (st' := ⟨[(0, lv T_retracelaw03_Part.enc p0), (1, sv p1), (7, .ptr 0 0), (8, i64 x200), (126, bo false)], [.blk 93 (T_wire_Reader.pvs y329.2)]⟩) (tips := [(0, { r := 2 }), (1, { T := [1], r := 2 }), (3, { tip := { orc := .val (.bool false) } }), (4, { r := 2 }), (5, { r := 2 }), (6, { r := 2 }), (11, { r := 2 }), (12, { T := [1], r := 2 }), (14, { tip := { orc := .val (.bool true) } }), (15, { r := 2 }), (16, { tip := { pc := some { ρ := [0], n0 := 1, res := i64 y329.1, σ' := [.blk 93 (T_wire_Reader.pvs y329.2)], e := [1] } }, T := [0], r := 2 }), (17, { r := 2 }), (18, { T := [1], r := 2 }), (22, { tip := { orc := .val (.bool false) } }), (23, { r := 2 }), (24, { T := [1], r := 2 }), (26, { tip := { orc := .val (.bool false) } }), (27, { r := 2 }), (28, { r := 2 }), (29, { r := 2 }), (35, { r := 2 }), (36, { T := [1], r := 2 }), (38, { tip := { orc := .val (.bool false) } }), (39, { r := 2 }), (40, { r := 2 }), (42, { r := 2 }), (43, { r := 2 }), (44, { r := 2 }), (50, { r := 2 }), (51, { T := [1], r := 2 }), (53, { tip := { orc := .val (.bool false) } }), (54, { r := 2 }), (55, { r := 2 }), (57, { r := 2 }), (58, { r := 2 }), (59, { r := 2 }), (65, { r := 2 }), (66, { T := [1], r := 2 }), (68, { tip := { orc := .val (.bool false) } }), (69, { r := 2 }), (70, { r := 2 }), (72, { r := 2 }), (73, { r := 2 }), (74, { r := 2 }), (76, { r := 2 })]) (by as_aux_lemma => kernel_rfl) (allc (congrArg D.bool b320) (allc (congrArg D.bool b328) (allc (C_wire_Reader_Int (⟨x201, x202⟩ : T_wire_Reader) y329 hy329) (allc (congrArg D.bool b330) (allc (congrArg D.bool b331) (allc (congrArg D.bool b332) (allc (congrArg D.bool b333) (allc (congrArg D.bool b334) all0)))))))) (fun a w hs => ⟨(false, y329.2.s, y329.2.e), h, hs⟩)
              · replace h := cond_f b328 h
                rcases tf (y280.Kind == 2) with b335 | b335
                · replace h := cond_t b335 h
                  obtain ⟨y336, hy336, h⟩ := bind_some h
                  rcases tf (!(y336.1 == y280.B)) with b337 | b337
                  · replace h := cond_t b337 h
                    refine At.draw_end mixedOrd 0 [0, 1, 7, 8, 126] [0] _ (st' := ⟨[(0, lv T_retracelaw03_Part.enc p0), (1, sv p1), (7, .ptr 0 0), (8, i64 x200), (126, bo true)], [.blk 93 (T_wire_Reader.pvs y336.2)]⟩) (tips := [(0, { r := 2 }), (1, { T := [1], r := 2 }), (3, { tip := { orc := .val (.bool false) } }), (4, { r := 2 }), (5, { r := 2 }), (6, { r := 2 }), (11, { r := 2 }), (12, { T := [1], r := 2 }), (14, { tip := { orc := .val (.bool false) } }), (15, { r := 2 }), (16, { r := 2 }), (17, { r := 2 }), (23, { r := 2 }), (24, { T := [1], r := 2 }), (26, { tip := { orc := .val (.bool true) } }), (27, { r := 2 }), (28, { tip := { pc := some { ρ := [0], n0 := 1, res := bo y336.1, σ' := [.blk 93 (T_wire_Reader.pvs y336.2)], e := [1] } }, T := [0], r := 2 }), (29, { r := 2 }), (30, { T := [1], r := 2 }), (34, { tip := { orc := .val (.bool true) } }), (35, { r := 2 }), (39, { r := 2 }), (40, { r := 2 }), (42, { r := 2 }), (43, { r := 2 }), (44, { r := 2 }), (50, { r := 2 }), (54, { r := 2 }), (55, { r := 2 }), (57, { r := 2 }), (58, { r := 2 }), (59, { r := 2 }), (65, { r := 2 }), (69, { r := 2 }), (70, { r := 2 }), (72, { r := 2 }), (73, { r := 2 }), (74, { r := 2 }), (76, { r := 2 })]) (by as_aux_lemma => kernel_rfl) (allc (congrArg D.bool b320) (allc (congrArg D.bool b328) (allc (congrArg D.bool b335) (allc (C_wire_Reader_Bool (⟨x201, x202⟩ : T_wire_Reader) y336 hy336) (allc (congrArg D.bool b337) all0))))) (fun a w hs => ⟨(true, y336.2.s, y336.2.e), h, hs⟩)
                  · replace h := cond_f b337 h
                    rcases tf (y280.Kind == 3) with b338 | b338
                    · replace h := cond_t b338 h
                      cases h
                    · replace h := cond_f b338 h
                      rcases tf (y280.Kind == 4) with b339 | b339
                      · replace h := cond_t b339 h
                        cases h
                      · replace h := cond_f b339 h
                        rcases tf (y280.Kind == 5) with b340 | b340
                        · replace h := cond_t b340 h
                          cases h
                        · replace h := cond_f b340 h
                          refine At.draw_end mixedOrd 0 [0, 1, 7, 8, 126] [0] _ (st' := ⟨[(0, lv T_retracelaw03_Part.enc p0), (1, sv p1), (7, .ptr 0 0), (8, i64 x200), (126, bo false)], [.blk 93 (T_wire_Reader.pvs y336.2)]⟩) (tips := [(0, { r := 2 }), (1, { T := [1], r := 2 }), (3, { tip := { orc := .val (.bool false) } }), (4, { r := 2 }), (5, { r := 2 }), (6, { r := 2 }), (11, { r := 2 }), (12, { T := [1], r := 2 }), (14, { tip := { orc := .val (.bool false) } }), (15, { r := 2 }), (16, { r := 2 }), (17, { r := 2 }), (23, { r := 2 }), (24, { T := [1], r := 2 }), (26, { tip := { orc := .val (.bool true) } }), (27, { r := 2 }), (28, { tip := { pc := some { ρ := [0], n0 := 1, res := bo y336.1, σ' := [.blk 93 (T_wire_Reader.pvs y336.2)], e := [1] } }, T := [0], r := 2 }), (29, { r := 2 }), (30, { T := [1], r := 2 }), (34, { tip := { orc := .val (.bool false) } }), (35, { r := 2 }), (36, { T := [1], r := 2 }), (38, { tip := { orc := .val (.bool false) } }), (39, { r := 2 }), (40, { r := 2 }), (42, { r := 2 }), (43, { r := 2 }), (44, { r := 2 }), (50, { r := 2 }), (51, { T := [1], r := 2 }), (53, { tip := { orc := .val (.bool false) } }), (54, { r := 2 }), (55, { r := 2 }), (57, { r := 2 }), (58, { r := 2 }), (59, { r := 2 }), (65, { r := 2 }), (66, { T := [1], r := 2 }), (68, { tip := { orc := .val (.bool false) } }), (69, { r := 2 }), (70, { r := 2 }), (72, { r := 2 }), (73, { r := 2 }), (74, { r := 2 }), (76, { r := 2 })]) (by as_aux_lemma => kernel_rfl) (allc (congrArg D.bool b320) (allc (congrArg D.bool b328) (allc (congrArg D.bool b335) (allc (C_wire_Reader_Bool (⟨x201, x202⟩ : T_wire_Reader) y336 hy336) (allc (congrArg D.bool b337) (allc (congrArg D.bool b338) (allc (congrArg D.bool b339) (allc (congrArg D.bool b340) all0)))))))) (fun a w hs => ⟨(false, y336.2.s, y336.2.e), h, hs⟩)
                · replace h := cond_f b335 h
                  rcases tf (y280.Kind == 3) with b341 | b341
                  · replace h := cond_t b341 h
                    obtain ⟨y342, hy342, h⟩ := bind_some h
                    rcases tf (!(y342.1.toList == y280.S.toList)) with b343 | b343
                    · replace h := cond_t b343 h
                      refine At.draw_end mixedOrd 0 [0, 1, 7, 8, 126] [0] _ (st' := ⟨[(0, lv T_retracelaw03_Part.enc p0), (1, sv p1), (7, .ptr 0 0), (8, i64 x200), (126, bo true)], [.blk 93 (T_wire_Reader.pvs y342.2)]⟩) (tips := [(0, { r := 2 }), (1, { T := [1], r := 2 }), (3, { tip := { orc := .val (.bool false) } }), (4, { r := 2 }), (5, { r := 2 }), (6, { r := 2 }), (11, { r := 2 }), (12, { T := [1], r := 2 }), (14, { tip := { orc := .val (.bool false) } }), (15, { r := 2 }), (16, { r := 2 }), (17, { r := 2 }), (23, { r := 2 }), (24, { T := [1], r := 2 }), (26, { tip := { orc := .val (.bool false) } }), (27, { r := 2 }), (28, { r := 2 }), (29, { r := 2 }), (35, { r := 2 }), (36, { T := [1], r := 2 }), (38, { tip := { orc := .val (.bool true) } }), (39, { r := 2 }), (40, { r := 2 }), (41, { T := [1], r := 2 }), (42, { r := 2 }), (43, { tip := { pc := some { ρ := [0], n0 := 1, res := sv y342.1, σ' := [.blk 93 (T_wire_Reader.pvs y342.2)], e := [1] } }, T := [0], r := 2 }), (44, { r := 2 }), (45, { T := [1], r := 2 }), (49, { tip := { orc := .val (.bool true) } }), (50, { r := 2 }), (54, { r := 2 }), (55, { r := 2 }), (57, { r := 2 }), (58, { r := 2 }), (59, { r := 2 }), (65, { r := 2 }), (69, { r := 2 }), (70, { r := 2 }), (72, { r := 2 }), (73, { r := 2 }), (74, { r := 2 }), (76, { r := 2 })]) (by as_aux_lemma => kernel_rfl) (allc (congrArg D.bool b320) (allc (congrArg D.bool b328) (allc (congrArg D.bool b335) (allc (congrArg D.bool b341) (allc (C_wire_Reader_Text (y280.S.size : Int) (⟨x201, x202⟩ : T_wire_Reader) y342 hy342) (allc (congrArg D.bool b343) all0)))))) (fun a w hs => ⟨(true, y342.2.s, y342.2.e), h, hs⟩)
                    · replace h := cond_f b343 h
                      rcases tf (y280.Kind == 4) with b344 | b344
                      · replace h := cond_t b344 h
                        cases h
                      · replace h := cond_f b344 h
                        rcases tf (y280.Kind == 5) with b345 | b345
                        · replace h := cond_t b345 h
                          cases h
                        · replace h := cond_f b345 h
                          refine At.draw_end mixedOrd 0 [0, 1, 7, 8, 126] [0] _ (st' := ⟨[(0, lv T_retracelaw03_Part.enc p0), (1, sv p1), (7, .ptr 0 0), (8, i64 x200), (126, bo false)], [.blk 93 (T_wire_Reader.pvs y342.2)]⟩) (tips := [(0, { r := 2 }), (1, { T := [1], r := 2 }), (3, { tip := { orc := .val (.bool false) } }), (4, { r := 2 }), (5, { r := 2 }), (6, { r := 2 }), (11, { r := 2 }), (12, { T := [1], r := 2 }), (14, { tip := { orc := .val (.bool false) } }), (15, { r := 2 }), (16, { r := 2 }), (17, { r := 2 }), (23, { r := 2 }), (24, { T := [1], r := 2 }), (26, { tip := { orc := .val (.bool false) } }), (27, { r := 2 }), (28, { r := 2 }), (29, { r := 2 }), (35, { r := 2 }), (36, { T := [1], r := 2 }), (38, { tip := { orc := .val (.bool true) } }), (39, { r := 2 }), (40, { r := 2 }), (41, { T := [1], r := 2 }), (42, { r := 2 }), (43, { tip := { pc := some { ρ := [0], n0 := 1, res := sv y342.1, σ' := [.blk 93 (T_wire_Reader.pvs y342.2)], e := [1] } }, T := [0], r := 2 }), (44, { r := 2 }), (45, { T := [1], r := 2 }), (49, { tip := { orc := .val (.bool false) } }), (50, { r := 2 }), (51, { T := [1], r := 2 }), (53, { tip := { orc := .val (.bool false) } }), (54, { r := 2 }), (55, { r := 2 }), (57, { r := 2 }), (58, { r := 2 }), (59, { r := 2 }), (65, { r := 2 }), (66, { T := [1], r := 2 }), (68, { tip := { orc := .val (.bool false) } }), (69, { r := 2 }), (70, { r := 2 }), (72, { r := 2 }), (73, { r := 2 }), (74, { r := 2 }), (76, { r := 2 })]) (by as_aux_lemma => kernel_rfl) (allc (congrArg D.bool b320) (allc (congrArg D.bool b328) (allc (congrArg D.bool b335) (allc (congrArg D.bool b341) (allc (C_wire_Reader_Text (y280.S.size : Int) (⟨x201, x202⟩ : T_wire_Reader) y342 hy342) (allc (congrArg D.bool b343) (allc (congrArg D.bool b344) (allc (congrArg D.bool b345) all0)))))))) (fun a w hs => ⟨(false, y342.2.s, y342.2.e), h, hs⟩)
                  · replace h := cond_f b341 h
                    rcases tf (y280.Kind == 4) with b346 | b346
                    · replace h := cond_t b346 h
                      obtain ⟨y347, hy347, h⟩ := bind_some h
                      rcases tf (!(y347.1.toList == y280.S.toList)) with b348 | b348
                      · replace h := cond_t b348 h
                        refine At.draw_end mixedOrd 0 [0, 1, 7, 8, 126] [0] _ (st' := ⟨[(0, lv T_retracelaw03_Part.enc p0), (1, sv p1), (7, .ptr 0 0), (8, i64 x200), (126, bo true)], [.blk 93 (T_wire_Reader.pvs y347.2)]⟩) (tips := [(0, { r := 2 }), (1, { T := [1], r := 2 }), (3, { tip := { orc := .val (.bool false) } }), (4, { r := 2 }), (5, { r := 2 }), (6, { r := 2 }), (11, { r := 2 }), (12, { T := [1], r := 2 }), (14, { tip := { orc := .val (.bool false) } }), (15, { r := 2 }), (16, { r := 2 }), (17, { r := 2 }), (23, { r := 2 }), (24, { T := [1], r := 2 }), (26, { tip := { orc := .val (.bool false) } }), (27, { r := 2 }), (28, { r := 2 }), (29, { r := 2 }), (35, { r := 2 }), (36, { T := [1], r := 2 }), (38, { tip := { orc := .val (.bool false) } }), (39, { r := 2 }), (40, { r := 2 }), (42, { r := 2 }), (43, { r := 2 }), (44, { r := 2 }), (50, { r := 2 }), (51, { T := [1], r := 2 }), (53, { tip := { orc := .val (.bool true) } }), (54, { r := 2 }), (55, { r := 2 }), (56, { T := [1], r := 2 }), (57, { r := 2 }), (58, { tip := { pc := some { ρ := [0], n0 := 1, res := sv y347.1, σ' := [.blk 93 (T_wire_Reader.pvs y347.2)], e := [1] } }, T := [0], r := 2 }), (59, { r := 2 }), (60, { T := [1], r := 2 }), (64, { tip := { orc := .val (.bool true) } }), (65, { r := 2 }), (69, { r := 2 }), (70, { r := 2 }), (72, { r := 2 }), (73, { r := 2 }), (74, { r := 2 }), (76, { r := 2 })]) (by as_aux_lemma => kernel_rfl) (allc (congrArg D.bool b320) (allc (congrArg D.bool b328) (allc (congrArg D.bool b335) (allc (congrArg D.bool b341) (allc (congrArg D.bool b346) (allc (C_wire_Reader_Raw (y280.S.size : Int) (⟨x201, x202⟩ : T_wire_Reader) y347 hy347) (allc (congrArg D.bool b348) all0))))))) (fun a w hs => ⟨(true, y347.2.s, y347.2.e), h, hs⟩)
                      · replace h := cond_f b348 h
                        rcases tf (y280.Kind == 5) with b349 | b349
                        · replace h := cond_t b349 h
                          cases h
                        · replace h := cond_f b349 h
                          refine At.draw_end mixedOrd 0 [0, 1, 7, 8, 126] [0] _ (st' := ⟨[(0, lv T_retracelaw03_Part.enc p0), (1, sv p1), (7, .ptr 0 0), (8, i64 x200), (126, bo false)], [.blk 93 (T_wire_Reader.pvs y347.2)]⟩) (tips := [(0, { r := 2 }), (1, { T := [1], r := 2 }), (3, { tip := { orc := .val (.bool false) } }), (4, { r := 2 }), (5, { r := 2 }), (6, { r := 2 }), (11, { r := 2 }), (12, { T := [1], r := 2 }), (14, { tip := { orc := .val (.bool false) } }), (15, { r := 2 }), (16, { r := 2 }), (17, { r := 2 }), (23, { r := 2 }), (24, { T := [1], r := 2 }), (26, { tip := { orc := .val (.bool false) } }), (27, { r := 2 }), (28, { r := 2 }), (29, { r := 2 }), (35, { r := 2 }), (36, { T := [1], r := 2 }), (38, { tip := { orc := .val (.bool false) } }), (39, { r := 2 }), (40, { r := 2 }), (42, { r := 2 }), (43, { r := 2 }), (44, { r := 2 }), (50, { r := 2 }), (51, { T := [1], r := 2 }), (53, { tip := { orc := .val (.bool true) } }), (54, { r := 2 }), (55, { r := 2 }), (56, { T := [1], r := 2 }), (57, { r := 2 }), (58, { tip := { pc := some { ρ := [0], n0 := 1, res := sv y347.1, σ' := [.blk 93 (T_wire_Reader.pvs y347.2)], e := [1] } }, T := [0], r := 2 }), (59, { r := 2 }), (60, { T := [1], r := 2 }), (64, { tip := { orc := .val (.bool false) } }), (65, { r := 2 }), (66, { T := [1], r := 2 }), (68, { tip := { orc := .val (.bool false) } }), (69, { r := 2 }), (70, { r := 2 }), (72, { r := 2 }), (73, { r := 2 }), (74, { r := 2 }), (76, { r := 2 })]) (by as_aux_lemma => kernel_rfl) (allc (congrArg D.bool b320) (allc (congrArg D.bool b328) (allc (congrArg D.bool b335) (allc (congrArg D.bool b341) (allc (congrArg D.bool b346) (allc (C_wire_Reader_Raw (y280.S.size : Int) (⟨x201, x202⟩ : T_wire_Reader) y347 hy347) (allc (congrArg D.bool b348) (allc (congrArg D.bool b349) all0)))))))) (fun a w hs => ⟨(false, y347.2.s, y347.2.e), h, hs⟩)
                    · replace h := cond_f b346 h
                      rcases tf (y280.Kind == 5) with b350 | b350
                      · replace h := cond_t b350 h
                        obtain ⟨y351, hy351, h⟩ := bind_some h
                        obtain ⟨y352, hy352, h⟩ := bind_some h
                        refine At.draw_end mixedOrd 1 [0, 1, 7, 8, 126] [0] _ (st' := ⟨[(0, lv T_retracelaw03_Part.enc p0), (1, sv p1), (7, .ptr 0 0), (8, i64 x200), (126, bo (!y352))], [.blk 93 (T_wire_Reader.pvs y351.2)]⟩) (tips := [(0, { r := 2 }), (1, { T := [1], r := 2 }), (3, { tip := { orc := .val (.bool false) } }), (4, { r := 2 }), (5, { r := 2 }), (6, { r := 2 }), (11, { r := 2 }), (12, { T := [1], r := 2 }), (14, { tip := { orc := .val (.bool false) } }), (15, { r := 2 }), (16, { r := 2 }), (17, { r := 2 }), (23, { r := 2 }), (24, { T := [1], r := 2 }), (26, { tip := { orc := .val (.bool false) } }), (27, { r := 2 }), (28, { r := 2 }), (29, { r := 2 }), (35, { r := 2 }), (36, { T := [1], r := 2 }), (38, { tip := { orc := .val (.bool false) } }), (39, { r := 2 }), (40, { r := 2 }), (42, { r := 2 }), (43, { r := 2 }), (44, { r := 2 }), (50, { r := 2 }), (51, { T := [1], r := 2 }), (53, { tip := { orc := .val (.bool false) } }), (54, { r := 2 }), (55, { r := 2 }), (57, { r := 2 }), (58, { r := 2 }), (59, { r := 2 }), (65, { r := 2 }), (66, { T := [1], r := 2 }), (68, { tip := { orc := .val (.bool true) } }), (69, { r := 2 }), (70, { r := 2 }), (71, { T := [1], r := 2 }), (72, { r := 2 }), (73, { tip := { pc := some { ρ := [0, 2], n0 := 1, res := .row 1 (y351.1).length, σ' := [.blk 93 (T_wire_Reader.pvs y351.2), .row 3 1 (encL (eInt .i64) y351.1)], e := [1] } }, T := [0], r := 2 }), (74, { r := 3 }), (75, { T := [1], r := 3 }), (76, { tip := { pc := some { ρ := [2], n0 := 1, res := bo y352, σ' := [.row 3 1 (encL (eInt .i64) y351.1)], e := [0] } }, T := [2], r := 3 })]) (by as_aux_lemma => kernel_rfl) (allc (congrArg D.bool b320) (allc (congrArg D.bool b328) (allc (congrArg D.bool b335) (allc (congrArg D.bool b341) (allc (congrArg D.bool b346) (allc (congrArg D.bool b350) (allc (C_wire_Reader_Ints ((y280.L).length : Int) (⟨x201, x202⟩ : T_wire_Reader) y351 hy351) (allc (C_retraceref03_Same y280.L y351.1 y352 hy352) all0)))))))) (fun a w hs => ⟨((!y352), y351.2.s, y351.2.e), h, hs⟩)
                      · replace h := cond_f b350 h
                        refine At.draw_end mixedOrd 0 [0, 1, 7, 8, 126] [0] _ (st' := ⟨[(0, lv T_retracelaw03_Part.enc p0), (1, sv p1), (7, .ptr 0 0), (8, i64 x200), (126, bo false)], [.blk 93 [sv x201, i64 x202]]⟩) (tips := [(0, { r := 2 }), (1, { T := [1], r := 2 }), (3, { tip := { orc := .val (.bool false) } }), (4, { r := 2 }), (5, { r := 2 }), (6, { r := 2 }), (11, { r := 2 }), (12, { T := [1], r := 2 }), (14, { tip := { orc := .val (.bool false) } }), (15, { r := 2 }), (16, { r := 2 }), (17, { r := 2 }), (23, { r := 2 }), (24, { T := [1], r := 2 }), (26, { tip := { orc := .val (.bool false) } }), (27, { r := 2 }), (28, { r := 2 }), (29, { r := 2 }), (35, { r := 2 }), (36, { T := [1], r := 2 }), (38, { tip := { orc := .val (.bool false) } }), (39, { r := 2 }), (40, { r := 2 }), (42, { r := 2 }), (43, { r := 2 }), (44, { r := 2 }), (50, { r := 2 }), (51, { T := [1], r := 2 }), (53, { tip := { orc := .val (.bool false) } }), (54, { r := 2 }), (55, { r := 2 }), (57, { r := 2 }), (58, { r := 2 }), (59, { r := 2 }), (65, { r := 2 }), (66, { T := [1], r := 2 }), (68, { tip := { orc := .val (.bool false) } }), (69, { r := 2 }), (70, { r := 2 }), (72, { r := 2 }), (73, { r := 2 }), (74, { r := 2 }), (76, { r := 2 })]) (by as_aux_lemma => kernel_rfl) (allc (congrArg D.bool b320) (allc (congrArg D.bool b328) (allc (congrArg D.bool b335) (allc (congrArg D.bool b341) (allc (congrArg D.bool b346) (allc (congrArg D.bool b350) all0)))))) (fun a w hs => ⟨(false, x201, x202), h, hs⟩)
          · rintro ⟨x314, x315, x316⟩ h
            replace h : F_retracelaw03_WireBack_J2 x200 x314 x315 x316 = some oo203 := h
            rw [F_retracelaw03_WireBack_J2] at h
            refine At.cond x314 (by as_aux_lemma => kernel_rfl) (fun b317 => ?_) (fun b317 => ?_)
            · replace h := cond_t b317 h
              refine At.seq ?_
              refine At.region_end [4] [] _ (st' := ⟨[(4, bo false)], []⟩) (tips := []) (by as_aux_lemma => kernel_rfl) all0 (norm ?_)
              obtain ⟨r318, h, e319⟩ := map_inr h
              rw [f204 _ e319] at h
              obtain rfl := some_eq h
              exact At.ret fun a w hs => ret_ok hR (ρ := []) (gs := []) (by as_aux_lemma => kernel_rfl) all0 (by as_aux_lemma => kernel_rfl) rfl rfl a w hs _ (.inl rfl)
            · replace h := cond_f b317 h
              refine At.nar [0, 1, 7, 8] [0] (st' := ⟨[(0, lv T_retracelaw03_Part.enc p0), (1, sv p1), (7, .ptr 0 0), (8, i64 x200)], [.blk 93 [sv x315, i64 x316]]⟩) (by as_aux_lemma => kernel_rfl) ?_
              refine At.skip (norm ?_)
              refine At.region_end [0, 1, 7, 8] [0] _ (st' := ⟨[(0, lv T_retracelaw03_Part.enc p0), (1, sv p1), (7, .ptr 0 0), (8, i64 (w64 (x200 + 1)))], [.blk 93 [sv x315, i64 x316]]⟩) (tips := []) (by as_aux_lemma => kernel_rfl) all0 (fun a w hs => ⟨_, (some_eq h).symm, hs⟩)
        · replace h := cond_f b206 h
          refine At.nar [1, 7] [0] (st' := ⟨[(1, sv p1), (7, .ptr 0 0)], [.blk 93 [sv x201, i64 x202]]⟩) (by as_aux_lemma => kernel_rfl) ?_
          obtain ⟨r353, h, e354⟩ := map_inr h
          rw [f204 _ e354] at h
          refine At.exit (norm ?_)
          refine At.seqJ (S := Bool) (fun s => ⟨[(4, bo s)], []⟩) (fun s => F_retracelaw03_WireBack_J3 s = some r) ?_ ?_
          · obtain ⟨y361, hy361, h⟩ := bind_some h
            rcases tf (y361 == (p1.size : Int)) with b362 | b362
            · replace h := cond_t b362 h
              obtain ⟨y363, hy363, h⟩ := bind_some h
              rcases tf (y363 == 0) with b364 | b364
              · replace h := cond_t b364 h
                obtain ⟨y365, hy365, h⟩ := bind_some h
                refine At.region_end [4] [] _ (st' := ⟨[(4, bo y365)], []⟩) (tips := [(1, { pc := some { ρ := [0], n0 := 1, res := i64 y361, σ' := [.blk 93 [sv x201, i64 x202]], e := [1] } }), (5, { orc := .val (.bool true) }), (7, { pc := some { ρ := [0], n0 := 1, res := i64 y363, σ' := [.blk 93 [sv x201, i64 x202]], e := [1] } }), (10, { orc := .val (.bool true) }), (11, { pc := some { ρ := [], n0 := 0, res := bo y365, σ' := [], e := [] } })]) (by as_aux_lemma => kernel_rfl) (allc (C_wire_Reader_Left (⟨x201, x202⟩ : T_wire_Reader) y361 hy361) (allc (congrArg D.bool b362) (allc (C_wire_Reader_Err (⟨x201, x202⟩ : T_wire_Reader) y363 hy363) (allc (congrArg D.bool b364) (allc (C_retracelaw03_live y365 hy365) all0))))) (fun a w hs => ⟨y365, h, hs⟩)
              · replace h := cond_f b364 h
                refine At.region_end [4] [] _ (st' := ⟨[(4, bo false)], []⟩) (tips := [(1, { pc := some { ρ := [0], n0 := 1, res := i64 y361, σ' := [.blk 93 [sv x201, i64 x202]], e := [1] } }), (5, { orc := .val (.bool true) }), (7, { pc := some { ρ := [0], n0 := 1, res := i64 y363, σ' := [.blk 93 [sv x201, i64 x202]], e := [1] } }), (10, { orc := .val (.bool false) })]) (by as_aux_lemma => kernel_rfl) (allc (C_wire_Reader_Left (⟨x201, x202⟩ : T_wire_Reader) y361 hy361) (allc (congrArg D.bool b362) (allc (C_wire_Reader_Err (⟨x201, x202⟩ : T_wire_Reader) y363 hy363) (allc (congrArg D.bool b364) all0)))) (fun a w hs => ⟨false, h, hs⟩)
            · replace h := cond_f b362 h
              refine At.region_end [4] [] _ (st' := ⟨[(4, bo false)], []⟩) (tips := [(1, { pc := some { ρ := [0], n0 := 1, res := i64 y361, σ' := [.blk 93 [sv x201, i64 x202]], e := [1] } }), (5, { orc := .val (.bool false) })]) (by as_aux_lemma => kernel_rfl) (allc (C_wire_Reader_Left (⟨x201, x202⟩ : T_wire_Reader) y361 hy361) (allc (congrArg D.bool b362) all0)) (fun a w hs => ⟨false, h, hs⟩)
          · intro x360 h
            replace h : F_retracelaw03_WireBack_J3 x360 = some r := h
            rw [F_retracelaw03_WireBack_J3] at h
            obtain rfl := some_eq h
            exact At.ret fun a w hs => ret_ok hR (ρ := []) (gs := []) (by as_aux_lemma => kernel_rfl) all0 (by as_aux_lemma => kernel_rfl) rfl rfl a w hs _ (.inl rfl)
end Go.Ab
