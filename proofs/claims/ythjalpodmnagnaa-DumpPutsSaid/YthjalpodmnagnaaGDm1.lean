import Derived.Test.YthjalpodmnagnaaGDm
namespace Go.Ab
open Go.Proofs
set_option linter.unusedVariables false
set_option maxRecDepth 100000 in
theorem C_retracelaw30_large (p0 : T_api_State) (r : Bool) (h : F_retracelaw30_large p0 = some r) : FnOK Try.prog 11 [.agg (T_api_State.pvs p0)] [] (bo r) [] [] := by
  rw [F_retracelaw30_large] at h
  refine FnOK.intro Try.func11 rfl (by kernel_rfl) (by kernel_rfl) fun E gv R hR => ?_
  refine At.seq ?_
  refine At.region_end [1] [0] _ (st' := ⟨[(1, .ptr 0 0)], [.blk 25 (T_api_State.pvs p0)]⟩) (tips := []) (by kernel_rfl) all0 (norm ?_)
  refine At.seq ?_
  refine At.seqJ (S := Bool) (fun s => ⟨[(1, .ptr 0 0), (13, bo s)], [.blk 25 (T_api_State.pvs p0)]⟩) (fun s => F_retracelaw30_large_J1 p0 s = some r) ?_ ?_
  · rcases tf (decide (20 < ((p0.Procs).length : Int))) with b58 | b58
    · replace h := cond_t b58 h
      refine At.region_end [1, 13] [0] _ (st' := ⟨[(1, .ptr 0 0), (13, bo true)], [.blk 25 (T_api_State.pvs p0)]⟩) (tips := [(4, { orc := .val (.bool true) })]) (by kernel_rfl) (allc (congrArg D.bool b58) all0) (fun a w hs => ⟨true, h, hs⟩)
    · replace h := cond_f b58 h
      refine At.region_end [1, 13] [0] _ (st' := ⟨[(1, .ptr 0 0), (13, bo (decide (200 < ((p0.Out).length : Int))))], [.blk 25 (T_api_State.pvs p0)]⟩) (tips := [(4, { orc := .val (.bool false) })]) (by kernel_rfl) (allc (congrArg D.bool b58) all0) (fun a w hs => ⟨(decide (200 < ((p0.Out).length : Int))), h, hs⟩)
  · intro x6 h
    replace h : F_retracelaw30_large_J1 p0 x6 = some r := h
    rw [F_retracelaw30_large_J1] at h
    refine At.cond x6 (by kernel_rfl) (fun b7 => ?_) (fun b7 => ?_)
    · replace h := cond_t b7 h
      refine At.seq ?_
      refine At.region_end [2] [] _ (st' := ⟨[(2, bo true)], []⟩) (tips := []) (by kernel_rfl) all0 (norm ?_)
      obtain rfl := some_eq h
      exact At.ret fun a w hs => ret_ok hR (ρ := []) (gs := []) (by kernel_rfl) all0 (by kernel_rfl) rfl rfl a w hs _ (.inl rfl)
    · replace h := cond_f b7 h
      refine At.nar [1] [0] (st' := ⟨[(1, .ptr 0 0)], [.blk 25 (T_api_State.pvs p0)]⟩) (by kernel_rfl) ?_
      refine At.skip (norm ?_)
      refine At.seq ?_
      refine At.seq ?_
      refine At.region_end [1, 3] [0] _ (st' := ⟨[(1, .ptr 0 0), (3, i64 0)], [.blk 25 (T_api_State.pvs p0)]⟩) (tips := []) (by kernel_rfl) all0 (norm ?_)
      refine At.block ?_
      refine At.loop (fun s : (Int) => F_retracelaw30_large_L3 p0 s) (fun s : (Int) => ⟨[(1, .ptr 0 0), (3, i64 s)], [.blk 25 (T_api_State.pvs p0)]⟩) r 0 h ?_
      intro x33 oo34 h f35
      replace h : F_retracelaw30_large_L3 p0 x33 = some oo34 := h
      rw [F_retracelaw30_large_L3] at h
      refine At.seq ?_
      refine At.seq ?_
      refine At.region_end [1, 3, 18] [0] _ (st' := ⟨[(1, .ptr 0 0), (3, i64 x33), (18, bo (decide (x33 < ((p0.Procs).length : Int))))], [.blk 25 (T_api_State.pvs p0)]⟩) (tips := []) (by kernel_rfl) all0 (norm ?_)
      refine At.cond (decide (x33 < ((p0.Procs).length : Int))) (by kernel_rfl) (fun b37 => ?_) (fun b37 => ?_)
      · replace h := cond_t b37 h
        refine At.nar [1, 3] [0] (st' := ⟨[(1, .ptr 0 0), (3, i64 x33)], [.blk 25 (T_api_State.pvs p0)]⟩) (by kernel_rfl) ?_
        refine At.skip (norm ?_)
        refine At.seq ?_
        refine At.block ?_
        refine At.seqJ (S := Bool) (fun s => ⟨[(1, .ptr 0 0), (3, i64 x33), (38, bo s)], [.blk 25 (T_api_State.pvs p0)]⟩) (fun s => F_retracelaw30_large_J2 x33 s = some oo34) ?_ ?_
        · obtain ⟨y53, hy53, h⟩ := bind_some h
          rcases tf (decide (60 < ((y53.Vars).length : Int))) with b54 | b54
          · replace h := cond_t b54 h
            refine At.region_end [1, 3, 38] [0] _ (st' := ⟨[(1, .ptr 0 0), (3, i64 x33), (38, bo true)], [.blk 25 (T_api_State.pvs p0)]⟩) (tips := [(3, { orc := .cells (T_api_Proc.enc y53) }), (8, { orc := .val (.bool true) })]) (by kernel_rfl) (allc (elemAt_of T_api_Proc.enc_len hy53) (allc (congrArg D.bool b54) all0)) (fun a w hs => ⟨true, h, hs⟩)
          · replace h := cond_f b54 h
            obtain ⟨y55, hy55, h⟩ := bind_some h
            refine At.region_end [1, 3, 38] [0] _ (st' := ⟨[(1, .ptr 0 0), (3, i64 x33), (38, bo (decide (60 < ((y55.Alts).length : Int))))], [.blk 25 (T_api_State.pvs p0)]⟩) (tips := [(3, { orc := .cells (T_api_Proc.enc y53) }), (8, { orc := .val (.bool false) }), (12, { orc := .cells (T_api_Proc.enc y55) })]) (by kernel_rfl) (allc (elemAt_of T_api_Proc.enc_len hy53) (allc (congrArg D.bool b54) (allc (elemAt_of T_api_Proc.enc_len hy55) all0))) (fun a w hs => ⟨(decide (60 < ((y55.Alts).length : Int))), h, hs⟩)
        · intro x49 h
          replace h : F_retracelaw30_large_J2 x33 x49 = some oo34 := h
          rw [F_retracelaw30_large_J2] at h
          refine At.cond x49 (by kernel_rfl) (fun b50 => ?_) (fun b50 => ?_)
          · replace h := cond_t b50 h
            refine At.seq ?_
            refine At.region_end [2] [] _ (st' := ⟨[(2, bo true)], []⟩) (tips := []) (by kernel_rfl) all0 (norm ?_)
            obtain ⟨r51, h, e52⟩ := map_inr h
            rw [f35 _ e52] at h
            obtain rfl := some_eq h
            exact At.ret fun a w hs => ret_ok hR (ρ := []) (gs := []) (by kernel_rfl) all0 (by kernel_rfl) rfl rfl a w hs _ (.inl rfl)
          · replace h := cond_f b50 h
            refine At.nar [1, 3] [0] (st' := ⟨[(1, .ptr 0 0), (3, i64 x33)], [.blk 25 (T_api_State.pvs p0)]⟩) (by kernel_rfl) ?_
            refine At.skip (norm ?_)
            refine At.region_end [1, 3] [0] _ (st' := ⟨[(1, .ptr 0 0), (3, i64 (w64 (x33 + 1)))], [.blk 25 (T_api_State.pvs p0)]⟩) (tips := []) (by kernel_rfl) all0 (fun a w hs => ⟨_, (some_eq h).symm, hs⟩)
      · replace h := cond_f b37 h
        refine At.nar [] [] (st' := ⟨[], []⟩) (by kernel_rfl) ?_
        obtain ⟨r56, h, e57⟩ := map_inr h
        rw [f35 _ e57] at h
        refine At.exit (norm ?_)
        refine At.seq ?_
        refine At.region_end [2] [] _ (st' := ⟨[(2, bo false)], []⟩) (tips := []) (by kernel_rfl) all0 (norm ?_)
        obtain rfl := some_eq h
        exact At.ret fun a w hs => ret_ok hR (ρ := []) (gs := []) (by kernel_rfl) all0 (by kernel_rfl) rfl rfl a w hs _ (.inl rfl)
set_option maxRecDepth 100000 in
theorem C_vint_Zig (p0 : Int) (r : Int) (h : F_vint_Zig p0 = some r) : FnOK Try.prog 87 [i64 p0] [] (u64 r) [] [] := by
  rw [F_vint_Zig] at h
  refine FnOK.intro Try.func87 rfl (by kernel_rfl) (by kernel_rfl) fun E gv R hR => ?_
  refine At.seq ?_
  refine At.region_end [0] [] _ (st' := ⟨[(0, i64 p0)], []⟩) (tips := []) (by kernel_rfl) all0 (norm ?_)
  refine At.seq ?_
  refine At.region_end [2] [] _ (st' := ⟨[(2, u64 (bits .xor .u64 (wu64 ((wu64 p0) * 2)) (wu64 (Int.fdiv p0 9223372036854775808))))], []⟩) (tips := []) (by kernel_rfl) (allc (by decide : (0:Int) ≤ 1) (allc (by decide : (0:Int) ≤ 63) all0)) (norm ?_)
  obtain rfl := some_eq h
  exact At.ret fun a w hs => ret_ok hR (ρ := []) (gs := []) (by kernel_rfl) all0 (by kernel_rfl) rfl rfl a w hs _ (.inl rfl)
set_option maxRecDepth 100000 in
theorem C_vint_Size (p0 : Int) (r : Int) (h : F_vint_Size p0 = some r) : FnOK Try.prog 84 [u64 p0] [] (i64 r) [] [] := by
  rw [F_vint_Size] at h
  refine FnOK.intro Try.func84 rfl (by kernel_rfl) (by kernel_rfl) fun E gv R hR => ?_
  refine At.seq ?_
  refine At.region_end [0] [] _ (st' := ⟨[(0, u64 p0)], []⟩) (tips := []) (by kernel_rfl) all0 (norm ?_)
  refine At.seq ?_
  refine At.region_end [0, 3] [] _ (st' := ⟨[(0, u64 p0), (3, i64 1)], []⟩) (tips := []) (by kernel_rfl) all0 (norm ?_)
  refine At.seq ?_
  refine At.block ?_
  refine At.loop (fun s : (Int × Int) => F_vint_Size_L1 s.1 s.2) (fun s : (Int × Int) => ⟨[(0, u64 s.1), (3, i64 s.2)], []⟩) r (p0, 1) h ?_
  rintro ⟨x9, x10⟩ oo11 h f12
  replace h : F_vint_Size_L1 x9 x10 = some oo11 := h
  rw [F_vint_Size_L1] at h
  refine At.seq ?_
  refine At.seq ?_
  refine At.region_end [0, 3, 5] [] _ (st' := ⟨[(0, u64 x9), (3, i64 x10), (5, bo (decide (128 ≤ x9)))], []⟩) (tips := []) (by kernel_rfl) all0 (norm ?_)
  refine At.cond (decide (128 ≤ x9)) (by kernel_rfl) (fun b14 => ?_) (fun b14 => ?_)
  · replace h := cond_t b14 h
    refine At.nar [0, 3] [] (st' := ⟨[(0, u64 x9), (3, i64 x10)], []⟩) (by kernel_rfl) ?_
    refine At.skip (norm ?_)
    refine At.seq ?_
    refine At.block ?_
    refine At.region_end [0, 3] [] _ (st' := ⟨[(0, u64 x9), (3, i64 (w64 (x10 + 1)))], []⟩) (tips := []) (by kernel_rfl) all0 (norm ?_)
    refine At.region_end [0, 3] [] _ (st' := ⟨[(0, u64 (Int.fdiv x9 128)), (3, i64 (w64 (x10 + 1)))], []⟩) (tips := []) (by kernel_rfl) (allc (by decide : (0:Int) ≤ 7) all0) (fun a w hs => ⟨_, (some_eq h).symm, hs⟩)
  · replace h := cond_f b14 h
    refine At.nar [3] [] (st' := ⟨[(3, i64 x10)], []⟩) (by kernel_rfl) ?_
    obtain ⟨r15, h, e16⟩ := map_inr h
    rw [f12 _ e16] at h
    refine At.exit (norm ?_)
    refine At.seq ?_
    refine At.region_end [2] [] _ (st' := ⟨[(2, i64 x10)], []⟩) (tips := []) (by kernel_rfl) all0 (norm ?_)
    obtain rfl := some_eq h
    exact At.ret fun a w hs => ret_ok hR (ρ := []) (gs := []) (by kernel_rfl) all0 (by kernel_rfl) rfl rfl a w hs _ (.inl rfl)
set_option maxRecDepth 100000 in
theorem C_vint_Put (p0 : ByteArray) (p1 : Int) (r : ByteArray) (h : F_vint_Put p0 p1 = some r) : FnOK Try.prog 72 [sv p0, u64 p1] [] (sv r) [] [] := by
  rw [F_vint_Put] at h
  refine FnOK.intro Try.func72 rfl (by kernel_rfl) (by kernel_rfl) fun E gv R hR => ?_
  refine At.seq ?_
  refine At.region_end [0, 1] [] _ (st' := ⟨[(0, sv p0), (1, u64 p1)], []⟩) (tips := []) (by kernel_rfl) all0 (norm ?_)
  refine At.seq ?_
  obtain ⟨y3, hy3, h⟩ := bind_some h
  obtain ⟨g4, h⟩ := grd_some h
  refine At.region_end [0, 1, 5] [0] _ (st' := ⟨[(0, sv p0), (1, u64 p1), (5, .row 0 ([] : List Int).length)], [.row 5 1 (encL (eInt .u8) ([]))]⟩) (tips := [(3, { pc := some { ρ := [], n0 := 0, res := i64 y3, σ' := [], e := [] } })]) (by kernel_rfl) (allc (C_vint_Size p1 y3 hy3) (allc g4 all0)) (norm ?_)
  refine At.seq ?_
  obtain ⟨g6, h⟩ := grd_some h
  refine At.region_end [1, 5] [0] _ (st' := ⟨[(1, u64 p1), (5, .row 0 ((([] : List Int) ++ (sB p0))).length)], [.row 5 1 (encL (eInt .u8) (([] : List Int) ++ (sB p0)))]⟩) (tips := [(2, { form := some ((([] : List Int) ++ (sB p0)).length, encL (eInt .u8) (([] : List Int) ++ (sB p0))) })]) (by kernel_rfl) (allc (len_appS ([] : List Int) p0) (allc (encL_appS ([] : List Int) p0) (allc (app_ok (he_int .u8) (by decide) g6) all0))) (norm ?_)
  refine At.seq ?_
  refine At.block ?_
  refine At.loop (fun s : (Int × (List Int)) => F_vint_Put_L1 s.1 s.2) (fun s : (Int × (List Int)) => ⟨[(1, u64 s.1), (5, .row 0 (s.2).length)], [.row 5 1 (encL (eInt .u8) s.2)]⟩) r (p1, (([] : List Int) ++ (sB p0))) h ?_
  rintro ⟨x17, x18⟩ oo19 h f20
  replace h : F_vint_Put_L1 x17 x18 = some oo19 := h
  rw [F_vint_Put_L1] at h
  refine At.seq ?_
  refine At.seq ?_
  refine At.region_end [1, 5, 16] [0] _ (st' := ⟨[(1, u64 x17), (5, .row 0 (x18).length), (16, bo (decide (128 ≤ x17)))], [.row 5 1 (encL (eInt .u8) x18)]⟩) (tips := []) (by kernel_rfl) all0 (norm ?_)
  refine At.cond (decide (128 ≤ x17)) (by kernel_rfl) (fun b22 => ?_) (fun b22 => ?_)
  · replace h := cond_t b22 h
    refine At.nar [1, 5] [0] (st' := ⟨[(1, u64 x17), (5, .row 0 (x18).length)], [.row 5 1 (encL (eInt .u8) x18)]⟩) (by kernel_rfl) ?_
    refine At.skip (norm ?_)
    refine At.seq ?_
    refine At.block ?_
    obtain ⟨g24, h⟩ := grd_some h
    refine At.region_end [1, 5] [0] _ (st' := ⟨[(1, u64 x17), (5, .row 0 ((x18 ++ [(bits .or .u8 (wu8 x17) 128)])).length)], [.row 5 1 (encL (eInt .u8) (x18 ++ [(bits .or .u8 (wu8 x17) 128)]))]⟩) (tips := [(5, { form := some ((x18 ++ [(bits .or .u8 (wu8 x17) 128)]).length, encL (eInt .u8) (x18 ++ [(bits .or .u8 (wu8 x17) 128)])) })]) (by kernel_rfl) (allc (len_app x18 ([(bits .or .u8 (wu8 x17) 128)])) (allc (encL_app (eInt .u8) x18 ([(bits .or .u8 (wu8 x17) 128)])) (allc (app_ok (he_int .u8) (by decide) g24) (allc (encL_len (he_int .u8) ([(bits .or .u8 (wu8 x17) 128)])) all0)))) (norm ?_)
    refine At.region_end [1, 5] [0] _ (st' := ⟨[(1, u64 (Int.fdiv x17 128)), (5, .row 0 ((x18 ++ [(bits .or .u8 (wu8 x17) 128)])).length)], [.row 5 1 (encL (eInt .u8) (x18 ++ [(bits .or .u8 (wu8 x17) 128)]))]⟩) (tips := []) (by kernel_rfl) (allc (by decide : (0:Int) ≤ 7) all0) (fun a w hs => ⟨_, (some_eq h).symm, hs⟩)
  · replace h := cond_f b22 h
    refine At.nar [1, 5] [0] (st' := ⟨[(1, u64 x17), (5, .row 0 (x18).length)], [.row 5 1 (encL (eInt .u8) x18)]⟩) (by kernel_rfl) ?_
    obtain ⟨r25, h, e26⟩ := map_inr h
    rw [f20 _ e26] at h
    refine At.exit (norm ?_)
    refine At.seq ?_
    obtain ⟨g28, h⟩ := grd_some h
    refine At.region_end [4] [] _ (st' := ⟨[(4, sv (strOfNums (x18 ++ [(wu8 x17)])))], []⟩) (tips := [(4, { form := some ((x18 ++ [(wu8 x17)]).length, encL (eInt .u8) (x18 ++ [(wu8 x17)])) }), (5, { orc := .nums (x18 ++ [(wu8 x17)]) })]) (by kernel_rfl) (allc (len_app x18 ([(wu8 x17)])) (allc (encL_app (eInt .u8) x18 ([(wu8 x17)])) (allc (app_ok (he_int .u8) (by decide) g28) (allc (encL_len (he_int .u8) ([(wu8 x17)])) (allc (encL_map .u8 (x18 ++ [(wu8 x17)])) (allc (rfl : ((x18 ++ [(wu8 x17)])).length = ((x18 ++ [(wu8 x17)])).length) all0)))))) (norm ?_)
    obtain rfl := some_eq h
    exact At.ret fun a w hs => ret_ok hR (ρ := []) (gs := []) (by kernel_rfl) all0 (by kernel_rfl) rfl rfl a w hs _ (.inl rfl)
set_option maxRecDepth 100000 in
theorem C_vint_PutInt (p0 : ByteArray) (p1 : Int) (r : ByteArray) (h : F_vint_PutInt p0 p1 = some r) : FnOK Try.prog 83 [sv p0, i64 p1] [] (sv r) [] [] := by
  rw [F_vint_PutInt] at h
  refine FnOK.intro Try.func83 rfl (by kernel_rfl) (by kernel_rfl) fun E gv R hR => ?_
  refine At.seq ?_
  refine At.region_end [0, 1] [] _ (st' := ⟨[(0, sv p0), (1, i64 p1)], []⟩) (tips := []) (by kernel_rfl) all0 (norm ?_)
  refine At.seq ?_
  obtain ⟨y3, hy3, h⟩ := bind_some h
  obtain ⟨y4, hy4, h⟩ := bind_some h
  refine At.region_end [4] [] _ (st' := ⟨[(4, sv y4)], []⟩) (tips := [(2, { pc := some { ρ := [], n0 := 0, res := u64 y3, σ' := [], e := [] } }), (3, { pc := some { ρ := [], n0 := 0, res := sv y4, σ' := [], e := [] } })]) (by kernel_rfl) (allc (C_vint_Zig p1 y3 hy3) (allc (C_vint_Put p0 y3 y4 hy4) all0)) (norm ?_)
  obtain rfl := some_eq h
  exact At.ret fun a w hs => ret_ok hR (ρ := []) (gs := []) (by kernel_rfl) all0 (by kernel_rfl) rfl rfl a w hs _ (.inl rfl)
set_option maxRecDepth 100000 in
theorem C_wire_Writer_add (p1 : ByteArray) (o0 : T_wire_Writer) (r : T_wire_Writer) (h : F_wire_Writer_add p1 o0 = some r) : FnOK Try.prog 71 [.ptr 0 0, sv p1] [.blk 74 [.row 1 (o0.s).length], .row 5 1 (encL (eInt .u8) o0.s)] (.tup []) [.blk 74 [.row 1 (r.s).length], .row 5 1 (encL (eInt .u8) r.s)] [1, 2, 3] := by
  rw [F_wire_Writer_add] at h
  refine FnOK.intro Try.func71 rfl (by kernel_rfl) (by kernel_rfl) fun E gv R hR => ?_
  refine At.seq ?_
  refine At.region_end [0, 1, 5] [0, 1, 2, 3] _ (st' := ⟨[(0, .ptr 0 0), (1, sv p1), (5, bo true)], [.blk 74 [.row 1 (o0.s).length], .row 5 1 (encL (eInt .u8) o0.s), .ghost (gv 0) (.ptr 0 0), .ghost (gv 1) (.row 1 0)]⟩) (tips := []) (by kernel_rfl) all0 (norm ?_)
  refine At.cond true (by kernel_rfl) (fun _ => ?_) (fun hb => by cases hb)
  obtain ⟨g1, h⟩ := grd_some h
  obtain rfl := some_eq h
  refine At.region_end [] [0, 1, 2, 3] _ (st' := ⟨[], [.blk 74 [.row 1 ((o0.s ++ (sB p1))).length], .row 5 1 (encL (eInt .u8) (o0.s ++ (sB p1))), .ghost (gv 0) (.ptr 0 0), .ghost (gv 1) (.undef)]⟩) (tips := [(6, { form := some ((o0.s ++ (sB p1)).length, encL (eInt .u8) (o0.s ++ (sB p1))) })]) (by kernel_rfl) (allc (len_appS o0.s p1) (allc (encL_appS o0.s p1) (allc (app_ok (he_int .u8) (by decide) g1) all0))) (fun a w hs => ret_ok hR (ρ := [0, 1]) (gs := [.ghost (gv 0) (.ptr 0 0), .ghost (gv 1) (.undef)]) (by kernel_rfl) all0 (by kernel_rfl) rfl rfl a w hs _ (.inr rfl))
set_option maxRecDepth 100000 in
theorem C_wire_Writer_Int (p1 : Int) (o0 : T_wire_Writer) (r : T_wire_Writer) (h : F_wire_Writer_Int p1 o0 = some r) : FnOK Try.prog 67 [.ptr 0 0, i64 p1] [.blk 74 [.row 1 (o0.s).length], .row 5 1 (encL (eInt .u8) o0.s)] (.tup []) [.blk 74 [.row 1 (r.s).length], .row 5 1 (encL (eInt .u8) r.s)] [1, 2, 3] := by
  rw [F_wire_Writer_Int] at h
  refine FnOK.intro Try.func67 rfl (by kernel_rfl) (by kernel_rfl) fun E gv R hR => ?_
  obtain ⟨y1, hy1, h⟩ := bind_some h
  obtain ⟨y2, hy2, h⟩ := bind_some h
  obtain rfl := some_eq h
  refine At.region_end [] [0, 1, 2, 3] _ (st' := ⟨[], [.blk 74 [.row 1 (y2.s).length], .row 5 1 (encL (eInt .u8) y2.s), .ghost (gv 0) (.ptr 0 0), .ghost (gv 1) (.undef)]⟩) (tips := [(2, { pc := some { ρ := [], n0 := 0, res := sv y1, σ' := [], e := [] } }), (3, { pc := some { ρ := [0, 1], n0 := 2, res := .tup [], σ' := [.blk 74 [.row 1 (y2.s).length], .row 5 1 (encL (eInt .u8) y2.s)], e := [1, 2, 3] } })]) (by kernel_rfl) (allc (C_vint_PutInt (⟨#[]⟩ : ByteArray) p1 y1 hy1) (allc (C_wire_Writer_add y1 o0 y2 hy2) all0)) (fun a w hs => ret_ok hR (ρ := [0, 1]) (gs := [.ghost (gv 0) (.ptr 0 0), .ghost (gv 1) (.undef)]) (by kernel_rfl) all0 (by kernel_rfl) rfl rfl a w hs _ (.inr rfl))
set_option maxRecDepth 100000 in
theorem C_dump_writer_ints (o0 : T_wire_Writer) (o2 : (List Int)) (r : T_wire_Writer) (h : F_dump_writer_ints o0 o2 = some r) : FnOK Try.prog 39 [.agg [.ptr 0 0], .row 2 (o2).length] [.blk 74 [.row 1 (o0.s).length], .row 5 1 (encL (eInt .u8) o0.s), .row 3 1 (encL (eInt .i64) o2)] (.tup []) [.blk 74 [.row 1 (r.s).length], .row 5 1 (encL (eInt .u8) r.s), .row 3 1 (encL (eInt .i64) o2)] [1, 2, 3, 4] := by
  rw [F_dump_writer_ints] at h
  refine FnOK.intro Try.func39 rfl (by kernel_rfl) (by kernel_rfl) fun E gv R hR => ?_
  refine At.seq ?_
  refine At.region_end [1, 2] [0, 1, 2, 3, 4, 5, 6] _ (st' := ⟨[(1, .row 2 (o2).length), (2, .ptr 6 0)], [.blk 74 [.row 1 (o0.s).length], .row 5 1 (encL (eInt .u8) o0.s), .row 3 1 (encL (eInt .i64) o2), .ghost (gv 0) (.ptr 0 0), .ghost (gv 1) (.row 1 0), .ghost (gv 2) (.row 2 0), .blk 76 [.ptr 0 0]]⟩) (tips := []) (by kernel_rfl) all0 (norm ?_)
  refine At.seq ?_
  refine At.region_end [2, 6, 7, 8] [0, 1, 2, 3, 4, 5, 6] _ (st' := ⟨[(2, .ptr 6 0), (6, .row 2 (o2).length), (7, i64 ((o2).length : Int)), (8, i64 0)], [.blk 74 [.row 1 (o0.s).length], .row 5 1 (encL (eInt .u8) o0.s), .row 3 1 (encL (eInt .i64) o2), .ghost (gv 0) (.ptr 0 0), .ghost (gv 1) (.row 1 0), .ghost (gv 2) (.row 2 0), .blk 76 [.ptr 0 0]]⟩) (tips := []) (by kernel_rfl) all0 (norm ?_)
  refine At.block ?_
  refine At.edNar [.hideG 4] [2, 6, 7, 8] [0, 1, 2, 3, 4, 5, 6] (st' := ⟨[(2, .ptr 6 0), (6, .row 2 (o2).length), (7, i64 ((o2).length : Int)), (8, i64 0)], [.blk 74 [.row 1 (o0.s).length], .row 5 1 (encL (eInt .u8) o0.s), .row 3 1 (encL (eInt .i64) o2), .ghost (gv 0) (.ptr 0 0), .ghost (gv 1) (.undef), .ghost (gv 2) (.row 2 0), .blk 76 [.ptr 0 0]]⟩) (by kernel_rfl) ?_
  refine At.loop (fun s : (Int × (List Int)) => F_dump_writer_ints_L1 o2 s.1 s.2) (fun s : (Int × (List Int)) => ⟨[(2, .ptr 6 0), (6, .row 2 (o2).length), (7, i64 ((o2).length : Int)), (8, i64 s.1)], [.blk 74 [.row 1 (s.2).length], .row 5 1 (encL (eInt .u8) s.2), .row 3 1 (encL (eInt .i64) o2), .ghost (gv 0) (.ptr 0 0), .ghost (gv 1) (.undef), .ghost (gv 2) (.row 2 0), .blk 76 [.ptr 0 0]]⟩) r (0, o0.s) h ?_
  rintro ⟨x1, x2⟩ oo3 h f4
  replace h : F_dump_writer_ints_L1 o2 x1 x2 = some oo3 := h
  rw [F_dump_writer_ints_L1] at h
  refine At.seq ?_
  refine At.region_end [2, 6, 7, 8, 9] [0, 1, 2, 3, 4, 5, 6] _ (st' := ⟨[(2, .ptr 6 0), (6, .row 2 (o2).length), (7, i64 ((o2).length : Int)), (8, i64 x1), (9, bo (decide (x1 < ((o2).length : Int))))], [.blk 74 [.row 1 (x2).length], .row 5 1 (encL (eInt .u8) x2), .row 3 1 (encL (eInt .i64) o2), .ghost (gv 0) (.ptr 0 0), .ghost (gv 1) (.undef), .ghost (gv 2) (.row 2 0), .blk 76 [.ptr 0 0]]⟩) (tips := []) (by kernel_rfl) all0 (norm ?_)
  refine At.seq ?_
  refine At.cond (decide (x1 < ((o2).length : Int))) (by kernel_rfl) (fun b6 => ?_) (fun b6 => ?_)
  · replace h := cond_t b6 h
    refine At.nar [2, 6, 7, 8] [0, 1, 2, 3, 4, 5, 6] (st' := ⟨[(2, .ptr 6 0), (6, .row 2 (o2).length), (7, i64 ((o2).length : Int)), (8, i64 x1)], [.blk 74 [.row 1 (x2).length], .row 5 1 (encL (eInt .u8) x2), .row 3 1 (encL (eInt .i64) o2), .ghost (gv 0) (.ptr 0 0), .ghost (gv 1) (.undef), .ghost (gv 2) (.row 2 0), .blk 76 [.ptr 0 0]]⟩) (by kernel_rfl) ?_
    refine At.skip (norm ?_)
    refine At.seq ?_
    refine At.block ?_
    refine At.seq ?_
    obtain ⟨y11, hy11, h⟩ := bind_some h
    refine At.region_end [2, 5, 6, 7, 8] [0, 1, 2, 3, 4, 5, 6] _ (st' := ⟨[(2, .ptr 6 0), (5, i64 y11), (6, .row 2 (o2).length), (7, i64 ((o2).length : Int)), (8, i64 x1)], [.blk 74 [.row 1 (x2).length], .row 5 1 (encL (eInt .u8) x2), .row 3 1 (encL (eInt .i64) o2), .ghost (gv 0) (.ptr 0 0), .ghost (gv 1) (.undef), .ghost (gv 2) (.row 2 0), .blk 76 [.ptr 0 0]]⟩) (tips := [(1, { orc := .val (.int .i64 y11) })]) (by kernel_rfl) (allc ((rAt_of (he_int .i64) (d := .int .i64 y11) hy11 rfl).1) (allc ((rAt_of (he_int .i64) (d := .int .i64 y11) hy11 rfl).2) all0)) (norm ?_)
    obtain ⟨y12, hy12, h⟩ := bind_some h
    refine At.region_end [2, 6, 7, 8] [0, 1, 2, 3, 4, 5, 6] _ (st' := ⟨[(2, .ptr 6 0), (6, .row 2 (o2).length), (7, i64 ((o2).length : Int)), (8, i64 x1)], [.blk 74 [.row 1 (y12.s).length], .row 5 1 (encL (eInt .u8) y12.s), .row 3 1 (encL (eInt .i64) o2), .ghost (gv 0) (.ptr 0 0), .ghost (gv 1) (.undef), .ghost (gv 2) (.row 2 0), .blk 76 [.ptr 0 0]]⟩) (tips := [(3, { pc := some { ρ := [0, 1], n0 := 2, res := .tup [], σ' := [.blk 74 [.row 1 (y12.s).length], .row 5 1 (encL (eInt .u8) y12.s)], e := [1, 2, 3] } })]) (by kernel_rfl) (allc (C_wire_Writer_Int y11 (⟨x2⟩ : T_wire_Writer) y12 hy12) all0) (norm ?_)
    refine At.region_end [2, 6, 7, 8] [0, 1, 2, 3, 4, 5, 6] _ (st' := ⟨[(2, .ptr 6 0), (6, .row 2 (o2).length), (7, i64 ((o2).length : Int)), (8, i64 (w64 (x1 + 1)))], [.blk 74 [.row 1 (y12.s).length], .row 5 1 (encL (eInt .u8) y12.s), .row 3 1 (encL (eInt .i64) o2), .ghost (gv 0) (.ptr 0 0), .ghost (gv 1) (.undef), .ghost (gv 2) (.row 2 0), .blk 76 [.ptr 0 0]]⟩) (tips := []) (by kernel_rfl) all0 (fun a w hs => ⟨_, (some_eq h).symm, hs⟩)
  · replace h := cond_f b6 h
    refine At.nar [] [0, 1, 2, 3, 4, 5] (st' := ⟨[], [.blk 74 [.row 1 (x2).length], .row 5 1 (encL (eInt .u8) x2), .row 3 1 (encL (eInt .i64) o2), .ghost (gv 0) (.ptr 0 0), .ghost (gv 1) (.undef), .ghost (gv 2) (.row 2 0)]⟩) (by kernel_rfl) ?_
    obtain ⟨r13, h, e14⟩ := map_inr h
    rw [f4 _ e14] at h
    obtain rfl := some_eq h
    refine At.exit (fun a w hs => ret_ok hR (ρ := [0, 1, 2]) (gs := [.ghost (gv 0) (.ptr 0 0), .ghost (gv 1) (.undef), .ghost (gv 2) (.row 2 0)]) (by kernel_rfl) all0 (by kernel_rfl) rfl rfl a w hs _ (.inr rfl))
set_option maxRecDepth 100000 in
theorem C_wire_Writer_Num (p1 : Int) (o0 : T_wire_Writer) (r : T_wire_Writer) (h : F_wire_Writer_Num p1 o0 = some r) : FnOK Try.prog 40 [.ptr 0 0, u64 p1] [.blk 74 [.row 1 (o0.s).length], .row 5 1 (encL (eInt .u8) o0.s)] (.tup []) [.blk 74 [.row 1 (r.s).length], .row 5 1 (encL (eInt .u8) r.s)] [1, 2, 3] := by
  rw [F_wire_Writer_Num] at h
  refine FnOK.intro Try.func40 rfl (by kernel_rfl) (by kernel_rfl) fun E gv R hR => ?_
  obtain ⟨y1, hy1, h⟩ := bind_some h
  obtain ⟨y2, hy2, h⟩ := bind_some h
  obtain rfl := some_eq h
  refine At.region_end [] [0, 1, 2, 3] _ (st' := ⟨[], [.blk 74 [.row 1 (y2.s).length], .row 5 1 (encL (eInt .u8) y2.s), .ghost (gv 0) (.ptr 0 0), .ghost (gv 1) (.undef)]⟩) (tips := [(2, { pc := some { ρ := [], n0 := 0, res := sv y1, σ' := [], e := [] } }), (3, { pc := some { ρ := [0, 1], n0 := 2, res := .tup [], σ' := [.blk 74 [.row 1 (y2.s).length], .row 5 1 (encL (eInt .u8) y2.s)], e := [1, 2, 3] } })]) (by kernel_rfl) (allc (C_vint_Put (⟨#[]⟩ : ByteArray) p1 y1 hy1) (allc (C_wire_Writer_add y1 o0 y2 hy2) all0)) (fun a w hs => ret_ok hR (ρ := [0, 1]) (gs := [.ghost (gv 0) (.ptr 0 0), .ghost (gv 1) (.undef)]) (by kernel_rfl) all0 (by kernel_rfl) rfl rfl a w hs _ (.inr rfl))
set_option maxRecDepth 100000 in
theorem C_wire_Writer_Ints (p1 : (List Int)) (o0 : T_wire_Writer) (r : T_wire_Writer) (h : F_wire_Writer_Ints p1 o0 = some r) : FnOK Try.prog 42 [.ptr 0 0, lv (eInt .i64) p1] [.blk 74 [.row 1 (o0.s).length], .row 5 1 (encL (eInt .u8) o0.s)] (.tup []) [.blk 74 [.row 1 (r.s).length], .row 5 1 (encL (eInt .u8) r.s)] [1, 2, 3] := by
  rw [F_wire_Writer_Ints] at h
  refine FnOK.intro Try.func42 rfl (by kernel_rfl) (by kernel_rfl) fun E gv R hR => ?_
  refine At.seq ?_
  obtain ⟨y2, hy2, h⟩ := bind_some h
  refine At.region_end [0, 1] [0, 1, 2, 3] _ (st' := ⟨[(0, .ptr 0 0), (1, lv (eInt .i64) p1)], [.blk 74 [.row 1 (y2.s).length], .row 5 1 (encL (eInt .u8) y2.s), .ghost (gv 0) (.ptr 0 0), .ghost (gv 1) (.undef)]⟩) (tips := [(4, { pc := some { ρ := [0, 1], n0 := 2, res := .tup [], σ' := [.blk 74 [.row 1 (y2.s).length], .row 5 1 (encL (eInt .u8) y2.s)], e := [1, 2, 3] } })]) (by kernel_rfl) (allc (C_wire_Writer_Num (wu64 ((p1).length : Int)) o0 y2 hy2) all0) (norm ?_)
  refine At.seq ?_
  refine At.region_end [0, 11, 12, 13] [0, 1, 2, 3] _ (st' := ⟨[(0, .ptr 0 0), (11, lv (eInt .i64) p1), (12, i64 ((p1).length : Int)), (13, i64 0)], [.blk 74 [.row 1 (y2.s).length], .row 5 1 (encL (eInt .u8) y2.s), .ghost (gv 0) (.ptr 0 0), .ghost (gv 1) (.undef)]⟩) (tips := []) (by kernel_rfl) all0 (norm ?_)
  refine At.block ?_
  refine At.loop (fun s : (Int × (List Int)) => F_wire_Writer_Ints_L1 p1 s.1 s.2) (fun s : (Int × (List Int)) => ⟨[(0, .ptr 0 0), (11, lv (eInt .i64) p1), (12, i64 ((p1).length : Int)), (13, i64 s.1)], [.blk 74 [.row 1 (s.2).length], .row 5 1 (encL (eInt .u8) s.2), .ghost (gv 0) (.ptr 0 0), .ghost (gv 1) (.undef)]⟩) r (0, y2.s) h ?_
  rintro ⟨x3, x4⟩ oo5 h f6
  replace h : F_wire_Writer_Ints_L1 p1 x3 x4 = some oo5 := h
  rw [F_wire_Writer_Ints_L1] at h
  refine At.seq ?_
  refine At.region_end [0, 11, 12, 13, 14] [0, 1, 2, 3] _ (st' := ⟨[(0, .ptr 0 0), (11, lv (eInt .i64) p1), (12, i64 ((p1).length : Int)), (13, i64 x3), (14, bo (decide (x3 < ((p1).length : Int))))], [.blk 74 [.row 1 (x4).length], .row 5 1 (encL (eInt .u8) x4), .ghost (gv 0) (.ptr 0 0), .ghost (gv 1) (.undef)]⟩) (tips := []) (by kernel_rfl) all0 (norm ?_)
  refine At.seq ?_
  refine At.cond (decide (x3 < ((p1).length : Int))) (by kernel_rfl) (fun b8 => ?_) (fun b8 => ?_)
  · replace h := cond_t b8 h
    refine At.nar [0, 11, 12, 13] [0, 1, 2, 3] (st' := ⟨[(0, .ptr 0 0), (11, lv (eInt .i64) p1), (12, i64 ((p1).length : Int)), (13, i64 x3)], [.blk 74 [.row 1 (x4).length], .row 5 1 (encL (eInt .u8) x4), .ghost (gv 0) (.ptr 0 0), .ghost (gv 1) (.undef)]⟩) (by kernel_rfl) ?_
    refine At.skip (norm ?_)
    refine At.seq ?_
    refine At.block ?_
    refine At.seq ?_
    obtain ⟨y13, hy13, h⟩ := bind_some h
    refine At.region_end [0, 5, 11, 12, 13] [0, 1, 2, 3] _ (st' := ⟨[(0, .ptr 0 0), (5, i64 y13), (11, lv (eInt .i64) p1), (12, i64 ((p1).length : Int)), (13, i64 x3)], [.blk 74 [.row 1 (x4).length], .row 5 1 (encL (eInt .u8) x4), .ghost (gv 0) (.ptr 0 0), .ghost (gv 1) (.undef)]⟩) (tips := [(0, { orc := .cells ((eInt .i64) y13) })]) (by kernel_rfl) (allc (elemAt_of (he_int .i64) hy13) all0) (norm ?_)
    obtain ⟨y14, hy14, h⟩ := bind_some h
    refine At.region_end [0, 11, 12, 13] [0, 1, 2, 3] _ (st' := ⟨[(0, .ptr 0 0), (11, lv (eInt .i64) p1), (12, i64 ((p1).length : Int)), (13, i64 x3)], [.blk 74 [.row 1 (y14.s).length], .row 5 1 (encL (eInt .u8) y14.s), .ghost (gv 0) (.ptr 0 0), .ghost (gv 1) (.undef)]⟩) (tips := [(2, { pc := some { ρ := [0, 1], n0 := 2, res := .tup [], σ' := [.blk 74 [.row 1 (y14.s).length], .row 5 1 (encL (eInt .u8) y14.s)], e := [1, 2, 3] } })]) (by kernel_rfl) (allc (C_wire_Writer_Int y13 (⟨x4⟩ : T_wire_Writer) y14 hy14) all0) (norm ?_)
    refine At.region_end [0, 11, 12, 13] [0, 1, 2, 3] _ (st' := ⟨[(0, .ptr 0 0), (11, lv (eInt .i64) p1), (12, i64 ((p1).length : Int)), (13, i64 (w64 (x3 + 1)))], [.blk 74 [.row 1 (y14.s).length], .row 5 1 (encL (eInt .u8) y14.s), .ghost (gv 0) (.ptr 0 0), .ghost (gv 1) (.undef)]⟩) (tips := []) (by kernel_rfl) all0 (fun a w hs => ⟨_, (some_eq h).symm, hs⟩)
  · replace h := cond_f b8 h
    refine At.nar [] [0, 1, 2, 3] (st' := ⟨[], [.blk 74 [.row 1 (x4).length], .row 5 1 (encL (eInt .u8) x4), .ghost (gv 0) (.ptr 0 0), .ghost (gv 1) (.undef)]⟩) (by kernel_rfl) ?_
    obtain ⟨r15, h, e16⟩ := map_inr h
    rw [f6 _ e16] at h
    obtain rfl := some_eq h
    refine At.exit (fun a w hs => ret_ok hR (ρ := [0, 1]) (gs := [.ghost (gv 0) (.ptr 0 0), .ghost (gv 1) (.undef)]) (by kernel_rfl) all0 (by kernel_rfl) rfl rfl a w hs _ (.inr rfl))
set_option maxRecDepth 100000 in
theorem C_dump_writer_proc (p1 : T_api_Proc) (o0 : T_wire_Writer) (r : T_wire_Writer) (h : F_dump_writer_proc p1 o0 = some r) : FnOK Try.prog 41 [.agg [.ptr 0 0], .agg (T_api_Proc.pvs p1)] [.blk 74 [.row 1 (o0.s).length], .row 5 1 (encL (eInt .u8) o0.s)] (.tup []) [.blk 74 [.row 1 (r.s).length], .row 5 1 (encL (eInt .u8) r.s)] [1, 2, 3] := by
  rw [F_dump_writer_proc] at h
  refine FnOK.intro Try.func41 rfl (by kernel_rfl) (by kernel_rfl) fun E gv R hR => ?_
  refine At.seq ?_
  refine At.region_end [2, 3] [0, 1, 2, 3, 4, 5] _ (st' := ⟨[(2, .ptr 4 0), (3, .ptr 5 0)], [.blk 74 [.row 1 (o0.s).length], .row 5 1 (encL (eInt .u8) o0.s), .ghost (gv 0) (.ptr 0 0), .ghost (gv 1) (.row 1 0), .blk 76 [.ptr 0 0], .blk 70 (T_api_Proc.pvs p1)]⟩) (tips := []) (by kernel_rfl) all0 (norm ?_)
  refine At.seq ?_
  obtain ⟨y2, hy2, h⟩ := bind_some h
  refine At.region_end [2, 3] [0, 1, 2, 3, 4, 5] _ (st' := ⟨[(2, .ptr 4 0), (3, .ptr 5 0)], [.blk 74 [.row 1 (y2.s).length], .row 5 1 (encL (eInt .u8) y2.s), .ghost (gv 0) (.ptr 0 0), .ghost (gv 1) (.undef), .blk 76 [.ptr 0 0], .blk 70 (T_api_Proc.pvs p1)]⟩) (tips := [(6, { pc := some { ρ := [0, 1, 6], n0 := 3, res := .tup [], σ' := [.blk 74 [.row 1 (y2.s).length], .row 5 1 (encL (eInt .u8) y2.s), .row 3 1 (encL (eInt .i64) ([p1.Def, p1.At]))], e := [1, 2, 3, 4] } })]) (by kernel_rfl) (allc (C_dump_writer_ints o0 ([p1.Def, p1.At]) y2 hy2) all0) (norm ?_)
  refine At.seq ?_
  obtain ⟨y4, hy4, h⟩ := bind_some h
  refine At.region_end [2, 3] [0, 1, 2, 3, 4, 5] _ (st' := ⟨[(2, .ptr 4 0), (3, .ptr 5 0)], [.blk 74 [.row 1 (y4.s).length], .row 5 1 (encL (eInt .u8) y4.s), .ghost (gv 0) (.ptr 0 0), .ghost (gv 1) (.undef), .blk 76 [.ptr 0 0], .blk 70 (T_api_Proc.pvs p1)]⟩) (tips := [(4, { pc := some { ρ := [0, 1], n0 := 2, res := .tup [], σ' := [.blk 74 [.row 1 (y4.s).length], .row 5 1 (encL (eInt .u8) y4.s)], e := [1, 2, 3] } })]) (by kernel_rfl) (allc (C_wire_Writer_Ints p1.Vars y2 y4 hy4) all0) (norm ?_)
  refine At.seq ?_
  obtain ⟨y6, hy6, h⟩ := bind_some h
  refine At.region_end [2, 3] [0, 1, 2, 3, 4, 5] _ (st' := ⟨[(2, .ptr 4 0), (3, .ptr 5 0)], [.blk 74 [.row 1 (y6.s).length], .row 5 1 (encL (eInt .u8) y6.s), .ghost (gv 0) (.ptr 0 0), .ghost (gv 1) (.undef), .blk 76 [.ptr 0 0], .blk 70 (T_api_Proc.pvs p1)]⟩) (tips := [(16, { pc := some { ρ := [0, 1, 6], n0 := 3, res := .tup [], σ' := [.blk 74 [.row 1 (y6.s).length], .row 5 1 (encL (eInt .u8) y6.s), .row 3 1 (encL (eInt .i64) ([p1.Fuel, p1.Mode, p1.Chan, p1.Val, p1.Slot, p1.Until, p1.Since]))], e := [1, 2, 3, 4] } })]) (by kernel_rfl) (allc (C_dump_writer_ints y4 ([p1.Fuel, p1.Mode, p1.Chan, p1.Val, p1.Slot, p1.Until, p1.Since]) y6 hy6) all0) (norm ?_)
  refine At.seq ?_
  obtain ⟨y8, hy8, h⟩ := bind_some h
  refine At.region_end [2, 3] [0, 1, 2, 3, 4, 5] _ (st' := ⟨[(2, .ptr 4 0), (3, .ptr 5 0)], [.blk 74 [.row 1 (y8.s).length], .row 5 1 (encL (eInt .u8) y8.s), .ghost (gv 0) (.ptr 0 0), .ghost (gv 1) (.undef), .blk 76 [.ptr 0 0], .blk 70 (T_api_Proc.pvs p1)]⟩) (tips := [(6, { pc := some { ρ := [0, 1], n0 := 2, res := .tup [], σ' := [.blk 74 [.row 1 (y8.s).length], .row 5 1 (encL (eInt .u8) y8.s)], e := [1, 2, 3] } })]) (by kernel_rfl) (allc (C_wire_Writer_Num (wu64 ((p1.Alts).length : Int)) y6 y8 hy8) all0) (norm ?_)
  refine At.seq ?_
  refine At.region_end [2, 43, 44, 45] [0, 1, 2, 3, 4] _ (st' := ⟨[(2, .ptr 4 0), (43, lv T_api_Alt.enc p1.Alts), (44, i64 ((p1.Alts).length : Int)), (45, i64 0)], [.blk 74 [.row 1 (y8.s).length], .row 5 1 (encL (eInt .u8) y8.s), .ghost (gv 0) (.ptr 0 0), .ghost (gv 1) (.undef), .blk 76 [.ptr 0 0]]⟩) (tips := []) (by kernel_rfl) all0 (norm ?_)
  refine At.block ?_
  refine At.loop (fun s : (Int × (List Int)) => F_dump_writer_proc_L1 p1 s.1 s.2) (fun s : (Int × (List Int)) => ⟨[(2, .ptr 4 0), (43, lv T_api_Alt.enc p1.Alts), (44, i64 ((p1.Alts).length : Int)), (45, i64 s.1)], [.blk 74 [.row 1 (s.2).length], .row 5 1 (encL (eInt .u8) s.2), .ghost (gv 0) (.ptr 0 0), .ghost (gv 1) (.undef), .blk 76 [.ptr 0 0]]⟩) r (0, y8.s) h ?_
  rintro ⟨x9, x10⟩ oo11 h f12
  replace h : F_dump_writer_proc_L1 p1 x9 x10 = some oo11 := h
  rw [F_dump_writer_proc_L1] at h
  refine At.seq ?_
  refine At.region_end [2, 43, 44, 45, 46] [0, 1, 2, 3, 4] _ (st' := ⟨[(2, .ptr 4 0), (43, lv T_api_Alt.enc p1.Alts), (44, i64 ((p1.Alts).length : Int)), (45, i64 x9), (46, bo (decide (x9 < ((p1.Alts).length : Int))))], [.blk 74 [.row 1 (x10).length], .row 5 1 (encL (eInt .u8) x10), .ghost (gv 0) (.ptr 0 0), .ghost (gv 1) (.undef), .blk 76 [.ptr 0 0]]⟩) (tips := []) (by kernel_rfl) all0 (norm ?_)
  refine At.seq ?_
  refine At.cond (decide (x9 < ((p1.Alts).length : Int))) (by kernel_rfl) (fun b14 => ?_) (fun b14 => ?_)
  · replace h := cond_t b14 h
    refine At.nar [2, 43, 44, 45] [0, 1, 2, 3, 4] (st' := ⟨[(2, .ptr 4 0), (43, lv T_api_Alt.enc p1.Alts), (44, i64 ((p1.Alts).length : Int)), (45, i64 x9)], [.blk 74 [.row 1 (x10).length], .row 5 1 (encL (eInt .u8) x10), .ghost (gv 0) (.ptr 0 0), .ghost (gv 1) (.undef), .blk 76 [.ptr 0 0]]⟩) (by kernel_rfl) ?_
    refine At.skip (norm ?_)
    refine At.seq ?_
    refine At.block ?_
    refine At.seq ?_
    obtain ⟨y19, hy19, h⟩ := bind_some h
    refine At.region_end [2, 5, 43, 44, 45] [0, 1, 2, 3, 4, 5] _ (st' := ⟨[(2, .ptr 4 0), (5, .ptr 5 0), (43, lv T_api_Alt.enc p1.Alts), (44, i64 ((p1.Alts).length : Int)), (45, i64 x9)], [.blk 74 [.row 1 (x10).length], .row 5 1 (encL (eInt .u8) x10), .ghost (gv 0) (.ptr 0 0), .ghost (gv 1) (.undef), .blk 76 [.ptr 0 0], .blk 102 (T_api_Alt.pvs y19)]⟩) (tips := [(0, { orc := .cells (T_api_Alt.enc y19) })]) (by kernel_rfl) (allc (elemAt_of T_api_Alt.enc_len hy19) all0) (norm ?_)
    obtain ⟨y20, hy20, h⟩ := bind_some h
    refine At.region_end [2, 43, 44, 45] [0, 1, 2, 3, 4] _ (st' := ⟨[(2, .ptr 4 0), (43, lv T_api_Alt.enc p1.Alts), (44, i64 ((p1.Alts).length : Int)), (45, i64 x9)], [.blk 74 [.row 1 (y20.s).length], .row 5 1 (encL (eInt .u8) y20.s), .ghost (gv 0) (.ptr 0 0), .ghost (gv 1) (.undef), .blk 76 [.ptr 0 0]]⟩) (tips := [(12, { pc := some { ρ := [0, 1, 6], n0 := 3, res := .tup [], σ' := [.blk 74 [.row 1 (y20.s).length], .row 5 1 (encL (eInt .u8) y20.s), .row 3 1 (encL (eInt .i64) ([y19.Kind, y19.Chan, y19.Val, y19.Slot, y19.Goto]))], e := [1, 2, 3, 4] } })]) (by kernel_rfl) (allc (C_dump_writer_ints (⟨x10⟩ : T_wire_Writer) ([y19.Kind, y19.Chan, y19.Val, y19.Slot, y19.Goto]) y20 hy20) all0) (norm ?_)
    refine At.region_end [2, 43, 44, 45] [0, 1, 2, 3, 4] _ (st' := ⟨[(2, .ptr 4 0), (43, lv T_api_Alt.enc p1.Alts), (44, i64 ((p1.Alts).length : Int)), (45, i64 (w64 (x9 + 1)))], [.blk 74 [.row 1 (y20.s).length], .row 5 1 (encL (eInt .u8) y20.s), .ghost (gv 0) (.ptr 0 0), .ghost (gv 1) (.undef), .blk 76 [.ptr 0 0]]⟩) (tips := []) (by kernel_rfl) all0 (fun a w hs => ⟨_, (some_eq h).symm, hs⟩)
  · replace h := cond_f b14 h
    refine At.nar [] [0, 1, 2, 3] (st' := ⟨[], [.blk 74 [.row 1 (x10).length], .row 5 1 (encL (eInt .u8) x10), .ghost (gv 0) (.ptr 0 0), .ghost (gv 1) (.undef)]⟩) (by kernel_rfl) ?_
    obtain ⟨r21, h, e22⟩ := map_inr h
    rw [f12 _ e22] at h
    obtain rfl := some_eq h
    refine At.exit (fun a w hs => ret_ok hR (ρ := [0, 1]) (gs := [.ghost (gv 0) (.ptr 0 0), .ghost (gv 1) (.undef)]) (by kernel_rfl) all0 (by kernel_rfl) rfl rfl a w hs _ (.inr rfl))
set_option maxRecDepth 100000 in
theorem C_wire_Writer_Bytes (o0 : T_wire_Writer) (r : ByteArray) (h : F_wire_Writer_Bytes o0 = some r) : FnOK Try.prog 43 [.ptr 0 0] [.blk 74 [.row 1 (o0.s).length], .row 5 1 (encL (eInt .u8) o0.s)] (sv r) [.blk 74 [.row 1 (o0.s).length], .row 5 1 (encL (eInt .u8) o0.s)] [1, 2] := by
  rw [F_wire_Writer_Bytes] at h
  refine FnOK.intro Try.func43 rfl (by kernel_rfl) (by kernel_rfl) fun E gv R hR => ?_
  refine At.seq ?_
  refine At.region_end [0] [0, 1, 2, 3] _ (st' := ⟨[(0, .ptr 0 0)], [.blk 74 [.row 1 (o0.s).length], .row 5 1 (encL (eInt .u8) o0.s), .ghost (gv 0) (.ptr 0 0), .ghost (gv 1) (.row 1 0)]⟩) (tips := []) (by kernel_rfl) all0 (norm ?_)
  refine At.seq ?_
  refine At.seq ?_
  refine At.region_end [0, 4] [0, 1, 2, 3] _ (st' := ⟨[(0, .ptr 0 0), (4, bo false)], [.blk 74 [.row 1 (o0.s).length], .row 5 1 (encL (eInt .u8) o0.s), .ghost (gv 0) (.ptr 0 0), .ghost (gv 1) (.row 1 0)]⟩) (tips := []) (by kernel_rfl) all0 (norm ?_)
  refine At.cond false (by kernel_rfl) (fun hb => by cases hb) (fun _ => ?_)
  refine At.nar [0] [0, 1, 2, 3] (st' := ⟨[(0, .ptr 0 0)], [.blk 74 [.row 1 (o0.s).length], .row 5 1 (encL (eInt .u8) o0.s), .ghost (gv 0) (.ptr 0 0), .ghost (gv 1) (.row 1 0)]⟩) (by kernel_rfl) ?_
  refine At.skip (norm ?_)
  refine At.seq ?_
  refine At.region_end [2] [0, 1, 2, 3] _ (st' := ⟨[(2, sv (strOfNums o0.s))], [.blk 74 [.row 1 (o0.s).length], .row 5 1 (encL (eInt .u8) o0.s), .ghost (gv 0) (.ptr 0 0), .ghost (gv 1) (.row 1 0)]⟩) (tips := [(4, { orc := .nums o0.s })]) (by kernel_rfl) (allc (encL_map .u8 o0.s) (allc (rfl : (o0.s).length = (o0.s).length) all0)) (norm ?_)
  obtain rfl := some_eq h
  exact At.ret fun a w hs => ret_ok hR (ρ := [0, 1]) (gs := [.ghost (gv 0) (.ptr 0 0), .ghost (gv 1) (.row 1 0)]) (by kernel_rfl) all0 (by kernel_rfl) rfl rfl a w hs _ (.inl rfl)
set_option maxRecDepth 100000 in
theorem C_dump_Put (p0_0 : Int) (p0_1 : Int) (p0_2 : Int) (p0_3 : Int) (p0_4 : Int) (p0_5 : (List T_api_Proc)) (o0 : (List Int)) (r : ByteArray) (h : F_dump_Put p0_0 p0_1 p0_2 p0_3 p0_4 p0_5 o0 = some r) : FnOK Try.prog 13 [.agg [i64 p0_0, i64 p0_1, i64 p0_2, i64 p0_3, i64 p0_4, lv T_api_Proc.enc p0_5, .row 0 (o0).length]] [.row 3 1 (encL (eInt .i64) o0)] (sv r) [.dead] [0, 1] := by
  rw [F_dump_Put] at h
  refine FnOK.intro Try.func13 rfl (by kernel_rfl) (by kernel_rfl) fun E gv R hR => ?_
  refine At.seq ?_
  refine At.region_end [1] [0, 1, 2] _ (st' := ⟨[(1, .ptr 2 0)], [.row 3 1 (encL (eInt .i64) o0), .ghost (gv 0) (.row 0 0), .blk 25 [i64 p0_0, i64 p0_1, i64 p0_2, i64 p0_3, i64 p0_4, lv T_api_Proc.enc p0_5, .row 0 (o0).length]]⟩) (tips := []) (by kernel_rfl) all0 (norm ?_)
  refine At.seq ?_
  refine At.region_end [1, 3] [0, 1, 2, 4, 3] _ (st' := ⟨[(1, .ptr 2 0), (3, .ptr 3 0)], [.row 3 1 (encL (eInt .i64) o0), .ghost (gv 0) (.row 0 0), .blk 25 [i64 p0_0, i64 p0_1, i64 p0_2, i64 p0_3, i64 p0_4, lv T_api_Proc.enc p0_5, .row 0 (o0).length], .blk 76 [.ptr 4 0], .blk 74 [.d (.list true 0 [])]]⟩) (tips := []) (by kernel_rfl) all0 (norm ?_)
  refine At.seq ?_
  refine At.eds [.ownO 4 0 5 1] (st' := ⟨[(1, .ptr 2 0), (3, .ptr 3 0)], [.row 3 1 (encL (eInt .i64) o0), .ghost (gv 0) (.row 0 0), .blk 25 [i64 p0_0, i64 p0_1, i64 p0_2, i64 p0_3, i64 p0_4, lv T_api_Proc.enc p0_5, .row 0 (o0).length], .blk 76 [.ptr 4 0], .blk 74 [.row 5 ([] : List Int).length], .row 5 1 (encL (eInt .u8) ([]))]⟩) (by kernel_rfl) ?_
  obtain ⟨y2, hy2, h⟩ := bind_some h
  refine At.region_end [1, 3] [0, 1, 2, 3, 4, 5] _ (st' := ⟨[(1, .ptr 2 0), (3, .ptr 3 0)], [.row 3 1 (encL (eInt .i64) o0), .ghost (gv 0) (.row 0 0), .blk 25 [i64 p0_0, i64 p0_1, i64 p0_2, i64 p0_3, i64 p0_4, lv T_api_Proc.enc p0_5, .row 0 (o0).length], .blk 76 [.ptr 4 0], .blk 74 [.row 5 (y2.s).length], .row 5 1 (encL (eInt .u8) y2.s)]⟩) (tips := [(12, { pc := some { ρ := [4, 5, 6], n0 := 3, res := .tup [], σ' := [.blk 74 [.row 1 (y2.s).length], .row 5 1 (encL (eInt .u8) y2.s), .row 3 1 (encL (eInt .i64) ([p0_0, p0_1, p0_2, p0_3, p0_4]))], e := [1, 2, 3, 4] } })]) (by kernel_rfl) (allc (C_dump_writer_ints (⟨([] : List Int)⟩ : T_wire_Writer) ([p0_0, p0_1, p0_2, p0_3, p0_4]) y2 hy2) all0) (norm ?_)
  refine At.seq ?_
  obtain ⟨y4, hy4, h⟩ := bind_some h
  refine At.region_end [1, 3] [0, 1, 2, 3, 4, 5] _ (st' := ⟨[(1, .ptr 2 0), (3, .ptr 3 0)], [.row 3 1 (encL (eInt .i64) o0), .ghost (gv 0) (.row 0 0), .blk 25 [i64 p0_0, i64 p0_1, i64 p0_2, i64 p0_3, i64 p0_4, lv T_api_Proc.enc p0_5, .row 0 (o0).length], .blk 76 [.ptr 4 0], .blk 74 [.row 5 (y4.s).length], .row 5 1 (encL (eInt .u8) y4.s)]⟩) (tips := [(6, { pc := some { ρ := [4, 5], n0 := 2, res := .tup [], σ' := [.blk 74 [.row 1 (y4.s).length], .row 5 1 (encL (eInt .u8) y4.s)], e := [1, 2, 3] } })]) (by kernel_rfl) (allc (C_wire_Writer_Num (wu64 ((p0_5).length : Int)) y2 y4 hy4) all0) (norm ?_)
  refine At.seq ?_
  refine At.seq ?_
  refine At.region_end [1, 3, 30, 31, 32] [0, 1, 2, 3, 4, 5] _ (st' := ⟨[(1, .ptr 2 0), (3, .ptr 3 0), (30, lv T_api_Proc.enc p0_5), (31, i64 ((p0_5).length : Int)), (32, i64 0)], [.row 3 1 (encL (eInt .i64) o0), .ghost (gv 0) (.row 0 0), .blk 25 [i64 p0_0, i64 p0_1, i64 p0_2, i64 p0_3, i64 p0_4, lv T_api_Proc.enc p0_5, .row 0 (o0).length], .blk 76 [.ptr 4 0], .blk 74 [.row 5 (y4.s).length], .row 5 1 (encL (eInt .u8) y4.s)]⟩) (tips := []) (by kernel_rfl) all0 (norm ?_)
  refine At.block ?_
  refine At.loop (fun s : (Int × (List Int)) => F_dump_Put_L1 p0_5 o0 s.1 s.2) (fun s : (Int × (List Int)) => ⟨[(1, .ptr 2 0), (3, .ptr 3 0), (30, lv T_api_Proc.enc p0_5), (31, i64 ((p0_5).length : Int)), (32, i64 s.1)], [.row 3 1 (encL (eInt .i64) o0), .ghost (gv 0) (.row 0 0), .blk 25 [i64 p0_0, i64 p0_1, i64 p0_2, i64 p0_3, i64 p0_4, lv T_api_Proc.enc p0_5, .row 0 (o0).length], .blk 76 [.ptr 4 0], .blk 74 [.row 5 (s.2).length], .row 5 1 (encL (eInt .u8) s.2)]⟩) r (0, y4.s) h ?_
  rintro ⟨x19, x20⟩ oo21 h f22
  replace h : F_dump_Put_L1 p0_5 o0 x19 x20 = some oo21 := h
  rw [F_dump_Put_L1] at h
  refine At.seq ?_
  refine At.region_end [1, 3, 30, 31, 32, 33] [0, 1, 2, 3, 4, 5] _ (st' := ⟨[(1, .ptr 2 0), (3, .ptr 3 0), (30, lv T_api_Proc.enc p0_5), (31, i64 ((p0_5).length : Int)), (32, i64 x19), (33, bo (decide (x19 < ((p0_5).length : Int))))], [.row 3 1 (encL (eInt .i64) o0), .ghost (gv 0) (.row 0 0), .blk 25 [i64 p0_0, i64 p0_1, i64 p0_2, i64 p0_3, i64 p0_4, lv T_api_Proc.enc p0_5, .row 0 (o0).length], .blk 76 [.ptr 4 0], .blk 74 [.row 5 (x20).length], .row 5 1 (encL (eInt .u8) x20)]⟩) (tips := []) (by kernel_rfl) all0 (norm ?_)
  refine At.seq ?_
  refine At.cond (decide (x19 < ((p0_5).length : Int))) (by kernel_rfl) (fun b24 => ?_) (fun b24 => ?_)
  · replace h := cond_t b24 h
    refine At.nar [1, 3, 30, 31, 32] [0, 1, 2, 3, 4, 5] (st' := ⟨[(1, .ptr 2 0), (3, .ptr 3 0), (30, lv T_api_Proc.enc p0_5), (31, i64 ((p0_5).length : Int)), (32, i64 x19)], [.row 3 1 (encL (eInt .i64) o0), .ghost (gv 0) (.row 0 0), .blk 25 [i64 p0_0, i64 p0_1, i64 p0_2, i64 p0_3, i64 p0_4, lv T_api_Proc.enc p0_5, .row 0 (o0).length], .blk 76 [.ptr 4 0], .blk 74 [.row 5 (x20).length], .row 5 1 (encL (eInt .u8) x20)]⟩) (by kernel_rfl) ?_
    refine At.skip (norm ?_)
    refine At.seq ?_
    refine At.block ?_
    refine At.seq ?_
    obtain ⟨y29, hy29, h⟩ := bind_some h
    refine At.region_end [1, 3, 5, 30, 31, 32] [0, 1, 2, 3, 4, 5, 6] _ (st' := ⟨[(1, .ptr 2 0), (3, .ptr 3 0), (5, .ptr 6 0), (30, lv T_api_Proc.enc p0_5), (31, i64 ((p0_5).length : Int)), (32, i64 x19)], [.row 3 1 (encL (eInt .i64) o0), .ghost (gv 0) (.row 0 0), .blk 25 [i64 p0_0, i64 p0_1, i64 p0_2, i64 p0_3, i64 p0_4, lv T_api_Proc.enc p0_5, .row 0 (o0).length], .blk 76 [.ptr 4 0], .blk 74 [.row 5 (x20).length], .row 5 1 (encL (eInt .u8) x20), .blk 70 (T_api_Proc.pvs y29)]⟩) (tips := [(0, { orc := .cells (T_api_Proc.enc y29) })]) (by kernel_rfl) (allc (elemAt_of T_api_Proc.enc_len hy29) all0) (norm ?_)
    obtain ⟨y30, hy30, h⟩ := bind_some h
    refine At.region_end [1, 3, 30, 31, 32] [0, 1, 2, 3, 4, 5] _ (st' := ⟨[(1, .ptr 2 0), (3, .ptr 3 0), (30, lv T_api_Proc.enc p0_5), (31, i64 ((p0_5).length : Int)), (32, i64 x19)], [.row 3 1 (encL (eInt .i64) o0), .ghost (gv 0) (.row 0 0), .blk 25 [i64 p0_0, i64 p0_1, i64 p0_2, i64 p0_3, i64 p0_4, lv T_api_Proc.enc p0_5, .row 0 (o0).length], .blk 76 [.ptr 4 0], .blk 74 [.row 5 (y30.s).length], .row 5 1 (encL (eInt .u8) y30.s)]⟩) (tips := [(2, { pc := some { ρ := [4, 5], n0 := 2, res := .tup [], σ' := [.blk 74 [.row 1 (y30.s).length], .row 5 1 (encL (eInt .u8) y30.s)], e := [1, 2, 3] } })]) (by kernel_rfl) (allc (C_dump_writer_proc y29 (⟨x20⟩ : T_wire_Writer) y30 hy30) all0) (norm ?_)
    refine At.region_end [1, 3, 30, 31, 32] [0, 1, 2, 3, 4, 5] _ (st' := ⟨[(1, .ptr 2 0), (3, .ptr 3 0), (30, lv T_api_Proc.enc p0_5), (31, i64 ((p0_5).length : Int)), (32, i64 (w64 (x19 + 1)))], [.row 3 1 (encL (eInt .i64) o0), .ghost (gv 0) (.row 0 0), .blk 25 [i64 p0_0, i64 p0_1, i64 p0_2, i64 p0_3, i64 p0_4, lv T_api_Proc.enc p0_5, .row 0 (o0).length], .blk 76 [.ptr 4 0], .blk 74 [.row 5 (y30.s).length], .row 5 1 (encL (eInt .u8) y30.s)]⟩) (tips := []) (by kernel_rfl) all0 (fun a w hs => ⟨_, (some_eq h).symm, hs⟩)
  · replace h := cond_f b24 h
    refine At.nar [1, 3] [0, 1, 2, 3, 4, 5] (st' := ⟨[(1, .ptr 2 0), (3, .ptr 3 0)], [.row 3 1 (encL (eInt .i64) o0), .ghost (gv 0) (.row 0 0), .blk 25 [i64 p0_0, i64 p0_1, i64 p0_2, i64 p0_3, i64 p0_4, lv T_api_Proc.enc p0_5, .row 0 (o0).length], .blk 76 [.ptr 4 0], .blk 74 [.row 5 (x20).length], .row 5 1 (encL (eInt .u8) x20)]⟩) (by kernel_rfl) ?_
    obtain ⟨r31, h, e32⟩ := map_inr h
    rw [f22 _ e32] at h
    refine At.exit (norm ?_)
    refine At.seq ?_
    obtain ⟨y34, hy34, h⟩ := bind_some h
    refine At.region_end [3] [0, 1, 3, 4, 5] _ (st' := ⟨[(3, .ptr 2 0)], [.dead, .ghost (gv 0) (.d (.list false 0 (encL (eInt .i64) o0))), .blk 76 [.ptr 3 0], .blk 74 [.row 4 (y34.s).length], .row 5 1 (encL (eInt .u8) y34.s)]⟩) (tips := [(4, { settle := [0], pc := some { ρ := [4, 5], n0 := 2, res := .tup [], σ' := [.blk 74 [.row 1 (y34.s).length], .row 5 1 (encL (eInt .u8) y34.s)], e := [1, 2, 3] } })]) (by kernel_rfl) (allc (C_wire_Writer_Ints o0 (⟨x20⟩ : T_wire_Writer) y34 hy34) all0) (norm ?_)
    refine At.seq ?_
    obtain ⟨y36, hy36, h⟩ := bind_some h
    refine At.region_end [2] [0, 1] _ (st' := ⟨[(2, sv y36)], [.dead, .ghost (gv 0) (.d (.list false 0 (encL (eInt .i64) o0)))]⟩) (tips := [(2, { pc := some { ρ := [3, 4], n0 := 2, res := sv y36, σ' := [.blk 74 [.row 1 (y34.s).length], .row 5 1 (encL (eInt .u8) y34.s)], e := [1, 2] } })]) (by kernel_rfl) (allc (C_wire_Writer_Bytes y34 y36 hy36) all0) (norm ?_)
    refine At.edNar [.hideG 1] [2] [0, 1] (st' := ⟨[(2, sv y36)], [.dead, .ghost (gv 0) (.undef)]⟩) (by kernel_rfl) ?_
    obtain rfl := some_eq h
    exact At.ret fun a w hs => ret_ok hR (ρ := [0]) (gs := [.ghost (gv 0) (.undef)]) (by kernel_rfl) all0 (by kernel_rfl) rfl rfl a w hs _ (.inl rfl)
set_option maxRecDepth 100000 in
theorem C_wire_Open (p0 : ByteArray) (r : T_wire_Reader) (h : F_wire_Open p0 = some r) : FnOK Try.prog 18 [sv p0] [] (.ptr 0 0) [.blk 89 (T_wire_Reader.pvs r)] [] := by
  rw [F_wire_Open] at h
  refine FnOK.intro Try.func18 rfl (by kernel_rfl) (by kernel_rfl) fun E gv R hR => ?_
  refine At.seq ?_
  refine At.region_end [0] [] _ (st' := ⟨[(0, sv p0)], []⟩) (tips := []) (by kernel_rfl) all0 (norm ?_)
  refine At.seq ?_
  refine At.region_end [2] [0] _ (st' := ⟨[(2, .ptr 0 0)], [.blk 89 [sv p0, i64 0]]⟩) (tips := []) (by kernel_rfl) all0 (norm ?_)
  obtain rfl := some_eq h
  exact At.ret fun a w hs => ret_ok hR (ρ := [0]) (gs := []) (by kernel_rfl) all0 (by kernel_rfl) rfl rfl a w hs _ (.inl rfl)
set_option maxRecDepth 100000 in
theorem C_vint_Get (p0 : ByteArray) (p1 : Int) (r : Int × Int × Int) (h : F_vint_Get p0 p1 = some r) : FnOK Try.prog 80 [sv p0, i64 p1] [] (.tup [u64 r.1, i64 r.2.1, i64 r.2.2]) [] [] := by
  rw [F_vint_Get] at h
  refine FnOK.intro Try.func80 rfl (by kernel_rfl) (by kernel_rfl) fun E gv R hR => ?_
  refine At.seq ?_
  refine At.region_end [0, 1] [] _ (st' := ⟨[(0, sv p0), (1, i64 p1)], []⟩) (tips := []) (by kernel_rfl) all0 (norm ?_)
  refine At.scope ?_
  refine At.seq ?_
  refine At.seqJ (S := Bool) (fun s => ⟨[(0, sv p0), (1, i64 p1), (18, bo s)], []⟩) (fun s => F_vint_Get_J1 p0 p1 s = some r) ?_ ?_
  · rcases tf (decide (p1 < 0)) with b173 | b173
    · replace h := cond_t b173 h
      refine At.region_end [0, 1, 18] [] _ (st' := ⟨[(0, sv p0), (1, i64 p1), (18, bo true)], []⟩) (tips := [(2, { orc := .val (.bool true) })]) (by kernel_rfl) (allc (congrArg D.bool b173) all0) (fun a w hs => ⟨true, h, hs⟩)
    · replace h := cond_f b173 h
      refine At.region_end [0, 1, 18] [] _ (st' := ⟨[(0, sv p0), (1, i64 p1), (18, bo (decide ((p0.size : Int) < p1)))], []⟩) (tips := [(2, { orc := .val (.bool false) })]) (by kernel_rfl) (allc (congrArg D.bool b173) all0) (fun a w hs => ⟨(decide ((p0.size : Int) < p1)), h, hs⟩)
  · intro x6 h
    replace h : F_vint_Get_J1 p0 p1 x6 = some r := h
    rw [F_vint_Get_J1] at h
    refine At.cond x6 (by kernel_rfl) (fun b7 => ?_) (fun b7 => ?_)
    · replace h := cond_t b7 h
      refine At.seq ?_
      refine At.region_end [4, 5, 6] [] _ (st' := ⟨[(4, u64 0), (5, i64 0), (6, i64 1)], []⟩) (tips := []) (by kernel_rfl) all0 (norm ?_)
      obtain rfl := some_eq h
      exact At.ret fun a w hs => ret_ok hR (ρ := []) (gs := []) (by kernel_rfl) all0 (by kernel_rfl) rfl rfl a w hs _ (.inl rfl)
    · replace h := cond_f b7 h
      refine At.nar [0, 1] [] (st' := ⟨[(0, sv p0), (1, i64 p1)], []⟩) (by kernel_rfl) ?_
      refine At.skip (norm ?_)
      refine At.seq ?_
      refine At.region_end [0, 1, 7] [] _ (st' := ⟨[(0, sv p0), (1, i64 p1), (7, i64 2)], []⟩) (tips := []) (by kernel_rfl) all0 (norm ?_)
      refine At.seq ?_
      refine At.region_end [0, 1, 7, 8] [] _ (st' := ⟨[(0, sv p0), (1, i64 p1), (7, i64 2), (8, u64 0)], []⟩) (tips := []) (by kernel_rfl) all0 (norm ?_)
      refine At.seq ?_
      refine At.label (norm ?_)
      refine At.seqJ (S := Int) (fun s => ⟨[(7, i64 s)], []⟩) (fun s => F_vint_Get_J2 s = some r) ?_ ?_
      · refine At.seq ?_
        obtain ⟨g93, h⟩ := grd_some h
        obtain ⟨g94, h⟩ := grd_some h
        refine At.region_end [1, 7, 8, 22, 23, 24] [0] _ (st' := ⟨[(1, i64 p1), (7, i64 2), (8, u64 0), (22, .row 0 ((sB (p0.extract (Int.toNat p1) (Int.toNat (p0.size : Int))))).length), (23, i64 (((sB (p0.extract (Int.toNat p1) (Int.toNat (p0.size : Int))))).length : Int)), (24, i64 0)], [.row 5 1 (encL (eInt .u8) (sB (p0.extract (Int.toNat p1) (Int.toNat (p0.size : Int)))))]⟩) (tips := [(3, { form := some ((sB (p0.extract (Int.toNat p1) (Int.toNat (p0.size : Int)))).length, encL (eInt .u8) (sB (p0.extract (Int.toNat p1) (Int.toNat (p0.size : Int))))) })]) (by kernel_rfl) (allc g93 (allc (len_sB (p0.extract (Int.toNat p1) (Int.toNat (p0.size : Int)))) (allc (encL_sB (p0.extract (Int.toNat p1) (Int.toNat (p0.size : Int)))) (allc g94 all0)))) (norm ?_)
        refine At.block ?_
        refine At.loop (fun s : (Int × Int) => F_vint_Get_L5 p0 p1 s.1 s.2) (fun s : (Int × Int) => ⟨[(1, i64 p1), (7, i64 2), (8, u64 s.1), (22, .row 0 ((sB (p0.extract (Int.toNat p1) (Int.toNat (p0.size : Int))))).length), (23, i64 (((sB (p0.extract (Int.toNat p1) (Int.toNat (p0.size : Int))))).length : Int)), (24, i64 s.2)], [.row 5 1 (encL (eInt .u8) (sB (p0.extract (Int.toNat p1) (Int.toNat (p0.size : Int)))))]⟩) r (0, 0) h ?_
        rintro ⟨x95, x96⟩ oo97 h f98
        replace h : F_vint_Get_L5 p0 p1 x95 x96 = some oo97 := h
        rw [F_vint_Get_L5] at h
        refine At.seq ?_
        refine At.region_end [1, 7, 8, 22, 23, 24, 25] [0] _ (st' := ⟨[(1, i64 p1), (7, i64 2), (8, u64 x95), (22, .row 0 ((sB (p0.extract (Int.toNat p1) (Int.toNat (p0.size : Int))))).length), (23, i64 (((sB (p0.extract (Int.toNat p1) (Int.toNat (p0.size : Int))))).length : Int)), (24, i64 x96), (25, bo (decide (x96 < (((sB (p0.extract (Int.toNat p1) (Int.toNat (p0.size : Int))))).length : Int))))], [.row 5 1 (encL (eInt .u8) (sB (p0.extract (Int.toNat p1) (Int.toNat (p0.size : Int)))))]⟩) (tips := []) (by kernel_rfl) all0 (norm ?_)
        refine At.seq ?_
        refine At.cond (decide (x96 < (((sB (p0.extract (Int.toNat p1) (Int.toNat (p0.size : Int))))).length : Int))) (by kernel_rfl) (fun b100 => ?_) (fun b100 => ?_)
        · replace h := cond_t b100 h
          refine At.nar [1, 7, 8, 22, 23, 24] [0] (st' := ⟨[(1, i64 p1), (7, i64 2), (8, u64 x95), (22, .row 0 ((sB (p0.extract (Int.toNat p1) (Int.toNat (p0.size : Int))))).length), (23, i64 (((sB (p0.extract (Int.toNat p1) (Int.toNat (p0.size : Int))))).length : Int)), (24, i64 x96)], [.row 5 1 (encL (eInt .u8) (sB (p0.extract (Int.toNat p1) (Int.toNat (p0.size : Int)))))]⟩) (by kernel_rfl) ?_
          refine At.skip (norm ?_)
          refine At.seq ?_
          refine At.block ?_
          refine At.seq ?_
          obtain ⟨y135, hy135, h⟩ := bind_some h
          refine At.region_end [1, 7, 8, 9, 10, 22, 23, 24] [0] _ (st' := ⟨[(1, i64 p1), (7, i64 2), (8, u64 x95), (9, i64 x96), (10, u8 y135), (22, .row 0 ((sB (p0.extract (Int.toNat p1) (Int.toNat (p0.size : Int))))).length), (23, i64 (((sB (p0.extract (Int.toNat p1) (Int.toNat (p0.size : Int))))).length : Int)), (24, i64 x96)], [.row 5 1 (encL (eInt .u8) (sB (p0.extract (Int.toNat p1) (Int.toNat (p0.size : Int)))))]⟩) (tips := [(2, { orc := .val (.int .u8 y135) })]) (by kernel_rfl) (allc ((rAt_of (he_int .u8) (d := .int .u8 y135) hy135 rfl).1) (allc ((rAt_of (he_int .u8) (d := .int .u8 y135) hy135 rfl).2) all0)) (norm ?_)
          refine At.seq ?_
          refine At.block ?_
          refine At.seqJ (S := Bool) (fun s => ⟨[(1, i64 p1), (7, i64 2), (8, u64 x95), (9, i64 x96), (10, u8 y135), (22, .row 0 ((sB (p0.extract (Int.toNat p1) (Int.toNat (p0.size : Int))))).length), (23, i64 (((sB (p0.extract (Int.toNat p1) (Int.toNat (p0.size : Int))))).length : Int)), (24, i64 x96), (29, bo s)], [.row 5 1 (encL (eInt .u8) (sB (p0.extract (Int.toNat p1) (Int.toNat (p0.size : Int)))))]⟩) (fun s => F_vint_Get_J3 p1 x95 x96 y135 s = some oo97) ?_ ?_
          · refine At.seqJ (S := Bool) (fun s => ⟨[(1, i64 p1), (7, i64 2), (8, u64 x95), (9, i64 x96), (10, u8 y135), (22, .row 0 ((sB (p0.extract (Int.toNat p1) (Int.toNat (p0.size : Int))))).length), (23, i64 (((sB (p0.extract (Int.toNat p1) (Int.toNat (p0.size : Int))))).length : Int)), (24, i64 x96), (29, bo s)], [.row 5 1 (encL (eInt .u8) (sB (p0.extract (Int.toNat p1) (Int.toNat (p0.size : Int)))))]⟩) (fun s => F_vint_Get_J4 p1 x95 x96 y135 s = some oo97) ?_ ?_
            · rcases tf (x96 == 9) with b170 | b170
              · replace h := cond_t b170 h
                refine At.region_end [1, 7, 8, 9, 10, 22, 23, 24, 29] [0] _ (st' := ⟨[(1, i64 p1), (7, i64 2), (8, u64 x95), (9, i64 x96), (10, u8 y135), (22, .row 0 ((sB (p0.extract (Int.toNat p1) (Int.toNat (p0.size : Int))))).length), (23, i64 (((sB (p0.extract (Int.toNat p1) (Int.toNat (p0.size : Int))))).length : Int)), (24, i64 x96), (29, bo (decide (1 < y135)))], [.row 5 1 (encL (eInt .u8) (sB (p0.extract (Int.toNat p1) (Int.toNat (p0.size : Int)))))]⟩) (tips := [(2, { orc := .val (.bool true) })]) (by kernel_rfl) (allc (congrArg D.bool b170) all0) (fun a w hs => ⟨(decide (1 < y135)), h, hs⟩)
              · replace h := cond_f b170 h
                refine At.region_end [1, 7, 8, 9, 10, 22, 23, 24, 29] [0] _ (st' := ⟨[(1, i64 p1), (7, i64 2), (8, u64 x95), (9, i64 x96), (10, u8 y135), (22, .row 0 ((sB (p0.extract (Int.toNat p1) (Int.toNat (p0.size : Int))))).length), (23, i64 (((sB (p0.extract (Int.toNat p1) (Int.toNat (p0.size : Int))))).length : Int)), (24, i64 x96), (29, bo false)], [.row 5 1 (encL (eInt .u8) (sB (p0.extract (Int.toNat p1) (Int.toNat (p0.size : Int)))))]⟩) (tips := [(2, { orc := .val (.bool false) })]) (by kernel_rfl) (allc (congrArg D.bool b170) all0) (fun a w hs => ⟨false, h, hs⟩)
            · intro x167 h
              replace h : F_vint_Get_J4 p1 x95 x96 y135 x167 = some oo97 := h
              rw [F_vint_Get_J4] at h
              refine At.cond x167 (by kernel_rfl) (fun b168 => ?_) (fun b168 => ?_)
              · replace h := cond_t b168 h
                refine At.skip (fun a w hs => ⟨x167, h, hs⟩)
              · replace h := cond_f b168 h
                rcases tf (decide (0 < x96)) with b169 | b169
                · replace h := cond_t b169 h
                  refine At.region_end [1, 7, 8, 9, 10, 22, 23, 24, 29] [0] _ (st' := ⟨[(1, i64 p1), (7, i64 2), (8, u64 x95), (9, i64 x96), (10, u8 y135), (22, .row 0 ((sB (p0.extract (Int.toNat p1) (Int.toNat (p0.size : Int))))).length), (23, i64 (((sB (p0.extract (Int.toNat p1) (Int.toNat (p0.size : Int))))).length : Int)), (24, i64 x96), (29, bo (y135 == 0))], [.row 5 1 (encL (eInt .u8) (sB (p0.extract (Int.toNat p1) (Int.toNat (p0.size : Int)))))]⟩) (tips := [(2, { orc := .val (.bool true) })]) (by kernel_rfl) (allc (congrArg D.bool b169) all0) (fun a w hs => ⟨(y135 == 0), h, hs⟩)
                · replace h := cond_f b169 h
                  refine At.region_end [1, 7, 8, 9, 10, 22, 23, 24, 29] [0] _ (st' := ⟨[(1, i64 p1), (7, i64 2), (8, u64 x95), (9, i64 x96), (10, u8 y135), (22, .row 0 ((sB (p0.extract (Int.toNat p1) (Int.toNat (p0.size : Int))))).length), (23, i64 (((sB (p0.extract (Int.toNat p1) (Int.toNat (p0.size : Int))))).length : Int)), (24, i64 x96), (29, bo false)], [.row 5 1 (encL (eInt .u8) (sB (p0.extract (Int.toNat p1) (Int.toNat (p0.size : Int)))))]⟩) (tips := [(2, { orc := .val (.bool false) })]) (by kernel_rfl) (allc (congrArg D.bool b169) all0) (fun a w hs => ⟨false, h, hs⟩)
          · intro x156 h
            replace h : F_vint_Get_J3 p1 x95 x96 y135 x156 = some oo97 := h
            rw [F_vint_Get_J3] at h
            refine At.cond x156 (by kernel_rfl) (fun b157 => ?_) (fun b157 => ?_)
            · replace h := cond_t b157 h
              refine At.seq ?_
              refine At.region_end [7] [] _ (st' := ⟨[(7, i64 3)], []⟩) (tips := []) (by kernel_rfl) all0 (norm ?_)
              obtain ⟨r158, h, e159⟩ := map_inr h
              rw [f98 _ e159] at h
              refine At.exit (fun a w hs => ⟨3, h, hs⟩)
            · replace h := cond_f b157 h
              refine At.seq ?_
              refine At.region_end [1, 7, 8, 9, 10, 22, 23, 24, 42] [0] _ (st' := ⟨[(1, i64 p1), (7, i64 2), (8, u64 x95), (9, i64 x96), (10, u8 y135), (22, .row 0 ((sB (p0.extract (Int.toNat p1) (Int.toNat (p0.size : Int))))).length), (23, i64 (((sB (p0.extract (Int.toNat p1) (Int.toNat (p0.size : Int))))).length : Int)), (24, i64 x96), (42, bo (decide (y135 < 128)))], [.row 5 1 (encL (eInt .u8) (sB (p0.extract (Int.toNat p1) (Int.toNat (p0.size : Int)))))]⟩) (tips := []) (by kernel_rfl) all0 (norm ?_)
              refine At.cond (decide (y135 < 128)) (by kernel_rfl) (fun b160 => ?_) (fun b160 => ?_)
              · replace h := cond_t b160 h
                refine At.seq ?_
                obtain ⟨g162, h⟩ := grd_some h
                refine At.region_end [4, 5, 6] [] _ (st' := ⟨[(4, u64 (bits .or .u64 x95 (wu64 ((wu64 y135) * 2 ^ (min (Int.toNat (w64 (7 * x96))) 64))))), (5, i64 (w64 ((w64 (p1 + x96)) + 1))), (6, i64 0)], []⟩) (tips := []) (by kernel_rfl) (allc g162 all0) (norm ?_)
                obtain ⟨r163, h, e164⟩ := map_inr h
                rw [f98 _ e164] at h
                obtain rfl := some_eq h
                exact At.ret fun a w hs => ret_ok hR (ρ := []) (gs := []) (by kernel_rfl) all0 (by kernel_rfl) rfl rfl a w hs _ (.inl rfl)
              · replace h := cond_f b160 h
                refine At.nar [1, 7, 8, 9, 10, 22, 23, 24] [0] (st' := ⟨[(1, i64 p1), (7, i64 2), (8, u64 x95), (9, i64 x96), (10, u8 y135), (22, .row 0 ((sB (p0.extract (Int.toNat p1) (Int.toNat (p0.size : Int))))).length), (23, i64 (((sB (p0.extract (Int.toNat p1) (Int.toNat (p0.size : Int))))).length : Int)), (24, i64 x96)], [.row 5 1 (encL (eInt .u8) (sB (p0.extract (Int.toNat p1) (Int.toNat (p0.size : Int)))))]⟩) (by kernel_rfl) ?_
                refine At.skip (norm ?_)
                obtain ⟨g165, h⟩ := grd_some h
                refine At.region_end [1, 7, 8, 22, 23, 24] [0] _ (st' := ⟨[(1, i64 p1), (7, i64 2), (8, u64 (bits .or .u64 x95 (wu64 ((wu64 (bits .and .u8 y135 127)) * 2 ^ (min (Int.toNat (w64 (7 * x96))) 64))))), (22, .row 0 ((sB (p0.extract (Int.toNat p1) (Int.toNat (p0.size : Int))))).length), (23, i64 (((sB (p0.extract (Int.toNat p1) (Int.toNat (p0.size : Int))))).length : Int)), (24, i64 x96)], [.row 5 1 (encL (eInt .u8) (sB (p0.extract (Int.toNat p1) (Int.toNat (p0.size : Int)))))]⟩) (tips := []) (by kernel_rfl) (allc g165 all0) (norm ?_)
                refine At.region_end [1, 7, 8, 22, 23, 24] [0] _ (st' := ⟨[(1, i64 p1), (7, i64 2), (8, u64 (bits .or .u64 x95 (wu64 ((wu64 (bits .and .u8 y135 127)) * 2 ^ (min (Int.toNat (w64 (7 * x96))) 64))))), (22, .row 0 ((sB (p0.extract (Int.toNat p1) (Int.toNat (p0.size : Int))))).length), (23, i64 (((sB (p0.extract (Int.toNat p1) (Int.toNat (p0.size : Int))))).length : Int)), (24, i64 (w64 (x96 + 1)))], [.row 5 1 (encL (eInt .u8) (sB (p0.extract (Int.toNat p1) (Int.toNat (p0.size : Int)))))]⟩) (tips := []) (by kernel_rfl) all0 (fun a w hs => ⟨_, (some_eq h).symm, hs⟩)
        · replace h := cond_f b100 h
          refine At.nar [7] [] (st' := ⟨[(7, i64 2)], []⟩) (by kernel_rfl) ?_
          obtain ⟨r171, h, e172⟩ := map_inr h
          rw [f98 _ e172] at h
          refine At.exit (fun a w hs => ⟨2, h, hs⟩)
      · intro x90 h
        replace h : F_vint_Get_J2 x90 = some r := h
        rw [F_vint_Get_J2] at h
        refine At.seq ?_
        refine At.region_end [4, 5, 6] [] _ (st' := ⟨[(4, u64 0), (5, i64 0), (6, i64 x90)], []⟩) (tips := []) (by kernel_rfl) all0 (norm ?_)
        obtain rfl := some_eq h
        exact At.ret fun a w hs => ret_ok hR (ρ := []) (gs := []) (by kernel_rfl) all0 (by kernel_rfl) rfl rfl a w hs _ (.inl rfl)
set_option maxRecDepth 100000 in
theorem C_vint_Zag (p0 : Int) (r : Int) (h : F_vint_Zag p0 = some r) : FnOK Try.prog 86 [u64 p0] [] (i64 r) [] [] := by
  rw [F_vint_Zag] at h
  refine FnOK.intro Try.func86 rfl (by kernel_rfl) (by kernel_rfl) fun E gv R hR => ?_
  refine At.seq ?_
  refine At.region_end [0] [] _ (st' := ⟨[(0, u64 p0)], []⟩) (tips := []) (by kernel_rfl) all0 (norm ?_)
  refine At.seq ?_
  refine At.region_end [2] [] _ (st' := ⟨[(2, i64 (bits .xor .i64 (w64 (Int.fdiv p0 2)) (w64 (0 - (w64 (bits .and .u64 p0 1))))))], []⟩) (tips := []) (by kernel_rfl) (allc (by decide : (0:Int) ≤ 1) all0) (norm ?_)
  obtain rfl := some_eq h
  exact At.ret fun a w hs => ret_ok hR (ρ := []) (gs := []) (by kernel_rfl) all0 (by kernel_rfl) rfl rfl a w hs _ (.inl rfl)
set_option maxRecDepth 100000 in
theorem C_vint_GetInt (p0 : ByteArray) (p1 : Int) (r : Int × Int × Int) (h : F_vint_GetInt p0 p1 = some r) : FnOK Try.prog 82 [sv p0, i64 p1] [] (.tup [i64 r.1, i64 r.2.1, i64 r.2.2]) [] [] := by
  rw [F_vint_GetInt] at h
  refine FnOK.intro Try.func82 rfl (by kernel_rfl) (by kernel_rfl) fun E gv R hR => ?_
  refine At.seq ?_
  refine At.region_end [0, 1] [] _ (st' := ⟨[(0, sv p0), (1, i64 p1)], []⟩) (tips := []) (by kernel_rfl) all0 (norm ?_)
  refine At.seq ?_
  obtain ⟨y2, hy2, h⟩ := bind_some h
  refine At.region_end [7, 8, 9] [] _ (st' := ⟨[(7, u64 y2.1), (8, i64 y2.2.1), (9, i64 y2.2.2)], []⟩) (tips := [(2, { pc := some { ρ := [], n0 := 0, res := .tup [u64 y2.1, i64 y2.2.1, i64 y2.2.2], σ' := [], e := [] } })]) (by kernel_rfl) (allc (C_vint_Get p0 p1 y2 hy2) all0) (norm ?_)
  refine At.seq ?_
  obtain ⟨y4, hy4, h⟩ := bind_some h
  refine At.region_end [4, 5, 6] [] _ (st' := ⟨[(4, i64 y4), (5, i64 y2.2.1), (6, i64 y2.2.2)], []⟩) (tips := [(1, { pc := some { ρ := [], n0 := 0, res := i64 y4, σ' := [], e := [] } })]) (by kernel_rfl) (allc (C_vint_Zag y2.1 y4 hy4) all0) (norm ?_)
  obtain rfl := some_eq h
  exact At.ret fun a w hs => ret_ok hR (ρ := []) (gs := []) (by kernel_rfl) all0 (by kernel_rfl) rfl rfl a w hs _ (.inl rfl)
set_option maxRecDepth 100000 in
theorem C_wire_Reader_Int_1 (p0 : ByteArray) (o0_0 : Int) (r : Int × Int × Int) (h : F_wire_Reader_Int_1 p0 o0_0 = some r) : FnOK Try.prog 81 [sv p0, .ptr 0 0] [.blk 2 [i64 o0_0]] (.tup [i64 r.1, i64 r.2.1]) [.blk 2 [i64 r.2.2]] [1] := by
  rw [F_wire_Reader_Int_1] at h
  refine FnOK.intro Try.func81 rfl (by kernel_rfl) (by kernel_rfl) fun E gv R hR => ?_
  refine At.seq ?_
  refine At.region_end [0, 1] [0, 1] _ (st' := ⟨[(0, sv p0), (1, .ptr 0 0)], [.blk 2 [i64 o0_0], .ghost (gv 0) (.ptr 0 0)]⟩) (tips := []) (by kernel_rfl) all0 (norm ?_)
  refine At.seq ?_
  obtain ⟨y2, hy2, h⟩ := bind_some h
  refine At.region_end [3, 4] [0, 1] _ (st' := ⟨[(3, i64 y2.2.1), (4, i64 y2.2.2)], [.blk 2 [i64 y2.1], .ghost (gv 0) (.ptr 0 0)]⟩) (tips := [(1, { pc := some { ρ := [], n0 := 0, res := .tup [i64 y2.1, i64 y2.2.1, i64 y2.2.2], σ' := [], e := [] } })]) (by kernel_rfl) (allc (C_vint_GetInt p0 0 y2 hy2) all0) (norm ?_)
  refine At.seq ?_
  refine At.region_end [3, 4] [0, 1] _ (st' := ⟨[(3, i64 y2.2.1), (4, i64 y2.2.2)], [.blk 2 [i64 y2.1], .ghost (gv 0) (.ptr 0 0)]⟩) (tips := []) (by kernel_rfl) all0 (norm ?_)
  obtain rfl := some_eq h
  exact At.ret fun a w hs => ret_ok hR (ρ := [0]) (gs := [.ghost (gv 0) (.ptr 0 0)]) (by kernel_rfl) all0 (by kernel_rfl) rfl rfl a w hs _ (.inl rfl)
set_option maxRecDepth 100000 in
theorem C_wire_Reader_step (o0 : T_wire_Reader) (o1_0 : Int) (r : Bool × T_wire_Reader × Int) (h : F_wire_Reader_step o0 o1_0 = some r) : FnOK Try.prog 52 [.ptr 0 0, .fn (.func 81) [] [.ptr 1 0]] [.blk 89 (T_wire_Reader.pvs o0), .blk 2 [i64 o1_0]] (bo r.1) [.blk 89 (T_wire_Reader.pvs r.2.1), .blk 2 [i64 r.2.2]] [1, 3] := by
  rw [F_wire_Reader_step] at h
  refine FnOK.intro Try.func52 rfl (by kernel_rfl) (by kernel_rfl) fun E gv R hR => ?_
  refine At.seq ?_
  refine At.region_end [0, 1] [0, 1, 2, 3] _ (st' := ⟨[(0, .ptr 0 0), (1, .fn (.func 81) [] [.ptr 1 0])], [.blk 89 (T_wire_Reader.pvs o0), .blk 2 [i64 o1_0], .ghost (gv 0) (.ptr 0 0), .ghost (gv 1) (.ptr 1 0)]⟩) (tips := []) (by kernel_rfl) all0 (norm ?_)
  refine At.seq ?_
  refine At.seq ?_
  refine At.region_end [0, 1, 15] [0, 1, 2, 3] _ (st' := ⟨[(0, .ptr 0 0), (1, .fn (.func 81) [] [.ptr 1 0]), (15, bo (o0.e != 0))], [.blk 89 (T_wire_Reader.pvs o0), .blk 2 [i64 o1_0], .ghost (gv 0) (.ptr 0 0), .ghost (gv 1) (.ptr 1 0)]⟩) (tips := []) (by kernel_rfl) all0 (norm ?_)
  refine At.cond (o0.e != 0) (by kernel_rfl) (fun b2 => ?_) (fun b2 => ?_)
  · replace h := cond_t b2 h
    refine At.seq ?_
    refine At.region_end [4] [0, 1, 2, 3] _ (st' := ⟨[(4, bo false)], [.blk 89 (T_wire_Reader.pvs o0), .blk 2 [i64 o1_0], .ghost (gv 0) (.ptr 0 0), .ghost (gv 1) (.ptr 1 0)]⟩) (tips := []) (by kernel_rfl) all0 (norm ?_)
    obtain rfl := some_eq h
    exact At.ret fun a w hs => ret_ok hR (ρ := [0, 1]) (gs := [.ghost (gv 0) (.ptr 0 0), .ghost (gv 1) (.ptr 1 0)]) (by kernel_rfl) all0 (by kernel_rfl) rfl rfl a w hs _ (.inl rfl)
  · replace h := cond_f b2 h
    refine At.nar [0, 1] [0, 1, 2, 3] (st' := ⟨[(0, .ptr 0 0), (1, .fn (.func 81) [] [.ptr 1 0])], [.blk 89 (T_wire_Reader.pvs o0), .blk 2 [i64 o1_0], .ghost (gv 0) (.ptr 0 0), .ghost (gv 1) (.ptr 1 0)]⟩) (by kernel_rfl) ?_
    refine At.skip (norm ?_)
    refine At.seq ?_
    obtain ⟨y4, hy4, h⟩ := bind_some h
    refine At.region_end [0, 5, 6] [0, 1, 2, 3] _ (st' := ⟨[(0, .ptr 0 0), (5, i64 y4.1), (6, i64 y4.2.1)], [.blk 89 (T_wire_Reader.pvs o0), .blk 2 [i64 y4.2.2], .ghost (gv 0) (.ptr 0 0), .ghost (gv 1) (.ptr 1 0)]⟩) (tips := [(5, { pc := some { ρ := [1], n0 := 1, res := .tup [i64 y4.1, i64 y4.2.1], σ' := [.blk 2 [i64 y4.2.2]], e := [1] } })]) (by kernel_rfl) (allc (C_wire_Reader_Int_1 o0.s o1_0 y4 hy4) all0) (norm ?_)
    refine At.seq ?_
    refine At.seq ?_
    refine At.region_end [0, 5, 6, 26] [0, 1, 2, 3] _ (st' := ⟨[(0, .ptr 0 0), (5, i64 y4.1), (6, i64 y4.2.1), (26, bo (y4.2.1 != 0))], [.blk 89 (T_wire_Reader.pvs o0), .blk 2 [i64 y4.2.2], .ghost (gv 0) (.ptr 0 0), .ghost (gv 1) (.ptr 1 0)]⟩) (tips := []) (by kernel_rfl) all0 (norm ?_)
    refine At.cond (y4.2.1 != 0) (by kernel_rfl) (fun b6 => ?_) (fun b6 => ?_)
    · replace h := cond_t b6 h
      refine At.seq ?_
      refine At.region_end [] [0, 1, 2, 3] _ (st' := ⟨[], [.blk 89 [sv o0.s, i64 y4.2.1], .blk 2 [i64 y4.2.2], .ghost (gv 0) (.ptr 0 0), .ghost (gv 1) (.ptr 1 0)]⟩) (tips := []) (by kernel_rfl) all0 (norm ?_)
      refine At.seq ?_
      refine At.region_end [4] [0, 1, 2, 3] _ (st' := ⟨[(4, bo false)], [.blk 89 [sv o0.s, i64 y4.2.1], .blk 2 [i64 y4.2.2], .ghost (gv 0) (.ptr 0 0), .ghost (gv 1) (.ptr 1 0)]⟩) (tips := []) (by kernel_rfl) all0 (norm ?_)
      obtain rfl := some_eq h
      exact At.ret fun a w hs => ret_ok hR (ρ := [0, 1]) (gs := [.ghost (gv 0) (.ptr 0 0), .ghost (gv 1) (.ptr 1 0)]) (by kernel_rfl) all0 (by kernel_rfl) rfl rfl a w hs _ (.inl rfl)
    · replace h := cond_f b6 h
      refine At.nar [0, 5] [0, 1, 2, 3] (st' := ⟨[(0, .ptr 0 0), (5, i64 y4.1)], [.blk 89 (T_wire_Reader.pvs o0), .blk 2 [i64 y4.2.2], .ghost (gv 0) (.ptr 0 0), .ghost (gv 1) (.ptr 1 0)]⟩) (by kernel_rfl) ?_
      refine At.skip (norm ?_)
      refine At.seq ?_
      obtain ⟨g8, h⟩ := grd_some h
      refine At.region_end [] [0, 1, 2, 3] _ (st' := ⟨[], [.blk 89 [sv (o0.s.extract (Int.toNat y4.1) (Int.toNat (o0.s.size : Int))), i64 o0.e], .blk 2 [i64 y4.2.2], .ghost (gv 0) (.ptr 0 0), .ghost (gv 1) (.ptr 1 0)]⟩) (tips := []) (by kernel_rfl) (allc g8 all0) (norm ?_)
      refine At.seq ?_
      refine At.region_end [4] [0, 1, 2, 3] _ (st' := ⟨[(4, bo true)], [.blk 89 [sv (o0.s.extract (Int.toNat y4.1) (Int.toNat (o0.s.size : Int))), i64 o0.e], .blk 2 [i64 y4.2.2], .ghost (gv 0) (.ptr 0 0), .ghost (gv 1) (.ptr 1 0)]⟩) (tips := []) (by kernel_rfl) all0 (norm ?_)
      obtain rfl := some_eq h
      exact At.ret fun a w hs => ret_ok hR (ρ := [0, 1]) (gs := [.ghost (gv 0) (.ptr 0 0), .ghost (gv 1) (.ptr 1 0)]) (by kernel_rfl) all0 (by kernel_rfl) rfl rfl a w hs _ (.inl rfl)
set_option maxRecDepth 100000 in
theorem C_wire_Reader_Int (o0 : T_wire_Reader) (r : Int × T_wire_Reader) (h : F_wire_Reader_Int o0 = some r) : FnOK Try.prog 66 [.ptr 0 0] [.blk 89 (T_wire_Reader.pvs o0)] (i64 r.1) [.blk 89 (T_wire_Reader.pvs r.2)] [1] := by
  rw [F_wire_Reader_Int] at h
  refine FnOK.intro Try.func66 rfl (by kernel_rfl) (by kernel_rfl) fun E gv R hR => ?_
  refine At.seq ?_
  refine At.region_end [0] [0, 1] _ (st' := ⟨[(0, .ptr 0 0)], [.blk 89 (T_wire_Reader.pvs o0), .ghost (gv 0) (.ptr 0 0)]⟩) (tips := []) (by kernel_rfl) all0 (norm ?_)
  refine At.seq ?_
  refine At.region_end [0, 3] [0, 1, 2] _ (st' := ⟨[(0, .ptr 0 0), (3, .ptr 2 0)], [.blk 89 (T_wire_Reader.pvs o0), .ghost (gv 0) (.ptr 0 0), .blk 2 [i64 0]]⟩) (tips := []) (by kernel_rfl) all0 (norm ?_)
  refine At.seq ?_
  obtain ⟨y2, hy2, h⟩ := bind_some h
  refine At.region_end [3] [0, 1, 2] _ (st' := ⟨[(3, .ptr 2 0)], [.blk 89 (T_wire_Reader.pvs y2.2.1), .ghost (gv 0) (.ptr 0 0), .blk 2 [i64 y2.2.2]]⟩) (tips := [(2, { pc := some { ρ := [0, 2], n0 := 2, res := bo y2.1, σ' := [.blk 89 (T_wire_Reader.pvs y2.2.1), .blk 2 [i64 y2.2.2]], e := [1, 3] } })]) (by kernel_rfl) (allc (C_wire_Reader_step o0 0 y2 hy2) all0) (norm ?_)
  refine At.seq ?_
  refine At.region_end [2] [0, 1] _ (st' := ⟨[(2, i64 y2.2.2)], [.blk 89 (T_wire_Reader.pvs y2.2.1), .ghost (gv 0) (.ptr 0 0)]⟩) (tips := []) (by kernel_rfl) all0 (norm ?_)
  obtain rfl := some_eq h
  exact At.ret fun a w hs => ret_ok hR (ρ := [0]) (gs := [.ghost (gv 0) (.ptr 0 0)]) (by kernel_rfl) all0 (by kernel_rfl) rfl rfl a w hs _ (.inl rfl)
set_option maxRecDepth 100000 in
theorem C_dump_reader_into (o0 : T_wire_Reader) (o2 : T_api_State) (r : T_wire_Reader × T_api_State) (h : F_dump_reader_into o0 o2 = some r) : FnOK Try.prog 55 [.agg [.ptr 0 0], .view 1 0 5] [.blk 89 (T_wire_Reader.pvs o0), .blk 96 [.ptr 2 0, .ptr 2 1, .ptr 2 2, .ptr 2 3, .ptr 2 4], .blk 25 [i64 o2.Now, i64 o2.Since, i64 o2.Halt, i64 o2.Fault, i64 o2.Who, .row 3 (o2.Procs).length, .row 4 (o2.Out).length], .row 70 11 (encL T_api_Proc.enc o2.Procs), .row 3 1 (encL (eInt .i64) o2.Out)] (.tup []) [.blk 89 (T_wire_Reader.pvs r.1), .blk 96 [.ptr 2 0, .ptr 2 1, .ptr 2 2, .ptr 2 3, .ptr 2 4], .blk 25 [i64 r.2.Now, i64 r.2.Since, i64 r.2.Halt, i64 r.2.Fault, i64 r.2.Who, .row 3 (r.2.Procs).length, .row 4 (r.2.Out).length], .row 70 11 (encL T_api_Proc.enc r.2.Procs), .row 3 1 (encL (eInt .i64) r.2.Out)] [1, 3, 5, 6, 8] := by
  rw [F_dump_reader_into] at h
  refine FnOK.intro Try.func55 rfl (by kernel_rfl) (by kernel_rfl) fun E gv R hR => ?_
  refine At.seq ?_
  refine At.region_end [1, 2] [0, 1, 2, 3, 4, 5, 6, 7, 8, 9, 10] _ (st' := ⟨[(1, .view 1 0 5), (2, .ptr 10 0)], [.blk 89 (T_wire_Reader.pvs o0), .blk 96 [.ptr 2 0, .ptr 2 1, .ptr 2 2, .ptr 2 3, .ptr 2 4], .blk 25 [i64 o2.Now, i64 o2.Since, i64 o2.Halt, i64 o2.Fault, i64 o2.Who, .row 3 (o2.Procs).length, .row 4 (o2.Out).length], .row 70 11 (encL T_api_Proc.enc o2.Procs), .row 3 1 (encL (eInt .i64) o2.Out), .ghost (gv 0) (.ptr 0 0), .ghost (gv 1) (.ptr 1 0), .ghost (gv 2) (.ptr 2 0), .ghost (gv 3) (.row 3 0), .ghost (gv 4) (.row 4 0), .blk 94 [.ptr 0 0]]⟩) (tips := []) (by kernel_rfl) all0 (norm ?_)
  refine At.seq ?_
  refine At.region_end [2, 6, 7, 8] [0, 1, 2, 3, 4, 5, 6, 7, 8, 9, 10] _ (st' := ⟨[(2, .ptr 10 0), (6, .view 1 0 5), (7, i64 5), (8, i64 0)], [.blk 89 (T_wire_Reader.pvs o0), .blk 96 [.ptr 2 0, .ptr 2 1, .ptr 2 2, .ptr 2 3, .ptr 2 4], .blk 25 [i64 o2.Now, i64 o2.Since, i64 o2.Halt, i64 o2.Fault, i64 o2.Who, .row 3 (o2.Procs).length, .row 4 (o2.Out).length], .row 70 11 (encL T_api_Proc.enc o2.Procs), .row 3 1 (encL (eInt .i64) o2.Out), .ghost (gv 0) (.ptr 0 0), .ghost (gv 1) (.ptr 1 0), .ghost (gv 2) (.ptr 2 0), .ghost (gv 3) (.row 3 0), .ghost (gv 4) (.row 4 0), .blk 94 [.ptr 0 0]]⟩) (tips := []) (by kernel_rfl) all0 (norm ?_)
  refine At.block ?_
  refine At.loopN 6 ?_
  refine At.roundN ?_
  refine At.seq ?_
  refine At.region_end [2, 6, 7, 8, 9] [0, 1, 2, 3, 4, 5, 6, 7, 8, 9, 10] _ (st' := ⟨[(2, .ptr 10 0), (6, .view 1 0 5), (7, i64 5), (8, i64 0), (9, bo true)], [.blk 89 (T_wire_Reader.pvs o0), .blk 96 [.ptr 2 0, .ptr 2 1, .ptr 2 2, .ptr 2 3, .ptr 2 4], .blk 25 [i64 o2.Now, i64 o2.Since, i64 o2.Halt, i64 o2.Fault, i64 o2.Who, .row 3 (o2.Procs).length, .row 4 (o2.Out).length], .row 70 11 (encL T_api_Proc.enc o2.Procs), .row 3 1 (encL (eInt .i64) o2.Out), .ghost (gv 0) (.ptr 0 0), .ghost (gv 1) (.ptr 1 0), .ghost (gv 2) (.ptr 2 0), .ghost (gv 3) (.row 3 0), .ghost (gv 4) (.row 4 0), .blk 94 [.ptr 0 0]]⟩) (tips := []) (by kernel_rfl) all0 (norm ?_)
  refine At.seq ?_
  refine At.cond true (by kernel_rfl) (fun _ => ?_) (fun hb => by cases hb)
  refine At.nar [2, 6, 7, 8] [0, 1, 2, 3, 4, 5, 6, 7, 8, 9, 10] (st' := ⟨[(2, .ptr 10 0), (6, .view 1 0 5), (7, i64 5), (8, i64 0)], [.blk 89 (T_wire_Reader.pvs o0), .blk 96 [.ptr 2 0, .ptr 2 1, .ptr 2 2, .ptr 2 3, .ptr 2 4], .blk 25 [i64 o2.Now, i64 o2.Since, i64 o2.Halt, i64 o2.Fault, i64 o2.Who, .row 3 (o2.Procs).length, .row 4 (o2.Out).length], .row 70 11 (encL T_api_Proc.enc o2.Procs), .row 3 1 (encL (eInt .i64) o2.Out), .ghost (gv 0) (.ptr 0 0), .ghost (gv 1) (.ptr 1 0), .ghost (gv 2) (.ptr 2 0), .ghost (gv 3) (.row 3 0), .ghost (gv 4) (.row 4 0), .blk 94 [.ptr 0 0]]⟩) (by kernel_rfl) ?_
  refine At.skip (norm ?_)
  refine At.seq ?_
  refine At.block ?_
  refine At.seq ?_
  refine At.region_end [2, 5, 6, 7, 8] [0, 1, 2, 3, 4, 5, 6, 7, 8, 9, 10] _ (st' := ⟨[(2, .ptr 10 0), (5, .ptr 2 0), (6, .view 1 0 5), (7, i64 5), (8, i64 0)], [.blk 89 (T_wire_Reader.pvs o0), .blk 96 [.ptr 2 0, .ptr 2 1, .ptr 2 2, .ptr 2 3, .ptr 2 4], .blk 25 [i64 o2.Now, i64 o2.Since, i64 o2.Halt, i64 o2.Fault, i64 o2.Who, .row 3 (o2.Procs).length, .row 4 (o2.Out).length], .row 70 11 (encL T_api_Proc.enc o2.Procs), .row 3 1 (encL (eInt .i64) o2.Out), .ghost (gv 0) (.ptr 0 0), .ghost (gv 1) (.ptr 1 0), .ghost (gv 2) (.ptr 2 0), .ghost (gv 3) (.row 3 0), .ghost (gv 4) (.row 4 0), .blk 94 [.ptr 0 0]]⟩) (tips := []) (by kernel_rfl) (allc (⟨by decide, by decide⟩ : Within 0 5) all0) (norm ?_)
  obtain ⟨y2, hy2, h⟩ := bind_some h
  refine At.region_end [2, 6, 7, 8] [0, 1, 2, 3, 4, 5, 6, 7, 8, 9, 10] _ (st' := ⟨[(2, .ptr 10 0), (6, .view 1 0 5), (7, i64 5), (8, i64 0)], [.blk 89 (T_wire_Reader.pvs y2.2), .blk 96 [.ptr 2 0, .ptr 2 1, .ptr 2 2, .ptr 2 3, .ptr 2 4], .blk 25 [i64 y2.1, i64 o2.Since, i64 o2.Halt, i64 o2.Fault, i64 o2.Who, .row 3 (o2.Procs).length, .row 4 (o2.Out).length], .row 70 11 (encL T_api_Proc.enc o2.Procs), .row 3 1 (encL (eInt .i64) o2.Out), .ghost (gv 0) (.ptr 0 0), .ghost (gv 1) (.ptr 1 0), .ghost (gv 2) (.ptr 2 0), .ghost (gv 3) (.row 3 0), .ghost (gv 4) (.row 4 0), .blk 94 [.ptr 0 0]]⟩) (tips := [(3, { pc := some { ρ := [0], n0 := 1, res := i64 y2.1, σ' := [.blk 89 (T_wire_Reader.pvs y2.2)], e := [1] } })]) (by kernel_rfl) (allc (C_wire_Reader_Int o0 y2 hy2) all0) (norm ?_)
  refine At.region_end [2, 6, 7, 8] [0, 1, 2, 3, 4, 5, 6, 7, 8, 9, 10] _ (st' := ⟨[(2, .ptr 10 0), (6, .view 1 0 5), (7, i64 5), (8, i64 1)], [.blk 89 (T_wire_Reader.pvs y2.2), .blk 96 [.ptr 2 0, .ptr 2 1, .ptr 2 2, .ptr 2 3, .ptr 2 4], .blk 25 [i64 y2.1, i64 o2.Since, i64 o2.Halt, i64 o2.Fault, i64 o2.Who, .row 3 (o2.Procs).length, .row 4 (o2.Out).length], .row 70 11 (encL T_api_Proc.enc o2.Procs), .row 3 1 (encL (eInt .i64) o2.Out), .ghost (gv 0) (.ptr 0 0), .ghost (gv 1) (.ptr 1 0), .ghost (gv 2) (.ptr 2 0), .ghost (gv 3) (.row 3 0), .ghost (gv 4) (.row 4 0), .blk 94 [.ptr 0 0]]⟩) (tips := []) (by kernel_rfl) all0 ?_
  refine At.roundN ?_
  refine At.seq ?_
  refine At.region_end [2, 6, 7, 8, 9] [0, 1, 2, 3, 4, 5, 6, 7, 8, 9, 10] _ (st' := ⟨[(2, .ptr 10 0), (6, .view 1 0 5), (7, i64 5), (8, i64 1), (9, bo true)], [.blk 89 (T_wire_Reader.pvs y2.2), .blk 96 [.ptr 2 0, .ptr 2 1, .ptr 2 2, .ptr 2 3, .ptr 2 4], .blk 25 [i64 y2.1, i64 o2.Since, i64 o2.Halt, i64 o2.Fault, i64 o2.Who, .row 3 (o2.Procs).length, .row 4 (o2.Out).length], .row 70 11 (encL T_api_Proc.enc o2.Procs), .row 3 1 (encL (eInt .i64) o2.Out), .ghost (gv 0) (.ptr 0 0), .ghost (gv 1) (.ptr 1 0), .ghost (gv 2) (.ptr 2 0), .ghost (gv 3) (.row 3 0), .ghost (gv 4) (.row 4 0), .blk 94 [.ptr 0 0]]⟩) (tips := []) (by kernel_rfl) all0 (norm ?_)
  refine At.seq ?_
  refine At.cond true (by kernel_rfl) (fun _ => ?_) (fun hb => by cases hb)
  refine At.nar [2, 6, 7, 8] [0, 1, 2, 3, 4, 5, 6, 7, 8, 9, 10] (st' := ⟨[(2, .ptr 10 0), (6, .view 1 0 5), (7, i64 5), (8, i64 1)], [.blk 89 (T_wire_Reader.pvs y2.2), .blk 96 [.ptr 2 0, .ptr 2 1, .ptr 2 2, .ptr 2 3, .ptr 2 4], .blk 25 [i64 y2.1, i64 o2.Since, i64 o2.Halt, i64 o2.Fault, i64 o2.Who, .row 3 (o2.Procs).length, .row 4 (o2.Out).length], .row 70 11 (encL T_api_Proc.enc o2.Procs), .row 3 1 (encL (eInt .i64) o2.Out), .ghost (gv 0) (.ptr 0 0), .ghost (gv 1) (.ptr 1 0), .ghost (gv 2) (.ptr 2 0), .ghost (gv 3) (.row 3 0), .ghost (gv 4) (.row 4 0), .blk 94 [.ptr 0 0]]⟩) (by kernel_rfl) ?_
  refine At.skip (norm ?_)
  refine At.seq ?_
  refine At.block ?_
  refine At.seq ?_
  refine At.region_end [2, 5, 6, 7, 8] [0, 1, 2, 3, 4, 5, 6, 7, 8, 9, 10] _ (st' := ⟨[(2, .ptr 10 0), (5, .ptr 2 1), (6, .view 1 0 5), (7, i64 5), (8, i64 1)], [.blk 89 (T_wire_Reader.pvs y2.2), .blk 96 [.ptr 2 0, .ptr 2 1, .ptr 2 2, .ptr 2 3, .ptr 2 4], .blk 25 [i64 y2.1, i64 o2.Since, i64 o2.Halt, i64 o2.Fault, i64 o2.Who, .row 3 (o2.Procs).length, .row 4 (o2.Out).length], .row 70 11 (encL T_api_Proc.enc o2.Procs), .row 3 1 (encL (eInt .i64) o2.Out), .ghost (gv 0) (.ptr 0 0), .ghost (gv 1) (.ptr 1 0), .ghost (gv 2) (.ptr 2 0), .ghost (gv 3) (.row 3 0), .ghost (gv 4) (.row 4 0), .blk 94 [.ptr 0 0]]⟩) (tips := []) (by kernel_rfl) (allc (⟨by decide, by decide⟩ : Within 1 5) all0) (norm ?_)
  obtain ⟨y4, hy4, h⟩ := bind_some h
  refine At.region_end [2, 6, 7, 8] [0, 1, 2, 3, 4, 5, 6, 7, 8, 9, 10] _ (st' := ⟨[(2, .ptr 10 0), (6, .view 1 0 5), (7, i64 5), (8, i64 1)], [.blk 89 (T_wire_Reader.pvs y4.2), .blk 96 [.ptr 2 0, .ptr 2 1, .ptr 2 2, .ptr 2 3, .ptr 2 4], .blk 25 [i64 y2.1, i64 y4.1, i64 o2.Halt, i64 o2.Fault, i64 o2.Who, .row 3 (o2.Procs).length, .row 4 (o2.Out).length], .row 70 11 (encL T_api_Proc.enc o2.Procs), .row 3 1 (encL (eInt .i64) o2.Out), .ghost (gv 0) (.ptr 0 0), .ghost (gv 1) (.ptr 1 0), .ghost (gv 2) (.ptr 2 0), .ghost (gv 3) (.row 3 0), .ghost (gv 4) (.row 4 0), .blk 94 [.ptr 0 0]]⟩) (tips := [(3, { pc := some { ρ := [0], n0 := 1, res := i64 y4.1, σ' := [.blk 89 (T_wire_Reader.pvs y4.2)], e := [1] } })]) (by kernel_rfl) (allc (C_wire_Reader_Int y2.2 y4 hy4) all0) (norm ?_)
  refine At.region_end [2, 6, 7, 8] [0, 1, 2, 3, 4, 5, 6, 7, 8, 9, 10] _ (st' := ⟨[(2, .ptr 10 0), (6, .view 1 0 5), (7, i64 5), (8, i64 2)], [.blk 89 (T_wire_Reader.pvs y4.2), .blk 96 [.ptr 2 0, .ptr 2 1, .ptr 2 2, .ptr 2 3, .ptr 2 4], .blk 25 [i64 y2.1, i64 y4.1, i64 o2.Halt, i64 o2.Fault, i64 o2.Who, .row 3 (o2.Procs).length, .row 4 (o2.Out).length], .row 70 11 (encL T_api_Proc.enc o2.Procs), .row 3 1 (encL (eInt .i64) o2.Out), .ghost (gv 0) (.ptr 0 0), .ghost (gv 1) (.ptr 1 0), .ghost (gv 2) (.ptr 2 0), .ghost (gv 3) (.row 3 0), .ghost (gv 4) (.row 4 0), .blk 94 [.ptr 0 0]]⟩) (tips := []) (by kernel_rfl) all0 ?_
  refine At.roundN ?_
  refine At.seq ?_
  refine At.region_end [2, 6, 7, 8, 9] [0, 1, 2, 3, 4, 5, 6, 7, 8, 9, 10] _ (st' := ⟨[(2, .ptr 10 0), (6, .view 1 0 5), (7, i64 5), (8, i64 2), (9, bo true)], [.blk 89 (T_wire_Reader.pvs y4.2), .blk 96 [.ptr 2 0, .ptr 2 1, .ptr 2 2, .ptr 2 3, .ptr 2 4], .blk 25 [i64 y2.1, i64 y4.1, i64 o2.Halt, i64 o2.Fault, i64 o2.Who, .row 3 (o2.Procs).length, .row 4 (o2.Out).length], .row 70 11 (encL T_api_Proc.enc o2.Procs), .row 3 1 (encL (eInt .i64) o2.Out), .ghost (gv 0) (.ptr 0 0), .ghost (gv 1) (.ptr 1 0), .ghost (gv 2) (.ptr 2 0), .ghost (gv 3) (.row 3 0), .ghost (gv 4) (.row 4 0), .blk 94 [.ptr 0 0]]⟩) (tips := []) (by kernel_rfl) all0 (norm ?_)
  refine At.seq ?_
  refine At.cond true (by kernel_rfl) (fun _ => ?_) (fun hb => by cases hb)
  refine At.nar [2, 6, 7, 8] [0, 1, 2, 3, 4, 5, 6, 7, 8, 9, 10] (st' := ⟨[(2, .ptr 10 0), (6, .view 1 0 5), (7, i64 5), (8, i64 2)], [.blk 89 (T_wire_Reader.pvs y4.2), .blk 96 [.ptr 2 0, .ptr 2 1, .ptr 2 2, .ptr 2 3, .ptr 2 4], .blk 25 [i64 y2.1, i64 y4.1, i64 o2.Halt, i64 o2.Fault, i64 o2.Who, .row 3 (o2.Procs).length, .row 4 (o2.Out).length], .row 70 11 (encL T_api_Proc.enc o2.Procs), .row 3 1 (encL (eInt .i64) o2.Out), .ghost (gv 0) (.ptr 0 0), .ghost (gv 1) (.ptr 1 0), .ghost (gv 2) (.ptr 2 0), .ghost (gv 3) (.row 3 0), .ghost (gv 4) (.row 4 0), .blk 94 [.ptr 0 0]]⟩) (by kernel_rfl) ?_
  refine At.skip (norm ?_)
  refine At.seq ?_
  refine At.block ?_
  refine At.seq ?_
  refine At.region_end [2, 5, 6, 7, 8] [0, 1, 2, 3, 4, 5, 6, 7, 8, 9, 10] _ (st' := ⟨[(2, .ptr 10 0), (5, .ptr 2 2), (6, .view 1 0 5), (7, i64 5), (8, i64 2)], [.blk 89 (T_wire_Reader.pvs y4.2), .blk 96 [.ptr 2 0, .ptr 2 1, .ptr 2 2, .ptr 2 3, .ptr 2 4], .blk 25 [i64 y2.1, i64 y4.1, i64 o2.Halt, i64 o2.Fault, i64 o2.Who, .row 3 (o2.Procs).length, .row 4 (o2.Out).length], .row 70 11 (encL T_api_Proc.enc o2.Procs), .row 3 1 (encL (eInt .i64) o2.Out), .ghost (gv 0) (.ptr 0 0), .ghost (gv 1) (.ptr 1 0), .ghost (gv 2) (.ptr 2 0), .ghost (gv 3) (.row 3 0), .ghost (gv 4) (.row 4 0), .blk 94 [.ptr 0 0]]⟩) (tips := []) (by kernel_rfl) (allc (⟨by decide, by decide⟩ : Within 2 5) all0) (norm ?_)
  obtain ⟨y6, hy6, h⟩ := bind_some h
  refine At.region_end [2, 6, 7, 8] [0, 1, 2, 3, 4, 5, 6, 7, 8, 9, 10] _ (st' := ⟨[(2, .ptr 10 0), (6, .view 1 0 5), (7, i64 5), (8, i64 2)], [.blk 89 (T_wire_Reader.pvs y6.2), .blk 96 [.ptr 2 0, .ptr 2 1, .ptr 2 2, .ptr 2 3, .ptr 2 4], .blk 25 [i64 y2.1, i64 y4.1, i64 y6.1, i64 o2.Fault, i64 o2.Who, .row 3 (o2.Procs).length, .row 4 (o2.Out).length], .row 70 11 (encL T_api_Proc.enc o2.Procs), .row 3 1 (encL (eInt .i64) o2.Out), .ghost (gv 0) (.ptr 0 0), .ghost (gv 1) (.ptr 1 0), .ghost (gv 2) (.ptr 2 0), .ghost (gv 3) (.row 3 0), .ghost (gv 4) (.row 4 0), .blk 94 [.ptr 0 0]]⟩) (tips := [(3, { pc := some { ρ := [0], n0 := 1, res := i64 y6.1, σ' := [.blk 89 (T_wire_Reader.pvs y6.2)], e := [1] } })]) (by kernel_rfl) (allc (C_wire_Reader_Int y4.2 y6 hy6) all0) (norm ?_)
  refine At.region_end [2, 6, 7, 8] [0, 1, 2, 3, 4, 5, 6, 7, 8, 9, 10] _ (st' := ⟨[(2, .ptr 10 0), (6, .view 1 0 5), (7, i64 5), (8, i64 3)], [.blk 89 (T_wire_Reader.pvs y6.2), .blk 96 [.ptr 2 0, .ptr 2 1, .ptr 2 2, .ptr 2 3, .ptr 2 4], .blk 25 [i64 y2.1, i64 y4.1, i64 y6.1, i64 o2.Fault, i64 o2.Who, .row 3 (o2.Procs).length, .row 4 (o2.Out).length], .row 70 11 (encL T_api_Proc.enc o2.Procs), .row 3 1 (encL (eInt .i64) o2.Out), .ghost (gv 0) (.ptr 0 0), .ghost (gv 1) (.ptr 1 0), .ghost (gv 2) (.ptr 2 0), .ghost (gv 3) (.row 3 0), .ghost (gv 4) (.row 4 0), .blk 94 [.ptr 0 0]]⟩) (tips := []) (by kernel_rfl) all0 ?_
  refine At.roundN ?_
  refine At.seq ?_
  refine At.region_end [2, 6, 7, 8, 9] [0, 1, 2, 3, 4, 5, 6, 7, 8, 9, 10] _ (st' := ⟨[(2, .ptr 10 0), (6, .view 1 0 5), (7, i64 5), (8, i64 3), (9, bo true)], [.blk 89 (T_wire_Reader.pvs y6.2), .blk 96 [.ptr 2 0, .ptr 2 1, .ptr 2 2, .ptr 2 3, .ptr 2 4], .blk 25 [i64 y2.1, i64 y4.1, i64 y6.1, i64 o2.Fault, i64 o2.Who, .row 3 (o2.Procs).length, .row 4 (o2.Out).length], .row 70 11 (encL T_api_Proc.enc o2.Procs), .row 3 1 (encL (eInt .i64) o2.Out), .ghost (gv 0) (.ptr 0 0), .ghost (gv 1) (.ptr 1 0), .ghost (gv 2) (.ptr 2 0), .ghost (gv 3) (.row 3 0), .ghost (gv 4) (.row 4 0), .blk 94 [.ptr 0 0]]⟩) (tips := []) (by kernel_rfl) all0 (norm ?_)
  refine At.seq ?_
  refine At.cond true (by kernel_rfl) (fun _ => ?_) (fun hb => by cases hb)
  refine At.nar [2, 6, 7, 8] [0, 1, 2, 3, 4, 5, 6, 7, 8, 9, 10] (st' := ⟨[(2, .ptr 10 0), (6, .view 1 0 5), (7, i64 5), (8, i64 3)], [.blk 89 (T_wire_Reader.pvs y6.2), .blk 96 [.ptr 2 0, .ptr 2 1, .ptr 2 2, .ptr 2 3, .ptr 2 4], .blk 25 [i64 y2.1, i64 y4.1, i64 y6.1, i64 o2.Fault, i64 o2.Who, .row 3 (o2.Procs).length, .row 4 (o2.Out).length], .row 70 11 (encL T_api_Proc.enc o2.Procs), .row 3 1 (encL (eInt .i64) o2.Out), .ghost (gv 0) (.ptr 0 0), .ghost (gv 1) (.ptr 1 0), .ghost (gv 2) (.ptr 2 0), .ghost (gv 3) (.row 3 0), .ghost (gv 4) (.row 4 0), .blk 94 [.ptr 0 0]]⟩) (by kernel_rfl) ?_
  refine At.skip (norm ?_)
  refine At.seq ?_
  refine At.block ?_
  refine At.seq ?_
  refine At.region_end [2, 5, 6, 7, 8] [0, 1, 2, 3, 4, 5, 6, 7, 8, 9, 10] _ (st' := ⟨[(2, .ptr 10 0), (5, .ptr 2 3), (6, .view 1 0 5), (7, i64 5), (8, i64 3)], [.blk 89 (T_wire_Reader.pvs y6.2), .blk 96 [.ptr 2 0, .ptr 2 1, .ptr 2 2, .ptr 2 3, .ptr 2 4], .blk 25 [i64 y2.1, i64 y4.1, i64 y6.1, i64 o2.Fault, i64 o2.Who, .row 3 (o2.Procs).length, .row 4 (o2.Out).length], .row 70 11 (encL T_api_Proc.enc o2.Procs), .row 3 1 (encL (eInt .i64) o2.Out), .ghost (gv 0) (.ptr 0 0), .ghost (gv 1) (.ptr 1 0), .ghost (gv 2) (.ptr 2 0), .ghost (gv 3) (.row 3 0), .ghost (gv 4) (.row 4 0), .blk 94 [.ptr 0 0]]⟩) (tips := []) (by kernel_rfl) (allc (⟨by decide, by decide⟩ : Within 3 5) all0) (norm ?_)
  obtain ⟨y8, hy8, h⟩ := bind_some h
  refine At.region_end [2, 6, 7, 8] [0, 1, 2, 3, 4, 5, 6, 7, 8, 9, 10] _ (st' := ⟨[(2, .ptr 10 0), (6, .view 1 0 5), (7, i64 5), (8, i64 3)], [.blk 89 (T_wire_Reader.pvs y8.2), .blk 96 [.ptr 2 0, .ptr 2 1, .ptr 2 2, .ptr 2 3, .ptr 2 4], .blk 25 [i64 y2.1, i64 y4.1, i64 y6.1, i64 y8.1, i64 o2.Who, .row 3 (o2.Procs).length, .row 4 (o2.Out).length], .row 70 11 (encL T_api_Proc.enc o2.Procs), .row 3 1 (encL (eInt .i64) o2.Out), .ghost (gv 0) (.ptr 0 0), .ghost (gv 1) (.ptr 1 0), .ghost (gv 2) (.ptr 2 0), .ghost (gv 3) (.row 3 0), .ghost (gv 4) (.row 4 0), .blk 94 [.ptr 0 0]]⟩) (tips := [(3, { pc := some { ρ := [0], n0 := 1, res := i64 y8.1, σ' := [.blk 89 (T_wire_Reader.pvs y8.2)], e := [1] } })]) (by kernel_rfl) (allc (C_wire_Reader_Int y6.2 y8 hy8) all0) (norm ?_)
  refine At.region_end [2, 6, 7, 8] [0, 1, 2, 3, 4, 5, 6, 7, 8, 9, 10] _ (st' := ⟨[(2, .ptr 10 0), (6, .view 1 0 5), (7, i64 5), (8, i64 4)], [.blk 89 (T_wire_Reader.pvs y8.2), .blk 96 [.ptr 2 0, .ptr 2 1, .ptr 2 2, .ptr 2 3, .ptr 2 4], .blk 25 [i64 y2.1, i64 y4.1, i64 y6.1, i64 y8.1, i64 o2.Who, .row 3 (o2.Procs).length, .row 4 (o2.Out).length], .row 70 11 (encL T_api_Proc.enc o2.Procs), .row 3 1 (encL (eInt .i64) o2.Out), .ghost (gv 0) (.ptr 0 0), .ghost (gv 1) (.ptr 1 0), .ghost (gv 2) (.ptr 2 0), .ghost (gv 3) (.row 3 0), .ghost (gv 4) (.row 4 0), .blk 94 [.ptr 0 0]]⟩) (tips := []) (by kernel_rfl) all0 ?_
  refine At.roundN ?_
  refine At.seq ?_
  refine At.region_end [2, 6, 7, 8, 9] [0, 1, 2, 3, 4, 5, 6, 7, 8, 9, 10] _ (st' := ⟨[(2, .ptr 10 0), (6, .view 1 0 5), (7, i64 5), (8, i64 4), (9, bo true)], [.blk 89 (T_wire_Reader.pvs y8.2), .blk 96 [.ptr 2 0, .ptr 2 1, .ptr 2 2, .ptr 2 3, .ptr 2 4], .blk 25 [i64 y2.1, i64 y4.1, i64 y6.1, i64 y8.1, i64 o2.Who, .row 3 (o2.Procs).length, .row 4 (o2.Out).length], .row 70 11 (encL T_api_Proc.enc o2.Procs), .row 3 1 (encL (eInt .i64) o2.Out), .ghost (gv 0) (.ptr 0 0), .ghost (gv 1) (.ptr 1 0), .ghost (gv 2) (.ptr 2 0), .ghost (gv 3) (.row 3 0), .ghost (gv 4) (.row 4 0), .blk 94 [.ptr 0 0]]⟩) (tips := []) (by kernel_rfl) all0 (norm ?_)
  refine At.seq ?_
  refine At.cond true (by kernel_rfl) (fun _ => ?_) (fun hb => by cases hb)
  refine At.nar [2, 6, 7, 8] [0, 1, 2, 3, 4, 5, 6, 7, 8, 9, 10] (st' := ⟨[(2, .ptr 10 0), (6, .view 1 0 5), (7, i64 5), (8, i64 4)], [.blk 89 (T_wire_Reader.pvs y8.2), .blk 96 [.ptr 2 0, .ptr 2 1, .ptr 2 2, .ptr 2 3, .ptr 2 4], .blk 25 [i64 y2.1, i64 y4.1, i64 y6.1, i64 y8.1, i64 o2.Who, .row 3 (o2.Procs).length, .row 4 (o2.Out).length], .row 70 11 (encL T_api_Proc.enc o2.Procs), .row 3 1 (encL (eInt .i64) o2.Out), .ghost (gv 0) (.ptr 0 0), .ghost (gv 1) (.ptr 1 0), .ghost (gv 2) (.ptr 2 0), .ghost (gv 3) (.row 3 0), .ghost (gv 4) (.row 4 0), .blk 94 [.ptr 0 0]]⟩) (by kernel_rfl) ?_
  refine At.skip (norm ?_)
  refine At.seq ?_
  refine At.block ?_
  refine At.seq ?_
  refine At.region_end [2, 5, 6, 7, 8] [0, 1, 2, 3, 4, 5, 6, 7, 8, 9, 10] _ (st' := ⟨[(2, .ptr 10 0), (5, .ptr 2 4), (6, .view 1 0 5), (7, i64 5), (8, i64 4)], [.blk 89 (T_wire_Reader.pvs y8.2), .blk 96 [.ptr 2 0, .ptr 2 1, .ptr 2 2, .ptr 2 3, .ptr 2 4], .blk 25 [i64 y2.1, i64 y4.1, i64 y6.1, i64 y8.1, i64 o2.Who, .row 3 (o2.Procs).length, .row 4 (o2.Out).length], .row 70 11 (encL T_api_Proc.enc o2.Procs), .row 3 1 (encL (eInt .i64) o2.Out), .ghost (gv 0) (.ptr 0 0), .ghost (gv 1) (.ptr 1 0), .ghost (gv 2) (.ptr 2 0), .ghost (gv 3) (.row 3 0), .ghost (gv 4) (.row 4 0), .blk 94 [.ptr 0 0]]⟩) (tips := []) (by kernel_rfl) (allc (⟨by decide, by decide⟩ : Within 4 5) all0) (norm ?_)
  obtain ⟨y10, hy10, h⟩ := bind_some h
  refine At.region_end [2, 6, 7, 8] [0, 1, 2, 3, 4, 5, 6, 7, 8, 9, 10] _ (st' := ⟨[(2, .ptr 10 0), (6, .view 1 0 5), (7, i64 5), (8, i64 4)], [.blk 89 (T_wire_Reader.pvs y10.2), .blk 96 [.ptr 2 0, .ptr 2 1, .ptr 2 2, .ptr 2 3, .ptr 2 4], .blk 25 [i64 y2.1, i64 y4.1, i64 y6.1, i64 y8.1, i64 y10.1, .row 3 (o2.Procs).length, .row 4 (o2.Out).length], .row 70 11 (encL T_api_Proc.enc o2.Procs), .row 3 1 (encL (eInt .i64) o2.Out), .ghost (gv 0) (.ptr 0 0), .ghost (gv 1) (.ptr 1 0), .ghost (gv 2) (.ptr 2 0), .ghost (gv 3) (.row 3 0), .ghost (gv 4) (.row 4 0), .blk 94 [.ptr 0 0]]⟩) (tips := [(3, { pc := some { ρ := [0], n0 := 1, res := i64 y10.1, σ' := [.blk 89 (T_wire_Reader.pvs y10.2)], e := [1] } })]) (by kernel_rfl) (allc (C_wire_Reader_Int y8.2 y10 hy10) all0) (norm ?_)
  refine At.region_end [2, 6, 7, 8] [0, 1, 2, 3, 4, 5, 6, 7, 8, 9, 10] _ (st' := ⟨[(2, .ptr 10 0), (6, .view 1 0 5), (7, i64 5), (8, i64 5)], [.blk 89 (T_wire_Reader.pvs y10.2), .blk 96 [.ptr 2 0, .ptr 2 1, .ptr 2 2, .ptr 2 3, .ptr 2 4], .blk 25 [i64 y2.1, i64 y4.1, i64 y6.1, i64 y8.1, i64 y10.1, .row 3 (o2.Procs).length, .row 4 (o2.Out).length], .row 70 11 (encL T_api_Proc.enc o2.Procs), .row 3 1 (encL (eInt .i64) o2.Out), .ghost (gv 0) (.ptr 0 0), .ghost (gv 1) (.ptr 1 0), .ghost (gv 2) (.ptr 2 0), .ghost (gv 3) (.row 3 0), .ghost (gv 4) (.row 4 0), .blk 94 [.ptr 0 0]]⟩) (tips := []) (by kernel_rfl) all0 ?_
  refine At.roundN ?_
  refine At.seq ?_
  refine At.region_end [2, 6, 7, 8, 9] [0, 1, 2, 3, 4, 5, 6, 7, 8, 9, 10] _ (st' := ⟨[(2, .ptr 10 0), (6, .view 1 0 5), (7, i64 5), (8, i64 5), (9, bo false)], [.blk 89 (T_wire_Reader.pvs y10.2), .blk 96 [.ptr 2 0, .ptr 2 1, .ptr 2 2, .ptr 2 3, .ptr 2 4], .blk 25 [i64 y2.1, i64 y4.1, i64 y6.1, i64 y8.1, i64 y10.1, .row 3 (o2.Procs).length, .row 4 (o2.Out).length], .row 70 11 (encL T_api_Proc.enc o2.Procs), .row 3 1 (encL (eInt .i64) o2.Out), .ghost (gv 0) (.ptr 0 0), .ghost (gv 1) (.ptr 1 0), .ghost (gv 2) (.ptr 2 0), .ghost (gv 3) (.row 3 0), .ghost (gv 4) (.row 4 0), .blk 94 [.ptr 0 0]]⟩) (tips := []) (by kernel_rfl) all0 (norm ?_)
  refine At.seq ?_
  refine At.cond false (by kernel_rfl) (fun hb => by cases hb) (fun _ => ?_)
  refine At.nar [] [0, 1, 2, 3, 4, 5, 6, 7, 8, 9] (st' := ⟨[], [.blk 89 (T_wire_Reader.pvs y10.2), .blk 96 [.ptr 2 0, .ptr 2 1, .ptr 2 2, .ptr 2 3, .ptr 2 4], .blk 25 [i64 y2.1, i64 y4.1, i64 y6.1, i64 y8.1, i64 y10.1, .row 3 (o2.Procs).length, .row 4 (o2.Out).length], .row 70 11 (encL T_api_Proc.enc o2.Procs), .row 3 1 (encL (eInt .i64) o2.Out), .ghost (gv 0) (.ptr 0 0), .ghost (gv 1) (.ptr 1 0), .ghost (gv 2) (.ptr 2 0), .ghost (gv 3) (.row 3 0), .ghost (gv 4) (.row 4 0)]⟩) (by kernel_rfl) ?_
  obtain rfl := some_eq h
  refine At.exit (fun a w hs => ret_ok hR (ρ := [0, 1, 2, 3, 4]) (gs := [.ghost (gv 0) (.ptr 0 0), .ghost (gv 1) (.ptr 1 0), .ghost (gv 2) (.ptr 2 0), .ghost (gv 3) (.row 3 0), .ghost (gv 4) (.row 4 0)]) (by kernel_rfl) all0 (by kernel_rfl) rfl rfl a w hs _ (.inr rfl))
set_option maxRecDepth 100000 in
theorem C_wire_Reader_Upto_1 (p0 : ByteArray) (o0_0 : Int) (o1_0 : Int) (r : Int × Int × Int) (h : F_wire_Reader_Upto_1 p0 o0_0 o1_0 = some r) : FnOK Try.prog 79 [sv p0, .ptr 0 0, .ptr 1 0] [.blk 79 [u64 o0_0], .blk 3 [i64 o1_0]] (.tup [i64 r.1, i64 r.2.1]) [.blk 79 [u64 r.2.2], .blk 3 [i64 o1_0]] [1, 3] := by
  rw [F_wire_Reader_Upto_1] at h
  refine FnOK.intro Try.func79 rfl (by kernel_rfl) (by kernel_rfl) fun E gv R hR => ?_
  refine At.seq ?_
  refine At.region_end [0, 1, 2] [0, 1, 2, 3] _ (st' := ⟨[(0, sv p0), (1, .ptr 0 0), (2, .ptr 1 0)], [.blk 79 [u64 o0_0], .blk 3 [i64 o1_0], .ghost (gv 0) (.ptr 0 0), .ghost (gv 1) (.ptr 1 0)]⟩) (tips := []) (by kernel_rfl) all0 (norm ?_)
  refine At.seq ?_
  obtain ⟨y2, hy2, h⟩ := bind_some h
  refine At.region_end [1, 2, 4, 5] [0, 1, 2, 3] _ (st' := ⟨[(1, .ptr 0 0), (2, .ptr 1 0), (4, i64 y2.2.1), (5, i64 y2.2.2)], [.blk 79 [u64 y2.1], .blk 3 [i64 o1_0], .ghost (gv 0) (.ptr 0 0), .ghost (gv 1) (.ptr 1 0)]⟩) (tips := [(1, { pc := some { ρ := [], n0 := 0, res := .tup [u64 y2.1, i64 y2.2.1, i64 y2.2.2], σ' := [], e := [] } })]) (by kernel_rfl) (allc (C_vint_Get p0 0 y2 hy2) all0) (norm ?_)
  refine At.seq ?_
  refine At.seqJ (S := Bool) (fun s => ⟨[(4, i64 y2.2.1), (5, i64 y2.2.2), (23, bo s)], [.blk 79 [u64 y2.1], .blk 3 [i64 o1_0], .ghost (gv 0) (.ptr 0 0), .ghost (gv 1) (.ptr 1 0)]⟩) (fun s => F_wire_Reader_Upto_1_J1 y2 s = some r) ?_ ?_
  · rcases tf (y2.2.2 == 0) with b13 | b13
    · replace h := cond_t b13 h
      rcases tf (decide (o1_0 < 0)) with b14 | b14
      · replace h := cond_t b14 h
        refine At.region_end [4, 5, 23] [0, 1, 2, 3] _ (st' := ⟨[(4, i64 y2.2.1), (5, i64 y2.2.2), (23, bo true)], [.blk 79 [u64 y2.1], .blk 3 [i64 o1_0], .ghost (gv 0) (.ptr 0 0), .ghost (gv 1) (.ptr 1 0)]⟩) (tips := [(2, { orc := .val (.bool true) }), (5, { orc := .val (.bool true) })]) (by kernel_rfl) (allc (congrArg D.bool b13) (allc (congrArg D.bool b14) all0)) (fun a w hs => ⟨true, h, hs⟩)
      · replace h := cond_f b14 h
        refine At.region_end [4, 5, 23] [0, 1, 2, 3] _ (st' := ⟨[(4, i64 y2.2.1), (5, i64 y2.2.2), (23, bo (decide ((wu64 o1_0) < y2.1)))], [.blk 79 [u64 y2.1], .blk 3 [i64 o1_0], .ghost (gv 0) (.ptr 0 0), .ghost (gv 1) (.ptr 1 0)]⟩) (tips := [(2, { orc := .val (.bool true) }), (5, { orc := .val (.bool false) })]) (by kernel_rfl) (allc (congrArg D.bool b13) (allc (congrArg D.bool b14) all0)) (fun a w hs => ⟨(decide ((wu64 o1_0) < y2.1)), h, hs⟩)
    · replace h := cond_f b13 h
      refine At.region_end [4, 5, 23] [0, 1, 2, 3] _ (st' := ⟨[(4, i64 y2.2.1), (5, i64 y2.2.2), (23, bo false)], [.blk 79 [u64 y2.1], .blk 3 [i64 o1_0], .ghost (gv 0) (.ptr 0 0), .ghost (gv 1) (.ptr 1 0)]⟩) (tips := [(2, { orc := .val (.bool false) })]) (by kernel_rfl) (allc (congrArg D.bool b13) all0) (fun a w hs => ⟨false, h, hs⟩)
  · intro x11 h
    replace h : F_wire_Reader_Upto_1_J1 y2 x11 = some r := h
    rw [F_wire_Reader_Upto_1_J1] at h
    refine At.cond x11 (by kernel_rfl) (fun b12 => ?_) (fun b12 => ?_)
    · replace h := cond_t b12 h
      refine At.seq ?_
      refine At.region_end [4, 5] [0, 1, 2, 3] _ (st' := ⟨[(4, i64 0), (5, i64 6)], [.blk 79 [u64 y2.1], .blk 3 [i64 o1_0], .ghost (gv 0) (.ptr 0 0), .ghost (gv 1) (.ptr 1 0)]⟩) (tips := []) (by kernel_rfl) all0 (norm ?_)
      obtain rfl := some_eq h
      exact At.ret fun a w hs => ret_ok hR (ρ := [0, 1]) (gs := [.ghost (gv 0) (.ptr 0 0), .ghost (gv 1) (.ptr 1 0)]) (by kernel_rfl) all0 (by kernel_rfl) rfl rfl a w hs _ (.inl rfl)
    · replace h := cond_f b12 h
      refine At.nar [4, 5] [0, 1, 2, 3] (st' := ⟨[(4, i64 y2.2.1), (5, i64 y2.2.2)], [.blk 79 [u64 y2.1], .blk 3 [i64 o1_0], .ghost (gv 0) (.ptr 0 0), .ghost (gv 1) (.ptr 1 0)]⟩) (by kernel_rfl) ?_
      refine At.skip (norm ?_)
      refine At.seq ?_
      refine At.region_end [4, 5] [0, 1, 2, 3] _ (st' := ⟨[(4, i64 y2.2.1), (5, i64 y2.2.2)], [.blk 79 [u64 y2.1], .blk 3 [i64 o1_0], .ghost (gv 0) (.ptr 0 0), .ghost (gv 1) (.ptr 1 0)]⟩) (tips := []) (by kernel_rfl) all0 (norm ?_)
      obtain rfl := some_eq h
      exact At.ret fun a w hs => ret_ok hR (ρ := [0, 1]) (gs := [.ghost (gv 0) (.ptr 0 0), .ghost (gv 1) (.ptr 1 0)]) (by kernel_rfl) all0 (by kernel_rfl) rfl rfl a w hs _ (.inl rfl)
set_option maxRecDepth 100000 in
theorem C_wire_Reader_step_v2 (o0 : T_wire_Reader) (o1_0 : Int) (o2_0 : Int) (r : Bool × T_wire_Reader × Int) (h : F_wire_Reader_step_v2 o0 o1_0 o2_0 = some r) : FnOK Try.prog 52 [.ptr 0 0, .fn (.func 79) [] [.ptr 1 0, .ptr 2 0]] [.blk 89 (T_wire_Reader.pvs o0), .blk 79 [u64 o1_0], .blk 3 [i64 o2_0]] (bo r.1) [.blk 89 (T_wire_Reader.pvs r.2.1), .blk 79 [u64 r.2.2], .blk 3 [i64 o2_0]] [1, 3, 5] := by
  rw [F_wire_Reader_step_v2] at h
  refine FnOK.intro Try.func52 rfl (by kernel_rfl) (by kernel_rfl) fun E gv R hR => ?_
  refine At.seq ?_
  refine At.region_end [0, 1] [0, 1, 2, 3, 4, 5] _ (st' := ⟨[(0, .ptr 0 0), (1, .fn (.func 79) [] [.ptr 1 0, .ptr 2 0])], [.blk 89 (T_wire_Reader.pvs o0), .blk 79 [u64 o1_0], .blk 3 [i64 o2_0], .ghost (gv 0) (.ptr 0 0), .ghost (gv 1) (.ptr 1 0), .ghost (gv 2) (.ptr 2 0)]⟩) (tips := []) (by kernel_rfl) all0 (norm ?_)
  refine At.seq ?_
  refine At.seq ?_
  refine At.region_end [0, 1, 15] [0, 1, 2, 3, 4, 5] _ (st' := ⟨[(0, .ptr 0 0), (1, .fn (.func 79) [] [.ptr 1 0, .ptr 2 0]), (15, bo (o0.e != 0))], [.blk 89 (T_wire_Reader.pvs o0), .blk 79 [u64 o1_0], .blk 3 [i64 o2_0], .ghost (gv 0) (.ptr 0 0), .ghost (gv 1) (.ptr 1 0), .ghost (gv 2) (.ptr 2 0)]⟩) (tips := []) (by kernel_rfl) all0 (norm ?_)
  refine At.cond (o0.e != 0) (by kernel_rfl) (fun b2 => ?_) (fun b2 => ?_)
  · replace h := cond_t b2 h
    refine At.seq ?_
    refine At.region_end [4] [0, 1, 2, 3, 4, 5] _ (st' := ⟨[(4, bo false)], [.blk 89 (T_wire_Reader.pvs o0), .blk 79 [u64 o1_0], .blk 3 [i64 o2_0], .ghost (gv 0) (.ptr 0 0), .ghost (gv 1) (.ptr 1 0), .ghost (gv 2) (.ptr 2 0)]⟩) (tips := []) (by kernel_rfl) all0 (norm ?_)
    obtain rfl := some_eq h
    exact At.ret fun a w hs => ret_ok hR (ρ := [0, 1, 2]) (gs := [.ghost (gv 0) (.ptr 0 0), .ghost (gv 1) (.ptr 1 0), .ghost (gv 2) (.ptr 2 0)]) (by kernel_rfl) all0 (by kernel_rfl) rfl rfl a w hs _ (.inl rfl)
  · replace h := cond_f b2 h
    refine At.nar [0, 1] [0, 1, 2, 3, 4, 5] (st' := ⟨[(0, .ptr 0 0), (1, .fn (.func 79) [] [.ptr 1 0, .ptr 2 0])], [.blk 89 (T_wire_Reader.pvs o0), .blk 79 [u64 o1_0], .blk 3 [i64 o2_0], .ghost (gv 0) (.ptr 0 0), .ghost (gv 1) (.ptr 1 0), .ghost (gv 2) (.ptr 2 0)]⟩) (by kernel_rfl) ?_
    refine At.skip (norm ?_)
    refine At.seq ?_
    obtain ⟨y4, hy4, h⟩ := bind_some h
    refine At.region_end [0, 5, 6] [0, 1, 2, 3, 4, 5] _ (st' := ⟨[(0, .ptr 0 0), (5, i64 y4.1), (6, i64 y4.2.1)], [.blk 89 (T_wire_Reader.pvs o0), .blk 79 [u64 y4.2.2], .blk 3 [i64 o2_0], .ghost (gv 0) (.ptr 0 0), .ghost (gv 1) (.ptr 1 0), .ghost (gv 2) (.ptr 2 0)]⟩) (tips := [(5, { pc := some { ρ := [1, 2], n0 := 2, res := .tup [i64 y4.1, i64 y4.2.1], σ' := [.blk 79 [u64 y4.2.2], .blk 3 [i64 o2_0]], e := [1, 3] } })]) (by kernel_rfl) (allc (C_wire_Reader_Upto_1 o0.s o1_0 o2_0 y4 hy4) all0) (norm ?_)
    refine At.seq ?_
    refine At.seq ?_
    refine At.region_end [0, 5, 6, 26] [0, 1, 2, 3, 4, 5] _ (st' := ⟨[(0, .ptr 0 0), (5, i64 y4.1), (6, i64 y4.2.1), (26, bo (y4.2.1 != 0))], [.blk 89 (T_wire_Reader.pvs o0), .blk 79 [u64 y4.2.2], .blk 3 [i64 o2_0], .ghost (gv 0) (.ptr 0 0), .ghost (gv 1) (.ptr 1 0), .ghost (gv 2) (.ptr 2 0)]⟩) (tips := []) (by kernel_rfl) all0 (norm ?_)
    refine At.cond (y4.2.1 != 0) (by kernel_rfl) (fun b6 => ?_) (fun b6 => ?_)
    · replace h := cond_t b6 h
      refine At.seq ?_
      refine At.region_end [] [0, 1, 2, 3, 4, 5] _ (st' := ⟨[], [.blk 89 [sv o0.s, i64 y4.2.1], .blk 79 [u64 y4.2.2], .blk 3 [i64 o2_0], .ghost (gv 0) (.ptr 0 0), .ghost (gv 1) (.ptr 1 0), .ghost (gv 2) (.ptr 2 0)]⟩) (tips := []) (by kernel_rfl) all0 (norm ?_)
      refine At.seq ?_
      refine At.region_end [4] [0, 1, 2, 3, 4, 5] _ (st' := ⟨[(4, bo false)], [.blk 89 [sv o0.s, i64 y4.2.1], .blk 79 [u64 y4.2.2], .blk 3 [i64 o2_0], .ghost (gv 0) (.ptr 0 0), .ghost (gv 1) (.ptr 1 0), .ghost (gv 2) (.ptr 2 0)]⟩) (tips := []) (by kernel_rfl) all0 (norm ?_)
      obtain rfl := some_eq h
      exact At.ret fun a w hs => ret_ok hR (ρ := [0, 1, 2]) (gs := [.ghost (gv 0) (.ptr 0 0), .ghost (gv 1) (.ptr 1 0), .ghost (gv 2) (.ptr 2 0)]) (by kernel_rfl) all0 (by kernel_rfl) rfl rfl a w hs _ (.inl rfl)
    · replace h := cond_f b6 h
      refine At.nar [0, 5] [0, 1, 2, 3, 4, 5] (st' := ⟨[(0, .ptr 0 0), (5, i64 y4.1)], [.blk 89 (T_wire_Reader.pvs o0), .blk 79 [u64 y4.2.2], .blk 3 [i64 o2_0], .ghost (gv 0) (.ptr 0 0), .ghost (gv 1) (.ptr 1 0), .ghost (gv 2) (.ptr 2 0)]⟩) (by kernel_rfl) ?_
      refine At.skip (norm ?_)
      refine At.seq ?_
      obtain ⟨g8, h⟩ := grd_some h
      refine At.region_end [] [0, 1, 2, 3, 4, 5] _ (st' := ⟨[], [.blk 89 [sv (o0.s.extract (Int.toNat y4.1) (Int.toNat (o0.s.size : Int))), i64 o0.e], .blk 79 [u64 y4.2.2], .blk 3 [i64 o2_0], .ghost (gv 0) (.ptr 0 0), .ghost (gv 1) (.ptr 1 0), .ghost (gv 2) (.ptr 2 0)]⟩) (tips := []) (by kernel_rfl) (allc g8 all0) (norm ?_)
      refine At.seq ?_
      refine At.region_end [4] [0, 1, 2, 3, 4, 5] _ (st' := ⟨[(4, bo true)], [.blk 89 [sv (o0.s.extract (Int.toNat y4.1) (Int.toNat (o0.s.size : Int))), i64 o0.e], .blk 79 [u64 y4.2.2], .blk 3 [i64 o2_0], .ghost (gv 0) (.ptr 0 0), .ghost (gv 1) (.ptr 1 0), .ghost (gv 2) (.ptr 2 0)]⟩) (tips := []) (by kernel_rfl) all0 (norm ?_)
      obtain rfl := some_eq h
      exact At.ret fun a w hs => ret_ok hR (ρ := [0, 1, 2]) (gs := [.ghost (gv 0) (.ptr 0 0), .ghost (gv 1) (.ptr 1 0), .ghost (gv 2) (.ptr 2 0)]) (by kernel_rfl) all0 (by kernel_rfl) rfl rfl a w hs _ (.inl rfl)
set_option maxRecDepth 100000 in
theorem C_wire_Reader_Upto (p1 : Int) (o0 : T_wire_Reader) (r : Int × T_wire_Reader) (h : F_wire_Reader_Upto p1 o0 = some r) : FnOK Try.prog 65 [.ptr 0 0, i64 p1] [.blk 89 (T_wire_Reader.pvs o0)] (i64 r.1) [.blk 89 (T_wire_Reader.pvs r.2)] [1] := by
  rw [F_wire_Reader_Upto] at h
  refine FnOK.intro Try.func65 rfl (by kernel_rfl) (by kernel_rfl) fun E gv R hR => ?_
  refine At.seq ?_
  refine At.region_end [0, 3] [0, 1, 2] _ (st' := ⟨[(0, .ptr 0 0), (3, .ptr 2 0)], [.blk 89 (T_wire_Reader.pvs o0), .ghost (gv 0) (.ptr 0 0), .blk 3 [i64 p1]]⟩) (tips := []) (by kernel_rfl) all0 (norm ?_)
  refine At.seq ?_
  refine At.region_end [0, 3, 5] [0, 1, 2, 3] _ (st' := ⟨[(0, .ptr 0 0), (3, .ptr 2 0), (5, .ptr 3 0)], [.blk 89 (T_wire_Reader.pvs o0), .ghost (gv 0) (.ptr 0 0), .blk 3 [i64 p1], .blk 79 [u64 0]]⟩) (tips := []) (by kernel_rfl) all0 (norm ?_)
  refine At.seq ?_
  obtain ⟨y2, hy2, h⟩ := bind_some h
  refine At.region_end [5, 6] [0, 1, 3] _ (st' := ⟨[(5, .ptr 2 0), (6, bo y2.1)], [.blk 89 (T_wire_Reader.pvs y2.2.1), .ghost (gv 0) (.ptr 0 0), .blk 79 [u64 y2.2.2]]⟩) (tips := [(2, { pc := some { ρ := [0, 3, 2], n0 := 3, res := bo y2.1, σ' := [.blk 89 (T_wire_Reader.pvs y2.2.1), .blk 79 [u64 y2.2.2], .blk 3 [i64 p1]], e := [1, 3, 5] } })]) (by kernel_rfl) (allc (C_wire_Reader_step_v2 o0 0 p1 y2 hy2) all0) (norm ?_)
  refine At.seq ?_
  refine At.seq ?_
  refine At.region_end [5, 11] [0, 1, 2] _ (st' := ⟨[(5, .ptr 2 0), (11, bo (!y2.1))], [.blk 89 (T_wire_Reader.pvs y2.2.1), .ghost (gv 0) (.ptr 0 0), .blk 79 [u64 y2.2.2]]⟩) (tips := []) (by kernel_rfl) all0 (norm ?_)
  refine At.cond (!y2.1) (by kernel_rfl) (fun b4 => ?_) (fun b4 => ?_)
  · replace h := cond_t b4 h
    refine At.seq ?_
    refine At.region_end [4] [0, 1] _ (st' := ⟨[(4, i64 0)], [.blk 89 (T_wire_Reader.pvs y2.2.1), .ghost (gv 0) (.ptr 0 0)]⟩) (tips := []) (by kernel_rfl) all0 (norm ?_)
    obtain rfl := some_eq h
    exact At.ret fun a w hs => ret_ok hR (ρ := [0]) (gs := [.ghost (gv 0) (.ptr 0 0)]) (by kernel_rfl) all0 (by kernel_rfl) rfl rfl a w hs _ (.inl rfl)
  · replace h := cond_f b4 h
    refine At.nar [5] [0, 1, 2] (st' := ⟨[(5, .ptr 2 0)], [.blk 89 (T_wire_Reader.pvs y2.2.1), .ghost (gv 0) (.ptr 0 0), .blk 79 [u64 y2.2.2]]⟩) (by kernel_rfl) ?_
    refine At.skip (norm ?_)
    refine At.seq ?_
    refine At.region_end [4] [0, 1] _ (st' := ⟨[(4, i64 (w64 y2.2.2))], [.blk 89 (T_wire_Reader.pvs y2.2.1), .ghost (gv 0) (.ptr 0 0)]⟩) (tips := []) (by kernel_rfl) all0 (norm ?_)
    obtain rfl := some_eq h
    exact At.ret fun a w hs => ret_ok hR (ρ := [0]) (gs := [.ghost (gv 0) (.ptr 0 0)]) (by kernel_rfl) all0 (by kernel_rfl) rfl rfl a w hs _ (.inl rfl)
set_option maxRecDepth 100000 in
theorem C_wire_Reader_Err (o0 : T_wire_Reader) (r : Int) (h : F_wire_Reader_Err o0 = some r) : FnOK Try.prog 24 [.ptr 0 0] [.blk 89 (T_wire_Reader.pvs o0)] (i64 r) [.blk 89 (T_wire_Reader.pvs o0)] [1] := by
  rw [F_wire_Reader_Err] at h
  refine FnOK.intro Try.func24 rfl (by kernel_rfl) (by kernel_rfl) fun E gv R hR => ?_
  refine At.seq ?_
  refine At.region_end [0] [0, 1] _ (st' := ⟨[(0, .ptr 0 0)], [.blk 89 (T_wire_Reader.pvs o0), .ghost (gv 0) (.ptr 0 0)]⟩) (tips := []) (by kernel_rfl) all0 (norm ?_)
  refine At.seq ?_
  refine At.seq ?_
  refine At.region_end [0, 4] [0, 1] _ (st' := ⟨[(0, .ptr 0 0), (4, bo false)], [.blk 89 (T_wire_Reader.pvs o0), .ghost (gv 0) (.ptr 0 0)]⟩) (tips := []) (by kernel_rfl) all0 (norm ?_)
  refine At.cond false (by kernel_rfl) (fun hb => by cases hb) (fun _ => ?_)
  refine At.nar [0] [0, 1] (st' := ⟨[(0, .ptr 0 0)], [.blk 89 (T_wire_Reader.pvs o0), .ghost (gv 0) (.ptr 0 0)]⟩) (by kernel_rfl) ?_
  refine At.skip (norm ?_)
  refine At.seq ?_
  refine At.region_end [2] [0, 1] _ (st' := ⟨[(2, i64 o0.e)], [.blk 89 (T_wire_Reader.pvs o0), .ghost (gv 0) (.ptr 0 0)]⟩) (tips := []) (by kernel_rfl) all0 (norm ?_)
  obtain rfl := some_eq h
  exact At.ret fun a w hs => ret_ok hR (ρ := [0]) (gs := [.ghost (gv 0) (.ptr 0 0)]) (by kernel_rfl) all0 (by kernel_rfl) rfl rfl a w hs _ (.inl rfl)
set_option maxRecDepth 100000 in
theorem C_dump_reader_into_v2 (o0 : T_wire_Reader) (o2 : T_api_Proc) (r : T_wire_Reader × T_api_Proc) (h : F_dump_reader_into_v2 o0 o2 = some r) : FnOK Try.prog 55 [.agg [.ptr 0 0], .view 1 0 2] [.blk 89 (T_wire_Reader.pvs o0), .blk 96 [.ptr 2 0, .ptr 2 1], .blk 70 [i64 o2.Def, i64 o2.At, .row 3 (o2.Vars).length, i64 o2.Fuel, i64 o2.Mode, i64 o2.Chan, i64 o2.Val, i64 o2.Slot, i64 o2.Until, i64 o2.Since, .row 4 (o2.Alts).length], .row 3 1 (encL (eInt .i64) o2.Vars), .row 102 5 (encL T_api_Alt.enc o2.Alts)] (.tup []) [.blk 89 (T_wire_Reader.pvs r.1), .blk 96 [.ptr 2 0, .ptr 2 1], .blk 70 [i64 r.2.Def, i64 r.2.At, .row 3 (r.2.Vars).length, i64 r.2.Fuel, i64 r.2.Mode, i64 r.2.Chan, i64 r.2.Val, i64 r.2.Slot, i64 r.2.Until, i64 r.2.Since, .row 4 (r.2.Alts).length], .row 3 1 (encL (eInt .i64) r.2.Vars), .row 102 5 (encL T_api_Alt.enc r.2.Alts)] [1, 3, 5, 6, 8] := by
  rw [F_dump_reader_into_v2] at h
  refine FnOK.intro Try.func55 rfl (by kernel_rfl) (by kernel_rfl) fun E gv R hR => ?_
  refine At.seq ?_
  refine At.region_end [1, 2] [0, 1, 2, 3, 4, 5, 6, 7, 8, 9, 10] _ (st' := ⟨[(1, .view 1 0 2), (2, .ptr 10 0)], [.blk 89 (T_wire_Reader.pvs o0), .blk 96 [.ptr 2 0, .ptr 2 1], .blk 70 [i64 o2.Def, i64 o2.At, .row 3 (o2.Vars).length, i64 o2.Fuel, i64 o2.Mode, i64 o2.Chan, i64 o2.Val, i64 o2.Slot, i64 o2.Until, i64 o2.Since, .row 4 (o2.Alts).length], .row 3 1 (encL (eInt .i64) o2.Vars), .row 102 5 (encL T_api_Alt.enc o2.Alts), .ghost (gv 0) (.ptr 0 0), .ghost (gv 1) (.ptr 1 0), .ghost (gv 2) (.ptr 2 0), .ghost (gv 3) (.row 3 0), .ghost (gv 4) (.row 4 0), .blk 94 [.ptr 0 0]]⟩) (tips := []) (by kernel_rfl) all0 (norm ?_)
  refine At.seq ?_
  refine At.region_end [2, 6, 7, 8] [0, 1, 2, 3, 4, 5, 6, 7, 8, 9, 10] _ (st' := ⟨[(2, .ptr 10 0), (6, .view 1 0 2), (7, i64 2), (8, i64 0)], [.blk 89 (T_wire_Reader.pvs o0), .blk 96 [.ptr 2 0, .ptr 2 1], .blk 70 [i64 o2.Def, i64 o2.At, .row 3 (o2.Vars).length, i64 o2.Fuel, i64 o2.Mode, i64 o2.Chan, i64 o2.Val, i64 o2.Slot, i64 o2.Until, i64 o2.Since, .row 4 (o2.Alts).length], .row 3 1 (encL (eInt .i64) o2.Vars), .row 102 5 (encL T_api_Alt.enc o2.Alts), .ghost (gv 0) (.ptr 0 0), .ghost (gv 1) (.ptr 1 0), .ghost (gv 2) (.ptr 2 0), .ghost (gv 3) (.row 3 0), .ghost (gv 4) (.row 4 0), .blk 94 [.ptr 0 0]]⟩) (tips := []) (by kernel_rfl) all0 (norm ?_)
  refine At.block ?_
  refine At.loopN 3 ?_
  refine At.roundN ?_
  refine At.seq ?_
  refine At.region_end [2, 6, 7, 8, 9] [0, 1, 2, 3, 4, 5, 6, 7, 8, 9, 10] _ (st' := ⟨[(2, .ptr 10 0), (6, .view 1 0 2), (7, i64 2), (8, i64 0), (9, bo true)], [.blk 89 (T_wire_Reader.pvs o0), .blk 96 [.ptr 2 0, .ptr 2 1], .blk 70 [i64 o2.Def, i64 o2.At, .row 3 (o2.Vars).length, i64 o2.Fuel, i64 o2.Mode, i64 o2.Chan, i64 o2.Val, i64 o2.Slot, i64 o2.Until, i64 o2.Since, .row 4 (o2.Alts).length], .row 3 1 (encL (eInt .i64) o2.Vars), .row 102 5 (encL T_api_Alt.enc o2.Alts), .ghost (gv 0) (.ptr 0 0), .ghost (gv 1) (.ptr 1 0), .ghost (gv 2) (.ptr 2 0), .ghost (gv 3) (.row 3 0), .ghost (gv 4) (.row 4 0), .blk 94 [.ptr 0 0]]⟩) (tips := []) (by kernel_rfl) all0 (norm ?_)
  refine At.seq ?_
  refine At.cond true (by kernel_rfl) (fun _ => ?_) (fun hb => by cases hb)
  refine At.nar [2, 6, 7, 8] [0, 1, 2, 3, 4, 5, 6, 7, 8, 9, 10] (st' := ⟨[(2, .ptr 10 0), (6, .view 1 0 2), (7, i64 2), (8, i64 0)], [.blk 89 (T_wire_Reader.pvs o0), .blk 96 [.ptr 2 0, .ptr 2 1], .blk 70 [i64 o2.Def, i64 o2.At, .row 3 (o2.Vars).length, i64 o2.Fuel, i64 o2.Mode, i64 o2.Chan, i64 o2.Val, i64 o2.Slot, i64 o2.Until, i64 o2.Since, .row 4 (o2.Alts).length], .row 3 1 (encL (eInt .i64) o2.Vars), .row 102 5 (encL T_api_Alt.enc o2.Alts), .ghost (gv 0) (.ptr 0 0), .ghost (gv 1) (.ptr 1 0), .ghost (gv 2) (.ptr 2 0), .ghost (gv 3) (.row 3 0), .ghost (gv 4) (.row 4 0), .blk 94 [.ptr 0 0]]⟩) (by kernel_rfl) ?_
  refine At.skip (norm ?_)
  refine At.seq ?_
  refine At.block ?_
  refine At.seq ?_
  refine At.region_end [2, 5, 6, 7, 8] [0, 1, 2, 3, 4, 5, 6, 7, 8, 9, 10] _ (st' := ⟨[(2, .ptr 10 0), (5, .ptr 2 0), (6, .view 1 0 2), (7, i64 2), (8, i64 0)], [.blk 89 (T_wire_Reader.pvs o0), .blk 96 [.ptr 2 0, .ptr 2 1], .blk 70 [i64 o2.Def, i64 o2.At, .row 3 (o2.Vars).length, i64 o2.Fuel, i64 o2.Mode, i64 o2.Chan, i64 o2.Val, i64 o2.Slot, i64 o2.Until, i64 o2.Since, .row 4 (o2.Alts).length], .row 3 1 (encL (eInt .i64) o2.Vars), .row 102 5 (encL T_api_Alt.enc o2.Alts), .ghost (gv 0) (.ptr 0 0), .ghost (gv 1) (.ptr 1 0), .ghost (gv 2) (.ptr 2 0), .ghost (gv 3) (.row 3 0), .ghost (gv 4) (.row 4 0), .blk 94 [.ptr 0 0]]⟩) (tips := []) (by kernel_rfl) (allc (⟨by decide, by decide⟩ : Within 0 2) all0) (norm ?_)
  obtain ⟨y2, hy2, h⟩ := bind_some h
  refine At.region_end [2, 6, 7, 8] [0, 1, 2, 3, 4, 5, 6, 7, 8, 9, 10] _ (st' := ⟨[(2, .ptr 10 0), (6, .view 1 0 2), (7, i64 2), (8, i64 0)], [.blk 89 (T_wire_Reader.pvs y2.2), .blk 96 [.ptr 2 0, .ptr 2 1], .blk 70 [i64 y2.1, i64 o2.At, .row 3 (o2.Vars).length, i64 o2.Fuel, i64 o2.Mode, i64 o2.Chan, i64 o2.Val, i64 o2.Slot, i64 o2.Until, i64 o2.Since, .row 4 (o2.Alts).length], .row 3 1 (encL (eInt .i64) o2.Vars), .row 102 5 (encL T_api_Alt.enc o2.Alts), .ghost (gv 0) (.ptr 0 0), .ghost (gv 1) (.ptr 1 0), .ghost (gv 2) (.ptr 2 0), .ghost (gv 3) (.row 3 0), .ghost (gv 4) (.row 4 0), .blk 94 [.ptr 0 0]]⟩) (tips := [(3, { pc := some { ρ := [0], n0 := 1, res := i64 y2.1, σ' := [.blk 89 (T_wire_Reader.pvs y2.2)], e := [1] } })]) (by kernel_rfl) (allc (C_wire_Reader_Int o0 y2 hy2) all0) (norm ?_)
  refine At.region_end [2, 6, 7, 8] [0, 1, 2, 3, 4, 5, 6, 7, 8, 9, 10] _ (st' := ⟨[(2, .ptr 10 0), (6, .view 1 0 2), (7, i64 2), (8, i64 1)], [.blk 89 (T_wire_Reader.pvs y2.2), .blk 96 [.ptr 2 0, .ptr 2 1], .blk 70 [i64 y2.1, i64 o2.At, .row 3 (o2.Vars).length, i64 o2.Fuel, i64 o2.Mode, i64 o2.Chan, i64 o2.Val, i64 o2.Slot, i64 o2.Until, i64 o2.Since, .row 4 (o2.Alts).length], .row 3 1 (encL (eInt .i64) o2.Vars), .row 102 5 (encL T_api_Alt.enc o2.Alts), .ghost (gv 0) (.ptr 0 0), .ghost (gv 1) (.ptr 1 0), .ghost (gv 2) (.ptr 2 0), .ghost (gv 3) (.row 3 0), .ghost (gv 4) (.row 4 0), .blk 94 [.ptr 0 0]]⟩) (tips := []) (by kernel_rfl) all0 ?_
  refine At.roundN ?_
  refine At.seq ?_
  refine At.region_end [2, 6, 7, 8, 9] [0, 1, 2, 3, 4, 5, 6, 7, 8, 9, 10] _ (st' := ⟨[(2, .ptr 10 0), (6, .view 1 0 2), (7, i64 2), (8, i64 1), (9, bo true)], [.blk 89 (T_wire_Reader.pvs y2.2), .blk 96 [.ptr 2 0, .ptr 2 1], .blk 70 [i64 y2.1, i64 o2.At, .row 3 (o2.Vars).length, i64 o2.Fuel, i64 o2.Mode, i64 o2.Chan, i64 o2.Val, i64 o2.Slot, i64 o2.Until, i64 o2.Since, .row 4 (o2.Alts).length], .row 3 1 (encL (eInt .i64) o2.Vars), .row 102 5 (encL T_api_Alt.enc o2.Alts), .ghost (gv 0) (.ptr 0 0), .ghost (gv 1) (.ptr 1 0), .ghost (gv 2) (.ptr 2 0), .ghost (gv 3) (.row 3 0), .ghost (gv 4) (.row 4 0), .blk 94 [.ptr 0 0]]⟩) (tips := []) (by kernel_rfl) all0 (norm ?_)
  refine At.seq ?_
  refine At.cond true (by kernel_rfl) (fun _ => ?_) (fun hb => by cases hb)
  refine At.nar [2, 6, 7, 8] [0, 1, 2, 3, 4, 5, 6, 7, 8, 9, 10] (st' := ⟨[(2, .ptr 10 0), (6, .view 1 0 2), (7, i64 2), (8, i64 1)], [.blk 89 (T_wire_Reader.pvs y2.2), .blk 96 [.ptr 2 0, .ptr 2 1], .blk 70 [i64 y2.1, i64 o2.At, .row 3 (o2.Vars).length, i64 o2.Fuel, i64 o2.Mode, i64 o2.Chan, i64 o2.Val, i64 o2.Slot, i64 o2.Until, i64 o2.Since, .row 4 (o2.Alts).length], .row 3 1 (encL (eInt .i64) o2.Vars), .row 102 5 (encL T_api_Alt.enc o2.Alts), .ghost (gv 0) (.ptr 0 0), .ghost (gv 1) (.ptr 1 0), .ghost (gv 2) (.ptr 2 0), .ghost (gv 3) (.row 3 0), .ghost (gv 4) (.row 4 0), .blk 94 [.ptr 0 0]]⟩) (by kernel_rfl) ?_
  refine At.skip (norm ?_)
  refine At.seq ?_
  refine At.block ?_
  refine At.seq ?_
  refine At.region_end [2, 5, 6, 7, 8] [0, 1, 2, 3, 4, 5, 6, 7, 8, 9, 10] _ (st' := ⟨[(2, .ptr 10 0), (5, .ptr 2 1), (6, .view 1 0 2), (7, i64 2), (8, i64 1)], [.blk 89 (T_wire_Reader.pvs y2.2), .blk 96 [.ptr 2 0, .ptr 2 1], .blk 70 [i64 y2.1, i64 o2.At, .row 3 (o2.Vars).length, i64 o2.Fuel, i64 o2.Mode, i64 o2.Chan, i64 o2.Val, i64 o2.Slot, i64 o2.Until, i64 o2.Since, .row 4 (o2.Alts).length], .row 3 1 (encL (eInt .i64) o2.Vars), .row 102 5 (encL T_api_Alt.enc o2.Alts), .ghost (gv 0) (.ptr 0 0), .ghost (gv 1) (.ptr 1 0), .ghost (gv 2) (.ptr 2 0), .ghost (gv 3) (.row 3 0), .ghost (gv 4) (.row 4 0), .blk 94 [.ptr 0 0]]⟩) (tips := []) (by kernel_rfl) (allc (⟨by decide, by decide⟩ : Within 1 2) all0) (norm ?_)
  obtain ⟨y4, hy4, h⟩ := bind_some h
  refine At.region_end [2, 6, 7, 8] [0, 1, 2, 3, 4, 5, 6, 7, 8, 9, 10] _ (st' := ⟨[(2, .ptr 10 0), (6, .view 1 0 2), (7, i64 2), (8, i64 1)], [.blk 89 (T_wire_Reader.pvs y4.2), .blk 96 [.ptr 2 0, .ptr 2 1], .blk 70 [i64 y2.1, i64 y4.1, .row 3 (o2.Vars).length, i64 o2.Fuel, i64 o2.Mode, i64 o2.Chan, i64 o2.Val, i64 o2.Slot, i64 o2.Until, i64 o2.Since, .row 4 (o2.Alts).length], .row 3 1 (encL (eInt .i64) o2.Vars), .row 102 5 (encL T_api_Alt.enc o2.Alts), .ghost (gv 0) (.ptr 0 0), .ghost (gv 1) (.ptr 1 0), .ghost (gv 2) (.ptr 2 0), .ghost (gv 3) (.row 3 0), .ghost (gv 4) (.row 4 0), .blk 94 [.ptr 0 0]]⟩) (tips := [(3, { pc := some { ρ := [0], n0 := 1, res := i64 y4.1, σ' := [.blk 89 (T_wire_Reader.pvs y4.2)], e := [1] } })]) (by kernel_rfl) (allc (C_wire_Reader_Int y2.2 y4 hy4) all0) (norm ?_)
  refine At.region_end [2, 6, 7, 8] [0, 1, 2, 3, 4, 5, 6, 7, 8, 9, 10] _ (st' := ⟨[(2, .ptr 10 0), (6, .view 1 0 2), (7, i64 2), (8, i64 2)], [.blk 89 (T_wire_Reader.pvs y4.2), .blk 96 [.ptr 2 0, .ptr 2 1], .blk 70 [i64 y2.1, i64 y4.1, .row 3 (o2.Vars).length, i64 o2.Fuel, i64 o2.Mode, i64 o2.Chan, i64 o2.Val, i64 o2.Slot, i64 o2.Until, i64 o2.Since, .row 4 (o2.Alts).length], .row 3 1 (encL (eInt .i64) o2.Vars), .row 102 5 (encL T_api_Alt.enc o2.Alts), .ghost (gv 0) (.ptr 0 0), .ghost (gv 1) (.ptr 1 0), .ghost (gv 2) (.ptr 2 0), .ghost (gv 3) (.row 3 0), .ghost (gv 4) (.row 4 0), .blk 94 [.ptr 0 0]]⟩) (tips := []) (by kernel_rfl) all0 ?_
  refine At.roundN ?_
  refine At.seq ?_
  refine At.region_end [2, 6, 7, 8, 9] [0, 1, 2, 3, 4, 5, 6, 7, 8, 9, 10] _ (st' := ⟨[(2, .ptr 10 0), (6, .view 1 0 2), (7, i64 2), (8, i64 2), (9, bo false)], [.blk 89 (T_wire_Reader.pvs y4.2), .blk 96 [.ptr 2 0, .ptr 2 1], .blk 70 [i64 y2.1, i64 y4.1, .row 3 (o2.Vars).length, i64 o2.Fuel, i64 o2.Mode, i64 o2.Chan, i64 o2.Val, i64 o2.Slot, i64 o2.Until, i64 o2.Since, .row 4 (o2.Alts).length], .row 3 1 (encL (eInt .i64) o2.Vars), .row 102 5 (encL T_api_Alt.enc o2.Alts), .ghost (gv 0) (.ptr 0 0), .ghost (gv 1) (.ptr 1 0), .ghost (gv 2) (.ptr 2 0), .ghost (gv 3) (.row 3 0), .ghost (gv 4) (.row 4 0), .blk 94 [.ptr 0 0]]⟩) (tips := []) (by kernel_rfl) all0 (norm ?_)
  refine At.seq ?_
  refine At.cond false (by kernel_rfl) (fun hb => by cases hb) (fun _ => ?_)
  refine At.nar [] [0, 1, 2, 3, 4, 5, 6, 7, 8, 9] (st' := ⟨[], [.blk 89 (T_wire_Reader.pvs y4.2), .blk 96 [.ptr 2 0, .ptr 2 1], .blk 70 [i64 y2.1, i64 y4.1, .row 3 (o2.Vars).length, i64 o2.Fuel, i64 o2.Mode, i64 o2.Chan, i64 o2.Val, i64 o2.Slot, i64 o2.Until, i64 o2.Since, .row 4 (o2.Alts).length], .row 3 1 (encL (eInt .i64) o2.Vars), .row 102 5 (encL T_api_Alt.enc o2.Alts), .ghost (gv 0) (.ptr 0 0), .ghost (gv 1) (.ptr 1 0), .ghost (gv 2) (.ptr 2 0), .ghost (gv 3) (.row 3 0), .ghost (gv 4) (.row 4 0)]⟩) (by kernel_rfl) ?_
  obtain rfl := some_eq h
  refine At.exit (fun a w hs => ret_ok hR (ρ := [0, 1, 2, 3, 4]) (gs := [.ghost (gv 0) (.ptr 0 0), .ghost (gv 1) (.ptr 1 0), .ghost (gv 2) (.ptr 2 0), .ghost (gv 3) (.row 3 0), .ghost (gv 4) (.row 4 0)]) (by kernel_rfl) all0 (by kernel_rfl) rfl rfl a w hs _ (.inr rfl))
set_option maxRecDepth 100000 in
theorem C_wire_Reader_Ints (p1 : Int) (o0 : T_wire_Reader) (r : (List Int) × T_wire_Reader) (h : F_wire_Reader_Ints p1 o0 = some r) : FnOK Try.prog 59 [.ptr 0 0, i64 p1] [.blk 89 (T_wire_Reader.pvs o0)] (.row 1 (r.1).length) [.blk 89 (T_wire_Reader.pvs r.2), .row 3 1 (encL (eInt .i64) r.1)] [1] := by
  rw [F_wire_Reader_Ints] at h
  refine FnOK.intro Try.func59 rfl (by kernel_rfl) (by kernel_rfl) fun E gv R hR => ?_
  refine At.seq ?_
  refine At.region_end [0, 1] [0, 1] _ (st' := ⟨[(0, .ptr 0 0), (1, i64 p1)], [.blk 89 (T_wire_Reader.pvs o0), .ghost (gv 0) (.ptr 0 0)]⟩) (tips := []) (by kernel_rfl) all0 (norm ?_)
  refine At.seq ?_
  obtain ⟨y2, hy2, h⟩ := bind_some h
  refine At.region_end [0, 5] [0, 1] _ (st' := ⟨[(0, .ptr 0 0), (5, i64 y2.1)], [.blk 89 (T_wire_Reader.pvs y2.2), .ghost (gv 0) (.ptr 0 0)]⟩) (tips := [(2, { pc := some { ρ := [0], n0 := 1, res := i64 y2.1, σ' := [.blk 89 (T_wire_Reader.pvs y2.2)], e := [1] } })]) (by kernel_rfl) (allc (C_wire_Reader_Upto p1 o0 y2 hy2) all0) (norm ?_)
  refine At.seq ?_
  refine At.region_end [0, 5, 6] [0, 1] _ (st' := ⟨[(0, .ptr 0 0), (5, i64 y2.1), (6, .d (.list true 0 []))], [.blk 89 (T_wire_Reader.pvs y2.2), .ghost (gv 0) (.ptr 0 0)]⟩) (tips := []) (by kernel_rfl) all0 (norm ?_)
  refine At.seq ?_
  refine At.block ?_
  refine At.edNar [.ownS 6 3 1] [0, 5, 6] [0, 1, 2] (st' := ⟨[(0, .ptr 0 0), (5, i64 y2.1), (6, .row 2 ([] : List Int).length)], [.blk 89 (T_wire_Reader.pvs y2.2), .ghost (gv 0) (.ptr 0 0), .row 3 1 (encL (eInt .i64) ([]))]⟩) (by kernel_rfl) ?_
  refine At.loop (fun s : (ByteArray × Int × (List Int)) => F_wire_Reader_Ints_L2 y2 s.1 s.2.1 s.2.2) (fun s : (ByteArray × Int × (List Int)) => ⟨[(0, .ptr 0 0), (5, i64 y2.1), (6, .row 2 (s.2.2).length)], [.blk 89 [sv s.1, i64 s.2.1], .ghost (gv 0) (.ptr 0 0), .row 3 1 (encL (eInt .i64) s.2.2)]⟩) r (y2.2.s, y2.2.e, ([] : (List Int))) h ?_
  rintro ⟨x24, x25, x26⟩ oo27 h f28
  replace h : F_wire_Reader_Ints_L2 y2 x24 x25 x26 = some oo27 := h
  rw [F_wire_Reader_Ints_L2] at h
  refine At.seq ?_
  refine At.seqJ (S := Bool) (fun s => ⟨[(0, .ptr 0 0), (5, i64 y2.1), (6, .row 2 (x26).length), (18, bo s)], [.blk 89 [sv x24, i64 x25], .ghost (gv 0) (.ptr 0 0), .row 3 1 (encL (eInt .i64) x26)]⟩) (fun s => F_wire_Reader_Ints_J1 x24 x25 x26 s = some oo27) ?_ ?_
  · rcases tf (decide (((x26).length : Int) < y2.1)) with b49 | b49
    · replace h := cond_t b49 h
      obtain ⟨y50, hy50, h⟩ := bind_some h
      refine At.region_end [0, 5, 6, 18] [0, 1, 2] _ (st' := ⟨[(0, .ptr 0 0), (5, i64 y2.1), (6, .row 2 (x26).length), (18, bo (y50 == 0))], [.blk 89 [sv x24, i64 x25], .ghost (gv 0) (.ptr 0 0), .row 3 1 (encL (eInt .i64) x26)]⟩) (tips := [(4, { orc := .val (.bool true) }), (6, { pc := some { ρ := [0], n0 := 1, res := i64 y50, σ' := [.blk 89 [sv x24, i64 x25]], e := [1] } })]) (by kernel_rfl) (allc (congrArg D.bool b49) (allc (C_wire_Reader_Err (⟨x24, x25⟩ : T_wire_Reader) y50 hy50) all0)) (fun a w hs => ⟨(y50 == 0), h, hs⟩)
    · replace h := cond_f b49 h
      refine At.region_end [0, 5, 6, 18] [0, 1, 2] _ (st' := ⟨[(0, .ptr 0 0), (5, i64 y2.1), (6, .row 2 (x26).length), (18, bo false)], [.blk 89 [sv x24, i64 x25], .ghost (gv 0) (.ptr 0 0), .row 3 1 (encL (eInt .i64) x26)]⟩) (tips := [(4, { orc := .val (.bool false) })]) (by kernel_rfl) (allc (congrArg D.bool b49) all0) (fun a w hs => ⟨false, h, hs⟩)
  · intro x37 h
    replace h : F_wire_Reader_Ints_J1 x24 x25 x26 x37 = some oo27 := h
    rw [F_wire_Reader_Ints_J1] at h
    refine At.cond x37 (by kernel_rfl) (fun b38 => ?_) (fun b38 => ?_)
    · replace h := cond_t b38 h
      refine At.nar [0, 5, 6] [0, 1, 2] (st' := ⟨[(0, .ptr 0 0), (5, i64 y2.1), (6, .row 2 (x26).length)], [.blk 89 [sv x24, i64 x25], .ghost (gv 0) (.ptr 0 0), .row 3 1 (encL (eInt .i64) x26)]⟩) (by kernel_rfl) ?_
      refine At.skip (norm ?_)
      refine At.block ?_
      obtain ⟨y39, hy39, h⟩ := bind_some h
      obtain ⟨g40, h⟩ := grd_some h
      refine At.region_end [0, 5, 6] [0, 1, 2] _ (st' := ⟨[(0, .ptr 0 0), (5, i64 y2.1), (6, .row 2 ((x26 ++ [y39.1])).length)], [.blk 89 (T_wire_Reader.pvs y39.2), .ghost (gv 0) (.ptr 0 0), .row 3 1 (encL (eInt .i64) (x26 ++ [y39.1]))]⟩) (tips := [(2, { pc := some { ρ := [0], n0 := 1, res := i64 y39.1, σ' := [.blk 89 (T_wire_Reader.pvs y39.2)], e := [1] } }), (4, { form := some ((x26 ++ [y39.1]).length, encL (eInt .i64) (x26 ++ [y39.1])) })]) (by kernel_rfl) (allc (C_wire_Reader_Int (⟨x24, x25⟩ : T_wire_Reader) y39 hy39) (allc (len_app x26 ([y39.1])) (allc (encL_app (eInt .i64) x26 ([y39.1])) (allc (app_ok (he_int .i64) (by decide) g40) (allc (encL_len (he_int .i64) ([y39.1])) all0))))) (fun a w hs => ⟨_, (some_eq h).symm, hs⟩)
    · replace h := cond_f b38 h
      refine At.nar [0, 6] [0, 1, 2] (st' := ⟨[(0, .ptr 0 0), (6, .row 2 (x26).length)], [.blk 89 [sv x24, i64 x25], .ghost (gv 0) (.ptr 0 0), .row 3 1 (encL (eInt .i64) x26)]⟩) (by kernel_rfl) ?_
      obtain ⟨r41, h, e42⟩ := map_inr h
      rw [f28 _ e42] at h
      refine At.exit (norm ?_)
      refine At.seq ?_
      refine At.seq ?_
      obtain ⟨y47, hy47, h⟩ := bind_some h
      refine At.region_end [6, 26] [0, 1, 2] _ (st' := ⟨[(6, .row 2 (x26).length), (26, bo (y47 != 0))], [.blk 89 [sv x24, i64 x25], .ghost (gv 0) (.ptr 0 0), .row 3 1 (encL (eInt .i64) x26)]⟩) (tips := [(1, { pc := some { ρ := [0], n0 := 1, res := i64 y47, σ' := [.blk 89 [sv x24, i64 x25]], e := [1] } })]) (by kernel_rfl) (allc (C_wire_Reader_Err (⟨x24, x25⟩ : T_wire_Reader) y47 hy47) all0) (norm ?_)
      refine At.cond (y47 != 0) (by kernel_rfl) (fun b48 => ?_) (fun b48 => ?_)
      · replace h := cond_t b48 h
        refine At.seq ?_
        refine At.region_end [4] [0, 1] _ (st' := ⟨[(4, .d (.list true 0 []))], [.blk 89 [sv x24, i64 x25], .ghost (gv 0) (.ptr 0 0)]⟩) (tips := []) (by kernel_rfl) all0 (norm ?_)
        refine At.edNar [.ownS 4 3 1] [4] [0, 1, 2] (st' := ⟨[(4, .row 2 ([] : List Int).length)], [.blk 89 [sv x24, i64 x25], .ghost (gv 0) (.ptr 0 0), .row 3 1 (encL (eInt .i64) ([]))]⟩) (by kernel_rfl) ?_
        obtain rfl := some_eq h
        exact At.ret fun a w hs => ret_ok hR (ρ := [0, 2]) (gs := [.ghost (gv 0) (.ptr 0 0)]) (by kernel_rfl) all0 (by kernel_rfl) rfl rfl a w hs _ (.inl rfl)
      · replace h := cond_f b48 h
        refine At.nar [6] [0, 1, 2] (st' := ⟨[(6, .row 2 (x26).length)], [.blk 89 [sv x24, i64 x25], .ghost (gv 0) (.ptr 0 0), .row 3 1 (encL (eInt .i64) x26)]⟩) (by kernel_rfl) ?_
        refine At.skip (norm ?_)
        refine At.seq ?_
        refine At.region_end [4] [0, 1, 2] _ (st' := ⟨[(4, .row 2 (x26).length)], [.blk 89 [sv x24, i64 x25], .ghost (gv 0) (.ptr 0 0), .row 3 1 (encL (eInt .i64) x26)]⟩) (tips := []) (by kernel_rfl) all0 (norm ?_)
        obtain rfl := some_eq h
        exact At.ret fun a w hs => ret_ok hR (ρ := [0, 2]) (gs := [.ghost (gv 0) (.ptr 0 0)]) (by kernel_rfl) all0 (by kernel_rfl) rfl rfl a w hs _ (.inl rfl)
set_option maxRecDepth 100000 in
theorem C_dump_reader_into_v3 (o0 : T_wire_Reader) (o2 : T_api_Proc) (r : T_wire_Reader × T_api_Proc) (h : F_dump_reader_into_v3 o0 o2 = some r) : FnOK Try.prog 55 [.agg [.ptr 0 0], .view 1 0 7] [.blk 89 (T_wire_Reader.pvs o0), .blk 96 [.ptr 2 3, .ptr 2 4, .ptr 2 5, .ptr 2 6, .ptr 2 7, .ptr 2 8, .ptr 2 9], .blk 70 [i64 o2.Def, i64 o2.At, .row 3 (o2.Vars).length, i64 o2.Fuel, i64 o2.Mode, i64 o2.Chan, i64 o2.Val, i64 o2.Slot, i64 o2.Until, i64 o2.Since, .row 4 (o2.Alts).length], .row 3 1 (encL (eInt .i64) o2.Vars), .row 102 5 (encL T_api_Alt.enc o2.Alts)] (.tup []) [.blk 89 (T_wire_Reader.pvs r.1), .blk 96 [.ptr 2 3, .ptr 2 4, .ptr 2 5, .ptr 2 6, .ptr 2 7, .ptr 2 8, .ptr 2 9], .blk 70 [i64 r.2.Def, i64 r.2.At, .row 3 (r.2.Vars).length, i64 r.2.Fuel, i64 r.2.Mode, i64 r.2.Chan, i64 r.2.Val, i64 r.2.Slot, i64 r.2.Until, i64 r.2.Since, .row 4 (r.2.Alts).length], .row 3 1 (encL (eInt .i64) r.2.Vars), .row 102 5 (encL T_api_Alt.enc r.2.Alts)] [1, 3, 5, 6, 8] := by
  rw [F_dump_reader_into_v3] at h
  refine FnOK.intro Try.func55 rfl (by kernel_rfl) (by kernel_rfl) fun E gv R hR => ?_
  refine At.seq ?_
  refine At.region_end [1, 2] [0, 1, 2, 3, 4, 5, 6, 7, 8, 9, 10] _ (st' := ⟨[(1, .view 1 0 7), (2, .ptr 10 0)], [.blk 89 (T_wire_Reader.pvs o0), .blk 96 [.ptr 2 3, .ptr 2 4, .ptr 2 5, .ptr 2 6, .ptr 2 7, .ptr 2 8, .ptr 2 9], .blk 70 [i64 o2.Def, i64 o2.At, .row 3 (o2.Vars).length, i64 o2.Fuel, i64 o2.Mode, i64 o2.Chan, i64 o2.Val, i64 o2.Slot, i64 o2.Until, i64 o2.Since, .row 4 (o2.Alts).length], .row 3 1 (encL (eInt .i64) o2.Vars), .row 102 5 (encL T_api_Alt.enc o2.Alts), .ghost (gv 0) (.ptr 0 0), .ghost (gv 1) (.ptr 1 0), .ghost (gv 2) (.ptr 2 0), .ghost (gv 3) (.row 3 0), .ghost (gv 4) (.row 4 0), .blk 94 [.ptr 0 0]]⟩) (tips := []) (by kernel_rfl) all0 (norm ?_)
  refine At.seq ?_
  refine At.region_end [2, 6, 7, 8] [0, 1, 2, 3, 4, 5, 6, 7, 8, 9, 10] _ (st' := ⟨[(2, .ptr 10 0), (6, .view 1 0 7), (7, i64 7), (8, i64 0)], [.blk 89 (T_wire_Reader.pvs o0), .blk 96 [.ptr 2 3, .ptr 2 4, .ptr 2 5, .ptr 2 6, .ptr 2 7, .ptr 2 8, .ptr 2 9], .blk 70 [i64 o2.Def, i64 o2.At, .row 3 (o2.Vars).length, i64 o2.Fuel, i64 o2.Mode, i64 o2.Chan, i64 o2.Val, i64 o2.Slot, i64 o2.Until, i64 o2.Since, .row 4 (o2.Alts).length], .row 3 1 (encL (eInt .i64) o2.Vars), .row 102 5 (encL T_api_Alt.enc o2.Alts), .ghost (gv 0) (.ptr 0 0), .ghost (gv 1) (.ptr 1 0), .ghost (gv 2) (.ptr 2 0), .ghost (gv 3) (.row 3 0), .ghost (gv 4) (.row 4 0), .blk 94 [.ptr 0 0]]⟩) (tips := []) (by kernel_rfl) all0 (norm ?_)
  refine At.block ?_
  refine At.loopN 8 ?_
  refine At.roundN ?_
  refine At.seq ?_
  refine At.region_end [2, 6, 7, 8, 9] [0, 1, 2, 3, 4, 5, 6, 7, 8, 9, 10] _ (st' := ⟨[(2, .ptr 10 0), (6, .view 1 0 7), (7, i64 7), (8, i64 0), (9, bo true)], [.blk 89 (T_wire_Reader.pvs o0), .blk 96 [.ptr 2 3, .ptr 2 4, .ptr 2 5, .ptr 2 6, .ptr 2 7, .ptr 2 8, .ptr 2 9], .blk 70 [i64 o2.Def, i64 o2.At, .row 3 (o2.Vars).length, i64 o2.Fuel, i64 o2.Mode, i64 o2.Chan, i64 o2.Val, i64 o2.Slot, i64 o2.Until, i64 o2.Since, .row 4 (o2.Alts).length], .row 3 1 (encL (eInt .i64) o2.Vars), .row 102 5 (encL T_api_Alt.enc o2.Alts), .ghost (gv 0) (.ptr 0 0), .ghost (gv 1) (.ptr 1 0), .ghost (gv 2) (.ptr 2 0), .ghost (gv 3) (.row 3 0), .ghost (gv 4) (.row 4 0), .blk 94 [.ptr 0 0]]⟩) (tips := []) (by kernel_rfl) all0 (norm ?_)
  refine At.seq ?_
  refine At.cond true (by kernel_rfl) (fun _ => ?_) (fun hb => by cases hb)
  refine At.nar [2, 6, 7, 8] [0, 1, 2, 3, 4, 5, 6, 7, 8, 9, 10] (st' := ⟨[(2, .ptr 10 0), (6, .view 1 0 7), (7, i64 7), (8, i64 0)], [.blk 89 (T_wire_Reader.pvs o0), .blk 96 [.ptr 2 3, .ptr 2 4, .ptr 2 5, .ptr 2 6, .ptr 2 7, .ptr 2 8, .ptr 2 9], .blk 70 [i64 o2.Def, i64 o2.At, .row 3 (o2.Vars).length, i64 o2.Fuel, i64 o2.Mode, i64 o2.Chan, i64 o2.Val, i64 o2.Slot, i64 o2.Until, i64 o2.Since, .row 4 (o2.Alts).length], .row 3 1 (encL (eInt .i64) o2.Vars), .row 102 5 (encL T_api_Alt.enc o2.Alts), .ghost (gv 0) (.ptr 0 0), .ghost (gv 1) (.ptr 1 0), .ghost (gv 2) (.ptr 2 0), .ghost (gv 3) (.row 3 0), .ghost (gv 4) (.row 4 0), .blk 94 [.ptr 0 0]]⟩) (by kernel_rfl) ?_
  refine At.skip (norm ?_)
  refine At.seq ?_
  refine At.block ?_
  refine At.seq ?_
  refine At.region_end [2, 5, 6, 7, 8] [0, 1, 2, 3, 4, 5, 6, 7, 8, 9, 10] _ (st' := ⟨[(2, .ptr 10 0), (5, .ptr 2 3), (6, .view 1 0 7), (7, i64 7), (8, i64 0)], [.blk 89 (T_wire_Reader.pvs o0), .blk 96 [.ptr 2 3, .ptr 2 4, .ptr 2 5, .ptr 2 6, .ptr 2 7, .ptr 2 8, .ptr 2 9], .blk 70 [i64 o2.Def, i64 o2.At, .row 3 (o2.Vars).length, i64 o2.Fuel, i64 o2.Mode, i64 o2.Chan, i64 o2.Val, i64 o2.Slot, i64 o2.Until, i64 o2.Since, .row 4 (o2.Alts).length], .row 3 1 (encL (eInt .i64) o2.Vars), .row 102 5 (encL T_api_Alt.enc o2.Alts), .ghost (gv 0) (.ptr 0 0), .ghost (gv 1) (.ptr 1 0), .ghost (gv 2) (.ptr 2 0), .ghost (gv 3) (.row 3 0), .ghost (gv 4) (.row 4 0), .blk 94 [.ptr 0 0]]⟩) (tips := []) (by kernel_rfl) (allc (⟨by decide, by decide⟩ : Within 0 7) all0) (norm ?_)
  obtain ⟨y2, hy2, h⟩ := bind_some h
  refine At.region_end [2, 6, 7, 8] [0, 1, 2, 3, 4, 5, 6, 7, 8, 9, 10] _ (st' := ⟨[(2, .ptr 10 0), (6, .view 1 0 7), (7, i64 7), (8, i64 0)], [.blk 89 (T_wire_Reader.pvs y2.2), .blk 96 [.ptr 2 3, .ptr 2 4, .ptr 2 5, .ptr 2 6, .ptr 2 7, .ptr 2 8, .ptr 2 9], .blk 70 [i64 o2.Def, i64 o2.At, .row 3 (o2.Vars).length, i64 y2.1, i64 o2.Mode, i64 o2.Chan, i64 o2.Val, i64 o2.Slot, i64 o2.Until, i64 o2.Since, .row 4 (o2.Alts).length], .row 3 1 (encL (eInt .i64) o2.Vars), .row 102 5 (encL T_api_Alt.enc o2.Alts), .ghost (gv 0) (.ptr 0 0), .ghost (gv 1) (.ptr 1 0), .ghost (gv 2) (.ptr 2 0), .ghost (gv 3) (.row 3 0), .ghost (gv 4) (.row 4 0), .blk 94 [.ptr 0 0]]⟩) (tips := [(3, { pc := some { ρ := [0], n0 := 1, res := i64 y2.1, σ' := [.blk 89 (T_wire_Reader.pvs y2.2)], e := [1] } })]) (by kernel_rfl) (allc (C_wire_Reader_Int o0 y2 hy2) all0) (norm ?_)
  refine At.region_end [2, 6, 7, 8] [0, 1, 2, 3, 4, 5, 6, 7, 8, 9, 10] _ (st' := ⟨[(2, .ptr 10 0), (6, .view 1 0 7), (7, i64 7), (8, i64 1)], [.blk 89 (T_wire_Reader.pvs y2.2), .blk 96 [.ptr 2 3, .ptr 2 4, .ptr 2 5, .ptr 2 6, .ptr 2 7, .ptr 2 8, .ptr 2 9], .blk 70 [i64 o2.Def, i64 o2.At, .row 3 (o2.Vars).length, i64 y2.1, i64 o2.Mode, i64 o2.Chan, i64 o2.Val, i64 o2.Slot, i64 o2.Until, i64 o2.Since, .row 4 (o2.Alts).length], .row 3 1 (encL (eInt .i64) o2.Vars), .row 102 5 (encL T_api_Alt.enc o2.Alts), .ghost (gv 0) (.ptr 0 0), .ghost (gv 1) (.ptr 1 0), .ghost (gv 2) (.ptr 2 0), .ghost (gv 3) (.row 3 0), .ghost (gv 4) (.row 4 0), .blk 94 [.ptr 0 0]]⟩) (tips := []) (by kernel_rfl) all0 ?_
  refine At.roundN ?_
  refine At.seq ?_
  refine At.region_end [2, 6, 7, 8, 9] [0, 1, 2, 3, 4, 5, 6, 7, 8, 9, 10] _ (st' := ⟨[(2, .ptr 10 0), (6, .view 1 0 7), (7, i64 7), (8, i64 1), (9, bo true)], [.blk 89 (T_wire_Reader.pvs y2.2), .blk 96 [.ptr 2 3, .ptr 2 4, .ptr 2 5, .ptr 2 6, .ptr 2 7, .ptr 2 8, .ptr 2 9], .blk 70 [i64 o2.Def, i64 o2.At, .row 3 (o2.Vars).length, i64 y2.1, i64 o2.Mode, i64 o2.Chan, i64 o2.Val, i64 o2.Slot, i64 o2.Until, i64 o2.Since, .row 4 (o2.Alts).length], .row 3 1 (encL (eInt .i64) o2.Vars), .row 102 5 (encL T_api_Alt.enc o2.Alts), .ghost (gv 0) (.ptr 0 0), .ghost (gv 1) (.ptr 1 0), .ghost (gv 2) (.ptr 2 0), .ghost (gv 3) (.row 3 0), .ghost (gv 4) (.row 4 0), .blk 94 [.ptr 0 0]]⟩) (tips := []) (by kernel_rfl) all0 (norm ?_)
  refine At.seq ?_
  refine At.cond true (by kernel_rfl) (fun _ => ?_) (fun hb => by cases hb)
  refine At.nar [2, 6, 7, 8] [0, 1, 2, 3, 4, 5, 6, 7, 8, 9, 10] (st' := ⟨[(2, .ptr 10 0), (6, .view 1 0 7), (7, i64 7), (8, i64 1)], [.blk 89 (T_wire_Reader.pvs y2.2), .blk 96 [.ptr 2 3, .ptr 2 4, .ptr 2 5, .ptr 2 6, .ptr 2 7, .ptr 2 8, .ptr 2 9], .blk 70 [i64 o2.Def, i64 o2.At, .row 3 (o2.Vars).length, i64 y2.1, i64 o2.Mode, i64 o2.Chan, i64 o2.Val, i64 o2.Slot, i64 o2.Until, i64 o2.Since, .row 4 (o2.Alts).length], .row 3 1 (encL (eInt .i64) o2.Vars), .row 102 5 (encL T_api_Alt.enc o2.Alts), .ghost (gv 0) (.ptr 0 0), .ghost (gv 1) (.ptr 1 0), .ghost (gv 2) (.ptr 2 0), .ghost (gv 3) (.row 3 0), .ghost (gv 4) (.row 4 0), .blk 94 [.ptr 0 0]]⟩) (by kernel_rfl) ?_
  refine At.skip (norm ?_)
  refine At.seq ?_
  refine At.block ?_
  refine At.seq ?_
  refine At.region_end [2, 5, 6, 7, 8] [0, 1, 2, 3, 4, 5, 6, 7, 8, 9, 10] _ (st' := ⟨[(2, .ptr 10 0), (5, .ptr 2 4), (6, .view 1 0 7), (7, i64 7), (8, i64 1)], [.blk 89 (T_wire_Reader.pvs y2.2), .blk 96 [.ptr 2 3, .ptr 2 4, .ptr 2 5, .ptr 2 6, .ptr 2 7, .ptr 2 8, .ptr 2 9], .blk 70 [i64 o2.Def, i64 o2.At, .row 3 (o2.Vars).length, i64 y2.1, i64 o2.Mode, i64 o2.Chan, i64 o2.Val, i64 o2.Slot, i64 o2.Until, i64 o2.Since, .row 4 (o2.Alts).length], .row 3 1 (encL (eInt .i64) o2.Vars), .row 102 5 (encL T_api_Alt.enc o2.Alts), .ghost (gv 0) (.ptr 0 0), .ghost (gv 1) (.ptr 1 0), .ghost (gv 2) (.ptr 2 0), .ghost (gv 3) (.row 3 0), .ghost (gv 4) (.row 4 0), .blk 94 [.ptr 0 0]]⟩) (tips := []) (by kernel_rfl) (allc (⟨by decide, by decide⟩ : Within 1 7) all0) (norm ?_)
  obtain ⟨y4, hy4, h⟩ := bind_some h
  refine At.region_end [2, 6, 7, 8] [0, 1, 2, 3, 4, 5, 6, 7, 8, 9, 10] _ (st' := ⟨[(2, .ptr 10 0), (6, .view 1 0 7), (7, i64 7), (8, i64 1)], [.blk 89 (T_wire_Reader.pvs y4.2), .blk 96 [.ptr 2 3, .ptr 2 4, .ptr 2 5, .ptr 2 6, .ptr 2 7, .ptr 2 8, .ptr 2 9], .blk 70 [i64 o2.Def, i64 o2.At, .row 3 (o2.Vars).length, i64 y2.1, i64 y4.1, i64 o2.Chan, i64 o2.Val, i64 o2.Slot, i64 o2.Until, i64 o2.Since, .row 4 (o2.Alts).length], .row 3 1 (encL (eInt .i64) o2.Vars), .row 102 5 (encL T_api_Alt.enc o2.Alts), .ghost (gv 0) (.ptr 0 0), .ghost (gv 1) (.ptr 1 0), .ghost (gv 2) (.ptr 2 0), .ghost (gv 3) (.row 3 0), .ghost (gv 4) (.row 4 0), .blk 94 [.ptr 0 0]]⟩) (tips := [(3, { pc := some { ρ := [0], n0 := 1, res := i64 y4.1, σ' := [.blk 89 (T_wire_Reader.pvs y4.2)], e := [1] } })]) (by kernel_rfl) (allc (C_wire_Reader_Int y2.2 y4 hy4) all0) (norm ?_)
  refine At.region_end [2, 6, 7, 8] [0, 1, 2, 3, 4, 5, 6, 7, 8, 9, 10] _ (st' := ⟨[(2, .ptr 10 0), (6, .view 1 0 7), (7, i64 7), (8, i64 2)], [.blk 89 (T_wire_Reader.pvs y4.2), .blk 96 [.ptr 2 3, .ptr 2 4, .ptr 2 5, .ptr 2 6, .ptr 2 7, .ptr 2 8, .ptr 2 9], .blk 70 [i64 o2.Def, i64 o2.At, .row 3 (o2.Vars).length, i64 y2.1, i64 y4.1, i64 o2.Chan, i64 o2.Val, i64 o2.Slot, i64 o2.Until, i64 o2.Since, .row 4 (o2.Alts).length], .row 3 1 (encL (eInt .i64) o2.Vars), .row 102 5 (encL T_api_Alt.enc o2.Alts), .ghost (gv 0) (.ptr 0 0), .ghost (gv 1) (.ptr 1 0), .ghost (gv 2) (.ptr 2 0), .ghost (gv 3) (.row 3 0), .ghost (gv 4) (.row 4 0), .blk 94 [.ptr 0 0]]⟩) (tips := []) (by kernel_rfl) all0 ?_
  refine At.roundN ?_
  refine At.seq ?_
  refine At.region_end [2, 6, 7, 8, 9] [0, 1, 2, 3, 4, 5, 6, 7, 8, 9, 10] _ (st' := ⟨[(2, .ptr 10 0), (6, .view 1 0 7), (7, i64 7), (8, i64 2), (9, bo true)], [.blk 89 (T_wire_Reader.pvs y4.2), .blk 96 [.ptr 2 3, .ptr 2 4, .ptr 2 5, .ptr 2 6, .ptr 2 7, .ptr 2 8, .ptr 2 9], .blk 70 [i64 o2.Def, i64 o2.At, .row 3 (o2.Vars).length, i64 y2.1, i64 y4.1, i64 o2.Chan, i64 o2.Val, i64 o2.Slot, i64 o2.Until, i64 o2.Since, .row 4 (o2.Alts).length], .row 3 1 (encL (eInt .i64) o2.Vars), .row 102 5 (encL T_api_Alt.enc o2.Alts), .ghost (gv 0) (.ptr 0 0), .ghost (gv 1) (.ptr 1 0), .ghost (gv 2) (.ptr 2 0), .ghost (gv 3) (.row 3 0), .ghost (gv 4) (.row 4 0), .blk 94 [.ptr 0 0]]⟩) (tips := []) (by kernel_rfl) all0 (norm ?_)
  refine At.seq ?_
  refine At.cond true (by kernel_rfl) (fun _ => ?_) (fun hb => by cases hb)
  refine At.nar [2, 6, 7, 8] [0, 1, 2, 3, 4, 5, 6, 7, 8, 9, 10] (st' := ⟨[(2, .ptr 10 0), (6, .view 1 0 7), (7, i64 7), (8, i64 2)], [.blk 89 (T_wire_Reader.pvs y4.2), .blk 96 [.ptr 2 3, .ptr 2 4, .ptr 2 5, .ptr 2 6, .ptr 2 7, .ptr 2 8, .ptr 2 9], .blk 70 [i64 o2.Def, i64 o2.At, .row 3 (o2.Vars).length, i64 y2.1, i64 y4.1, i64 o2.Chan, i64 o2.Val, i64 o2.Slot, i64 o2.Until, i64 o2.Since, .row 4 (o2.Alts).length], .row 3 1 (encL (eInt .i64) o2.Vars), .row 102 5 (encL T_api_Alt.enc o2.Alts), .ghost (gv 0) (.ptr 0 0), .ghost (gv 1) (.ptr 1 0), .ghost (gv 2) (.ptr 2 0), .ghost (gv 3) (.row 3 0), .ghost (gv 4) (.row 4 0), .blk 94 [.ptr 0 0]]⟩) (by kernel_rfl) ?_
  refine At.skip (norm ?_)
  refine At.seq ?_
  refine At.block ?_
  refine At.seq ?_
  refine At.region_end [2, 5, 6, 7, 8] [0, 1, 2, 3, 4, 5, 6, 7, 8, 9, 10] _ (st' := ⟨[(2, .ptr 10 0), (5, .ptr 2 5), (6, .view 1 0 7), (7, i64 7), (8, i64 2)], [.blk 89 (T_wire_Reader.pvs y4.2), .blk 96 [.ptr 2 3, .ptr 2 4, .ptr 2 5, .ptr 2 6, .ptr 2 7, .ptr 2 8, .ptr 2 9], .blk 70 [i64 o2.Def, i64 o2.At, .row 3 (o2.Vars).length, i64 y2.1, i64 y4.1, i64 o2.Chan, i64 o2.Val, i64 o2.Slot, i64 o2.Until, i64 o2.Since, .row 4 (o2.Alts).length], .row 3 1 (encL (eInt .i64) o2.Vars), .row 102 5 (encL T_api_Alt.enc o2.Alts), .ghost (gv 0) (.ptr 0 0), .ghost (gv 1) (.ptr 1 0), .ghost (gv 2) (.ptr 2 0), .ghost (gv 3) (.row 3 0), .ghost (gv 4) (.row 4 0), .blk 94 [.ptr 0 0]]⟩) (tips := []) (by kernel_rfl) (allc (⟨by decide, by decide⟩ : Within 2 7) all0) (norm ?_)
  obtain ⟨y6, hy6, h⟩ := bind_some h
  refine At.region_end [2, 6, 7, 8] [0, 1, 2, 3, 4, 5, 6, 7, 8, 9, 10] _ (st' := ⟨[(2, .ptr 10 0), (6, .view 1 0 7), (7, i64 7), (8, i64 2)], [.blk 89 (T_wire_Reader.pvs y6.2), .blk 96 [.ptr 2 3, .ptr 2 4, .ptr 2 5, .ptr 2 6, .ptr 2 7, .ptr 2 8, .ptr 2 9], .blk 70 [i64 o2.Def, i64 o2.At, .row 3 (o2.Vars).length, i64 y2.1, i64 y4.1, i64 y6.1, i64 o2.Val, i64 o2.Slot, i64 o2.Until, i64 o2.Since, .row 4 (o2.Alts).length], .row 3 1 (encL (eInt .i64) o2.Vars), .row 102 5 (encL T_api_Alt.enc o2.Alts), .ghost (gv 0) (.ptr 0 0), .ghost (gv 1) (.ptr 1 0), .ghost (gv 2) (.ptr 2 0), .ghost (gv 3) (.row 3 0), .ghost (gv 4) (.row 4 0), .blk 94 [.ptr 0 0]]⟩) (tips := [(3, { pc := some { ρ := [0], n0 := 1, res := i64 y6.1, σ' := [.blk 89 (T_wire_Reader.pvs y6.2)], e := [1] } })]) (by kernel_rfl) (allc (C_wire_Reader_Int y4.2 y6 hy6) all0) (norm ?_)
  refine At.region_end [2, 6, 7, 8] [0, 1, 2, 3, 4, 5, 6, 7, 8, 9, 10] _ (st' := ⟨[(2, .ptr 10 0), (6, .view 1 0 7), (7, i64 7), (8, i64 3)], [.blk 89 (T_wire_Reader.pvs y6.2), .blk 96 [.ptr 2 3, .ptr 2 4, .ptr 2 5, .ptr 2 6, .ptr 2 7, .ptr 2 8, .ptr 2 9], .blk 70 [i64 o2.Def, i64 o2.At, .row 3 (o2.Vars).length, i64 y2.1, i64 y4.1, i64 y6.1, i64 o2.Val, i64 o2.Slot, i64 o2.Until, i64 o2.Since, .row 4 (o2.Alts).length], .row 3 1 (encL (eInt .i64) o2.Vars), .row 102 5 (encL T_api_Alt.enc o2.Alts), .ghost (gv 0) (.ptr 0 0), .ghost (gv 1) (.ptr 1 0), .ghost (gv 2) (.ptr 2 0), .ghost (gv 3) (.row 3 0), .ghost (gv 4) (.row 4 0), .blk 94 [.ptr 0 0]]⟩) (tips := []) (by kernel_rfl) all0 ?_
  refine At.roundN ?_
  refine At.seq ?_
  refine At.region_end [2, 6, 7, 8, 9] [0, 1, 2, 3, 4, 5, 6, 7, 8, 9, 10] _ (st' := ⟨[(2, .ptr 10 0), (6, .view 1 0 7), (7, i64 7), (8, i64 3), (9, bo true)], [.blk 89 (T_wire_Reader.pvs y6.2), .blk 96 [.ptr 2 3, .ptr 2 4, .ptr 2 5, .ptr 2 6, .ptr 2 7, .ptr 2 8, .ptr 2 9], .blk 70 [i64 o2.Def, i64 o2.At, .row 3 (o2.Vars).length, i64 y2.1, i64 y4.1, i64 y6.1, i64 o2.Val, i64 o2.Slot, i64 o2.Until, i64 o2.Since, .row 4 (o2.Alts).length], .row 3 1 (encL (eInt .i64) o2.Vars), .row 102 5 (encL T_api_Alt.enc o2.Alts), .ghost (gv 0) (.ptr 0 0), .ghost (gv 1) (.ptr 1 0), .ghost (gv 2) (.ptr 2 0), .ghost (gv 3) (.row 3 0), .ghost (gv 4) (.row 4 0), .blk 94 [.ptr 0 0]]⟩) (tips := []) (by kernel_rfl) all0 (norm ?_)
  refine At.seq ?_
  refine At.cond true (by kernel_rfl) (fun _ => ?_) (fun hb => by cases hb)
  refine At.nar [2, 6, 7, 8] [0, 1, 2, 3, 4, 5, 6, 7, 8, 9, 10] (st' := ⟨[(2, .ptr 10 0), (6, .view 1 0 7), (7, i64 7), (8, i64 3)], [.blk 89 (T_wire_Reader.pvs y6.2), .blk 96 [.ptr 2 3, .ptr 2 4, .ptr 2 5, .ptr 2 6, .ptr 2 7, .ptr 2 8, .ptr 2 9], .blk 70 [i64 o2.Def, i64 o2.At, .row 3 (o2.Vars).length, i64 y2.1, i64 y4.1, i64 y6.1, i64 o2.Val, i64 o2.Slot, i64 o2.Until, i64 o2.Since, .row 4 (o2.Alts).length], .row 3 1 (encL (eInt .i64) o2.Vars), .row 102 5 (encL T_api_Alt.enc o2.Alts), .ghost (gv 0) (.ptr 0 0), .ghost (gv 1) (.ptr 1 0), .ghost (gv 2) (.ptr 2 0), .ghost (gv 3) (.row 3 0), .ghost (gv 4) (.row 4 0), .blk 94 [.ptr 0 0]]⟩) (by kernel_rfl) ?_
  refine At.skip (norm ?_)
  refine At.seq ?_
  refine At.block ?_
  refine At.seq ?_
  refine At.region_end [2, 5, 6, 7, 8] [0, 1, 2, 3, 4, 5, 6, 7, 8, 9, 10] _ (st' := ⟨[(2, .ptr 10 0), (5, .ptr 2 6), (6, .view 1 0 7), (7, i64 7), (8, i64 3)], [.blk 89 (T_wire_Reader.pvs y6.2), .blk 96 [.ptr 2 3, .ptr 2 4, .ptr 2 5, .ptr 2 6, .ptr 2 7, .ptr 2 8, .ptr 2 9], .blk 70 [i64 o2.Def, i64 o2.At, .row 3 (o2.Vars).length, i64 y2.1, i64 y4.1, i64 y6.1, i64 o2.Val, i64 o2.Slot, i64 o2.Until, i64 o2.Since, .row 4 (o2.Alts).length], .row 3 1 (encL (eInt .i64) o2.Vars), .row 102 5 (encL T_api_Alt.enc o2.Alts), .ghost (gv 0) (.ptr 0 0), .ghost (gv 1) (.ptr 1 0), .ghost (gv 2) (.ptr 2 0), .ghost (gv 3) (.row 3 0), .ghost (gv 4) (.row 4 0), .blk 94 [.ptr 0 0]]⟩) (tips := []) (by kernel_rfl) (allc (⟨by decide, by decide⟩ : Within 3 7) all0) (norm ?_)
  obtain ⟨y8, hy8, h⟩ := bind_some h
  refine At.region_end [2, 6, 7, 8] [0, 1, 2, 3, 4, 5, 6, 7, 8, 9, 10] _ (st' := ⟨[(2, .ptr 10 0), (6, .view 1 0 7), (7, i64 7), (8, i64 3)], [.blk 89 (T_wire_Reader.pvs y8.2), .blk 96 [.ptr 2 3, .ptr 2 4, .ptr 2 5, .ptr 2 6, .ptr 2 7, .ptr 2 8, .ptr 2 9], .blk 70 [i64 o2.Def, i64 o2.At, .row 3 (o2.Vars).length, i64 y2.1, i64 y4.1, i64 y6.1, i64 y8.1, i64 o2.Slot, i64 o2.Until, i64 o2.Since, .row 4 (o2.Alts).length], .row 3 1 (encL (eInt .i64) o2.Vars), .row 102 5 (encL T_api_Alt.enc o2.Alts), .ghost (gv 0) (.ptr 0 0), .ghost (gv 1) (.ptr 1 0), .ghost (gv 2) (.ptr 2 0), .ghost (gv 3) (.row 3 0), .ghost (gv 4) (.row 4 0), .blk 94 [.ptr 0 0]]⟩) (tips := [(3, { pc := some { ρ := [0], n0 := 1, res := i64 y8.1, σ' := [.blk 89 (T_wire_Reader.pvs y8.2)], e := [1] } })]) (by kernel_rfl) (allc (C_wire_Reader_Int y6.2 y8 hy8) all0) (norm ?_)
  refine At.region_end [2, 6, 7, 8] [0, 1, 2, 3, 4, 5, 6, 7, 8, 9, 10] _ (st' := ⟨[(2, .ptr 10 0), (6, .view 1 0 7), (7, i64 7), (8, i64 4)], [.blk 89 (T_wire_Reader.pvs y8.2), .blk 96 [.ptr 2 3, .ptr 2 4, .ptr 2 5, .ptr 2 6, .ptr 2 7, .ptr 2 8, .ptr 2 9], .blk 70 [i64 o2.Def, i64 o2.At, .row 3 (o2.Vars).length, i64 y2.1, i64 y4.1, i64 y6.1, i64 y8.1, i64 o2.Slot, i64 o2.Until, i64 o2.Since, .row 4 (o2.Alts).length], .row 3 1 (encL (eInt .i64) o2.Vars), .row 102 5 (encL T_api_Alt.enc o2.Alts), .ghost (gv 0) (.ptr 0 0), .ghost (gv 1) (.ptr 1 0), .ghost (gv 2) (.ptr 2 0), .ghost (gv 3) (.row 3 0), .ghost (gv 4) (.row 4 0), .blk 94 [.ptr 0 0]]⟩) (tips := []) (by kernel_rfl) all0 ?_
  refine At.roundN ?_
  refine At.seq ?_
  refine At.region_end [2, 6, 7, 8, 9] [0, 1, 2, 3, 4, 5, 6, 7, 8, 9, 10] _ (st' := ⟨[(2, .ptr 10 0), (6, .view 1 0 7), (7, i64 7), (8, i64 4), (9, bo true)], [.blk 89 (T_wire_Reader.pvs y8.2), .blk 96 [.ptr 2 3, .ptr 2 4, .ptr 2 5, .ptr 2 6, .ptr 2 7, .ptr 2 8, .ptr 2 9], .blk 70 [i64 o2.Def, i64 o2.At, .row 3 (o2.Vars).length, i64 y2.1, i64 y4.1, i64 y6.1, i64 y8.1, i64 o2.Slot, i64 o2.Until, i64 o2.Since, .row 4 (o2.Alts).length], .row 3 1 (encL (eInt .i64) o2.Vars), .row 102 5 (encL T_api_Alt.enc o2.Alts), .ghost (gv 0) (.ptr 0 0), .ghost (gv 1) (.ptr 1 0), .ghost (gv 2) (.ptr 2 0), .ghost (gv 3) (.row 3 0), .ghost (gv 4) (.row 4 0), .blk 94 [.ptr 0 0]]⟩) (tips := []) (by kernel_rfl) all0 (norm ?_)
  refine At.seq ?_
  refine At.cond true (by kernel_rfl) (fun _ => ?_) (fun hb => by cases hb)
  refine At.nar [2, 6, 7, 8] [0, 1, 2, 3, 4, 5, 6, 7, 8, 9, 10] (st' := ⟨[(2, .ptr 10 0), (6, .view 1 0 7), (7, i64 7), (8, i64 4)], [.blk 89 (T_wire_Reader.pvs y8.2), .blk 96 [.ptr 2 3, .ptr 2 4, .ptr 2 5, .ptr 2 6, .ptr 2 7, .ptr 2 8, .ptr 2 9], .blk 70 [i64 o2.Def, i64 o2.At, .row 3 (o2.Vars).length, i64 y2.1, i64 y4.1, i64 y6.1, i64 y8.1, i64 o2.Slot, i64 o2.Until, i64 o2.Since, .row 4 (o2.Alts).length], .row 3 1 (encL (eInt .i64) o2.Vars), .row 102 5 (encL T_api_Alt.enc o2.Alts), .ghost (gv 0) (.ptr 0 0), .ghost (gv 1) (.ptr 1 0), .ghost (gv 2) (.ptr 2 0), .ghost (gv 3) (.row 3 0), .ghost (gv 4) (.row 4 0), .blk 94 [.ptr 0 0]]⟩) (by kernel_rfl) ?_
  refine At.skip (norm ?_)
  refine At.seq ?_
  refine At.block ?_
  refine At.seq ?_
  refine At.region_end [2, 5, 6, 7, 8] [0, 1, 2, 3, 4, 5, 6, 7, 8, 9, 10] _ (st' := ⟨[(2, .ptr 10 0), (5, .ptr 2 7), (6, .view 1 0 7), (7, i64 7), (8, i64 4)], [.blk 89 (T_wire_Reader.pvs y8.2), .blk 96 [.ptr 2 3, .ptr 2 4, .ptr 2 5, .ptr 2 6, .ptr 2 7, .ptr 2 8, .ptr 2 9], .blk 70 [i64 o2.Def, i64 o2.At, .row 3 (o2.Vars).length, i64 y2.1, i64 y4.1, i64 y6.1, i64 y8.1, i64 o2.Slot, i64 o2.Until, i64 o2.Since, .row 4 (o2.Alts).length], .row 3 1 (encL (eInt .i64) o2.Vars), .row 102 5 (encL T_api_Alt.enc o2.Alts), .ghost (gv 0) (.ptr 0 0), .ghost (gv 1) (.ptr 1 0), .ghost (gv 2) (.ptr 2 0), .ghost (gv 3) (.row 3 0), .ghost (gv 4) (.row 4 0), .blk 94 [.ptr 0 0]]⟩) (tips := []) (by kernel_rfl) (allc (⟨by decide, by decide⟩ : Within 4 7) all0) (norm ?_)
  obtain ⟨y10, hy10, h⟩ := bind_some h
  refine At.region_end [2, 6, 7, 8] [0, 1, 2, 3, 4, 5, 6, 7, 8, 9, 10] _ (st' := ⟨[(2, .ptr 10 0), (6, .view 1 0 7), (7, i64 7), (8, i64 4)], [.blk 89 (T_wire_Reader.pvs y10.2), .blk 96 [.ptr 2 3, .ptr 2 4, .ptr 2 5, .ptr 2 6, .ptr 2 7, .ptr 2 8, .ptr 2 9], .blk 70 [i64 o2.Def, i64 o2.At, .row 3 (o2.Vars).length, i64 y2.1, i64 y4.1, i64 y6.1, i64 y8.1, i64 y10.1, i64 o2.Until, i64 o2.Since, .row 4 (o2.Alts).length], .row 3 1 (encL (eInt .i64) o2.Vars), .row 102 5 (encL T_api_Alt.enc o2.Alts), .ghost (gv 0) (.ptr 0 0), .ghost (gv 1) (.ptr 1 0), .ghost (gv 2) (.ptr 2 0), .ghost (gv 3) (.row 3 0), .ghost (gv 4) (.row 4 0), .blk 94 [.ptr 0 0]]⟩) (tips := [(3, { pc := some { ρ := [0], n0 := 1, res := i64 y10.1, σ' := [.blk 89 (T_wire_Reader.pvs y10.2)], e := [1] } })]) (by kernel_rfl) (allc (C_wire_Reader_Int y8.2 y10 hy10) all0) (norm ?_)
  refine At.region_end [2, 6, 7, 8] [0, 1, 2, 3, 4, 5, 6, 7, 8, 9, 10] _ (st' := ⟨[(2, .ptr 10 0), (6, .view 1 0 7), (7, i64 7), (8, i64 5)], [.blk 89 (T_wire_Reader.pvs y10.2), .blk 96 [.ptr 2 3, .ptr 2 4, .ptr 2 5, .ptr 2 6, .ptr 2 7, .ptr 2 8, .ptr 2 9], .blk 70 [i64 o2.Def, i64 o2.At, .row 3 (o2.Vars).length, i64 y2.1, i64 y4.1, i64 y6.1, i64 y8.1, i64 y10.1, i64 o2.Until, i64 o2.Since, .row 4 (o2.Alts).length], .row 3 1 (encL (eInt .i64) o2.Vars), .row 102 5 (encL T_api_Alt.enc o2.Alts), .ghost (gv 0) (.ptr 0 0), .ghost (gv 1) (.ptr 1 0), .ghost (gv 2) (.ptr 2 0), .ghost (gv 3) (.row 3 0), .ghost (gv 4) (.row 4 0), .blk 94 [.ptr 0 0]]⟩) (tips := []) (by kernel_rfl) all0 ?_
  refine At.roundN ?_
  refine At.seq ?_
  refine At.region_end [2, 6, 7, 8, 9] [0, 1, 2, 3, 4, 5, 6, 7, 8, 9, 10] _ (st' := ⟨[(2, .ptr 10 0), (6, .view 1 0 7), (7, i64 7), (8, i64 5), (9, bo true)], [.blk 89 (T_wire_Reader.pvs y10.2), .blk 96 [.ptr 2 3, .ptr 2 4, .ptr 2 5, .ptr 2 6, .ptr 2 7, .ptr 2 8, .ptr 2 9], .blk 70 [i64 o2.Def, i64 o2.At, .row 3 (o2.Vars).length, i64 y2.1, i64 y4.1, i64 y6.1, i64 y8.1, i64 y10.1, i64 o2.Until, i64 o2.Since, .row 4 (o2.Alts).length], .row 3 1 (encL (eInt .i64) o2.Vars), .row 102 5 (encL T_api_Alt.enc o2.Alts), .ghost (gv 0) (.ptr 0 0), .ghost (gv 1) (.ptr 1 0), .ghost (gv 2) (.ptr 2 0), .ghost (gv 3) (.row 3 0), .ghost (gv 4) (.row 4 0), .blk 94 [.ptr 0 0]]⟩) (tips := []) (by kernel_rfl) all0 (norm ?_)
  refine At.seq ?_
  refine At.cond true (by kernel_rfl) (fun _ => ?_) (fun hb => by cases hb)
  refine At.nar [2, 6, 7, 8] [0, 1, 2, 3, 4, 5, 6, 7, 8, 9, 10] (st' := ⟨[(2, .ptr 10 0), (6, .view 1 0 7), (7, i64 7), (8, i64 5)], [.blk 89 (T_wire_Reader.pvs y10.2), .blk 96 [.ptr 2 3, .ptr 2 4, .ptr 2 5, .ptr 2 6, .ptr 2 7, .ptr 2 8, .ptr 2 9], .blk 70 [i64 o2.Def, i64 o2.At, .row 3 (o2.Vars).length, i64 y2.1, i64 y4.1, i64 y6.1, i64 y8.1, i64 y10.1, i64 o2.Until, i64 o2.Since, .row 4 (o2.Alts).length], .row 3 1 (encL (eInt .i64) o2.Vars), .row 102 5 (encL T_api_Alt.enc o2.Alts), .ghost (gv 0) (.ptr 0 0), .ghost (gv 1) (.ptr 1 0), .ghost (gv 2) (.ptr 2 0), .ghost (gv 3) (.row 3 0), .ghost (gv 4) (.row 4 0), .blk 94 [.ptr 0 0]]⟩) (by kernel_rfl) ?_
  refine At.skip (norm ?_)
  refine At.seq ?_
  refine At.block ?_
  refine At.seq ?_
  refine At.region_end [2, 5, 6, 7, 8] [0, 1, 2, 3, 4, 5, 6, 7, 8, 9, 10] _ (st' := ⟨[(2, .ptr 10 0), (5, .ptr 2 8), (6, .view 1 0 7), (7, i64 7), (8, i64 5)], [.blk 89 (T_wire_Reader.pvs y10.2), .blk 96 [.ptr 2 3, .ptr 2 4, .ptr 2 5, .ptr 2 6, .ptr 2 7, .ptr 2 8, .ptr 2 9], .blk 70 [i64 o2.Def, i64 o2.At, .row 3 (o2.Vars).length, i64 y2.1, i64 y4.1, i64 y6.1, i64 y8.1, i64 y10.1, i64 o2.Until, i64 o2.Since, .row 4 (o2.Alts).length], .row 3 1 (encL (eInt .i64) o2.Vars), .row 102 5 (encL T_api_Alt.enc o2.Alts), .ghost (gv 0) (.ptr 0 0), .ghost (gv 1) (.ptr 1 0), .ghost (gv 2) (.ptr 2 0), .ghost (gv 3) (.row 3 0), .ghost (gv 4) (.row 4 0), .blk 94 [.ptr 0 0]]⟩) (tips := []) (by kernel_rfl) (allc (⟨by decide, by decide⟩ : Within 5 7) all0) (norm ?_)
  obtain ⟨y12, hy12, h⟩ := bind_some h
  refine At.region_end [2, 6, 7, 8] [0, 1, 2, 3, 4, 5, 6, 7, 8, 9, 10] _ (st' := ⟨[(2, .ptr 10 0), (6, .view 1 0 7), (7, i64 7), (8, i64 5)], [.blk 89 (T_wire_Reader.pvs y12.2), .blk 96 [.ptr 2 3, .ptr 2 4, .ptr 2 5, .ptr 2 6, .ptr 2 7, .ptr 2 8, .ptr 2 9], .blk 70 [i64 o2.Def, i64 o2.At, .row 3 (o2.Vars).length, i64 y2.1, i64 y4.1, i64 y6.1, i64 y8.1, i64 y10.1, i64 y12.1, i64 o2.Since, .row 4 (o2.Alts).length], .row 3 1 (encL (eInt .i64) o2.Vars), .row 102 5 (encL T_api_Alt.enc o2.Alts), .ghost (gv 0) (.ptr 0 0), .ghost (gv 1) (.ptr 1 0), .ghost (gv 2) (.ptr 2 0), .ghost (gv 3) (.row 3 0), .ghost (gv 4) (.row 4 0), .blk 94 [.ptr 0 0]]⟩) (tips := [(3, { pc := some { ρ := [0], n0 := 1, res := i64 y12.1, σ' := [.blk 89 (T_wire_Reader.pvs y12.2)], e := [1] } })]) (by kernel_rfl) (allc (C_wire_Reader_Int y10.2 y12 hy12) all0) (norm ?_)
  refine At.region_end [2, 6, 7, 8] [0, 1, 2, 3, 4, 5, 6, 7, 8, 9, 10] _ (st' := ⟨[(2, .ptr 10 0), (6, .view 1 0 7), (7, i64 7), (8, i64 6)], [.blk 89 (T_wire_Reader.pvs y12.2), .blk 96 [.ptr 2 3, .ptr 2 4, .ptr 2 5, .ptr 2 6, .ptr 2 7, .ptr 2 8, .ptr 2 9], .blk 70 [i64 o2.Def, i64 o2.At, .row 3 (o2.Vars).length, i64 y2.1, i64 y4.1, i64 y6.1, i64 y8.1, i64 y10.1, i64 y12.1, i64 o2.Since, .row 4 (o2.Alts).length], .row 3 1 (encL (eInt .i64) o2.Vars), .row 102 5 (encL T_api_Alt.enc o2.Alts), .ghost (gv 0) (.ptr 0 0), .ghost (gv 1) (.ptr 1 0), .ghost (gv 2) (.ptr 2 0), .ghost (gv 3) (.row 3 0), .ghost (gv 4) (.row 4 0), .blk 94 [.ptr 0 0]]⟩) (tips := []) (by kernel_rfl) all0 ?_
  refine At.roundN ?_
  refine At.seq ?_
  refine At.region_end [2, 6, 7, 8, 9] [0, 1, 2, 3, 4, 5, 6, 7, 8, 9, 10] _ (st' := ⟨[(2, .ptr 10 0), (6, .view 1 0 7), (7, i64 7), (8, i64 6), (9, bo true)], [.blk 89 (T_wire_Reader.pvs y12.2), .blk 96 [.ptr 2 3, .ptr 2 4, .ptr 2 5, .ptr 2 6, .ptr 2 7, .ptr 2 8, .ptr 2 9], .blk 70 [i64 o2.Def, i64 o2.At, .row 3 (o2.Vars).length, i64 y2.1, i64 y4.1, i64 y6.1, i64 y8.1, i64 y10.1, i64 y12.1, i64 o2.Since, .row 4 (o2.Alts).length], .row 3 1 (encL (eInt .i64) o2.Vars), .row 102 5 (encL T_api_Alt.enc o2.Alts), .ghost (gv 0) (.ptr 0 0), .ghost (gv 1) (.ptr 1 0), .ghost (gv 2) (.ptr 2 0), .ghost (gv 3) (.row 3 0), .ghost (gv 4) (.row 4 0), .blk 94 [.ptr 0 0]]⟩) (tips := []) (by kernel_rfl) all0 (norm ?_)
  refine At.seq ?_
  refine At.cond true (by kernel_rfl) (fun _ => ?_) (fun hb => by cases hb)
  refine At.nar [2, 6, 7, 8] [0, 1, 2, 3, 4, 5, 6, 7, 8, 9, 10] (st' := ⟨[(2, .ptr 10 0), (6, .view 1 0 7), (7, i64 7), (8, i64 6)], [.blk 89 (T_wire_Reader.pvs y12.2), .blk 96 [.ptr 2 3, .ptr 2 4, .ptr 2 5, .ptr 2 6, .ptr 2 7, .ptr 2 8, .ptr 2 9], .blk 70 [i64 o2.Def, i64 o2.At, .row 3 (o2.Vars).length, i64 y2.1, i64 y4.1, i64 y6.1, i64 y8.1, i64 y10.1, i64 y12.1, i64 o2.Since, .row 4 (o2.Alts).length], .row 3 1 (encL (eInt .i64) o2.Vars), .row 102 5 (encL T_api_Alt.enc o2.Alts), .ghost (gv 0) (.ptr 0 0), .ghost (gv 1) (.ptr 1 0), .ghost (gv 2) (.ptr 2 0), .ghost (gv 3) (.row 3 0), .ghost (gv 4) (.row 4 0), .blk 94 [.ptr 0 0]]⟩) (by kernel_rfl) ?_
  refine At.skip (norm ?_)
  refine At.seq ?_
  refine At.block ?_
  refine At.seq ?_
  refine At.region_end [2, 5, 6, 7, 8] [0, 1, 2, 3, 4, 5, 6, 7, 8, 9, 10] _ (st' := ⟨[(2, .ptr 10 0), (5, .ptr 2 9), (6, .view 1 0 7), (7, i64 7), (8, i64 6)], [.blk 89 (T_wire_Reader.pvs y12.2), .blk 96 [.ptr 2 3, .ptr 2 4, .ptr 2 5, .ptr 2 6, .ptr 2 7, .ptr 2 8, .ptr 2 9], .blk 70 [i64 o2.Def, i64 o2.At, .row 3 (o2.Vars).length, i64 y2.1, i64 y4.1, i64 y6.1, i64 y8.1, i64 y10.1, i64 y12.1, i64 o2.Since, .row 4 (o2.Alts).length], .row 3 1 (encL (eInt .i64) o2.Vars), .row 102 5 (encL T_api_Alt.enc o2.Alts), .ghost (gv 0) (.ptr 0 0), .ghost (gv 1) (.ptr 1 0), .ghost (gv 2) (.ptr 2 0), .ghost (gv 3) (.row 3 0), .ghost (gv 4) (.row 4 0), .blk 94 [.ptr 0 0]]⟩) (tips := []) (by kernel_rfl) (allc (⟨by decide, by decide⟩ : Within 6 7) all0) (norm ?_)
  obtain ⟨y14, hy14, h⟩ := bind_some h
  refine At.region_end [2, 6, 7, 8] [0, 1, 2, 3, 4, 5, 6, 7, 8, 9, 10] _ (st' := ⟨[(2, .ptr 10 0), (6, .view 1 0 7), (7, i64 7), (8, i64 6)], [.blk 89 (T_wire_Reader.pvs y14.2), .blk 96 [.ptr 2 3, .ptr 2 4, .ptr 2 5, .ptr 2 6, .ptr 2 7, .ptr 2 8, .ptr 2 9], .blk 70 [i64 o2.Def, i64 o2.At, .row 3 (o2.Vars).length, i64 y2.1, i64 y4.1, i64 y6.1, i64 y8.1, i64 y10.1, i64 y12.1, i64 y14.1, .row 4 (o2.Alts).length], .row 3 1 (encL (eInt .i64) o2.Vars), .row 102 5 (encL T_api_Alt.enc o2.Alts), .ghost (gv 0) (.ptr 0 0), .ghost (gv 1) (.ptr 1 0), .ghost (gv 2) (.ptr 2 0), .ghost (gv 3) (.row 3 0), .ghost (gv 4) (.row 4 0), .blk 94 [.ptr 0 0]]⟩) (tips := [(3, { pc := some { ρ := [0], n0 := 1, res := i64 y14.1, σ' := [.blk 89 (T_wire_Reader.pvs y14.2)], e := [1] } })]) (by kernel_rfl) (allc (C_wire_Reader_Int y12.2 y14 hy14) all0) (norm ?_)
  refine At.region_end [2, 6, 7, 8] [0, 1, 2, 3, 4, 5, 6, 7, 8, 9, 10] _ (st' := ⟨[(2, .ptr 10 0), (6, .view 1 0 7), (7, i64 7), (8, i64 7)], [.blk 89 (T_wire_Reader.pvs y14.2), .blk 96 [.ptr 2 3, .ptr 2 4, .ptr 2 5, .ptr 2 6, .ptr 2 7, .ptr 2 8, .ptr 2 9], .blk 70 [i64 o2.Def, i64 o2.At, .row 3 (o2.Vars).length, i64 y2.1, i64 y4.1, i64 y6.1, i64 y8.1, i64 y10.1, i64 y12.1, i64 y14.1, .row 4 (o2.Alts).length], .row 3 1 (encL (eInt .i64) o2.Vars), .row 102 5 (encL T_api_Alt.enc o2.Alts), .ghost (gv 0) (.ptr 0 0), .ghost (gv 1) (.ptr 1 0), .ghost (gv 2) (.ptr 2 0), .ghost (gv 3) (.row 3 0), .ghost (gv 4) (.row 4 0), .blk 94 [.ptr 0 0]]⟩) (tips := []) (by kernel_rfl) all0 ?_
  refine At.roundN ?_
  refine At.seq ?_
  refine At.region_end [2, 6, 7, 8, 9] [0, 1, 2, 3, 4, 5, 6, 7, 8, 9, 10] _ (st' := ⟨[(2, .ptr 10 0), (6, .view 1 0 7), (7, i64 7), (8, i64 7), (9, bo false)], [.blk 89 (T_wire_Reader.pvs y14.2), .blk 96 [.ptr 2 3, .ptr 2 4, .ptr 2 5, .ptr 2 6, .ptr 2 7, .ptr 2 8, .ptr 2 9], .blk 70 [i64 o2.Def, i64 o2.At, .row 3 (o2.Vars).length, i64 y2.1, i64 y4.1, i64 y6.1, i64 y8.1, i64 y10.1, i64 y12.1, i64 y14.1, .row 4 (o2.Alts).length], .row 3 1 (encL (eInt .i64) o2.Vars), .row 102 5 (encL T_api_Alt.enc o2.Alts), .ghost (gv 0) (.ptr 0 0), .ghost (gv 1) (.ptr 1 0), .ghost (gv 2) (.ptr 2 0), .ghost (gv 3) (.row 3 0), .ghost (gv 4) (.row 4 0), .blk 94 [.ptr 0 0]]⟩) (tips := []) (by kernel_rfl) all0 (norm ?_)
  refine At.seq ?_
  refine At.cond false (by kernel_rfl) (fun hb => by cases hb) (fun _ => ?_)
  refine At.nar [] [0, 1, 2, 3, 4, 5, 6, 7, 8, 9] (st' := ⟨[], [.blk 89 (T_wire_Reader.pvs y14.2), .blk 96 [.ptr 2 3, .ptr 2 4, .ptr 2 5, .ptr 2 6, .ptr 2 7, .ptr 2 8, .ptr 2 9], .blk 70 [i64 o2.Def, i64 o2.At, .row 3 (o2.Vars).length, i64 y2.1, i64 y4.1, i64 y6.1, i64 y8.1, i64 y10.1, i64 y12.1, i64 y14.1, .row 4 (o2.Alts).length], .row 3 1 (encL (eInt .i64) o2.Vars), .row 102 5 (encL T_api_Alt.enc o2.Alts), .ghost (gv 0) (.ptr 0 0), .ghost (gv 1) (.ptr 1 0), .ghost (gv 2) (.ptr 2 0), .ghost (gv 3) (.row 3 0), .ghost (gv 4) (.row 4 0)]⟩) (by kernel_rfl) ?_
  obtain rfl := some_eq h
  refine At.exit (fun a w hs => ret_ok hR (ρ := [0, 1, 2, 3, 4]) (gs := [.ghost (gv 0) (.ptr 0 0), .ghost (gv 1) (.ptr 1 0), .ghost (gv 2) (.ptr 2 0), .ghost (gv 3) (.row 3 0), .ghost (gv 4) (.row 4 0)]) (by kernel_rfl) all0 (by kernel_rfl) rfl rfl a w hs _ (.inr rfl))
set_option maxRecDepth 100000 in
theorem C_dump_reader_into_v4 (o0 : T_wire_Reader) (o2 : T_api_Alt) (r : T_wire_Reader × T_api_Alt) (h : F_dump_reader_into_v4 o0 o2 = some r) : FnOK Try.prog 55 [.agg [.ptr 0 0], .view 1 0 5] [.blk 89 (T_wire_Reader.pvs o0), .blk 96 [.ptr 2 0, .ptr 2 1, .ptr 2 2, .ptr 2 3, .ptr 2 4], .blk 102 (T_api_Alt.pvs o2)] (.tup []) [.blk 89 (T_wire_Reader.pvs r.1), .blk 96 [.ptr 2 0, .ptr 2 1, .ptr 2 2, .ptr 2 3, .ptr 2 4], .blk 102 (T_api_Alt.pvs r.2)] [1, 3, 5] := by
  rw [F_dump_reader_into_v4] at h
  refine FnOK.intro Try.func55 rfl (by kernel_rfl) (by kernel_rfl) fun E gv R hR => ?_
  refine At.seq ?_
  refine At.region_end [1, 2] [0, 1, 2, 3, 4, 5, 6] _ (st' := ⟨[(1, .view 1 0 5), (2, .ptr 6 0)], [.blk 89 (T_wire_Reader.pvs o0), .blk 96 [.ptr 2 0, .ptr 2 1, .ptr 2 2, .ptr 2 3, .ptr 2 4], .blk 102 (T_api_Alt.pvs o2), .ghost (gv 0) (.ptr 0 0), .ghost (gv 1) (.ptr 1 0), .ghost (gv 2) (.ptr 2 0), .blk 94 [.ptr 0 0]]⟩) (tips := []) (by kernel_rfl) all0 (norm ?_)
  refine At.seq ?_
  refine At.region_end [2, 6, 7, 8] [0, 1, 2, 3, 4, 5, 6] _ (st' := ⟨[(2, .ptr 6 0), (6, .view 1 0 5), (7, i64 5), (8, i64 0)], [.blk 89 (T_wire_Reader.pvs o0), .blk 96 [.ptr 2 0, .ptr 2 1, .ptr 2 2, .ptr 2 3, .ptr 2 4], .blk 102 (T_api_Alt.pvs o2), .ghost (gv 0) (.ptr 0 0), .ghost (gv 1) (.ptr 1 0), .ghost (gv 2) (.ptr 2 0), .blk 94 [.ptr 0 0]]⟩) (tips := []) (by kernel_rfl) all0 (norm ?_)
  refine At.block ?_
  refine At.loopN 6 ?_
  refine At.roundN ?_
  refine At.seq ?_
  refine At.region_end [2, 6, 7, 8, 9] [0, 1, 2, 3, 4, 5, 6] _ (st' := ⟨[(2, .ptr 6 0), (6, .view 1 0 5), (7, i64 5), (8, i64 0), (9, bo true)], [.blk 89 (T_wire_Reader.pvs o0), .blk 96 [.ptr 2 0, .ptr 2 1, .ptr 2 2, .ptr 2 3, .ptr 2 4], .blk 102 (T_api_Alt.pvs o2), .ghost (gv 0) (.ptr 0 0), .ghost (gv 1) (.ptr 1 0), .ghost (gv 2) (.ptr 2 0), .blk 94 [.ptr 0 0]]⟩) (tips := []) (by kernel_rfl) all0 (norm ?_)
  refine At.seq ?_
  refine At.cond true (by kernel_rfl) (fun _ => ?_) (fun hb => by cases hb)
  refine At.nar [2, 6, 7, 8] [0, 1, 2, 3, 4, 5, 6] (st' := ⟨[(2, .ptr 6 0), (6, .view 1 0 5), (7, i64 5), (8, i64 0)], [.blk 89 (T_wire_Reader.pvs o0), .blk 96 [.ptr 2 0, .ptr 2 1, .ptr 2 2, .ptr 2 3, .ptr 2 4], .blk 102 (T_api_Alt.pvs o2), .ghost (gv 0) (.ptr 0 0), .ghost (gv 1) (.ptr 1 0), .ghost (gv 2) (.ptr 2 0), .blk 94 [.ptr 0 0]]⟩) (by kernel_rfl) ?_
  refine At.skip (norm ?_)
  refine At.seq ?_
  refine At.block ?_
  refine At.seq ?_
  refine At.region_end [2, 5, 6, 7, 8] [0, 1, 2, 3, 4, 5, 6] _ (st' := ⟨[(2, .ptr 6 0), (5, .ptr 2 0), (6, .view 1 0 5), (7, i64 5), (8, i64 0)], [.blk 89 (T_wire_Reader.pvs o0), .blk 96 [.ptr 2 0, .ptr 2 1, .ptr 2 2, .ptr 2 3, .ptr 2 4], .blk 102 (T_api_Alt.pvs o2), .ghost (gv 0) (.ptr 0 0), .ghost (gv 1) (.ptr 1 0), .ghost (gv 2) (.ptr 2 0), .blk 94 [.ptr 0 0]]⟩) (tips := []) (by kernel_rfl) (allc (⟨by decide, by decide⟩ : Within 0 5) all0) (norm ?_)
  obtain ⟨y2, hy2, h⟩ := bind_some h
  refine At.region_end [2, 6, 7, 8] [0, 1, 2, 3, 4, 5, 6] _ (st' := ⟨[(2, .ptr 6 0), (6, .view 1 0 5), (7, i64 5), (8, i64 0)], [.blk 89 (T_wire_Reader.pvs y2.2), .blk 96 [.ptr 2 0, .ptr 2 1, .ptr 2 2, .ptr 2 3, .ptr 2 4], .blk 102 [i64 y2.1, i64 o2.Chan, i64 o2.Val, i64 o2.Slot, i64 o2.Goto], .ghost (gv 0) (.ptr 0 0), .ghost (gv 1) (.ptr 1 0), .ghost (gv 2) (.ptr 2 0), .blk 94 [.ptr 0 0]]⟩) (tips := [(3, { pc := some { ρ := [0], n0 := 1, res := i64 y2.1, σ' := [.blk 89 (T_wire_Reader.pvs y2.2)], e := [1] } })]) (by kernel_rfl) (allc (C_wire_Reader_Int o0 y2 hy2) all0) (norm ?_)
  refine At.region_end [2, 6, 7, 8] [0, 1, 2, 3, 4, 5, 6] _ (st' := ⟨[(2, .ptr 6 0), (6, .view 1 0 5), (7, i64 5), (8, i64 1)], [.blk 89 (T_wire_Reader.pvs y2.2), .blk 96 [.ptr 2 0, .ptr 2 1, .ptr 2 2, .ptr 2 3, .ptr 2 4], .blk 102 [i64 y2.1, i64 o2.Chan, i64 o2.Val, i64 o2.Slot, i64 o2.Goto], .ghost (gv 0) (.ptr 0 0), .ghost (gv 1) (.ptr 1 0), .ghost (gv 2) (.ptr 2 0), .blk 94 [.ptr 0 0]]⟩) (tips := []) (by kernel_rfl) all0 ?_
  refine At.roundN ?_
  refine At.seq ?_
  refine At.region_end [2, 6, 7, 8, 9] [0, 1, 2, 3, 4, 5, 6] _ (st' := ⟨[(2, .ptr 6 0), (6, .view 1 0 5), (7, i64 5), (8, i64 1), (9, bo true)], [.blk 89 (T_wire_Reader.pvs y2.2), .blk 96 [.ptr 2 0, .ptr 2 1, .ptr 2 2, .ptr 2 3, .ptr 2 4], .blk 102 [i64 y2.1, i64 o2.Chan, i64 o2.Val, i64 o2.Slot, i64 o2.Goto], .ghost (gv 0) (.ptr 0 0), .ghost (gv 1) (.ptr 1 0), .ghost (gv 2) (.ptr 2 0), .blk 94 [.ptr 0 0]]⟩) (tips := []) (by kernel_rfl) all0 (norm ?_)
  refine At.seq ?_
  refine At.cond true (by kernel_rfl) (fun _ => ?_) (fun hb => by cases hb)
  refine At.nar [2, 6, 7, 8] [0, 1, 2, 3, 4, 5, 6] (st' := ⟨[(2, .ptr 6 0), (6, .view 1 0 5), (7, i64 5), (8, i64 1)], [.blk 89 (T_wire_Reader.pvs y2.2), .blk 96 [.ptr 2 0, .ptr 2 1, .ptr 2 2, .ptr 2 3, .ptr 2 4], .blk 102 [i64 y2.1, i64 o2.Chan, i64 o2.Val, i64 o2.Slot, i64 o2.Goto], .ghost (gv 0) (.ptr 0 0), .ghost (gv 1) (.ptr 1 0), .ghost (gv 2) (.ptr 2 0), .blk 94 [.ptr 0 0]]⟩) (by kernel_rfl) ?_
  refine At.skip (norm ?_)
  refine At.seq ?_
  refine At.block ?_
  refine At.seq ?_
  refine At.region_end [2, 5, 6, 7, 8] [0, 1, 2, 3, 4, 5, 6] _ (st' := ⟨[(2, .ptr 6 0), (5, .ptr 2 1), (6, .view 1 0 5), (7, i64 5), (8, i64 1)], [.blk 89 (T_wire_Reader.pvs y2.2), .blk 96 [.ptr 2 0, .ptr 2 1, .ptr 2 2, .ptr 2 3, .ptr 2 4], .blk 102 [i64 y2.1, i64 o2.Chan, i64 o2.Val, i64 o2.Slot, i64 o2.Goto], .ghost (gv 0) (.ptr 0 0), .ghost (gv 1) (.ptr 1 0), .ghost (gv 2) (.ptr 2 0), .blk 94 [.ptr 0 0]]⟩) (tips := []) (by kernel_rfl) (allc (⟨by decide, by decide⟩ : Within 1 5) all0) (norm ?_)
  obtain ⟨y4, hy4, h⟩ := bind_some h
  refine At.region_end [2, 6, 7, 8] [0, 1, 2, 3, 4, 5, 6] _ (st' := ⟨[(2, .ptr 6 0), (6, .view 1 0 5), (7, i64 5), (8, i64 1)], [.blk 89 (T_wire_Reader.pvs y4.2), .blk 96 [.ptr 2 0, .ptr 2 1, .ptr 2 2, .ptr 2 3, .ptr 2 4], .blk 102 [i64 y2.1, i64 y4.1, i64 o2.Val, i64 o2.Slot, i64 o2.Goto], .ghost (gv 0) (.ptr 0 0), .ghost (gv 1) (.ptr 1 0), .ghost (gv 2) (.ptr 2 0), .blk 94 [.ptr 0 0]]⟩) (tips := [(3, { pc := some { ρ := [0], n0 := 1, res := i64 y4.1, σ' := [.blk 89 (T_wire_Reader.pvs y4.2)], e := [1] } })]) (by kernel_rfl) (allc (C_wire_Reader_Int y2.2 y4 hy4) all0) (norm ?_)
  refine At.region_end [2, 6, 7, 8] [0, 1, 2, 3, 4, 5, 6] _ (st' := ⟨[(2, .ptr 6 0), (6, .view 1 0 5), (7, i64 5), (8, i64 2)], [.blk 89 (T_wire_Reader.pvs y4.2), .blk 96 [.ptr 2 0, .ptr 2 1, .ptr 2 2, .ptr 2 3, .ptr 2 4], .blk 102 [i64 y2.1, i64 y4.1, i64 o2.Val, i64 o2.Slot, i64 o2.Goto], .ghost (gv 0) (.ptr 0 0), .ghost (gv 1) (.ptr 1 0), .ghost (gv 2) (.ptr 2 0), .blk 94 [.ptr 0 0]]⟩) (tips := []) (by kernel_rfl) all0 ?_
  refine At.roundN ?_
  refine At.seq ?_
  refine At.region_end [2, 6, 7, 8, 9] [0, 1, 2, 3, 4, 5, 6] _ (st' := ⟨[(2, .ptr 6 0), (6, .view 1 0 5), (7, i64 5), (8, i64 2), (9, bo true)], [.blk 89 (T_wire_Reader.pvs y4.2), .blk 96 [.ptr 2 0, .ptr 2 1, .ptr 2 2, .ptr 2 3, .ptr 2 4], .blk 102 [i64 y2.1, i64 y4.1, i64 o2.Val, i64 o2.Slot, i64 o2.Goto], .ghost (gv 0) (.ptr 0 0), .ghost (gv 1) (.ptr 1 0), .ghost (gv 2) (.ptr 2 0), .blk 94 [.ptr 0 0]]⟩) (tips := []) (by kernel_rfl) all0 (norm ?_)
  refine At.seq ?_
  refine At.cond true (by kernel_rfl) (fun _ => ?_) (fun hb => by cases hb)
  refine At.nar [2, 6, 7, 8] [0, 1, 2, 3, 4, 5, 6] (st' := ⟨[(2, .ptr 6 0), (6, .view 1 0 5), (7, i64 5), (8, i64 2)], [.blk 89 (T_wire_Reader.pvs y4.2), .blk 96 [.ptr 2 0, .ptr 2 1, .ptr 2 2, .ptr 2 3, .ptr 2 4], .blk 102 [i64 y2.1, i64 y4.1, i64 o2.Val, i64 o2.Slot, i64 o2.Goto], .ghost (gv 0) (.ptr 0 0), .ghost (gv 1) (.ptr 1 0), .ghost (gv 2) (.ptr 2 0), .blk 94 [.ptr 0 0]]⟩) (by kernel_rfl) ?_
  refine At.skip (norm ?_)
  refine At.seq ?_
  refine At.block ?_
  refine At.seq ?_
  refine At.region_end [2, 5, 6, 7, 8] [0, 1, 2, 3, 4, 5, 6] _ (st' := ⟨[(2, .ptr 6 0), (5, .ptr 2 2), (6, .view 1 0 5), (7, i64 5), (8, i64 2)], [.blk 89 (T_wire_Reader.pvs y4.2), .blk 96 [.ptr 2 0, .ptr 2 1, .ptr 2 2, .ptr 2 3, .ptr 2 4], .blk 102 [i64 y2.1, i64 y4.1, i64 o2.Val, i64 o2.Slot, i64 o2.Goto], .ghost (gv 0) (.ptr 0 0), .ghost (gv 1) (.ptr 1 0), .ghost (gv 2) (.ptr 2 0), .blk 94 [.ptr 0 0]]⟩) (tips := []) (by kernel_rfl) (allc (⟨by decide, by decide⟩ : Within 2 5) all0) (norm ?_)
  obtain ⟨y6, hy6, h⟩ := bind_some h
  refine At.region_end [2, 6, 7, 8] [0, 1, 2, 3, 4, 5, 6] _ (st' := ⟨[(2, .ptr 6 0), (6, .view 1 0 5), (7, i64 5), (8, i64 2)], [.blk 89 (T_wire_Reader.pvs y6.2), .blk 96 [.ptr 2 0, .ptr 2 1, .ptr 2 2, .ptr 2 3, .ptr 2 4], .blk 102 [i64 y2.1, i64 y4.1, i64 y6.1, i64 o2.Slot, i64 o2.Goto], .ghost (gv 0) (.ptr 0 0), .ghost (gv 1) (.ptr 1 0), .ghost (gv 2) (.ptr 2 0), .blk 94 [.ptr 0 0]]⟩) (tips := [(3, { pc := some { ρ := [0], n0 := 1, res := i64 y6.1, σ' := [.blk 89 (T_wire_Reader.pvs y6.2)], e := [1] } })]) (by kernel_rfl) (allc (C_wire_Reader_Int y4.2 y6 hy6) all0) (norm ?_)
  refine At.region_end [2, 6, 7, 8] [0, 1, 2, 3, 4, 5, 6] _ (st' := ⟨[(2, .ptr 6 0), (6, .view 1 0 5), (7, i64 5), (8, i64 3)], [.blk 89 (T_wire_Reader.pvs y6.2), .blk 96 [.ptr 2 0, .ptr 2 1, .ptr 2 2, .ptr 2 3, .ptr 2 4], .blk 102 [i64 y2.1, i64 y4.1, i64 y6.1, i64 o2.Slot, i64 o2.Goto], .ghost (gv 0) (.ptr 0 0), .ghost (gv 1) (.ptr 1 0), .ghost (gv 2) (.ptr 2 0), .blk 94 [.ptr 0 0]]⟩) (tips := []) (by kernel_rfl) all0 ?_
  refine At.roundN ?_
  refine At.seq ?_
  refine At.region_end [2, 6, 7, 8, 9] [0, 1, 2, 3, 4, 5, 6] _ (st' := ⟨[(2, .ptr 6 0), (6, .view 1 0 5), (7, i64 5), (8, i64 3), (9, bo true)], [.blk 89 (T_wire_Reader.pvs y6.2), .blk 96 [.ptr 2 0, .ptr 2 1, .ptr 2 2, .ptr 2 3, .ptr 2 4], .blk 102 [i64 y2.1, i64 y4.1, i64 y6.1, i64 o2.Slot, i64 o2.Goto], .ghost (gv 0) (.ptr 0 0), .ghost (gv 1) (.ptr 1 0), .ghost (gv 2) (.ptr 2 0), .blk 94 [.ptr 0 0]]⟩) (tips := []) (by kernel_rfl) all0 (norm ?_)
  refine At.seq ?_
  refine At.cond true (by kernel_rfl) (fun _ => ?_) (fun hb => by cases hb)
  refine At.nar [2, 6, 7, 8] [0, 1, 2, 3, 4, 5, 6] (st' := ⟨[(2, .ptr 6 0), (6, .view 1 0 5), (7, i64 5), (8, i64 3)], [.blk 89 (T_wire_Reader.pvs y6.2), .blk 96 [.ptr 2 0, .ptr 2 1, .ptr 2 2, .ptr 2 3, .ptr 2 4], .blk 102 [i64 y2.1, i64 y4.1, i64 y6.1, i64 o2.Slot, i64 o2.Goto], .ghost (gv 0) (.ptr 0 0), .ghost (gv 1) (.ptr 1 0), .ghost (gv 2) (.ptr 2 0), .blk 94 [.ptr 0 0]]⟩) (by kernel_rfl) ?_
  refine At.skip (norm ?_)
  refine At.seq ?_
  refine At.block ?_
  refine At.seq ?_
  refine At.region_end [2, 5, 6, 7, 8] [0, 1, 2, 3, 4, 5, 6] _ (st' := ⟨[(2, .ptr 6 0), (5, .ptr 2 3), (6, .view 1 0 5), (7, i64 5), (8, i64 3)], [.blk 89 (T_wire_Reader.pvs y6.2), .blk 96 [.ptr 2 0, .ptr 2 1, .ptr 2 2, .ptr 2 3, .ptr 2 4], .blk 102 [i64 y2.1, i64 y4.1, i64 y6.1, i64 o2.Slot, i64 o2.Goto], .ghost (gv 0) (.ptr 0 0), .ghost (gv 1) (.ptr 1 0), .ghost (gv 2) (.ptr 2 0), .blk 94 [.ptr 0 0]]⟩) (tips := []) (by kernel_rfl) (allc (⟨by decide, by decide⟩ : Within 3 5) all0) (norm ?_)
  obtain ⟨y8, hy8, h⟩ := bind_some h
  refine At.region_end [2, 6, 7, 8] [0, 1, 2, 3, 4, 5, 6] _ (st' := ⟨[(2, .ptr 6 0), (6, .view 1 0 5), (7, i64 5), (8, i64 3)], [.blk 89 (T_wire_Reader.pvs y8.2), .blk 96 [.ptr 2 0, .ptr 2 1, .ptr 2 2, .ptr 2 3, .ptr 2 4], .blk 102 [i64 y2.1, i64 y4.1, i64 y6.1, i64 y8.1, i64 o2.Goto], .ghost (gv 0) (.ptr 0 0), .ghost (gv 1) (.ptr 1 0), .ghost (gv 2) (.ptr 2 0), .blk 94 [.ptr 0 0]]⟩) (tips := [(3, { pc := some { ρ := [0], n0 := 1, res := i64 y8.1, σ' := [.blk 89 (T_wire_Reader.pvs y8.2)], e := [1] } })]) (by kernel_rfl) (allc (C_wire_Reader_Int y6.2 y8 hy8) all0) (norm ?_)
  refine At.region_end [2, 6, 7, 8] [0, 1, 2, 3, 4, 5, 6] _ (st' := ⟨[(2, .ptr 6 0), (6, .view 1 0 5), (7, i64 5), (8, i64 4)], [.blk 89 (T_wire_Reader.pvs y8.2), .blk 96 [.ptr 2 0, .ptr 2 1, .ptr 2 2, .ptr 2 3, .ptr 2 4], .blk 102 [i64 y2.1, i64 y4.1, i64 y6.1, i64 y8.1, i64 o2.Goto], .ghost (gv 0) (.ptr 0 0), .ghost (gv 1) (.ptr 1 0), .ghost (gv 2) (.ptr 2 0), .blk 94 [.ptr 0 0]]⟩) (tips := []) (by kernel_rfl) all0 ?_
  refine At.roundN ?_
  refine At.seq ?_
  refine At.region_end [2, 6, 7, 8, 9] [0, 1, 2, 3, 4, 5, 6] _ (st' := ⟨[(2, .ptr 6 0), (6, .view 1 0 5), (7, i64 5), (8, i64 4), (9, bo true)], [.blk 89 (T_wire_Reader.pvs y8.2), .blk 96 [.ptr 2 0, .ptr 2 1, .ptr 2 2, .ptr 2 3, .ptr 2 4], .blk 102 [i64 y2.1, i64 y4.1, i64 y6.1, i64 y8.1, i64 o2.Goto], .ghost (gv 0) (.ptr 0 0), .ghost (gv 1) (.ptr 1 0), .ghost (gv 2) (.ptr 2 0), .blk 94 [.ptr 0 0]]⟩) (tips := []) (by kernel_rfl) all0 (norm ?_)
  refine At.seq ?_
  refine At.cond true (by kernel_rfl) (fun _ => ?_) (fun hb => by cases hb)
  refine At.nar [2, 6, 7, 8] [0, 1, 2, 3, 4, 5, 6] (st' := ⟨[(2, .ptr 6 0), (6, .view 1 0 5), (7, i64 5), (8, i64 4)], [.blk 89 (T_wire_Reader.pvs y8.2), .blk 96 [.ptr 2 0, .ptr 2 1, .ptr 2 2, .ptr 2 3, .ptr 2 4], .blk 102 [i64 y2.1, i64 y4.1, i64 y6.1, i64 y8.1, i64 o2.Goto], .ghost (gv 0) (.ptr 0 0), .ghost (gv 1) (.ptr 1 0), .ghost (gv 2) (.ptr 2 0), .blk 94 [.ptr 0 0]]⟩) (by kernel_rfl) ?_
  refine At.skip (norm ?_)
  refine At.seq ?_
  refine At.block ?_
  refine At.seq ?_
  refine At.region_end [2, 5, 6, 7, 8] [0, 1, 2, 3, 4, 5, 6] _ (st' := ⟨[(2, .ptr 6 0), (5, .ptr 2 4), (6, .view 1 0 5), (7, i64 5), (8, i64 4)], [.blk 89 (T_wire_Reader.pvs y8.2), .blk 96 [.ptr 2 0, .ptr 2 1, .ptr 2 2, .ptr 2 3, .ptr 2 4], .blk 102 [i64 y2.1, i64 y4.1, i64 y6.1, i64 y8.1, i64 o2.Goto], .ghost (gv 0) (.ptr 0 0), .ghost (gv 1) (.ptr 1 0), .ghost (gv 2) (.ptr 2 0), .blk 94 [.ptr 0 0]]⟩) (tips := []) (by kernel_rfl) (allc (⟨by decide, by decide⟩ : Within 4 5) all0) (norm ?_)
  obtain ⟨y10, hy10, h⟩ := bind_some h
  refine At.region_end [2, 6, 7, 8] [0, 1, 2, 3, 4, 5, 6] _ (st' := ⟨[(2, .ptr 6 0), (6, .view 1 0 5), (7, i64 5), (8, i64 4)], [.blk 89 (T_wire_Reader.pvs y10.2), .blk 96 [.ptr 2 0, .ptr 2 1, .ptr 2 2, .ptr 2 3, .ptr 2 4], .blk 102 [i64 y2.1, i64 y4.1, i64 y6.1, i64 y8.1, i64 y10.1], .ghost (gv 0) (.ptr 0 0), .ghost (gv 1) (.ptr 1 0), .ghost (gv 2) (.ptr 2 0), .blk 94 [.ptr 0 0]]⟩) (tips := [(3, { pc := some { ρ := [0], n0 := 1, res := i64 y10.1, σ' := [.blk 89 (T_wire_Reader.pvs y10.2)], e := [1] } })]) (by kernel_rfl) (allc (C_wire_Reader_Int y8.2 y10 hy10) all0) (norm ?_)
  refine At.region_end [2, 6, 7, 8] [0, 1, 2, 3, 4, 5, 6] _ (st' := ⟨[(2, .ptr 6 0), (6, .view 1 0 5), (7, i64 5), (8, i64 5)], [.blk 89 (T_wire_Reader.pvs y10.2), .blk 96 [.ptr 2 0, .ptr 2 1, .ptr 2 2, .ptr 2 3, .ptr 2 4], .blk 102 [i64 y2.1, i64 y4.1, i64 y6.1, i64 y8.1, i64 y10.1], .ghost (gv 0) (.ptr 0 0), .ghost (gv 1) (.ptr 1 0), .ghost (gv 2) (.ptr 2 0), .blk 94 [.ptr 0 0]]⟩) (tips := []) (by kernel_rfl) all0 ?_
  refine At.roundN ?_
  refine At.seq ?_
  refine At.region_end [2, 6, 7, 8, 9] [0, 1, 2, 3, 4, 5, 6] _ (st' := ⟨[(2, .ptr 6 0), (6, .view 1 0 5), (7, i64 5), (8, i64 5), (9, bo false)], [.blk 89 (T_wire_Reader.pvs y10.2), .blk 96 [.ptr 2 0, .ptr 2 1, .ptr 2 2, .ptr 2 3, .ptr 2 4], .blk 102 [i64 y2.1, i64 y4.1, i64 y6.1, i64 y8.1, i64 y10.1], .ghost (gv 0) (.ptr 0 0), .ghost (gv 1) (.ptr 1 0), .ghost (gv 2) (.ptr 2 0), .blk 94 [.ptr 0 0]]⟩) (tips := []) (by kernel_rfl) all0 (norm ?_)
  refine At.seq ?_
  refine At.cond false (by kernel_rfl) (fun hb => by cases hb) (fun _ => ?_)
  refine At.nar [] [0, 1, 2, 3, 4, 5] (st' := ⟨[], [.blk 89 (T_wire_Reader.pvs y10.2), .blk 96 [.ptr 2 0, .ptr 2 1, .ptr 2 2, .ptr 2 3, .ptr 2 4], .blk 102 [i64 y2.1, i64 y4.1, i64 y6.1, i64 y8.1, i64 y10.1], .ghost (gv 0) (.ptr 0 0), .ghost (gv 1) (.ptr 1 0), .ghost (gv 2) (.ptr 2 0)]⟩) (by kernel_rfl) ?_
  obtain rfl := some_eq h
  refine At.exit (fun a w hs => ret_ok hR (ρ := [0, 1, 2]) (gs := [.ghost (gv 0) (.ptr 0 0), .ghost (gv 1) (.ptr 1 0), .ghost (gv 2) (.ptr 2 0)]) (by kernel_rfl) all0 (by kernel_rfl) rfl rfl a w hs _ (.inr rfl))
set_option maxRecDepth 100000 in
theorem C_dump_reader_proc_1 (o1 : T_wire_Reader) (o2 : T_api_Proc) (r : T_wire_Reader × T_api_Proc) (h : F_dump_reader_proc_1 o1 o2 = some r) : FnOK Try.prog 75 [.ptr 0 0, .ptr 2 0] [.blk 94 [.ptr 1 0], .blk 89 (T_wire_Reader.pvs o1), .blk 70 [i64 o2.Def, i64 o2.At, .row 3 (o2.Vars).length, i64 o2.Fuel, i64 o2.Mode, i64 o2.Chan, i64 o2.Val, i64 o2.Slot, i64 o2.Until, i64 o2.Since, .row 4 (o2.Alts).length], .row 3 1 (encL (eInt .i64) o2.Vars), .row 102 5 (encL T_api_Alt.enc o2.Alts)] (.tup []) [.blk 94 [.ptr 1 0], .blk 89 (T_wire_Reader.pvs r.1), .blk 70 [i64 r.2.Def, i64 r.2.At, .row 3 (r.2.Vars).length, i64 r.2.Fuel, i64 r.2.Mode, i64 r.2.Chan, i64 r.2.Val, i64 r.2.Slot, i64 r.2.Until, i64 r.2.Since, .row 4 (r.2.Alts).length], .row 3 1 (encL (eInt .i64) r.2.Vars), .row 102 5 (encL T_api_Alt.enc r.2.Alts)] [1, 3, 5, 6, 8, 9] := by
  rw [F_dump_reader_proc_1] at h
  refine FnOK.intro Try.func75 rfl (by kernel_rfl) (by kernel_rfl) fun E gv R hR => ?_
  refine At.seq ?_
  refine At.region_end [0, 1, 2] [0, 1, 2, 3, 4, 5, 6, 7, 8, 9, 10] _ (st' := ⟨[(0, .ptr 0 0), (1, .ptr 2 0), (2, .ptr 10 0)], [.blk 94 [.ptr 1 0], .blk 89 (T_wire_Reader.pvs o1), .blk 70 [i64 o2.Def, i64 o2.At, .row 3 (o2.Vars).length, i64 o2.Fuel, i64 o2.Mode, i64 o2.Chan, i64 o2.Val, i64 o2.Slot, i64 o2.Until, i64 o2.Since, .row 4 (o2.Alts).length], .row 3 1 (encL (eInt .i64) o2.Vars), .row 102 5 (encL T_api_Alt.enc o2.Alts), .ghost (gv 0) (.ptr 0 0), .ghost (gv 1) (.ptr 1 0), .ghost (gv 2) (.ptr 2 0), .ghost (gv 3) (.row 3 0), .ghost (gv 4) (.row 4 0), .blk 102 [i64 0, i64 0, i64 0, i64 0, i64 0]]⟩) (tips := []) (by kernel_rfl) all0 (norm ?_)
  refine At.seq ?_
  obtain ⟨y2, hy2, h⟩ := bind_some h
  refine At.region_end [1, 2] [0, 1, 2, 3, 4, 5, 6, 7, 8, 9, 10] _ (st' := ⟨[(1, .ptr 2 0), (2, .ptr 10 0)], [.blk 94 [.ptr 1 0], .blk 89 (T_wire_Reader.pvs y2.1), .blk 70 [i64 o2.Def, i64 o2.At, .row 3 (o2.Vars).length, i64 o2.Fuel, i64 o2.Mode, i64 o2.Chan, i64 o2.Val, i64 o2.Slot, i64 o2.Until, i64 o2.Since, .row 4 (o2.Alts).length], .row 3 1 (encL (eInt .i64) o2.Vars), .row 102 5 (encL T_api_Alt.enc o2.Alts), .ghost (gv 0) (.ptr 0 0), .ghost (gv 1) (.ptr 1 0), .ghost (gv 2) (.ptr 2 0), .ghost (gv 3) (.row 3 0), .ghost (gv 4) (.row 4 0), .blk 102 (T_api_Alt.pvs y2.2)]⟩) (tips := [(7, { pc := some { ρ := [1, 11, 10], n0 := 3, res := .tup [], σ' := [.blk 89 (T_wire_Reader.pvs y2.1), .blk 96 [.ptr 2 0, .ptr 2 1, .ptr 2 2, .ptr 2 3, .ptr 2 4], .blk 102 (T_api_Alt.pvs y2.2)], e := [1, 3, 5] } })]) (by kernel_rfl) (allc (C_dump_reader_into_v4 o1 (⟨0, 0, 0, 0, 0⟩ : T_api_Alt) y2 hy2) all0) (norm ?_)
  obtain ⟨g3, h⟩ := grd_some h
  obtain rfl := some_eq h
  refine At.region_end [] [0, 1, 2, 3, 4, 5, 6, 7, 8, 9] _ (st' := ⟨[], [.blk 94 [.ptr 1 0], .blk 89 (T_wire_Reader.pvs y2.1), .blk 70 [i64 o2.Def, i64 o2.At, .row 3 (o2.Vars).length, i64 o2.Fuel, i64 o2.Mode, i64 o2.Chan, i64 o2.Val, i64 o2.Slot, i64 o2.Until, i64 o2.Since, .row 4 ((o2.Alts ++ [y2.2])).length], .row 3 1 (encL (eInt .i64) o2.Vars), .row 102 5 (encL T_api_Alt.enc (o2.Alts ++ [y2.2])), .ghost (gv 0) (.ptr 0 0), .ghost (gv 1) (.ptr 1 0), .ghost (gv 2) (.ptr 2 0), .ghost (gv 3) (.row 3 0), .ghost (gv 4) (.undef)]⟩) (tips := [(4, { form := some ((o2.Alts ++ [y2.2]).length, encL T_api_Alt.enc (o2.Alts ++ [y2.2])) })]) (by kernel_rfl) (allc (len_app o2.Alts ([y2.2])) (allc (encL_app T_api_Alt.enc o2.Alts ([y2.2])) (allc (app_ok T_api_Alt.enc_len (by decide) g3) (allc (encL_len T_api_Alt.enc_len ([y2.2])) all0)))) (fun a w hs => ret_ok hR (ρ := [0, 1, 2, 3, 4]) (gs := [.ghost (gv 0) (.ptr 0 0), .ghost (gv 1) (.ptr 1 0), .ghost (gv 2) (.ptr 2 0), .ghost (gv 3) (.row 3 0), .ghost (gv 4) (.undef)]) (by kernel_rfl) all0 (by kernel_rfl) rfl rfl a w hs _ (.inr rfl))
set_option maxRecDepth 100000 in
theorem C_dump_reader_each_v2 (o0 : T_wire_Reader) (o2 : T_api_Proc) (r : T_wire_Reader × T_api_Proc) (h : F_dump_reader_each_v2 o0 o2 = some r) : FnOK Try.prog 56 [.agg [.ptr 0 0], .fn (.func 75) [] [.ptr 1 0, .ptr 2 0]] [.blk 89 (T_wire_Reader.pvs o0), .blk 94 [.ptr 0 0], .blk 70 [i64 o2.Def, i64 o2.At, .row 3 (o2.Vars).length, i64 o2.Fuel, i64 o2.Mode, i64 o2.Chan, i64 o2.Val, i64 o2.Slot, i64 o2.Until, i64 o2.Since, .row 4 (o2.Alts).length], .row 3 1 (encL (eInt .i64) o2.Vars), .row 102 5 (encL T_api_Alt.enc o2.Alts)] (.tup []) [.blk 89 (T_wire_Reader.pvs r.1), .blk 94 [.ptr 0 0], .blk 70 [i64 r.2.Def, i64 r.2.At, .row 3 (r.2.Vars).length, i64 r.2.Fuel, i64 r.2.Mode, i64 r.2.Chan, i64 r.2.Val, i64 r.2.Slot, i64 r.2.Until, i64 r.2.Since, .row 4 (r.2.Alts).length], .row 3 1 (encL (eInt .i64) r.2.Vars), .row 102 5 (encL T_api_Alt.enc r.2.Alts)] [1, 3, 5, 6, 8, 9] := by
  rw [F_dump_reader_each_v2] at h
  refine FnOK.intro Try.func56 rfl (by kernel_rfl) (by kernel_rfl) fun E gv R hR => ?_
  refine At.seq ?_
  refine At.region_end [1, 2] [0, 1, 2, 3, 4, 5, 6, 7, 8, 9, 10] _ (st' := ⟨[(1, .fn (.func 75) [] [.ptr 1 0, .ptr 2 0]), (2, .ptr 10 0)], [.blk 89 (T_wire_Reader.pvs o0), .blk 94 [.ptr 0 0], .blk 70 [i64 o2.Def, i64 o2.At, .row 3 (o2.Vars).length, i64 o2.Fuel, i64 o2.Mode, i64 o2.Chan, i64 o2.Val, i64 o2.Slot, i64 o2.Until, i64 o2.Since, .row 4 (o2.Alts).length], .row 3 1 (encL (eInt .i64) o2.Vars), .row 102 5 (encL T_api_Alt.enc o2.Alts), .ghost (gv 0) (.ptr 0 0), .ghost (gv 1) (.ptr 1 0), .ghost (gv 2) (.ptr 2 0), .ghost (gv 3) (.row 3 0), .ghost (gv 4) (.row 4 0), .blk 94 [.ptr 0 0]]⟩) (tips := []) (by kernel_rfl) all0 (norm ?_)
  refine At.seq ?_
  obtain ⟨y2, hy2, h⟩ := bind_some h
  refine At.region_end [1, 2, 4] [0, 1, 2, 3, 4, 5, 6, 7, 8, 9, 10] _ (st' := ⟨[(1, .fn (.func 75) [] [.ptr 1 0, .ptr 2 0]), (2, .ptr 10 0), (4, i64 y2.1)], [.blk 89 (T_wire_Reader.pvs y2.2), .blk 94 [.ptr 0 0], .blk 70 [i64 o2.Def, i64 o2.At, .row 3 (o2.Vars).length, i64 o2.Fuel, i64 o2.Mode, i64 o2.Chan, i64 o2.Val, i64 o2.Slot, i64 o2.Until, i64 o2.Since, .row 4 (o2.Alts).length], .row 3 1 (encL (eInt .i64) o2.Vars), .row 102 5 (encL T_api_Alt.enc o2.Alts), .ghost (gv 0) (.ptr 0 0), .ghost (gv 1) (.ptr 1 0), .ghost (gv 2) (.ptr 2 0), .ghost (gv 3) (.row 3 0), .ghost (gv 4) (.row 4 0), .blk 94 [.ptr 0 0]]⟩) (tips := [(2, { pc := some { ρ := [0], n0 := 1, res := i64 y2.1, σ' := [.blk 89 (T_wire_Reader.pvs y2.2)], e := [1] } })]) (by kernel_rfl) (allc (C_wire_Reader_Upto 4096 o0 y2 hy2) all0) (norm ?_)
  refine At.seq ?_
  refine At.region_end [1, 2, 4, 5] [0, 1, 2, 3, 4, 5, 6, 7, 8, 9, 10] _ (st' := ⟨[(1, .fn (.func 75) [] [.ptr 1 0, .ptr 2 0]), (2, .ptr 10 0), (4, i64 y2.1), (5, i64 0)], [.blk 89 (T_wire_Reader.pvs y2.2), .blk 94 [.ptr 0 0], .blk 70 [i64 o2.Def, i64 o2.At, .row 3 (o2.Vars).length, i64 o2.Fuel, i64 o2.Mode, i64 o2.Chan, i64 o2.Val, i64 o2.Slot, i64 o2.Until, i64 o2.Since, .row 4 (o2.Alts).length], .row 3 1 (encL (eInt .i64) o2.Vars), .row 102 5 (encL T_api_Alt.enc o2.Alts), .ghost (gv 0) (.ptr 0 0), .ghost (gv 1) (.ptr 1 0), .ghost (gv 2) (.ptr 2 0), .ghost (gv 3) (.row 3 0), .ghost (gv 4) (.row 4 0), .blk 94 [.ptr 0 0]]⟩) (tips := []) (by kernel_rfl) all0 (norm ?_)
  refine At.block ?_
  refine At.edNar [.hideG 9] [1, 2, 4, 5] [0, 1, 2, 3, 4, 5, 6, 7, 8, 9, 10] (st' := ⟨[(1, .fn (.func 75) [] [.ptr 1 0, .ptr 2 0]), (2, .ptr 10 0), (4, i64 y2.1), (5, i64 0)], [.blk 89 (T_wire_Reader.pvs y2.2), .blk 94 [.ptr 0 0], .blk 70 [i64 o2.Def, i64 o2.At, .row 3 (o2.Vars).length, i64 o2.Fuel, i64 o2.Mode, i64 o2.Chan, i64 o2.Val, i64 o2.Slot, i64 o2.Until, i64 o2.Since, .row 4 (o2.Alts).length], .row 3 1 (encL (eInt .i64) o2.Vars), .row 102 5 (encL T_api_Alt.enc o2.Alts), .ghost (gv 0) (.ptr 0 0), .ghost (gv 1) (.ptr 1 0), .ghost (gv 2) (.ptr 2 0), .ghost (gv 3) (.row 3 0), .ghost (gv 4) (.undef), .blk 94 [.ptr 0 0]]⟩) (by kernel_rfl) ?_
  refine At.loop (fun s : (Int × ByteArray × Int × Int × Int × Int × Int × Int × Int × Int × Int × Int × (List Int) × (List T_api_Alt)) => F_dump_reader_each_v2_L2 y2 s.1 s.2.1 s.2.2.1 s.2.2.2.1 s.2.2.2.2.1 s.2.2.2.2.2.1 s.2.2.2.2.2.2.1 s.2.2.2.2.2.2.2.1 s.2.2.2.2.2.2.2.2.1 s.2.2.2.2.2.2.2.2.2.1 s.2.2.2.2.2.2.2.2.2.2.1 s.2.2.2.2.2.2.2.2.2.2.2.1 s.2.2.2.2.2.2.2.2.2.2.2.2.1 s.2.2.2.2.2.2.2.2.2.2.2.2.2) (fun s : (Int × ByteArray × Int × Int × Int × Int × Int × Int × Int × Int × Int × Int × (List Int) × (List T_api_Alt)) => ⟨[(1, .fn (.func 75) [] [.ptr 1 0, .ptr 2 0]), (2, .ptr 10 0), (4, i64 y2.1), (5, i64 s.1)], [.blk 89 [sv s.2.1, i64 s.2.2.1], .blk 94 [.ptr 0 0], .blk 70 [i64 s.2.2.2.1, i64 s.2.2.2.2.1, .row 3 (s.2.2.2.2.2.2.2.2.2.2.2.2.1).length, i64 s.2.2.2.2.2.1, i64 s.2.2.2.2.2.2.1, i64 s.2.2.2.2.2.2.2.1, i64 s.2.2.2.2.2.2.2.2.1, i64 s.2.2.2.2.2.2.2.2.2.1, i64 s.2.2.2.2.2.2.2.2.2.2.1, i64 s.2.2.2.2.2.2.2.2.2.2.2.1, .row 4 (s.2.2.2.2.2.2.2.2.2.2.2.2.2).length], .row 3 1 (encL (eInt .i64) s.2.2.2.2.2.2.2.2.2.2.2.2.1), .row 102 5 (encL T_api_Alt.enc s.2.2.2.2.2.2.2.2.2.2.2.2.2), .ghost (gv 0) (.ptr 0 0), .ghost (gv 1) (.ptr 1 0), .ghost (gv 2) (.ptr 2 0), .ghost (gv 3) (.row 3 0), .ghost (gv 4) (.undef), .blk 94 [.ptr 0 0]]⟩) r (0, y2.2.s, y2.2.e, o2.Def, o2.At, o2.Fuel, o2.Mode, o2.Chan, o2.Val, o2.Slot, o2.Until, o2.Since, o2.Vars, o2.Alts) h ?_
  rintro ⟨x3, x4, x5, x6, x7, x8, x9, x10, x11, x12, x13, x14, x15, x16⟩ oo17 h f18
  replace h : F_dump_reader_each_v2_L2 y2 x3 x4 x5 x6 x7 x8 x9 x10 x11 x12 x13 x14 x15 x16 = some oo17 := h
  rw [F_dump_reader_each_v2_L2] at h
  refine At.seq ?_
  refine At.seqJ (S := Bool) (fun s => ⟨[(1, .fn (.func 75) [] [.ptr 1 0, .ptr 2 0]), (2, .ptr 10 0), (4, i64 y2.1), (5, i64 x3), (17, bo s)], [.blk 89 [sv x4, i64 x5], .blk 94 [.ptr 0 0], .blk 70 [i64 x6, i64 x7, .row 3 (x15).length, i64 x8, i64 x9, i64 x10, i64 x11, i64 x12, i64 x13, i64 x14, .row 4 (x16).length], .row 3 1 (encL (eInt .i64) x15), .row 102 5 (encL T_api_Alt.enc x16), .ghost (gv 0) (.ptr 0 0), .ghost (gv 1) (.ptr 1 0), .ghost (gv 2) (.ptr 2 0), .ghost (gv 3) (.row 3 0), .ghost (gv 4) (.undef), .blk 94 [.ptr 0 0]]⟩) (fun s => F_dump_reader_each_v2_J1 x3 x4 x5 x6 x7 x8 x9 x10 x11 x12 x13 x14 x15 x16 s = some oo17) ?_ ?_
  · rcases tf (decide (x3 < y2.1)) with b33 | b33
    · replace h := cond_t b33 h
      obtain ⟨y34, hy34, h⟩ := bind_some h
      refine At.region_end [1, 2, 4, 5, 17] [0, 1, 2, 3, 4, 5, 6, 7, 8, 9, 10] _ (st' := ⟨[(1, .fn (.func 75) [] [.ptr 1 0, .ptr 2 0]), (2, .ptr 10 0), (4, i64 y2.1), (5, i64 x3), (17, bo (y34 == 0))], [.blk 89 [sv x4, i64 x5], .blk 94 [.ptr 0 0], .blk 70 [i64 x6, i64 x7, .row 3 (x15).length, i64 x8, i64 x9, i64 x10, i64 x11, i64 x12, i64 x13, i64 x14, .row 4 (x16).length], .row 3 1 (encL (eInt .i64) x15), .row 102 5 (encL T_api_Alt.enc x16), .ghost (gv 0) (.ptr 0 0), .ghost (gv 1) (.ptr 1 0), .ghost (gv 2) (.ptr 2 0), .ghost (gv 3) (.row 3 0), .ghost (gv 4) (.undef), .blk 94 [.ptr 0 0]]⟩) (tips := [(3, { orc := .val (.bool true) }), (6, { pc := some { ρ := [0], n0 := 1, res := i64 y34, σ' := [.blk 89 [sv x4, i64 x5]], e := [1] } })]) (by kernel_rfl) (allc (congrArg D.bool b33) (allc (C_wire_Reader_Err (⟨x4, x5⟩ : T_wire_Reader) y34 hy34) all0)) (fun a w hs => ⟨(y34 == 0), h, hs⟩)
    · replace h := cond_f b33 h
      refine At.region_end [1, 2, 4, 5, 17] [0, 1, 2, 3, 4, 5, 6, 7, 8, 9, 10] _ (st' := ⟨[(1, .fn (.func 75) [] [.ptr 1 0, .ptr 2 0]), (2, .ptr 10 0), (4, i64 y2.1), (5, i64 x3), (17, bo false)], [.blk 89 [sv x4, i64 x5], .blk 94 [.ptr 0 0], .blk 70 [i64 x6, i64 x7, .row 3 (x15).length, i64 x8, i64 x9, i64 x10, i64 x11, i64 x12, i64 x13, i64 x14, .row 4 (x16).length], .row 3 1 (encL (eInt .i64) x15), .row 102 5 (encL T_api_Alt.enc x16), .ghost (gv 0) (.ptr 0 0), .ghost (gv 1) (.ptr 1 0), .ghost (gv 2) (.ptr 2 0), .ghost (gv 3) (.row 3 0), .ghost (gv 4) (.undef), .blk 94 [.ptr 0 0]]⟩) (tips := [(3, { orc := .val (.bool false) })]) (by kernel_rfl) (allc (congrArg D.bool b33) all0) (fun a w hs => ⟨false, h, hs⟩)
  · intro x27 h
    replace h : F_dump_reader_each_v2_J1 x3 x4 x5 x6 x7 x8 x9 x10 x11 x12 x13 x14 x15 x16 x27 = some oo17 := h
    rw [F_dump_reader_each_v2_J1] at h
    refine At.cond x27 (by kernel_rfl) (fun b28 => ?_) (fun b28 => ?_)
    · replace h := cond_t b28 h
      refine At.nar [1, 2, 4, 5] [0, 1, 2, 3, 4, 5, 6, 7, 8, 9, 10] (st' := ⟨[(1, .fn (.func 75) [] [.ptr 1 0, .ptr 2 0]), (2, .ptr 10 0), (4, i64 y2.1), (5, i64 x3)], [.blk 89 [sv x4, i64 x5], .blk 94 [.ptr 0 0], .blk 70 [i64 x6, i64 x7, .row 3 (x15).length, i64 x8, i64 x9, i64 x10, i64 x11, i64 x12, i64 x13, i64 x14, .row 4 (x16).length], .row 3 1 (encL (eInt .i64) x15), .row 102 5 (encL T_api_Alt.enc x16), .ghost (gv 0) (.ptr 0 0), .ghost (gv 1) (.ptr 1 0), .ghost (gv 2) (.ptr 2 0), .ghost (gv 3) (.row 3 0), .ghost (gv 4) (.undef), .blk 94 [.ptr 0 0]]⟩) (by kernel_rfl) ?_
      refine At.skip (norm ?_)
      refine At.seq ?_
      refine At.block ?_
      obtain ⟨y30, hy30, h⟩ := bind_some h
      refine At.region_end [1, 2, 4, 5] [0, 1, 2, 3, 4, 5, 6, 7, 8, 9, 10] _ (st' := ⟨[(1, .fn (.func 75) [] [.ptr 1 0, .ptr 2 0]), (2, .ptr 10 0), (4, i64 y2.1), (5, i64 x3)], [.blk 89 (T_wire_Reader.pvs y30.1), .blk 94 [.ptr 0 0], .blk 70 [i64 y30.2.Def, i64 y30.2.At, .row 3 (y30.2.Vars).length, i64 y30.2.Fuel, i64 y30.2.Mode, i64 y30.2.Chan, i64 y30.2.Val, i64 y30.2.Slot, i64 y30.2.Until, i64 y30.2.Since, .row 4 (y30.2.Alts).length], .row 3 1 (encL (eInt .i64) y30.2.Vars), .row 102 5 (encL T_api_Alt.enc y30.2.Alts), .ghost (gv 0) (.ptr 0 0), .ghost (gv 1) (.ptr 1 0), .ghost (gv 2) (.ptr 2 0), .ghost (gv 3) (.row 3 0), .ghost (gv 4) (.undef), .blk 94 [.ptr 0 0]]⟩) (tips := [(1, { pc := some { ρ := [1, 0, 2, 3, 4], n0 := 5, res := .tup [], σ' := [.blk 94 [.ptr 1 0], .blk 89 (T_wire_Reader.pvs y30.1), .blk 70 [i64 y30.2.Def, i64 y30.2.At, .row 3 (y30.2.Vars).length, i64 y30.2.Fuel, i64 y30.2.Mode, i64 y30.2.Chan, i64 y30.2.Val, i64 y30.2.Slot, i64 y30.2.Until, i64 y30.2.Since, .row 4 (y30.2.Alts).length], .row 3 1 (encL (eInt .i64) y30.2.Vars), .row 102 5 (encL T_api_Alt.enc y30.2.Alts)], e := [1, 3, 5, 6, 8, 9] } })]) (by kernel_rfl) (allc (C_dump_reader_proc_1 (⟨x4, x5⟩ : T_wire_Reader) (⟨x6, x7, x15, x8, x9, x10, x11, x12, x13, x14, x16⟩ : T_api_Proc) y30 hy30) all0) (norm ?_)
      refine At.region_end [1, 2, 4, 5] [0, 1, 2, 3, 4, 5, 6, 7, 8, 9, 10] _ (st' := ⟨[(1, .fn (.func 75) [] [.ptr 1 0, .ptr 2 0]), (2, .ptr 10 0), (4, i64 y2.1), (5, i64 (w64 (x3 + 1)))], [.blk 89 (T_wire_Reader.pvs y30.1), .blk 94 [.ptr 0 0], .blk 70 [i64 y30.2.Def, i64 y30.2.At, .row 3 (y30.2.Vars).length, i64 y30.2.Fuel, i64 y30.2.Mode, i64 y30.2.Chan, i64 y30.2.Val, i64 y30.2.Slot, i64 y30.2.Until, i64 y30.2.Since, .row 4 (y30.2.Alts).length], .row 3 1 (encL (eInt .i64) y30.2.Vars), .row 102 5 (encL T_api_Alt.enc y30.2.Alts), .ghost (gv 0) (.ptr 0 0), .ghost (gv 1) (.ptr 1 0), .ghost (gv 2) (.ptr 2 0), .ghost (gv 3) (.row 3 0), .ghost (gv 4) (.undef), .blk 94 [.ptr 0 0]]⟩) (tips := []) (by kernel_rfl) all0 (fun a w hs => ⟨_, (some_eq h).symm, hs⟩)
    · replace h := cond_f b28 h
      refine At.nar [] [0, 1, 2, 3, 4, 5, 6, 7, 8, 9] (st' := ⟨[], [.blk 89 [sv x4, i64 x5], .blk 94 [.ptr 0 0], .blk 70 [i64 x6, i64 x7, .row 3 (x15).length, i64 x8, i64 x9, i64 x10, i64 x11, i64 x12, i64 x13, i64 x14, .row 4 (x16).length], .row 3 1 (encL (eInt .i64) x15), .row 102 5 (encL T_api_Alt.enc x16), .ghost (gv 0) (.ptr 0 0), .ghost (gv 1) (.ptr 1 0), .ghost (gv 2) (.ptr 2 0), .ghost (gv 3) (.row 3 0), .ghost (gv 4) (.undef)]⟩) (by kernel_rfl) ?_
      obtain ⟨r31, h, e32⟩ := map_inr h
      rw [f18 _ e32] at h
      obtain rfl := some_eq h
      refine At.exit (fun a w hs => ret_ok hR (ρ := [0, 1, 2, 3, 4]) (gs := [.ghost (gv 0) (.ptr 0 0), .ghost (gv 1) (.ptr 1 0), .ghost (gv 2) (.ptr 2 0), .ghost (gv 3) (.row 3 0), .ghost (gv 4) (.undef)]) (by kernel_rfl) all0 (by kernel_rfl) rfl rfl a w hs _ (.inr rfl))
set_option maxRecDepth 100000 in
theorem C_dump_reader_proc (o0 : T_wire_Reader) (r : T_api_Proc × T_wire_Reader) (h : F_dump_reader_proc o0 = some r) : FnOK Try.prog 58 [.agg [.ptr 0 0]] [.blk 89 (T_wire_Reader.pvs o0)] (.agg (T_api_Proc.pvs r.1)) [.blk 89 (T_wire_Reader.pvs r.2)] [1] := by
  rw [F_dump_reader_proc] at h
  refine FnOK.intro Try.func58 rfl (by kernel_rfl) (by kernel_rfl) fun E gv R hR => ?_
  refine At.seq ?_
  refine At.region_end [1, 2] [0, 1, 2, 3] _ (st' := ⟨[(1, .ptr 2 0), (2, .ptr 3 0)], [.blk 89 (T_wire_Reader.pvs o0), .ghost (gv 0) (.ptr 0 0), .blk 94 [.ptr 0 0], .blk 70 [i64 0, i64 0, .d (.list true 0 []), i64 0, i64 0, i64 0, i64 0, i64 0, i64 0, i64 0, .d (.list true 0 [])]]⟩) (tips := []) (by kernel_rfl) all0 (norm ?_)
  refine At.seq ?_
  refine At.region_end [1, 2, 3] [0, 1, 2, 3, 4] _ (st' := ⟨[(1, .ptr 2 0), (2, .ptr 3 0), (3, .ptr 4 0)], [.blk 89 (T_wire_Reader.pvs o0), .ghost (gv 0) (.ptr 0 0), .blk 94 [.ptr 0 0], .blk 70 [i64 0, i64 0, .d (.list true 0 []), i64 0, i64 0, i64 0, i64 0, i64 0, i64 0, i64 0, .d (.list true 0 [])], .blk 70 [i64 0, i64 0, .d (.list true 0 []), i64 0, i64 0, i64 0, i64 0, i64 0, i64 0, i64 0, .d (.list true 0 [])]]⟩) (tips := []) (by kernel_rfl) all0 (norm ?_)
  refine At.seq ?_
  refine At.eds [.ownO 4 2 3 1] (st' := ⟨[(1, .ptr 2 0), (2, .ptr 3 0), (3, .ptr 4 0)], [.blk 89 (T_wire_Reader.pvs o0), .ghost (gv 0) (.ptr 0 0), .blk 94 [.ptr 0 0], .blk 70 [i64 0, i64 0, .d (.list true 0 []), i64 0, i64 0, i64 0, i64 0, i64 0, i64 0, i64 0, .d (.list true 0 [])], .blk 70 [i64 0, i64 0, .row 5 ([] : List Int).length, i64 0, i64 0, i64 0, i64 0, i64 0, i64 0, i64 0, .d (.list true 0 [])], .row 3 1 (encL (eInt .i64) ([]))]⟩) (by kernel_rfl) ?_
  refine At.eds [.ownO 4 10 102 5] (st' := ⟨[(1, .ptr 2 0), (2, .ptr 3 0), (3, .ptr 4 0)], [.blk 89 (T_wire_Reader.pvs o0), .ghost (gv 0) (.ptr 0 0), .blk 94 [.ptr 0 0], .blk 70 [i64 0, i64 0, .d (.list true 0 []), i64 0, i64 0, i64 0, i64 0, i64 0, i64 0, i64 0, .d (.list true 0 [])], .blk 70 [i64 0, i64 0, .row 5 ([] : List Int).length, i64 0, i64 0, i64 0, i64 0, i64 0, i64 0, i64 0, .row 6 ([] : List T_api_Alt).length], .row 3 1 (encL (eInt .i64) ([])), .row 102 5 (encL T_api_Alt.enc ([]))]⟩) (by kernel_rfl) ?_
  obtain ⟨y2, hy2, h⟩ := bind_some h
  refine At.region_end [1, 2, 3] [0, 1, 2, 3, 4, 5, 6] _ (st' := ⟨[(1, .ptr 2 0), (2, .ptr 3 0), (3, .ptr 4 0)], [.blk 89 (T_wire_Reader.pvs y2.1), .ghost (gv 0) (.ptr 0 0), .blk 94 [.ptr 0 0], .blk 70 [i64 0, i64 0, .d (.list true 0 []), i64 0, i64 0, i64 0, i64 0, i64 0, i64 0, i64 0, .d (.list true 0 [])], .blk 70 [i64 y2.2.Def, i64 y2.2.At, .row 5 (y2.2.Vars).length, i64 y2.2.Fuel, i64 y2.2.Mode, i64 y2.2.Chan, i64 y2.2.Val, i64 y2.2.Slot, i64 y2.2.Until, i64 y2.2.Since, .row 6 (y2.2.Alts).length], .row 3 1 (encL (eInt .i64) y2.2.Vars), .row 102 5 (encL T_api_Alt.enc y2.2.Alts)]⟩) (tips := [(4, { pc := some { ρ := [0, 7, 4, 5, 6], n0 := 5, res := .tup [], σ' := [.blk 89 (T_wire_Reader.pvs y2.1), .blk 96 [.ptr 2 0, .ptr 2 1], .blk 70 [i64 y2.2.Def, i64 y2.2.At, .row 3 (y2.2.Vars).length, i64 y2.2.Fuel, i64 y2.2.Mode, i64 y2.2.Chan, i64 y2.2.Val, i64 y2.2.Slot, i64 y2.2.Until, i64 y2.2.Since, .row 4 (y2.2.Alts).length], .row 3 1 (encL (eInt .i64) y2.2.Vars), .row 102 5 (encL T_api_Alt.enc y2.2.Alts)], e := [1, 3, 5, 6, 8] } })]) (by kernel_rfl) (allc (C_dump_reader_into_v2 o0 (⟨0, 0, ([] : List Int), 0, 0, 0, 0, 0, 0, 0, ([] : List T_api_Alt)⟩ : T_api_Proc) y2 hy2) all0) (norm ?_)
  refine At.seq ?_
  obtain ⟨y4, hy4, h⟩ := bind_some h
  refine At.region_end [1, 2, 3] [0, 1, 2, 3, 4, 7, 6] _ (st' := ⟨[(1, .ptr 2 0), (2, .ptr 3 0), (3, .ptr 4 0)], [.blk 89 (T_wire_Reader.pvs y4.2), .ghost (gv 0) (.ptr 0 0), .blk 94 [.ptr 0 0], .blk 70 [i64 0, i64 0, .d (.list true 0 []), i64 0, i64 0, i64 0, i64 0, i64 0, i64 0, i64 0, .d (.list true 0 [])], .blk 70 [i64 y2.2.Def, i64 y2.2.At, .row 5 (y4.1).length, i64 y2.2.Fuel, i64 y2.2.Mode, i64 y2.2.Chan, i64 y2.2.Val, i64 y2.2.Slot, i64 y2.2.Until, i64 y2.2.Since, .row 6 (y2.2.Alts).length], .row 3 1 (encL (eInt .i64) y4.1), .row 102 5 (encL T_api_Alt.enc y2.2.Alts)]⟩) (tips := [(2, { pc := some { ρ := [0, 7], n0 := 1, res := .row 1 (y4.1).length, σ' := [.blk 89 (T_wire_Reader.pvs y4.2), .row 3 1 (encL (eInt .i64) y4.1)], e := [1] } })]) (by kernel_rfl) (allc (C_wire_Reader_Ints 4096 y2.1 y4 hy4) all0) (norm ?_)
  refine At.seq ?_
  obtain ⟨y6, hy6, h⟩ := bind_some h
  refine At.region_end [1, 2, 3] [0, 1, 2, 3, 4, 5, 6] _ (st' := ⟨[(1, .ptr 2 0), (2, .ptr 3 0), (3, .ptr 4 0)], [.blk 89 (T_wire_Reader.pvs y6.1), .ghost (gv 0) (.ptr 0 0), .blk 94 [.ptr 0 0], .blk 70 [i64 0, i64 0, .d (.list true 0 []), i64 0, i64 0, i64 0, i64 0, i64 0, i64 0, i64 0, .d (.list true 0 [])], .blk 70 [i64 y6.2.Def, i64 y6.2.At, .row 5 (y6.2.Vars).length, i64 y6.2.Fuel, i64 y6.2.Mode, i64 y6.2.Chan, i64 y6.2.Val, i64 y6.2.Slot, i64 y6.2.Until, i64 y6.2.Since, .row 6 (y6.2.Alts).length], .row 3 1 (encL (eInt .i64) y6.2.Vars), .row 102 5 (encL T_api_Alt.enc y6.2.Alts)]⟩) (tips := [(9, { pc := some { ρ := [0, 7, 4, 5, 6], n0 := 5, res := .tup [], σ' := [.blk 89 (T_wire_Reader.pvs y6.1), .blk 96 [.ptr 2 3, .ptr 2 4, .ptr 2 5, .ptr 2 6, .ptr 2 7, .ptr 2 8, .ptr 2 9], .blk 70 [i64 y6.2.Def, i64 y6.2.At, .row 3 (y6.2.Vars).length, i64 y6.2.Fuel, i64 y6.2.Mode, i64 y6.2.Chan, i64 y6.2.Val, i64 y6.2.Slot, i64 y6.2.Until, i64 y6.2.Since, .row 4 (y6.2.Alts).length], .row 3 1 (encL (eInt .i64) y6.2.Vars), .row 102 5 (encL T_api_Alt.enc y6.2.Alts)], e := [1, 3, 5, 6, 8] } })]) (by kernel_rfl) (allc (C_dump_reader_into_v3 y4.2 (⟨y2.2.Def, y2.2.At, y4.1, y2.2.Fuel, y2.2.Mode, y2.2.Chan, y2.2.Val, y2.2.Slot, y2.2.Until, y2.2.Since, y2.2.Alts⟩ : T_api_Proc) y6 hy6) all0) (norm ?_)
  refine At.seq ?_
  obtain ⟨y8, hy8, h⟩ := bind_some h
  refine At.region_end [2, 3] [0, 1, 3, 4, 5, 6] _ (st' := ⟨[(2, .ptr 2 0), (3, .ptr 3 0)], [.blk 89 (T_wire_Reader.pvs y8.1), .ghost (gv 0) (.ptr 0 0), .blk 70 [i64 0, i64 0, .d (.list true 0 []), i64 0, i64 0, i64 0, i64 0, i64 0, i64 0, i64 0, .d (.list true 0 [])], .blk 70 [i64 y8.2.Def, i64 y8.2.At, .row 4 (y8.2.Vars).length, i64 y8.2.Fuel, i64 y8.2.Mode, i64 y8.2.Chan, i64 y8.2.Val, i64 y8.2.Slot, i64 y8.2.Until, i64 y8.2.Since, .row 5 (y8.2.Alts).length], .row 3 1 (encL (eInt .i64) y8.2.Vars), .row 102 5 (encL T_api_Alt.enc y8.2.Alts)]⟩) (tips := [(2, { pc := some { ρ := [0, 2, 4, 5, 6], n0 := 5, res := .tup [], σ' := [.blk 89 (T_wire_Reader.pvs y8.1), .blk 94 [.ptr 0 0], .blk 70 [i64 y8.2.Def, i64 y8.2.At, .row 3 (y8.2.Vars).length, i64 y8.2.Fuel, i64 y8.2.Mode, i64 y8.2.Chan, i64 y8.2.Val, i64 y8.2.Slot, i64 y8.2.Until, i64 y8.2.Since, .row 4 (y8.2.Alts).length], .row 3 1 (encL (eInt .i64) y8.2.Vars), .row 102 5 (encL T_api_Alt.enc y8.2.Alts)], e := [1, 3, 5, 6, 8, 9] } })]) (by kernel_rfl) (allc (C_dump_reader_each_v2 y6.1 y6.2 y8 hy8) all0) (norm ?_)
  refine At.seq ?_
  refine At.region_end [2] [0, 1, 2, 4, 5] _ (st' := ⟨[(2, .ptr 2 0)], [.blk 89 (T_wire_Reader.pvs y8.1), .ghost (gv 0) (.ptr 0 0), .blk 70 [i64 y8.2.Def, i64 y8.2.At, .row 3 (y8.2.Vars).length, i64 y8.2.Fuel, i64 y8.2.Mode, i64 y8.2.Chan, i64 y8.2.Val, i64 y8.2.Slot, i64 y8.2.Until, i64 y8.2.Since, .row 4 (y8.2.Alts).length], .row 3 1 (encL (eInt .i64) y8.2.Vars), .row 102 5 (encL T_api_Alt.enc y8.2.Alts)]⟩) (tips := []) (by kernel_rfl) all0 (norm ?_)
  refine At.edNar [.settle 3, .settle 4] [2] [0, 1, 2] (st' := ⟨[(2, .ptr 2 0)], [.blk 89 (T_wire_Reader.pvs y8.1), .ghost (gv 0) (.ptr 0 0), .blk 70 (T_api_Proc.pvs y8.2)]⟩) (by kernel_rfl) ?_
  obtain rfl := some_eq h
  exact At.ret fun a w hs => ret_ok hR (ρ := [0]) (gs := [.ghost (gv 0) (.ptr 0 0)]) (by kernel_rfl) all0 (by kernel_rfl) rfl rfl a w hs _ (.inl rfl)
set_option maxRecDepth 100000 in
theorem C_dump_Read_1 (o0 : T_api_State) (o4 : T_wire_Reader) (r : T_api_State × T_wire_Reader) (h : F_dump_Read_1 o0 o4 = some r) : FnOK Try.prog 57 [.ptr 0 0, .ptr 3 0] [.blk 25 [i64 o0.Now, i64 o0.Since, i64 o0.Halt, i64 o0.Fault, i64 o0.Who, .row 1 (o0.Procs).length, .row 2 (o0.Out).length], .row 70 11 (encL T_api_Proc.enc o0.Procs), .row 3 1 (encL (eInt .i64) o0.Out), .blk 94 [.ptr 4 0], .blk 89 (T_wire_Reader.pvs o4)] (.tup []) [.blk 25 [i64 r.1.Now, i64 r.1.Since, i64 r.1.Halt, i64 r.1.Fault, i64 r.1.Who, .row 1 (r.1.Procs).length, .row 2 (r.1.Out).length], .row 70 11 (encL T_api_Proc.enc r.1.Procs), .row 3 1 (encL (eInt .i64) r.1.Out), .blk 94 [.ptr 4 0], .blk 89 (T_wire_Reader.pvs r.2)] [1, 2, 3, 4, 7, 9] := by
  rw [F_dump_Read_1] at h
  refine FnOK.intro Try.func57 rfl (by kernel_rfl) (by kernel_rfl) fun E gv R hR => ?_
  obtain ⟨y1, hy1, h⟩ := bind_some h
  obtain ⟨g2, h⟩ := grd_some h
  obtain rfl := some_eq h
  refine At.draw_end mixedOrd 1 [] [0, 1, 2, 3, 4, 5, 6, 7, 8, 9] _ (st' := ⟨[], [.blk 25 [i64 o0.Now, i64 o0.Since, i64 o0.Halt, i64 o0.Fault, i64 o0.Who, .row 1 ((o0.Procs ++ [y1.1])).length, .row 2 (o0.Out).length], .row 70 11 (encL T_api_Proc.enc (o0.Procs ++ [y1.1])), .row 3 1 (encL (eInt .i64) o0.Out), .blk 94 [.ptr 4 0], .blk 89 (T_wire_Reader.pvs y1.2), .ghost (gv 0) (.ptr 0 0), .ghost (gv 1) (.undef), .ghost (gv 2) (.row 2 0), .ghost (gv 3) (.ptr 3 0), .ghost (gv 4) (.ptr 4 0)]⟩) (tips := [(0, { r := 10 }), (1, { T := [0], r := 10 }), (2, { T := [3], r := 10 }), (3, { tip := { pc := some { ρ := [4], n0 := 1, res := .agg (T_api_Proc.pvs y1.1), σ' := [.blk 89 (T_wire_Reader.pvs y1.2)], e := [1] } }, T := [4], r := 10 }), (4, { r := 10 }), (5, { tip := { form := some ((o0.Procs ++ [y1.1]).length, encL T_api_Proc.enc (o0.Procs ++ [y1.1])) }, T := [1, 10], r := 11 }), (6, { r := 11 }), (7, { T := [0], r := 11 })]) (by kernel_rfl) (allc (C_dump_reader_proc o4 y1 hy1) (allc (len_app o0.Procs ([y1.1])) (allc (encL_app T_api_Proc.enc o0.Procs ([y1.1])) (allc (app_ok T_api_Proc.enc_len (by decide) g2) (allc (encL_len T_api_Proc.enc_len ([y1.1])) all0))))) (fun a w hs => ret_ok hR (ρ := [0, 1, 2, 3, 4]) (gs := [.ghost (gv 0) (.ptr 0 0), .ghost (gv 1) (.undef), .ghost (gv 2) (.row 2 0), .ghost (gv 3) (.ptr 3 0), .ghost (gv 4) (.ptr 4 0)]) (by kernel_rfl) all0 (by kernel_rfl) rfl rfl a w hs _ (.inr rfl))
set_option maxRecDepth 100000 in
theorem C_dump_reader_each (o0 : T_wire_Reader) (o1 : T_api_State) (r : T_wire_Reader × T_api_State) (h : F_dump_reader_each o0 o1 = some r) : FnOK Try.prog 56 [.agg [.ptr 0 0], .fn (.func 57) [] [.ptr 1 0, .ptr 4 0]] [.blk 89 (T_wire_Reader.pvs o0), .blk 25 [i64 o1.Now, i64 o1.Since, i64 o1.Halt, i64 o1.Fault, i64 o1.Who, .row 2 (o1.Procs).length, .row 3 (o1.Out).length], .row 70 11 (encL T_api_Proc.enc o1.Procs), .row 3 1 (encL (eInt .i64) o1.Out), .blk 94 [.ptr 0 0]] (.tup []) [.blk 89 (T_wire_Reader.pvs r.1), .blk 25 [i64 r.2.Now, i64 r.2.Since, i64 r.2.Halt, i64 r.2.Fault, i64 r.2.Who, .row 2 (r.2.Procs).length, .row 3 (r.2.Out).length], .row 70 11 (encL T_api_Proc.enc r.2.Procs), .row 3 1 (encL (eInt .i64) r.2.Out), .blk 94 [.ptr 0 0]] [1, 3, 4, 5, 6, 9] := by
  rw [F_dump_reader_each] at h
  refine FnOK.intro Try.func56 rfl (by kernel_rfl) (by kernel_rfl) fun E gv R hR => ?_
  refine At.seq ?_
  refine At.region_end [1, 2] [0, 1, 2, 3, 4, 5, 6, 7, 8, 9, 10] _ (st' := ⟨[(1, .fn (.func 57) [] [.ptr 1 0, .ptr 4 0]), (2, .ptr 10 0)], [.blk 89 (T_wire_Reader.pvs o0), .blk 25 [i64 o1.Now, i64 o1.Since, i64 o1.Halt, i64 o1.Fault, i64 o1.Who, .row 2 (o1.Procs).length, .row 3 (o1.Out).length], .row 70 11 (encL T_api_Proc.enc o1.Procs), .row 3 1 (encL (eInt .i64) o1.Out), .blk 94 [.ptr 0 0], .ghost (gv 0) (.ptr 0 0), .ghost (gv 1) (.ptr 1 0), .ghost (gv 2) (.row 2 0), .ghost (gv 3) (.row 3 0), .ghost (gv 4) (.ptr 4 0), .blk 94 [.ptr 0 0]]⟩) (tips := []) (by kernel_rfl) all0 (norm ?_)
  refine At.seq ?_
  obtain ⟨y2, hy2, h⟩ := bind_some h
  refine At.region_end [1, 2, 4] [0, 1, 2, 3, 4, 5, 6, 7, 8, 9, 10] _ (st' := ⟨[(1, .fn (.func 57) [] [.ptr 1 0, .ptr 4 0]), (2, .ptr 10 0), (4, i64 y2.1)], [.blk 89 (T_wire_Reader.pvs y2.2), .blk 25 [i64 o1.Now, i64 o1.Since, i64 o1.Halt, i64 o1.Fault, i64 o1.Who, .row 2 (o1.Procs).length, .row 3 (o1.Out).length], .row 70 11 (encL T_api_Proc.enc o1.Procs), .row 3 1 (encL (eInt .i64) o1.Out), .blk 94 [.ptr 0 0], .ghost (gv 0) (.ptr 0 0), .ghost (gv 1) (.ptr 1 0), .ghost (gv 2) (.row 2 0), .ghost (gv 3) (.row 3 0), .ghost (gv 4) (.ptr 4 0), .blk 94 [.ptr 0 0]]⟩) (tips := [(2, { pc := some { ρ := [0], n0 := 1, res := i64 y2.1, σ' := [.blk 89 (T_wire_Reader.pvs y2.2)], e := [1] } })]) (by kernel_rfl) (allc (C_wire_Reader_Upto 4096 o0 y2 hy2) all0) (norm ?_)
  refine At.seq ?_
  refine At.region_end [1, 2, 4, 5] [0, 1, 2, 3, 4, 5, 6, 7, 8, 9, 10] _ (st' := ⟨[(1, .fn (.func 57) [] [.ptr 1 0, .ptr 4 0]), (2, .ptr 10 0), (4, i64 y2.1), (5, i64 0)], [.blk 89 (T_wire_Reader.pvs y2.2), .blk 25 [i64 o1.Now, i64 o1.Since, i64 o1.Halt, i64 o1.Fault, i64 o1.Who, .row 2 (o1.Procs).length, .row 3 (o1.Out).length], .row 70 11 (encL T_api_Proc.enc o1.Procs), .row 3 1 (encL (eInt .i64) o1.Out), .blk 94 [.ptr 0 0], .ghost (gv 0) (.ptr 0 0), .ghost (gv 1) (.ptr 1 0), .ghost (gv 2) (.row 2 0), .ghost (gv 3) (.row 3 0), .ghost (gv 4) (.ptr 4 0), .blk 94 [.ptr 0 0]]⟩) (tips := []) (by kernel_rfl) all0 (norm ?_)
  refine At.block ?_
  refine At.edNar [.hideG 7] [1, 2, 4, 5] [0, 1, 2, 3, 4, 5, 6, 7, 8, 9, 10] (st' := ⟨[(1, .fn (.func 57) [] [.ptr 1 0, .ptr 4 0]), (2, .ptr 10 0), (4, i64 y2.1), (5, i64 0)], [.blk 89 (T_wire_Reader.pvs y2.2), .blk 25 [i64 o1.Now, i64 o1.Since, i64 o1.Halt, i64 o1.Fault, i64 o1.Who, .row 2 (o1.Procs).length, .row 3 (o1.Out).length], .row 70 11 (encL T_api_Proc.enc o1.Procs), .row 3 1 (encL (eInt .i64) o1.Out), .blk 94 [.ptr 0 0], .ghost (gv 0) (.ptr 0 0), .ghost (gv 1) (.ptr 1 0), .ghost (gv 2) (.undef), .ghost (gv 3) (.row 3 0), .ghost (gv 4) (.ptr 4 0), .blk 94 [.ptr 0 0]]⟩) (by kernel_rfl) ?_
  refine At.loop (fun s : (Int × ByteArray × Int × Int × Int × Int × Int × Int × (List T_api_Proc) × (List Int)) => F_dump_reader_each_L2 y2 s.1 s.2.1 s.2.2.1 s.2.2.2.1 s.2.2.2.2.1 s.2.2.2.2.2.1 s.2.2.2.2.2.2.1 s.2.2.2.2.2.2.2.1 s.2.2.2.2.2.2.2.2.1 s.2.2.2.2.2.2.2.2.2) (fun s : (Int × ByteArray × Int × Int × Int × Int × Int × Int × (List T_api_Proc) × (List Int)) => ⟨[(1, .fn (.func 57) [] [.ptr 1 0, .ptr 4 0]), (2, .ptr 10 0), (4, i64 y2.1), (5, i64 s.1)], [.blk 89 [sv s.2.1, i64 s.2.2.1], .blk 25 [i64 s.2.2.2.1, i64 s.2.2.2.2.1, i64 s.2.2.2.2.2.1, i64 s.2.2.2.2.2.2.1, i64 s.2.2.2.2.2.2.2.1, .row 2 (s.2.2.2.2.2.2.2.2.1).length, .row 3 (s.2.2.2.2.2.2.2.2.2).length], .row 70 11 (encL T_api_Proc.enc s.2.2.2.2.2.2.2.2.1), .row 3 1 (encL (eInt .i64) s.2.2.2.2.2.2.2.2.2), .blk 94 [.ptr 0 0], .ghost (gv 0) (.ptr 0 0), .ghost (gv 1) (.ptr 1 0), .ghost (gv 2) (.undef), .ghost (gv 3) (.row 3 0), .ghost (gv 4) (.ptr 4 0), .blk 94 [.ptr 0 0]]⟩) r (0, y2.2.s, y2.2.e, o1.Now, o1.Since, o1.Halt, o1.Fault, o1.Who, o1.Procs, o1.Out) h ?_
  rintro ⟨x3, x4, x5, x6, x7, x8, x9, x10, x11, x12⟩ oo13 h f14
  replace h : F_dump_reader_each_L2 y2 x3 x4 x5 x6 x7 x8 x9 x10 x11 x12 = some oo13 := h
  rw [F_dump_reader_each_L2] at h
  refine At.seq ?_
  refine At.seqJ (S := Bool) (fun s => ⟨[(1, .fn (.func 57) [] [.ptr 1 0, .ptr 4 0]), (2, .ptr 10 0), (4, i64 y2.1), (5, i64 x3), (17, bo s)], [.blk 89 [sv x4, i64 x5], .blk 25 [i64 x6, i64 x7, i64 x8, i64 x9, i64 x10, .row 2 (x11).length, .row 3 (x12).length], .row 70 11 (encL T_api_Proc.enc x11), .row 3 1 (encL (eInt .i64) x12), .blk 94 [.ptr 0 0], .ghost (gv 0) (.ptr 0 0), .ghost (gv 1) (.ptr 1 0), .ghost (gv 2) (.undef), .ghost (gv 3) (.row 3 0), .ghost (gv 4) (.ptr 4 0), .blk 94 [.ptr 0 0]]⟩) (fun s => F_dump_reader_each_J1 x3 x4 x5 x6 x7 x8 x9 x10 x11 x12 s = some oo13) ?_ ?_
  · rcases tf (decide (x3 < y2.1)) with b29 | b29
    · replace h := cond_t b29 h
      obtain ⟨y30, hy30, h⟩ := bind_some h
      refine At.region_end [1, 2, 4, 5, 17] [0, 1, 2, 3, 4, 5, 6, 7, 8, 9, 10] _ (st' := ⟨[(1, .fn (.func 57) [] [.ptr 1 0, .ptr 4 0]), (2, .ptr 10 0), (4, i64 y2.1), (5, i64 x3), (17, bo (y30 == 0))], [.blk 89 [sv x4, i64 x5], .blk 25 [i64 x6, i64 x7, i64 x8, i64 x9, i64 x10, .row 2 (x11).length, .row 3 (x12).length], .row 70 11 (encL T_api_Proc.enc x11), .row 3 1 (encL (eInt .i64) x12), .blk 94 [.ptr 0 0], .ghost (gv 0) (.ptr 0 0), .ghost (gv 1) (.ptr 1 0), .ghost (gv 2) (.undef), .ghost (gv 3) (.row 3 0), .ghost (gv 4) (.ptr 4 0), .blk 94 [.ptr 0 0]]⟩) (tips := [(3, { orc := .val (.bool true) }), (6, { pc := some { ρ := [0], n0 := 1, res := i64 y30, σ' := [.blk 89 [sv x4, i64 x5]], e := [1] } })]) (by kernel_rfl) (allc (congrArg D.bool b29) (allc (C_wire_Reader_Err (⟨x4, x5⟩ : T_wire_Reader) y30 hy30) all0)) (fun a w hs => ⟨(y30 == 0), h, hs⟩)
    · replace h := cond_f b29 h
      refine At.region_end [1, 2, 4, 5, 17] [0, 1, 2, 3, 4, 5, 6, 7, 8, 9, 10] _ (st' := ⟨[(1, .fn (.func 57) [] [.ptr 1 0, .ptr 4 0]), (2, .ptr 10 0), (4, i64 y2.1), (5, i64 x3), (17, bo false)], [.blk 89 [sv x4, i64 x5], .blk 25 [i64 x6, i64 x7, i64 x8, i64 x9, i64 x10, .row 2 (x11).length, .row 3 (x12).length], .row 70 11 (encL T_api_Proc.enc x11), .row 3 1 (encL (eInt .i64) x12), .blk 94 [.ptr 0 0], .ghost (gv 0) (.ptr 0 0), .ghost (gv 1) (.ptr 1 0), .ghost (gv 2) (.undef), .ghost (gv 3) (.row 3 0), .ghost (gv 4) (.ptr 4 0), .blk 94 [.ptr 0 0]]⟩) (tips := [(3, { orc := .val (.bool false) })]) (by kernel_rfl) (allc (congrArg D.bool b29) all0) (fun a w hs => ⟨false, h, hs⟩)
  · intro x23 h
    replace h : F_dump_reader_each_J1 x3 x4 x5 x6 x7 x8 x9 x10 x11 x12 x23 = some oo13 := h
    rw [F_dump_reader_each_J1] at h
    refine At.cond x23 (by kernel_rfl) (fun b24 => ?_) (fun b24 => ?_)
    · replace h := cond_t b24 h
      refine At.nar [1, 2, 4, 5] [0, 1, 2, 3, 4, 5, 6, 7, 8, 9, 10] (st' := ⟨[(1, .fn (.func 57) [] [.ptr 1 0, .ptr 4 0]), (2, .ptr 10 0), (4, i64 y2.1), (5, i64 x3)], [.blk 89 [sv x4, i64 x5], .blk 25 [i64 x6, i64 x7, i64 x8, i64 x9, i64 x10, .row 2 (x11).length, .row 3 (x12).length], .row 70 11 (encL T_api_Proc.enc x11), .row 3 1 (encL (eInt .i64) x12), .blk 94 [.ptr 0 0], .ghost (gv 0) (.ptr 0 0), .ghost (gv 1) (.ptr 1 0), .ghost (gv 2) (.undef), .ghost (gv 3) (.row 3 0), .ghost (gv 4) (.ptr 4 0), .blk 94 [.ptr 0 0]]⟩) (by kernel_rfl) ?_
      refine At.skip (norm ?_)
      refine At.seq ?_
      refine At.block ?_
      obtain ⟨y26, hy26, h⟩ := bind_some h
      refine At.region_end [1, 2, 4, 5] [0, 1, 2, 3, 4, 5, 6, 7, 8, 9, 10] _ (st' := ⟨[(1, .fn (.func 57) [] [.ptr 1 0, .ptr 4 0]), (2, .ptr 10 0), (4, i64 y2.1), (5, i64 x3)], [.blk 89 (T_wire_Reader.pvs y26.2), .blk 25 [i64 y26.1.Now, i64 y26.1.Since, i64 y26.1.Halt, i64 y26.1.Fault, i64 y26.1.Who, .row 2 (y26.1.Procs).length, .row 3 (y26.1.Out).length], .row 70 11 (encL T_api_Proc.enc y26.1.Procs), .row 3 1 (encL (eInt .i64) y26.1.Out), .blk 94 [.ptr 0 0], .ghost (gv 0) (.ptr 0 0), .ghost (gv 1) (.ptr 1 0), .ghost (gv 2) (.undef), .ghost (gv 3) (.row 3 0), .ghost (gv 4) (.ptr 4 0), .blk 94 [.ptr 0 0]]⟩) (tips := [(1, { pc := some { ρ := [1, 2, 3, 4, 0], n0 := 5, res := .tup [], σ' := [.blk 25 [i64 y26.1.Now, i64 y26.1.Since, i64 y26.1.Halt, i64 y26.1.Fault, i64 y26.1.Who, .row 1 (y26.1.Procs).length, .row 2 (y26.1.Out).length], .row 70 11 (encL T_api_Proc.enc y26.1.Procs), .row 3 1 (encL (eInt .i64) y26.1.Out), .blk 94 [.ptr 4 0], .blk 89 (T_wire_Reader.pvs y26.2)], e := [1, 2, 3, 4, 7, 9] } })]) (by kernel_rfl) (allc (C_dump_Read_1 (⟨x6, x7, x8, x9, x10, x11, x12⟩ : T_api_State) (⟨x4, x5⟩ : T_wire_Reader) y26 hy26) all0) (norm ?_)
      refine At.region_end [1, 2, 4, 5] [0, 1, 2, 3, 4, 5, 6, 7, 8, 9, 10] _ (st' := ⟨[(1, .fn (.func 57) [] [.ptr 1 0, .ptr 4 0]), (2, .ptr 10 0), (4, i64 y2.1), (5, i64 (w64 (x3 + 1)))], [.blk 89 (T_wire_Reader.pvs y26.2), .blk 25 [i64 y26.1.Now, i64 y26.1.Since, i64 y26.1.Halt, i64 y26.1.Fault, i64 y26.1.Who, .row 2 (y26.1.Procs).length, .row 3 (y26.1.Out).length], .row 70 11 (encL T_api_Proc.enc y26.1.Procs), .row 3 1 (encL (eInt .i64) y26.1.Out), .blk 94 [.ptr 0 0], .ghost (gv 0) (.ptr 0 0), .ghost (gv 1) (.ptr 1 0), .ghost (gv 2) (.undef), .ghost (gv 3) (.row 3 0), .ghost (gv 4) (.ptr 4 0), .blk 94 [.ptr 0 0]]⟩) (tips := []) (by kernel_rfl) all0 (fun a w hs => ⟨_, (some_eq h).symm, hs⟩)
    · replace h := cond_f b24 h
      refine At.nar [] [0, 1, 2, 3, 4, 5, 6, 7, 8, 9] (st' := ⟨[], [.blk 89 [sv x4, i64 x5], .blk 25 [i64 x6, i64 x7, i64 x8, i64 x9, i64 x10, .row 2 (x11).length, .row 3 (x12).length], .row 70 11 (encL T_api_Proc.enc x11), .row 3 1 (encL (eInt .i64) x12), .blk 94 [.ptr 0 0], .ghost (gv 0) (.ptr 0 0), .ghost (gv 1) (.ptr 1 0), .ghost (gv 2) (.undef), .ghost (gv 3) (.row 3 0), .ghost (gv 4) (.ptr 4 0)]⟩) (by kernel_rfl) ?_
      obtain ⟨r27, h, e28⟩ := map_inr h
      rw [f14 _ e28] at h
      obtain rfl := some_eq h
      refine At.exit (fun a w hs => ret_ok hR (ρ := [0, 1, 2, 3, 4]) (gs := [.ghost (gv 0) (.ptr 0 0), .ghost (gv 1) (.ptr 1 0), .ghost (gv 2) (.undef), .ghost (gv 3) (.row 3 0), .ghost (gv 4) (.ptr 4 0)]) (by kernel_rfl) all0 (by kernel_rfl) rfl rfl a w hs _ (.inr rfl))
set_option maxRecDepth 100000 in
theorem C_dump_Read (o0 : T_wire_Reader) (r : T_api_State × T_wire_Reader) (h : F_dump_Read o0 = some r) : FnOK Try.prog 21 [.ptr 0 0] [.blk 89 (T_wire_Reader.pvs o0)] (.agg (T_api_State.pvs r.1)) [.blk 89 (T_wire_Reader.pvs r.2)] [1] := by
  rw [F_dump_Read] at h
  refine FnOK.intro Try.func21 rfl (by kernel_rfl) (by kernel_rfl) fun E gv R hR => ?_
  refine At.seq ?_
  refine At.region_end [0, 2] [0, 1, 2] _ (st' := ⟨[(0, .ptr 0 0), (2, .ptr 2 0)], [.blk 89 (T_wire_Reader.pvs o0), .ghost (gv 0) (.ptr 0 0), .blk 25 [i64 0, i64 0, i64 0, i64 0, i64 0, .d (.list true 0 []), .d (.list true 0 [])]]⟩) (tips := []) (by kernel_rfl) all0 (norm ?_)
  refine At.seq ?_
  refine At.region_end [2, 3] [0, 1, 2, 3] _ (st' := ⟨[(2, .ptr 2 0), (3, .ptr 3 0)], [.blk 89 (T_wire_Reader.pvs o0), .ghost (gv 0) (.ptr 0 0), .blk 25 [i64 0, i64 0, i64 0, i64 0, i64 0, .d (.list true 0 []), .d (.list true 0 [])], .blk 94 [.ptr 0 0]]⟩) (tips := []) (by kernel_rfl) all0 (norm ?_)
  refine At.seq ?_
  refine At.region_end [2, 3, 4] [0, 1, 2, 3, 4] _ (st' := ⟨[(2, .ptr 2 0), (3, .ptr 3 0), (4, .ptr 4 0)], [.blk 89 (T_wire_Reader.pvs o0), .ghost (gv 0) (.ptr 0 0), .blk 25 [i64 0, i64 0, i64 0, i64 0, i64 0, .d (.list true 0 []), .d (.list true 0 [])], .blk 94 [.ptr 0 0], .blk 25 [i64 0, i64 0, i64 0, i64 0, i64 0, .d (.list true 0 []), .d (.list true 0 [])]]⟩) (tips := []) (by kernel_rfl) all0 (norm ?_)
  refine At.seq ?_
  refine At.eds [.ownO 4 5 70 11] (st' := ⟨[(2, .ptr 2 0), (3, .ptr 3 0), (4, .ptr 4 0)], [.blk 89 (T_wire_Reader.pvs o0), .ghost (gv 0) (.ptr 0 0), .blk 25 [i64 0, i64 0, i64 0, i64 0, i64 0, .d (.list true 0 []), .d (.list true 0 [])], .blk 94 [.ptr 0 0], .blk 25 [i64 0, i64 0, i64 0, i64 0, i64 0, .row 5 ([] : List T_api_Proc).length, .d (.list true 0 [])], .row 70 11 (encL T_api_Proc.enc ([]))]⟩) (by kernel_rfl) ?_
  refine At.eds [.ownO 4 6 3 1] (st' := ⟨[(2, .ptr 2 0), (3, .ptr 3 0), (4, .ptr 4 0)], [.blk 89 (T_wire_Reader.pvs o0), .ghost (gv 0) (.ptr 0 0), .blk 25 [i64 0, i64 0, i64 0, i64 0, i64 0, .d (.list true 0 []), .d (.list true 0 [])], .blk 94 [.ptr 0 0], .blk 25 [i64 0, i64 0, i64 0, i64 0, i64 0, .row 5 ([] : List T_api_Proc).length, .row 6 ([] : List Int).length], .row 70 11 (encL T_api_Proc.enc ([])), .row 3 1 (encL (eInt .i64) ([]))]⟩) (by kernel_rfl) ?_
  obtain ⟨y2, hy2, h⟩ := bind_some h
  refine At.region_end [2, 3, 4] [0, 1, 2, 3, 4, 5, 6] _ (st' := ⟨[(2, .ptr 2 0), (3, .ptr 3 0), (4, .ptr 4 0)], [.blk 89 (T_wire_Reader.pvs y2.1), .ghost (gv 0) (.ptr 0 0), .blk 25 [i64 0, i64 0, i64 0, i64 0, i64 0, .d (.list true 0 []), .d (.list true 0 [])], .blk 94 [.ptr 0 0], .blk 25 [i64 y2.2.Now, i64 y2.2.Since, i64 y2.2.Halt, i64 y2.2.Fault, i64 y2.2.Who, .row 5 (y2.2.Procs).length, .row 6 (y2.2.Out).length], .row 70 11 (encL T_api_Proc.enc y2.2.Procs), .row 3 1 (encL (eInt .i64) y2.2.Out)]⟩) (tips := [(7, { pc := some { ρ := [0, 7, 4, 5, 6], n0 := 5, res := .tup [], σ' := [.blk 89 (T_wire_Reader.pvs y2.1), .blk 96 [.ptr 2 0, .ptr 2 1, .ptr 2 2, .ptr 2 3, .ptr 2 4], .blk 25 [i64 y2.2.Now, i64 y2.2.Since, i64 y2.2.Halt, i64 y2.2.Fault, i64 y2.2.Who, .row 3 (y2.2.Procs).length, .row 4 (y2.2.Out).length], .row 70 11 (encL T_api_Proc.enc y2.2.Procs), .row 3 1 (encL (eInt .i64) y2.2.Out)], e := [1, 3, 5, 6, 8] } })]) (by kernel_rfl) (allc (C_dump_reader_into o0 (⟨0, 0, 0, 0, 0, ([] : List T_api_Proc), ([] : List Int)⟩ : T_api_State) y2 hy2) all0) (norm ?_)
  refine At.seq ?_
  obtain ⟨y4, hy4, h⟩ := bind_some h
  refine At.region_end [2, 3, 4] [0, 1, 2, 3, 4, 5, 6] _ (st' := ⟨[(2, .ptr 2 0), (3, .ptr 3 0), (4, .ptr 4 0)], [.blk 89 (T_wire_Reader.pvs y4.1), .ghost (gv 0) (.ptr 0 0), .blk 25 [i64 0, i64 0, i64 0, i64 0, i64 0, .d (.list true 0 []), .d (.list true 0 [])], .blk 94 [.ptr 0 0], .blk 25 [i64 y4.2.Now, i64 y4.2.Since, i64 y4.2.Halt, i64 y4.2.Fault, i64 y4.2.Who, .row 5 (y4.2.Procs).length, .row 6 (y4.2.Out).length], .row 70 11 (encL T_api_Proc.enc y4.2.Procs), .row 3 1 (encL (eInt .i64) y4.2.Out)]⟩) (tips := [(2, { pc := some { ρ := [0, 4, 5, 6, 3], n0 := 5, res := .tup [], σ' := [.blk 89 (T_wire_Reader.pvs y4.1), .blk 25 [i64 y4.2.Now, i64 y4.2.Since, i64 y4.2.Halt, i64 y4.2.Fault, i64 y4.2.Who, .row 2 (y4.2.Procs).length, .row 3 (y4.2.Out).length], .row 70 11 (encL T_api_Proc.enc y4.2.Procs), .row 3 1 (encL (eInt .i64) y4.2.Out), .blk 94 [.ptr 0 0]], e := [1, 3, 4, 5, 6, 9] } })]) (by kernel_rfl) (allc (C_dump_reader_each y2.1 y2.2 y4 hy4) all0) (norm ?_)
  refine At.seq ?_
  obtain ⟨y6, hy6, h⟩ := bind_some h
  refine At.region_end [2, 3, 4] [0, 1, 2, 3, 4, 5, 7] _ (st' := ⟨[(2, .ptr 2 0), (3, .ptr 3 0), (4, .ptr 4 0)], [.blk 89 (T_wire_Reader.pvs y6.2), .ghost (gv 0) (.ptr 0 0), .blk 25 [i64 0, i64 0, i64 0, i64 0, i64 0, .d (.list true 0 []), .d (.list true 0 [])], .blk 94 [.ptr 0 0], .blk 25 [i64 y4.2.Now, i64 y4.2.Since, i64 y4.2.Halt, i64 y4.2.Fault, i64 y4.2.Who, .row 5 (y4.2.Procs).length, .row 6 (y6.1).length], .row 70 11 (encL T_api_Proc.enc y4.2.Procs), .row 3 1 (encL (eInt .i64) y6.1)]⟩) (tips := [(2, { pc := some { ρ := [0, 7], n0 := 1, res := .row 1 (y6.1).length, σ' := [.blk 89 (T_wire_Reader.pvs y6.2), .row 3 1 (encL (eInt .i64) y6.1)], e := [1] } })]) (by kernel_rfl) (allc (C_wire_Reader_Ints 1048576 y4.1 y6 hy6) all0) (norm ?_)
  refine At.seq ?_
  refine At.seq ?_
  obtain ⟨y11, hy11, h⟩ := bind_some h
  refine At.region_end [2, 4, 25] [0, 1, 2, 4, 5, 6] _ (st' := ⟨[(2, .ptr 2 0), (4, .ptr 3 0), (25, bo (y11 != 0))], [.blk 89 (T_wire_Reader.pvs y6.2), .ghost (gv 0) (.ptr 0 0), .blk 25 [i64 0, i64 0, i64 0, i64 0, i64 0, .d (.list true 0 []), .d (.list true 0 [])], .blk 25 [i64 y4.2.Now, i64 y4.2.Since, i64 y4.2.Halt, i64 y4.2.Fault, i64 y4.2.Who, .row 4 (y4.2.Procs).length, .row 5 (y6.1).length], .row 70 11 (encL T_api_Proc.enc y4.2.Procs), .row 3 1 (encL (eInt .i64) y6.1)]⟩) (tips := [(2, { pc := some { ρ := [0], n0 := 1, res := i64 y11, σ' := [.blk 89 (T_wire_Reader.pvs y6.2)], e := [1] } })]) (by kernel_rfl) (allc (C_wire_Reader_Err y6.2 y11 hy11) all0) (norm ?_)
  refine At.cond (y11 != 0) (by kernel_rfl) (fun b12 => ?_) (fun b12 => ?_)
  · replace h := cond_t b12 h
    refine At.seq ?_
    refine At.region_end [2] [0, 1, 2] _ (st' := ⟨[(2, .ptr 2 0)], [.blk 89 (T_wire_Reader.pvs y6.2), .ghost (gv 0) (.ptr 0 0), .blk 25 [i64 0, i64 0, i64 0, i64 0, i64 0, .d (.list true 0 []), .d (.list true 0 [])]]⟩) (tips := []) (by kernel_rfl) all0 (norm ?_)
    refine At.edNar [.loO 2] [2] [0, 1, 2] (st' := ⟨[(2, .ptr 2 0)], [.blk 89 (T_wire_Reader.pvs y6.2), .ghost (gv 0) (.ptr 0 0), .blk 25 [i64 0, i64 0, i64 0, i64 0, i64 0, lv T_api_Proc.enc ([] : List T_api_Proc), lv (eInt .i64) ([] : List Int)]]⟩) (by kernel_rfl) ?_
    obtain rfl := some_eq h
    exact At.ret fun a w hs => ret_ok hR (ρ := [0]) (gs := [.ghost (gv 0) (.ptr 0 0)]) (by kernel_rfl) all0 (by kernel_rfl) rfl rfl a w hs _ (.inl rfl)
  · replace h := cond_f b12 h
    refine At.nar [2, 4] [0, 1, 2, 3, 4, 5] (st' := ⟨[(2, .ptr 2 0), (4, .ptr 3 0)], [.blk 89 (T_wire_Reader.pvs y6.2), .ghost (gv 0) (.ptr 0 0), .blk 25 [i64 0, i64 0, i64 0, i64 0, i64 0, .d (.list true 0 []), .d (.list true 0 [])], .blk 25 [i64 y4.2.Now, i64 y4.2.Since, i64 y4.2.Halt, i64 y4.2.Fault, i64 y4.2.Who, .row 4 (y4.2.Procs).length, .row 5 (y6.1).length], .row 70 11 (encL T_api_Proc.enc y4.2.Procs), .row 3 1 (encL (eInt .i64) y6.1)]⟩) (by kernel_rfl) ?_
    refine At.skip (norm ?_)
    refine At.seq ?_
    refine At.region_end [2] [0, 1, 2, 4, 5] _ (st' := ⟨[(2, .ptr 2 0)], [.blk 89 (T_wire_Reader.pvs y6.2), .ghost (gv 0) (.ptr 0 0), .blk 25 [i64 y4.2.Now, i64 y4.2.Since, i64 y4.2.Halt, i64 y4.2.Fault, i64 y4.2.Who, .row 3 (y4.2.Procs).length, .row 4 (y6.1).length], .row 70 11 (encL T_api_Proc.enc y4.2.Procs), .row 3 1 (encL (eInt .i64) y6.1)]⟩) (tips := []) (by kernel_rfl) all0 (norm ?_)
    refine At.edNar [.settle 3, .settle 4] [2] [0, 1, 2] (st' := ⟨[(2, .ptr 2 0)], [.blk 89 (T_wire_Reader.pvs y6.2), .ghost (gv 0) (.ptr 0 0), .blk 25 [i64 y4.2.Now, i64 y4.2.Since, i64 y4.2.Halt, i64 y4.2.Fault, i64 y4.2.Who, lv T_api_Proc.enc y4.2.Procs, lv (eInt .i64) y6.1]]⟩) (by kernel_rfl) ?_
    obtain rfl := some_eq h
    exact At.ret fun a w hs => ret_ok hR (ρ := [0]) (gs := [.ghost (gv 0) (.ptr 0 0)]) (by kernel_rfl) all0 (by kernel_rfl) rfl rfl a w hs _ (.inl rfl)
set_option maxRecDepth 100000 in
theorem C_wire_Reader_Left (o0 : T_wire_Reader) (r : Int) (h : F_wire_Reader_Left o0 = some r) : FnOK Try.prog 23 [.ptr 0 0] [.blk 89 (T_wire_Reader.pvs o0)] (i64 r) [.blk 89 (T_wire_Reader.pvs o0)] [1] := by
  rw [F_wire_Reader_Left] at h
  refine FnOK.intro Try.func23 rfl (by kernel_rfl) (by kernel_rfl) fun E gv R hR => ?_
  refine At.seq ?_
  refine At.region_end [0] [0, 1] _ (st' := ⟨[(0, .ptr 0 0)], [.blk 89 (T_wire_Reader.pvs o0), .ghost (gv 0) (.ptr 0 0)]⟩) (tips := []) (by kernel_rfl) all0 (norm ?_)
  refine At.seq ?_
  refine At.seq ?_
  refine At.region_end [0, 4] [0, 1] _ (st' := ⟨[(0, .ptr 0 0), (4, bo false)], [.blk 89 (T_wire_Reader.pvs o0), .ghost (gv 0) (.ptr 0 0)]⟩) (tips := []) (by kernel_rfl) all0 (norm ?_)
  refine At.cond false (by kernel_rfl) (fun hb => by cases hb) (fun _ => ?_)
  refine At.nar [0] [0, 1] (st' := ⟨[(0, .ptr 0 0)], [.blk 89 (T_wire_Reader.pvs o0), .ghost (gv 0) (.ptr 0 0)]⟩) (by kernel_rfl) ?_
  refine At.skip (norm ?_)
  refine At.seq ?_
  refine At.region_end [2] [0, 1] _ (st' := ⟨[(2, i64 (o0.s.size : Int))], [.blk 89 (T_wire_Reader.pvs o0), .ghost (gv 0) (.ptr 0 0)]⟩) (tips := []) (by kernel_rfl) all0 (norm ?_)
  obtain rfl := some_eq h
  exact At.ret fun a w hs => ret_ok hR (ρ := [0]) (gs := [.ghost (gv 0) (.ptr 0 0)]) (by kernel_rfl) all0 (by kernel_rfl) rfl rfl a w hs _ (.inl rfl)
set_option maxRecDepth 100000 in
theorem C_wire_Reader_End (o0 : T_wire_Reader) (r : Int) (h : F_wire_Reader_End o0 = some r) : FnOK Try.prog 44 [.ptr 0 0] [.blk 89 (T_wire_Reader.pvs o0)] (i64 r) [.blk 89 (T_wire_Reader.pvs o0)] [1] := by
  rw [F_wire_Reader_End] at h
  refine FnOK.intro Try.func44 rfl (by kernel_rfl) (by kernel_rfl) fun E gv R hR => ?_
  refine At.seq ?_
  refine At.region_end [0] [0, 1] _ (st' := ⟨[(0, .ptr 0 0)], [.blk 89 (T_wire_Reader.pvs o0), .ghost (gv 0) (.ptr 0 0)]⟩) (tips := []) (by kernel_rfl) all0 (norm ?_)
  refine At.seq ?_
  refine At.seq ?_
  obtain ⟨y10, hy10, h⟩ := bind_some h
  refine At.region_end [0, 3] [0, 1] _ (st' := ⟨[(0, .ptr 0 0), (3, i64 y10)], [.blk 89 (T_wire_Reader.pvs o0), .ghost (gv 0) (.ptr 0 0)]⟩) (tips := [(1, { pc := some { ρ := [0], n0 := 1, res := i64 y10, σ' := [.blk 89 (T_wire_Reader.pvs o0)], e := [1] } })]) (by kernel_rfl) (allc (C_wire_Reader_Err o0 y10 hy10) all0) (norm ?_)
  refine At.seqJ (S := Bool) (fun s => ⟨[(3, i64 y10), (12, bo s)], [.blk 89 (T_wire_Reader.pvs o0), .ghost (gv 0) (.ptr 0 0)]⟩) (fun s => F_wire_Reader_End_J1 y10 s = some r) ?_ ?_
  · rcases tf (y10 != 0) with b15 | b15
    · replace h := cond_t b15 h
      refine At.region_end [3, 12] [0, 1] _ (st' := ⟨[(3, i64 y10), (12, bo true)], [.blk 89 (T_wire_Reader.pvs o0), .ghost (gv 0) (.ptr 0 0)]⟩) (tips := [(2, { orc := .val (.bool true) })]) (by kernel_rfl) (allc (congrArg D.bool b15) all0) (fun a w hs => ⟨true, h, hs⟩)
    · replace h := cond_f b15 h
      obtain ⟨y16, hy16, h⟩ := bind_some h
      refine At.region_end [3, 12] [0, 1] _ (st' := ⟨[(3, i64 y10), (12, bo (y16 == 0))], [.blk 89 (T_wire_Reader.pvs o0), .ghost (gv 0) (.ptr 0 0)]⟩) (tips := [(2, { orc := .val (.bool false) }), (4, { pc := some { ρ := [0], n0 := 1, res := i64 y16, σ' := [.blk 89 (T_wire_Reader.pvs o0)], e := [1] } })]) (by kernel_rfl) (allc (congrArg D.bool b15) (allc (C_wire_Reader_Left o0 y16 hy16) all0)) (fun a w hs => ⟨(y16 == 0), h, hs⟩)
  · intro x13 h
    replace h : F_wire_Reader_End_J1 y10 x13 = some r := h
    rw [F_wire_Reader_End_J1] at h
    refine At.cond x13 (by kernel_rfl) (fun b14 => ?_) (fun b14 => ?_)
    · replace h := cond_t b14 h
      refine At.seq ?_
      refine At.region_end [2] [0, 1] _ (st' := ⟨[(2, i64 y10)], [.blk 89 (T_wire_Reader.pvs o0), .ghost (gv 0) (.ptr 0 0)]⟩) (tips := []) (by kernel_rfl) all0 (norm ?_)
      obtain rfl := some_eq h
      exact At.ret fun a w hs => ret_ok hR (ρ := [0]) (gs := [.ghost (gv 0) (.ptr 0 0)]) (by kernel_rfl) all0 (by kernel_rfl) rfl rfl a w hs _ (.inl rfl)
    · replace h := cond_f b14 h
      refine At.nar [] [0, 1] (st' := ⟨[], [.blk 89 (T_wire_Reader.pvs o0), .ghost (gv 0) (.ptr 0 0)]⟩) (by kernel_rfl) ?_
      refine At.skip (norm ?_)
      refine At.seq ?_
      refine At.region_end [2] [0, 1] _ (st' := ⟨[(2, i64 3)], [.blk 89 (T_wire_Reader.pvs o0), .ghost (gv 0) (.ptr 0 0)]⟩) (tips := []) (by kernel_rfl) all0 (norm ?_)
      obtain rfl := some_eq h
      exact At.ret fun a w hs => ret_ok hR (ρ := [0]) (gs := [.ghost (gv 0) (.ptr 0 0)]) (by kernel_rfl) all0 (by kernel_rfl) rfl rfl a w hs _ (.inl rfl)
set_option maxRecDepth 100000 in
theorem C_dump_Get (p0 : ByteArray) (r : T_api_State × Int) (h : F_dump_Get p0 = some r) : FnOK Try.prog 14 [sv p0] [] (.tup [.agg (T_api_State.pvs r.1), i64 r.2]) [] [] := by
  rw [F_dump_Get] at h
  refine FnOK.intro Try.func14 rfl (by kernel_rfl) (by kernel_rfl) fun E gv R hR => ?_
  refine At.seq ?_
  refine At.region_end [0, 2] [0] _ (st' := ⟨[(0, sv p0), (2, .ptr 0 0)], [.blk 25 [i64 0, i64 0, i64 0, i64 0, i64 0, .d (.list true 0 []), .d (.list true 0 [])]]⟩) (tips := []) (by kernel_rfl) all0 (norm ?_)
  refine At.seq ?_
  obtain ⟨y2, hy2, h⟩ := bind_some h
  refine At.region_end [2, 4] [0, 1] _ (st' := ⟨[(2, .ptr 0 0), (4, .ptr 1 0)], [.blk 25 [i64 0, i64 0, i64 0, i64 0, i64 0, .d (.list true 0 []), .d (.list true 0 [])], .blk 89 (T_wire_Reader.pvs y2)]⟩) (tips := [(1, { pc := some { ρ := [1], n0 := 0, res := .ptr 0 0, σ' := [.blk 89 (T_wire_Reader.pvs y2)], e := [] } })]) (by kernel_rfl) (allc (C_wire_Open p0 y2 hy2) all0) (norm ?_)
  refine At.seq ?_
  obtain ⟨y4, hy4, h⟩ := bind_some h
  refine At.region_end [2, 4, 5] [0, 1, 2] _ (st' := ⟨[(2, .ptr 0 0), (4, .ptr 1 0), (5, .ptr 2 0)], [.blk 25 [i64 0, i64 0, i64 0, i64 0, i64 0, .d (.list true 0 []), .d (.list true 0 [])], .blk 89 (T_wire_Reader.pvs y4.2), .blk 25 (T_api_State.pvs y4.1)]⟩) (tips := [(1, { pc := some { ρ := [1], n0 := 1, res := .agg (T_api_State.pvs y4.1), σ' := [.blk 89 (T_wire_Reader.pvs y4.2)], e := [1] } })]) (by kernel_rfl) (allc (C_dump_Read y2 y4 hy4) all0) (norm ?_)
  refine At.seq ?_
  refine At.seq ?_
  obtain ⟨y9, hy9, h⟩ := bind_some h
  refine At.region_end [2, 5, 6] [0, 2] _ (st' := ⟨[(2, .ptr 0 0), (5, .ptr 1 0), (6, i64 y9)], [.blk 25 [i64 0, i64 0, i64 0, i64 0, i64 0, .d (.list true 0 []), .d (.list true 0 [])], .blk 25 (T_api_State.pvs y4.1)]⟩) (tips := [(1, { pc := some { ρ := [1], n0 := 1, res := i64 y9, σ' := [.blk 89 (T_wire_Reader.pvs y4.2)], e := [1] } })]) (by kernel_rfl) (allc (C_wire_Reader_End y4.2 y9 hy9) all0) (norm ?_)
  refine At.seq ?_
  refine At.region_end [2, 5, 6, 14] [0, 1] _ (st' := ⟨[(2, .ptr 0 0), (5, .ptr 1 0), (6, i64 y9), (14, bo (y9 != 0))], [.blk 25 [i64 0, i64 0, i64 0, i64 0, i64 0, .d (.list true 0 []), .d (.list true 0 [])], .blk 25 (T_api_State.pvs y4.1)]⟩) (tips := []) (by kernel_rfl) all0 (norm ?_)
  refine At.cond (y9 != 0) (by kernel_rfl) (fun b10 => ?_) (fun b10 => ?_)
  · replace h := cond_t b10 h
    refine At.seq ?_
    refine At.region_end [2, 3] [0] _ (st' := ⟨[(2, .ptr 0 0), (3, i64 y9)], [.blk 25 [i64 0, i64 0, i64 0, i64 0, i64 0, .d (.list true 0 []), .d (.list true 0 [])]]⟩) (tips := []) (by kernel_rfl) all0 (norm ?_)
    refine At.edNar [.loO 0] [2, 3] [0] (st' := ⟨[(2, .ptr 0 0), (3, i64 y9)], [.blk 25 [i64 0, i64 0, i64 0, i64 0, i64 0, lv T_api_Proc.enc ([] : List T_api_Proc), lv (eInt .i64) ([] : List Int)]]⟩) (by kernel_rfl) ?_
    obtain rfl := some_eq h
    exact At.ret fun a w hs => ret_ok hR (ρ := []) (gs := []) (by kernel_rfl) all0 (by kernel_rfl) rfl rfl a w hs _ (.inl rfl)
  · replace h := cond_f b10 h
    refine At.nar [2, 5] [0, 1] (st' := ⟨[(2, .ptr 0 0), (5, .ptr 1 0)], [.blk 25 [i64 0, i64 0, i64 0, i64 0, i64 0, .d (.list true 0 []), .d (.list true 0 [])], .blk 25 (T_api_State.pvs y4.1)]⟩) (by kernel_rfl) ?_
    refine At.skip (norm ?_)
    refine At.seq ?_
    refine At.region_end [2, 3] [0] _ (st' := ⟨[(2, .ptr 0 0), (3, i64 0)], [.blk 25 (T_api_State.pvs y4.1)]⟩) (tips := []) (by kernel_rfl) all0 (norm ?_)
    obtain rfl := some_eq h
    exact At.ret fun a w hs => ret_ok hR (ρ := []) (gs := []) (by kernel_rfl) all0 (by kernel_rfl) rfl rfl a w hs _ (.inl rfl)
end Go.Ab
