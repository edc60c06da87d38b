import Derived.Test.YthjalpodmnagnaaGDm1
namespace Go.Ab
open Go.Proofs
set_option linter.unusedVariables false
set_option maxRecDepth 100000 in
theorem C_dump_Put_v2 (p0 : T_api_State) (r : ByteArray) (h : F_dump_Put_v2 p0 = some r) : FnOK Try.prog 13 [.agg (T_api_State.pvs p0)] [] (sv r) [] [] := by
  rw [F_dump_Put_v2] at h
  refine FnOK.intro Try.func13 rfl (by kernel_rfl) (by kernel_rfl) fun E gv R hR => ?_
  refine At.seq ?_
  refine At.region_end [1] [0] _ (st' := ⟨[(1, .ptr 0 0)], [.blk 25 (T_api_State.pvs p0)]⟩) (tips := []) (by kernel_rfl) all0 (norm ?_)
  refine At.seq ?_
  refine At.region_end [1, 3] [0, 2, 1] _ (st' := ⟨[(1, .ptr 0 0), (3, .ptr 1 0)], [.blk 25 (T_api_State.pvs p0), .blk 76 [.ptr 2 0], .blk 74 [.d (.list true 0 [])]]⟩) (tips := []) (by kernel_rfl) all0 (norm ?_)
  refine At.seq ?_
  refine At.eds [.ownO 2 0 5 1] (st' := ⟨[(1, .ptr 0 0), (3, .ptr 1 0)], [.blk 25 (T_api_State.pvs p0), .blk 76 [.ptr 2 0], .blk 74 [.row 3 ([] : List Int).length], .row 5 1 (encL (eInt .u8) ([]))]⟩) (by kernel_rfl) ?_
  obtain ⟨y2, hy2, h⟩ := bind_some h
  refine At.region_end [1, 3] [0, 1, 2, 3] _ (st' := ⟨[(1, .ptr 0 0), (3, .ptr 1 0)], [.blk 25 (T_api_State.pvs p0), .blk 76 [.ptr 2 0], .blk 74 [.row 3 (y2.s).length], .row 5 1 (encL (eInt .u8) y2.s)]⟩) (tips := [(12, { pc := some { ρ := [2, 3, 4], n0 := 3, res := .tup [], σ' := [.blk 74 [.row 1 (y2.s).length], .row 5 1 (encL (eInt .u8) y2.s), .row 3 1 (encL (eInt .i64) ([p0.Now, p0.Since, p0.Halt, p0.Fault, p0.Who]))], e := [1, 2, 3, 4] } })]) (by kernel_rfl) (allc (C_dump_writer_ints (⟨([] : List Int)⟩ : T_wire_Writer) ([p0.Now, p0.Since, p0.Halt, p0.Fault, p0.Who]) y2 hy2) all0) (norm ?_)
  refine At.seq ?_
  obtain ⟨y4, hy4, h⟩ := bind_some h
  refine At.region_end [1, 3] [0, 1, 2, 3] _ (st' := ⟨[(1, .ptr 0 0), (3, .ptr 1 0)], [.blk 25 (T_api_State.pvs p0), .blk 76 [.ptr 2 0], .blk 74 [.row 3 (y4.s).length], .row 5 1 (encL (eInt .u8) y4.s)]⟩) (tips := [(6, { pc := some { ρ := [2, 3], n0 := 2, res := .tup [], σ' := [.blk 74 [.row 1 (y4.s).length], .row 5 1 (encL (eInt .u8) y4.s)], e := [1, 2, 3] } })]) (by kernel_rfl) (allc (C_wire_Writer_Num (wu64 ((p0.Procs).length : Int)) y2 y4 hy4) all0) (norm ?_)
  refine At.seq ?_
  refine At.seq ?_
  refine At.region_end [1, 3, 30, 31, 32] [0, 1, 2, 3] _ (st' := ⟨[(1, .ptr 0 0), (3, .ptr 1 0), (30, lv T_api_Proc.enc p0.Procs), (31, i64 ((p0.Procs).length : Int)), (32, i64 0)], [.blk 25 (T_api_State.pvs p0), .blk 76 [.ptr 2 0], .blk 74 [.row 3 (y4.s).length], .row 5 1 (encL (eInt .u8) y4.s)]⟩) (tips := []) (by kernel_rfl) all0 (norm ?_)
  refine At.block ?_
  refine At.loop (fun s : (Int × (List Int)) => F_dump_Put_v2_L1 p0 s.1 s.2) (fun s : (Int × (List Int)) => ⟨[(1, .ptr 0 0), (3, .ptr 1 0), (30, lv T_api_Proc.enc p0.Procs), (31, i64 ((p0.Procs).length : Int)), (32, i64 s.1)], [.blk 25 (T_api_State.pvs p0), .blk 76 [.ptr 2 0], .blk 74 [.row 3 (s.2).length], .row 5 1 (encL (eInt .u8) s.2)]⟩) r (0, y4.s) h ?_
  rintro ⟨x19, x20⟩ oo21 h f22
  replace h : F_dump_Put_v2_L1 p0 x19 x20 = some oo21 := h
  rw [F_dump_Put_v2_L1] at h
  refine At.seq ?_
  refine At.region_end [1, 3, 30, 31, 32, 33] [0, 1, 2, 3] _ (st' := ⟨[(1, .ptr 0 0), (3, .ptr 1 0), (30, lv T_api_Proc.enc p0.Procs), (31, i64 ((p0.Procs).length : Int)), (32, i64 x19), (33, bo (decide (x19 < ((p0.Procs).length : Int))))], [.blk 25 (T_api_State.pvs p0), .blk 76 [.ptr 2 0], .blk 74 [.row 3 (x20).length], .row 5 1 (encL (eInt .u8) x20)]⟩) (tips := []) (by kernel_rfl) all0 (norm ?_)
  refine At.seq ?_
  refine At.cond (decide (x19 < ((p0.Procs).length : Int))) (by kernel_rfl) (fun b24 => ?_) (fun b24 => ?_)
  · replace h := cond_t b24 h
    refine At.nar [1, 3, 30, 31, 32] [0, 1, 2, 3] (st' := ⟨[(1, .ptr 0 0), (3, .ptr 1 0), (30, lv T_api_Proc.enc p0.Procs), (31, i64 ((p0.Procs).length : Int)), (32, i64 x19)], [.blk 25 (T_api_State.pvs p0), .blk 76 [.ptr 2 0], .blk 74 [.row 3 (x20).length], .row 5 1 (encL (eInt .u8) x20)]⟩) (by kernel_rfl) ?_
    refine At.skip (norm ?_)
    refine At.seq ?_
    refine At.block ?_
    refine At.seq ?_
    obtain ⟨y29, hy29, h⟩ := bind_some h
    refine At.region_end [1, 3, 5, 30, 31, 32] [0, 1, 2, 3, 4] _ (st' := ⟨[(1, .ptr 0 0), (3, .ptr 1 0), (5, .ptr 4 0), (30, lv T_api_Proc.enc p0.Procs), (31, i64 ((p0.Procs).length : Int)), (32, i64 x19)], [.blk 25 (T_api_State.pvs p0), .blk 76 [.ptr 2 0], .blk 74 [.row 3 (x20).length], .row 5 1 (encL (eInt .u8) x20), .blk 70 (T_api_Proc.pvs y29)]⟩) (tips := [(0, { orc := .cells (T_api_Proc.enc y29) })]) (by kernel_rfl) (allc (elemAt_of T_api_Proc.enc_len hy29) all0) (norm ?_)
    obtain ⟨y30, hy30, h⟩ := bind_some h
    refine At.region_end [1, 3, 30, 31, 32] [0, 1, 2, 3] _ (st' := ⟨[(1, .ptr 0 0), (3, .ptr 1 0), (30, lv T_api_Proc.enc p0.Procs), (31, i64 ((p0.Procs).length : Int)), (32, i64 x19)], [.blk 25 (T_api_State.pvs p0), .blk 76 [.ptr 2 0], .blk 74 [.row 3 (y30.s).length], .row 5 1 (encL (eInt .u8) y30.s)]⟩) (tips := [(2, { pc := some { ρ := [2, 3], n0 := 2, res := .tup [], σ' := [.blk 74 [.row 1 (y30.s).length], .row 5 1 (encL (eInt .u8) y30.s)], e := [1, 2, 3] } })]) (by kernel_rfl) (allc (C_dump_writer_proc y29 (⟨x20⟩ : T_wire_Writer) y30 hy30) all0) (norm ?_)
    refine At.region_end [1, 3, 30, 31, 32] [0, 1, 2, 3] _ (st' := ⟨[(1, .ptr 0 0), (3, .ptr 1 0), (30, lv T_api_Proc.enc p0.Procs), (31, i64 ((p0.Procs).length : Int)), (32, i64 (w64 (x19 + 1)))], [.blk 25 (T_api_State.pvs p0), .blk 76 [.ptr 2 0], .blk 74 [.row 3 (y30.s).length], .row 5 1 (encL (eInt .u8) y30.s)]⟩) (tips := []) (by kernel_rfl) all0 (fun a w hs => ⟨_, (some_eq h).symm, hs⟩)
  · replace h := cond_f b24 h
    refine At.nar [1, 3] [0, 1, 2, 3] (st' := ⟨[(1, .ptr 0 0), (3, .ptr 1 0)], [.blk 25 (T_api_State.pvs p0), .blk 76 [.ptr 2 0], .blk 74 [.row 3 (x20).length], .row 5 1 (encL (eInt .u8) x20)]⟩) (by kernel_rfl) ?_
    obtain ⟨r31, h, e32⟩ := map_inr h
    rw [f22 _ e32] at h
    refine At.exit (norm ?_)
    refine At.seq ?_
    obtain ⟨y34, hy34, h⟩ := bind_some h
    refine At.region_end [3] [1, 2, 3] _ (st' := ⟨[(3, .ptr 0 0)], [.blk 76 [.ptr 1 0], .blk 74 [.row 2 (y34.s).length], .row 5 1 (encL (eInt .u8) y34.s)]⟩) (tips := [(4, { pc := some { ρ := [2, 3], n0 := 2, res := .tup [], σ' := [.blk 74 [.row 1 (y34.s).length], .row 5 1 (encL (eInt .u8) y34.s)], e := [1, 2, 3] } })]) (by kernel_rfl) (allc (C_wire_Writer_Ints p0.Out (⟨x20⟩ : T_wire_Writer) y34 hy34) all0) (norm ?_)
    refine At.seq ?_
    obtain ⟨y36, hy36, h⟩ := bind_some h
    refine At.region_end [2] [] _ (st' := ⟨[(2, sv y36)], []⟩) (tips := [(2, { pc := some { ρ := [1, 2], n0 := 2, res := sv y36, σ' := [.blk 74 [.row 1 (y34.s).length], .row 5 1 (encL (eInt .u8) y34.s)], e := [1, 2] } })]) (by kernel_rfl) (allc (C_wire_Writer_Bytes y34 y36 hy36) all0) (norm ?_)
    obtain rfl := some_eq h
    exact At.ret fun a w hs => ret_ok hR (ρ := []) (gs := []) (by kernel_rfl) all0 (by kernel_rfl) rfl rfl a w hs _ (.inl rfl)
set_option maxRecDepth 100000 in
theorem C_retracelaw30_live  (r : Bool) (h : F_retracelaw30_live  = some r) : FnOK Try.prog 12 [] [] (bo r) [] [] := by
  rw [F_retracelaw30_live] at h
  refine FnOK.intro Try.func12 rfl (by kernel_rfl) (by kernel_rfl) fun E gv R hR => ?_
  refine At.seq ?_
  refine At.region_end [] [] _ (st' := ⟨[], []⟩) (tips := []) (by kernel_rfl) all0 (norm ?_)
  refine At.seq ?_
  obtain ⟨y3, hy3, h⟩ := bind_some h
  obtain ⟨y4, hy4, h⟩ := bind_some h
  refine At.region_end [1, 2] [1] _ (st' := ⟨[(1, .ptr 0 0), (2, i64 y4.2)], [.blk 25 (T_api_State.pvs y4.1)]⟩) (tips := [(2, { pc := some { ρ := [0], n0 := 1, res := sv y3, σ' := [.dead], e := [0, 1] } }), (3, { pc := some { ρ := [], n0 := 0, res := .tup [.agg (T_api_State.pvs y4.1), i64 y4.2], σ' := [], e := [] } })]) (by kernel_rfl) (allc (C_dump_Put 3 0 0 0 0 ([] : List T_api_Proc) ([4]) y3 hy3) (allc (C_dump_Get y3 y4 hy4) all0)) (norm ?_)
  refine At.seqJ (S := Bool) (fun s => ⟨[(0, bo s)], []⟩) (fun s => F_retracelaw30_live_J1 s = some r) ?_ ?_
  · obtain ⟨y10, hy10, h⟩ := bind_some h
    rcases tf (y10.toList == (⟨#[0, 0, 0, 0, 0, 0, 0]⟩ : ByteArray).toList) with b11 | b11
    · replace h := cond_t b11 h
      rcases tf (y4.1.Now == 3) with b12 | b12
      · replace h := cond_t b12 h
        rcases tf (((y4.1.Out).length : Int) == 1) with b13 | b13
        · replace h := cond_t b13 h
          refine At.region_end [0] [] _ (st' := ⟨[(0, bo (y4.2 == 0))], []⟩) (tips := [(1, { pc := some { ρ := [], n0 := 0, res := sv y10, σ' := [], e := [] } }), (3, { orc := .val (.bool true) }), (8, { orc := .val (.bool true) }), (14, { orc := .val (.bool true) })]) (by kernel_rfl) (allc (C_dump_Put_v2 (⟨0, 0, 0, 0, 0, ([] : (List T_api_Proc)), ([] : (List Int))⟩ : T_api_State) y10 hy10) (allc (congrArg D.bool b11) (allc (congrArg D.bool b12) (allc (congrArg D.bool b13) all0)))) (fun a w hs => ⟨(y4.2 == 0), h, hs⟩)
        · replace h := cond_f b13 h
          refine At.region_end [0] [] _ (st' := ⟨[(0, bo false)], []⟩) (tips := [(1, { pc := some { ρ := [], n0 := 0, res := sv y10, σ' := [], e := [] } }), (3, { orc := .val (.bool true) }), (8, { orc := .val (.bool true) }), (14, { orc := .val (.bool false) })]) (by kernel_rfl) (allc (C_dump_Put_v2 (⟨0, 0, 0, 0, 0, ([] : (List T_api_Proc)), ([] : (List Int))⟩ : T_api_State) y10 hy10) (allc (congrArg D.bool b11) (allc (congrArg D.bool b12) (allc (congrArg D.bool b13) all0)))) (fun a w hs => ⟨false, h, hs⟩)
      · replace h := cond_f b12 h
        refine At.region_end [0] [] _ (st' := ⟨[(0, bo false)], []⟩) (tips := [(1, { pc := some { ρ := [], n0 := 0, res := sv y10, σ' := [], e := [] } }), (3, { orc := .val (.bool true) }), (8, { orc := .val (.bool false) })]) (by kernel_rfl) (allc (C_dump_Put_v2 (⟨0, 0, 0, 0, 0, ([] : (List T_api_Proc)), ([] : (List Int))⟩ : T_api_State) y10 hy10) (allc (congrArg D.bool b11) (allc (congrArg D.bool b12) all0))) (fun a w hs => ⟨false, h, hs⟩)
    · replace h := cond_f b11 h
      refine At.region_end [0] [] _ (st' := ⟨[(0, bo false)], []⟩) (tips := [(1, { pc := some { ρ := [], n0 := 0, res := sv y10, σ' := [], e := [] } }), (3, { orc := .val (.bool false) })]) (by kernel_rfl) (allc (C_dump_Put_v2 (⟨0, 0, 0, 0, 0, ([] : (List T_api_Proc)), ([] : (List Int))⟩ : T_api_State) y10 hy10) (allc (congrArg D.bool b11) all0)) (fun a w hs => ⟨false, h, hs⟩)
  · intro x9 h
    replace h : F_retracelaw30_live_J1 x9 = some r := h
    rw [F_retracelaw30_live_J1] at h
    obtain rfl := some_eq h
    exact At.ret fun a w hs => ret_ok hR (ρ := []) (gs := []) (by kernel_rfl) all0 (by kernel_rfl) rfl rfl a w hs _ (.inl rfl)
set_option maxRecDepth 100000 in
theorem C_retraceref01_Zig (p0 : Int) (r : Int) (h : F_retraceref01_Zig p0 = some r) : FnOK Try.prog 73 [i64 p0] [] (u64 r) [] [] := by
  rw [F_retraceref01_Zig] at h
  refine FnOK.intro Try.func73 rfl (by kernel_rfl) (by kernel_rfl) fun E gv R hR => ?_
  refine At.seq ?_
  refine At.region_end [0] [] _ (st' := ⟨[(0, i64 p0)], []⟩) (tips := []) (by kernel_rfl) all0 (norm ?_)
  refine At.seq ?_
  refine At.seq ?_
  refine At.region_end [0, 4] [] _ (st' := ⟨[(0, i64 p0), (4, bo (decide (p0 < 0)))], []⟩) (tips := []) (by kernel_rfl) all0 (norm ?_)
  refine At.cond (decide (p0 < 0)) (by kernel_rfl) (fun b2 => ?_) (fun b2 => ?_)
  · replace h := cond_t b2 h
    refine At.seq ?_
    refine At.region_end [2] [] _ (st' := ⟨[(2, u64 (wu64 ((wu64 ((wu64 (w64 (0 - (w64 (p0 + 1))))) * 2)) + 1)))], []⟩) (tips := []) (by kernel_rfl) all0 (norm ?_)
    obtain rfl := some_eq h
    exact At.ret fun a w hs => ret_ok hR (ρ := []) (gs := []) (by kernel_rfl) all0 (by kernel_rfl) rfl rfl a w hs _ (.inl rfl)
  · replace h := cond_f b2 h
    refine At.nar [0] [] (st' := ⟨[(0, i64 p0)], []⟩) (by kernel_rfl) ?_
    refine At.skip (norm ?_)
    refine At.seq ?_
    refine At.region_end [2] [] _ (st' := ⟨[(2, u64 (wu64 ((wu64 p0) * 2)))], []⟩) (tips := []) (by kernel_rfl) all0 (norm ?_)
    obtain rfl := some_eq h
    exact At.ret fun a w hs => ret_ok hR (ρ := []) (gs := []) (by kernel_rfl) all0 (by kernel_rfl) rfl rfl a w hs _ (.inl rfl)
set_option maxRecDepth 100000 in
theorem C_retraceref01_Num_B (self : Int → Option (ByteArray)) (hself : ∀ (p0 : Int) (r : ByteArray), self p0 = some r → FnOK Try.prog 46 [u64 p0] [] (sv r) [] []) (p0 : Int) (r : ByteArray) (h : F_retraceref01_Num_B self p0 = some r) : FnOK Try.prog 46 [u64 p0] [] (sv r) [] [] := by
  rw [F_retraceref01_Num_B] at h
  refine FnOK.intro Try.func46 rfl (by kernel_rfl) (by kernel_rfl) fun E gv R hR => ?_
  refine At.seq ?_
  refine At.region_end [0] [] _ (st' := ⟨[(0, u64 p0)], []⟩) (tips := []) (by kernel_rfl) all0 (norm ?_)
  refine At.seq ?_
  refine At.seq ?_
  refine At.region_end [0, 4] [] _ (st' := ⟨[(0, u64 p0), (4, bo (decide (p0 < 128)))], []⟩) (tips := []) (by kernel_rfl) all0 (norm ?_)
  refine At.cond (decide (p0 < 128)) (by kernel_rfl) (fun b2 => ?_) (fun b2 => ?_)
  · replace h := cond_t b2 h
    refine At.seq ?_
    refine At.region_end [2] [] _ (st' := ⟨[(2, sv (strOfNums ([(wu8 p0)])))], []⟩) (tips := [(3, { orc := .nums ([(wu8 p0)]) })]) (by kernel_rfl) (allc (encL_map .u8 ([(wu8 p0)])) (allc (rfl : (([(wu8 p0)])).length = (([(wu8 p0)])).length) all0)) (norm ?_)
    obtain rfl := some_eq h
    exact At.ret fun a w hs => ret_ok hR (ρ := []) (gs := []) (by kernel_rfl) all0 (by kernel_rfl) rfl rfl a w hs _ (.inl rfl)
  · replace h := cond_f b2 h
    refine At.nar [0] [] (st' := ⟨[(0, u64 p0)], []⟩) (by kernel_rfl) ?_
    refine At.skip (norm ?_)
    refine At.seq ?_
    obtain ⟨y5, hy5, h⟩ := bind_some h
    obtain ⟨g6, h⟩ := grd_some h
    refine At.draw_end mixedOrd 1 [2] [] _ (st' := ⟨[(2, sv ((strOfNums ([(wu8 ((wu8 (Int.tmod p0 128)) + 128))])) ++ y5))], []⟩) (tips := [(5, { tip := { orc := .nums ([(wu8 ((wu8 (Int.tmod p0 128)) + 128))]) }, T := [0], r := 1 }), (8, { tip := { pc := some { ρ := [], n0 := 0, res := sv y5, σ' := [], e := [] } }, r := 1 })]) (by kernel_rfl) (allc (by decide : 128 ≠ (0:Int)) (allc (encL_map .u8 ([(wu8 ((wu8 (Int.tmod p0 128)) + 128))])) (allc (rfl : (([(wu8 ((wu8 (Int.tmod p0 128)) + 128))])).length = (([(wu8 ((wu8 (Int.tmod p0 128)) + 128))])).length) (allc (by decide : 128 ≠ (0:Int)) (allc (hself (wu64 (Int.tdiv p0 128)) y5 hy5) (allc g6 all0)))))) (norm ?_)
    obtain rfl := some_eq h
    exact At.ret fun a w hs => ret_ok hR (ρ := []) (gs := []) (by kernel_rfl) all0 (by kernel_rfl) rfl rfl a w hs _ (.inl rfl)
theorem C_retraceref01_Num_N : ∀ (n : Nat) (p0 : Int) (r : ByteArray), F_retraceref01_Num_N n p0 = some r → FnOK Try.prog 46 [u64 p0] [] (sv r) [] []
  | 0, _, _, h => by simp [F_retraceref01_Num_N] at h
  | n + 1, p0, r, h => C_retraceref01_Num_B (F_retraceref01_Num_N n) (C_retraceref01_Num_N n) p0 r h
theorem C_retraceref01_Num (p0 : Int) (r : ByteArray) (h : F_retraceref01_Num p0 = some r) : FnOK Try.prog 46 [u64 p0] [] (sv r) [] [] := by
  obtain ⟨n, h⟩ := lim_some h
  exact C_retraceref01_Num_N n p0 r h
set_option maxRecDepth 100000 in
theorem C_retraceref03_Int (p0 : Int) (r : ByteArray) (h : F_retraceref03_Int p0 = some r) : FnOK Try.prog 45 [i64 p0] [] (sv r) [] [] := by
  rw [F_retraceref03_Int] at h
  refine FnOK.intro Try.func45 rfl (by kernel_rfl) (by kernel_rfl) fun E gv R hR => ?_
  refine At.seq ?_
  refine At.region_end [0] [] _ (st' := ⟨[(0, i64 p0)], []⟩) (tips := []) (by kernel_rfl) all0 (norm ?_)
  refine At.seq ?_
  obtain ⟨y3, hy3, h⟩ := bind_some h
  obtain ⟨y4, hy4, h⟩ := bind_some h
  refine At.region_end [2] [] _ (st' := ⟨[(2, sv y4)], []⟩) (tips := [(1, { pc := some { ρ := [], n0 := 0, res := u64 y3, σ' := [], e := [] } }), (2, { pc := some { ρ := [], n0 := 0, res := sv y4, σ' := [], e := [] } })]) (by kernel_rfl) (allc (C_retraceref01_Zig p0 y3 hy3) (allc (C_retraceref01_Num y3 y4 hy4) all0)) (norm ?_)
  obtain rfl := some_eq h
  exact At.ret fun a w hs => ret_ok hR (ρ := []) (gs := []) (by kernel_rfl) all0 (by kernel_rfl) rfl rfl a w hs _ (.inl rfl)
set_option maxRecDepth 100000 in
theorem C_retraceref03_Ints (p0 : (List Int)) (r : ByteArray) (h : F_retraceref03_Ints p0 = some r) : FnOK Try.prog 48 [lv (eInt .i64) p0] [] (sv r) [] [] := by
  rw [F_retraceref03_Ints] at h
  refine FnOK.intro Try.func48 rfl (by kernel_rfl) (by kernel_rfl) fun E gv R hR => ?_
  refine At.seq ?_
  refine At.region_end [0] [] _ (st' := ⟨[(0, lv (eInt .i64) p0)], []⟩) (tips := []) (by kernel_rfl) all0 (norm ?_)
  refine At.seq ?_
  obtain ⟨y2, hy2, h⟩ := bind_some h
  refine At.region_end [0, 3] [] _ (st' := ⟨[(0, lv (eInt .i64) p0), (3, sv y2)], []⟩) (tips := [(3, { pc := some { ρ := [], n0 := 0, res := sv y2, σ' := [], e := [] } })]) (by kernel_rfl) (allc (C_retraceref01_Num (wu64 ((p0).length : Int)) y2 hy2) all0) (norm ?_)
  refine At.seq ?_
  refine At.seq ?_
  refine At.region_end [0, 3, 4] [] _ (st' := ⟨[(0, lv (eInt .i64) p0), (3, sv y2), (4, i64 0)], []⟩) (tips := []) (by kernel_rfl) all0 (norm ?_)
  refine At.block ?_
  refine At.loop (fun s : (ByteArray × Int) => F_retraceref03_Ints_L1 p0 s.1 s.2) (fun s : (ByteArray × Int) => ⟨[(0, lv (eInt .i64) p0), (3, sv s.1), (4, i64 s.2)], []⟩) r (y2, 0) h ?_
  rintro ⟨x17, x18⟩ oo19 h f20
  replace h : F_retraceref03_Ints_L1 p0 x17 x18 = some oo19 := h
  rw [F_retraceref03_Ints_L1] at h
  refine At.seq ?_
  refine At.seq ?_
  refine At.region_end [0, 3, 4, 12] [] _ (st' := ⟨[(0, lv (eInt .i64) p0), (3, sv x17), (4, i64 x18), (12, bo (decide (x18 < ((p0).length : Int))))], []⟩) (tips := []) (by kernel_rfl) all0 (norm ?_)
  refine At.cond (decide (x18 < ((p0).length : Int))) (by kernel_rfl) (fun b22 => ?_) (fun b22 => ?_)
  · replace h := cond_t b22 h
    refine At.nar [0, 3, 4] [] (st' := ⟨[(0, lv (eInt .i64) p0), (3, sv x17), (4, i64 x18)], []⟩) (by kernel_rfl) ?_
    refine At.skip (norm ?_)
    refine At.seq ?_
    refine At.block ?_
    obtain ⟨y26, hy26, h⟩ := bind_some h
    obtain ⟨y27, hy27, h⟩ := bind_some h
    obtain ⟨g28, h⟩ := grd_some h
    refine At.region_end [0, 3, 4] [] _ (st' := ⟨[(0, lv (eInt .i64) p0), (3, sv (x17 ++ y27)), (4, i64 x18)], []⟩) (tips := [(3, { orc := .cells ((eInt .i64) y26) }), (5, { pc := some { ρ := [], n0 := 0, res := sv y27, σ' := [], e := [] } })]) (by kernel_rfl) (allc (elemAt_of (he_int .i64) hy26) (allc (C_retraceref03_Int y26 y27 hy27) (allc g28 all0))) (norm ?_)
    refine At.region_end [0, 3, 4] [] _ (st' := ⟨[(0, lv (eInt .i64) p0), (3, sv (x17 ++ y27)), (4, i64 (w64 (x18 + 1)))], []⟩) (tips := []) (by kernel_rfl) all0 (fun a w hs => ⟨_, (some_eq h).symm, hs⟩)
  · replace h := cond_f b22 h
    refine At.nar [3] [] (st' := ⟨[(3, sv x17)], []⟩) (by kernel_rfl) ?_
    obtain ⟨r29, h, e30⟩ := map_inr h
    rw [f20 _ e30] at h
    refine At.exit (norm ?_)
    refine At.seq ?_
    refine At.region_end [2] [] _ (st' := ⟨[(2, sv x17)], []⟩) (tips := []) (by kernel_rfl) all0 (norm ?_)
    obtain rfl := some_eq h
    exact At.ret fun a w hs => ret_ok hR (ρ := []) (gs := []) (by kernel_rfl) all0 (by kernel_rfl) rfl rfl a w hs _ (.inl rfl)
set_option maxRecDepth 100000 in
theorem C_retraceref30_proc (p0 : T_api_Proc) (r : ByteArray) (h : F_retraceref30_proc p0 = some r) : FnOK Try.prog 47 [.agg (T_api_Proc.pvs p0)] [] (sv r) [] [] := by
  rw [F_retraceref30_proc] at h
  refine FnOK.intro Try.func47 rfl (by kernel_rfl) (by kernel_rfl) fun E gv R hR => ?_
  refine At.seq ?_
  refine At.region_end [1] [0] _ (st' := ⟨[(1, .ptr 0 0)], [.blk 70 (T_api_Proc.pvs p0)]⟩) (tips := []) (by kernel_rfl) all0 (norm ?_)
  refine At.seq ?_
  obtain ⟨y20, hy20, h⟩ := bind_some h
  obtain ⟨y21, hy21, h⟩ := bind_some h
  obtain ⟨g22, h⟩ := grd_some h
  obtain ⟨y23, hy23, h⟩ := bind_some h
  obtain ⟨g24, h⟩ := grd_some h
  obtain ⟨y25, hy25, h⟩ := bind_some h
  obtain ⟨g26, h⟩ := grd_some h
  obtain ⟨y27, hy27, h⟩ := bind_some h
  obtain ⟨g28, h⟩ := grd_some h
  obtain ⟨y29, hy29, h⟩ := bind_some h
  obtain ⟨g30, h⟩ := grd_some h
  obtain ⟨y31, hy31, h⟩ := bind_some h
  obtain ⟨g32, h⟩ := grd_some h
  obtain ⟨y33, hy33, h⟩ := bind_some h
  obtain ⟨g34, h⟩ := grd_some h
  obtain ⟨y35, hy35, h⟩ := bind_some h
  obtain ⟨g36, h⟩ := grd_some h
  obtain ⟨y37, hy37, h⟩ := bind_some h
  obtain ⟨g38, h⟩ := grd_some h
  refine At.draw_end mixedOrd 0 [1, 3] [0] _ (st' := ⟨[(1, .ptr 0 0), (3, sv (((((((((y20 ++ y21) ++ y23) ++ y25) ++ y27) ++ y29) ++ y31) ++ y33) ++ y35) ++ y37))], [.blk 70 (T_api_Proc.pvs p0)]⟩) (tips := [(0, { r := 1 }), (1, { T := [0], r := 1 }), (2, { tip := { pc := some { ρ := [], n0 := 0, res := sv y20, σ' := [], e := [] } }, r := 1 }), (3, { r := 1 }), (4, { T := [0], r := 1 }), (5, { tip := { pc := some { ρ := [], n0 := 0, res := sv y21, σ' := [], e := [] } }, r := 1 }), (7, { r := 1 }), (8, { T := [0], r := 1 }), (9, { tip := { pc := some { ρ := [], n0 := 0, res := sv y23, σ' := [], e := [] } }, r := 1 }), (11, { r := 1 }), (12, { T := [0], r := 1 }), (13, { tip := { pc := some { ρ := [], n0 := 0, res := sv y25, σ' := [], e := [] } }, r := 1 }), (15, { r := 1 }), (16, { T := [0], r := 1 }), (17, { tip := { pc := some { ρ := [], n0 := 0, res := sv y27, σ' := [], e := [] } }, r := 1 }), (19, { r := 1 }), (20, { T := [0], r := 1 }), (21, { tip := { pc := some { ρ := [], n0 := 0, res := sv y29, σ' := [], e := [] } }, r := 1 }), (23, { r := 1 }), (24, { T := [0], r := 1 }), (25, { tip := { pc := some { ρ := [], n0 := 0, res := sv y31, σ' := [], e := [] } }, r := 1 }), (27, { r := 1 }), (28, { T := [0], r := 1 }), (29, { tip := { pc := some { ρ := [], n0 := 0, res := sv y33, σ' := [], e := [] } }, r := 1 }), (31, { r := 1 }), (32, { T := [0], r := 1 }), (33, { tip := { pc := some { ρ := [], n0 := 0, res := sv y35, σ' := [], e := [] } }, r := 1 }), (35, { r := 1 }), (36, { T := [0], r := 1 }), (37, { tip := { pc := some { ρ := [], n0 := 0, res := sv y37, σ' := [], e := [] } }, r := 1 })]) (by kernel_rfl) (allc (C_retraceref03_Int p0.Def y20 hy20) (allc (C_retraceref03_Int p0.At y21 hy21) (allc g22 (allc (C_retraceref03_Ints p0.Vars y23 hy23) (allc g24 (allc (C_retraceref03_Int p0.Fuel y25 hy25) (allc g26 (allc (C_retraceref03_Int p0.Mode y27 hy27) (allc g28 (allc (C_retraceref03_Int p0.Chan y29 hy29) (allc g30 (allc (C_retraceref03_Int p0.Val y31 hy31) (allc g32 (allc (C_retraceref03_Int p0.Slot y33 hy33) (allc g34 (allc (C_retraceref03_Int p0.Until y35 hy35) (allc g36 (allc (C_retraceref03_Int p0.Since y37 hy37) (allc g38 all0))))))))))))))))))) (norm ?_)
  refine At.seq ?_
  obtain ⟨y41, hy41, h⟩ := bind_some h
  obtain ⟨g42, h⟩ := grd_some h
  refine At.region_end [1, 3] [0] _ (st' := ⟨[(1, .ptr 0 0), (3, sv ((((((((((y20 ++ y21) ++ y23) ++ y25) ++ y27) ++ y29) ++ y31) ++ y33) ++ y35) ++ y37) ++ y41))], [.blk 70 (T_api_Proc.pvs p0)]⟩) (tips := [(5, { pc := some { ρ := [], n0 := 0, res := sv y41, σ' := [], e := [] } })]) (by kernel_rfl) (allc (C_retraceref01_Num (wu64 ((p0.Alts).length : Int)) y41 hy41) (allc g42 all0)) (norm ?_)
  refine At.seq ?_
  refine At.seq ?_
  refine At.region_end [1, 3, 4] [0] _ (st' := ⟨[(1, .ptr 0 0), (3, sv ((((((((((y20 ++ y21) ++ y23) ++ y25) ++ y27) ++ y29) ++ y31) ++ y33) ++ y35) ++ y37) ++ y41)), (4, i64 0)], [.blk 70 (T_api_Proc.pvs p0)]⟩) (tips := []) (by kernel_rfl) all0 (norm ?_)
  refine At.block ?_
  refine At.loop (fun s : (ByteArray × Int) => F_retraceref30_proc_L1 p0 s.1 s.2) (fun s : (ByteArray × Int) => ⟨[(1, .ptr 0 0), (3, sv s.1), (4, i64 s.2)], [.blk 70 (T_api_Proc.pvs p0)]⟩) r (((((((((((y20 ++ y21) ++ y23) ++ y25) ++ y27) ++ y29) ++ y31) ++ y33) ++ y35) ++ y37) ++ y41), 0) h ?_
  rintro ⟨x75, x76⟩ oo77 h f78
  replace h : F_retraceref30_proc_L1 p0 x75 x76 = some oo77 := h
  rw [F_retraceref30_proc_L1] at h
  refine At.seq ?_
  refine At.seq ?_
  refine At.region_end [1, 3, 4, 56] [0] _ (st' := ⟨[(1, .ptr 0 0), (3, sv x75), (4, i64 x76), (56, bo (decide (x76 < ((p0.Alts).length : Int))))], [.blk 70 (T_api_Proc.pvs p0)]⟩) (tips := []) (by kernel_rfl) all0 (norm ?_)
  refine At.cond (decide (x76 < ((p0.Alts).length : Int))) (by kernel_rfl) (fun b80 => ?_) (fun b80 => ?_)
  · replace h := cond_t b80 h
    refine At.nar [1, 3, 4] [0] (st' := ⟨[(1, .ptr 0 0), (3, sv x75), (4, i64 x76)], [.blk 70 (T_api_Proc.pvs p0)]⟩) (by kernel_rfl) ?_
    refine At.skip (norm ?_)
    refine At.seq ?_
    refine At.block ?_
    refine At.seq ?_
    obtain ⟨y94, hy94, h⟩ := bind_some h
    refine At.region_end [1, 3, 4, 5] [0, 1] _ (st' := ⟨[(1, .ptr 0 0), (3, sv x75), (4, i64 x76), (5, .ptr 1 0)], [.blk 70 (T_api_Proc.pvs p0), .blk 102 (T_api_Alt.pvs y94)]⟩) (tips := [(3, { orc := .cells (T_api_Alt.enc y94) })]) (by kernel_rfl) (allc (elemAt_of T_api_Alt.enc_len hy94) all0) (norm ?_)
    obtain ⟨y95, hy95, h⟩ := bind_some h
    obtain ⟨g96, h⟩ := grd_some h
    obtain ⟨y97, hy97, h⟩ := bind_some h
    obtain ⟨g98, h⟩ := grd_some h
    obtain ⟨y99, hy99, h⟩ := bind_some h
    obtain ⟨g100, h⟩ := grd_some h
    obtain ⟨y101, hy101, h⟩ := bind_some h
    obtain ⟨g102, h⟩ := grd_some h
    obtain ⟨y103, hy103, h⟩ := bind_some h
    obtain ⟨g104, h⟩ := grd_some h
    refine At.draw_end mixedOrd 0 [1, 3, 4] [0] _ (st' := ⟨[(1, .ptr 0 0), (3, sv (((((x75 ++ y95) ++ y97) ++ y99) ++ y101) ++ y103)), (4, i64 x76)], [.blk 70 (T_api_Proc.pvs p0)]⟩) (tips := [(1, { r := 2 }), (2, { T := [1], r := 2 }), (3, { tip := { pc := some { ρ := [], n0 := 0, res := sv y95, σ' := [], e := [] } }, r := 2 }), (5, { r := 2 }), (6, { T := [1], r := 2 }), (7, { tip := { pc := some { ρ := [], n0 := 0, res := sv y97, σ' := [], e := [] } }, r := 2 }), (9, { r := 2 }), (10, { T := [1], r := 2 }), (11, { tip := { pc := some { ρ := [], n0 := 0, res := sv y99, σ' := [], e := [] } }, r := 2 }), (13, { r := 2 }), (14, { T := [1], r := 2 }), (15, { tip := { pc := some { ρ := [], n0 := 0, res := sv y101, σ' := [], e := [] } }, r := 2 }), (17, { r := 2 }), (18, { T := [1], r := 2 }), (19, { tip := { pc := some { ρ := [], n0 := 0, res := sv y103, σ' := [], e := [] } }, r := 2 })]) (by kernel_rfl) (allc (C_retraceref03_Int y94.Kind y95 hy95) (allc g96 (allc (C_retraceref03_Int y94.Chan y97 hy97) (allc g98 (allc (C_retraceref03_Int y94.Val y99 hy99) (allc g100 (allc (C_retraceref03_Int y94.Slot y101 hy101) (allc g102 (allc (C_retraceref03_Int y94.Goto y103 hy103) (allc g104 all0)))))))))) (norm ?_)
    refine At.region_end [1, 3, 4] [0] _ (st' := ⟨[(1, .ptr 0 0), (3, sv (((((x75 ++ y95) ++ y97) ++ y99) ++ y101) ++ y103)), (4, i64 (w64 (x76 + 1)))], [.blk 70 (T_api_Proc.pvs p0)]⟩) (tips := []) (by kernel_rfl) all0 (fun a w hs => ⟨_, (some_eq h).symm, hs⟩)
  · replace h := cond_f b80 h
    refine At.nar [3] [] (st' := ⟨[(3, sv x75)], []⟩) (by kernel_rfl) ?_
    obtain ⟨r105, h, e106⟩ := map_inr h
    rw [f78 _ e106] at h
    refine At.exit (norm ?_)
    refine At.seq ?_
    refine At.region_end [2] [] _ (st' := ⟨[(2, sv x75)], []⟩) (tips := []) (by kernel_rfl) all0 (norm ?_)
    obtain rfl := some_eq h
    exact At.ret fun a w hs => ret_ok hR (ρ := []) (gs := []) (by kernel_rfl) all0 (by kernel_rfl) rfl rfl a w hs _ (.inl rfl)
set_option maxRecDepth 100000 in
theorem C_retraceref30_Put (p0 : T_api_State) (r : ByteArray) (h : F_retraceref30_Put p0 = some r) : FnOK Try.prog 15 [.agg (T_api_State.pvs p0)] [] (sv r) [] [] := by
  rw [F_retraceref30_Put] at h
  refine FnOK.intro Try.func15 rfl (by kernel_rfl) (by kernel_rfl) fun E gv R hR => ?_
  refine At.seq ?_
  refine At.region_end [1] [0] _ (st' := ⟨[(1, .ptr 0 0)], [.blk 25 (T_api_State.pvs p0)]⟩) (tips := []) (by kernel_rfl) all0 (norm ?_)
  refine At.seq ?_
  obtain ⟨y12, hy12, h⟩ := bind_some h
  obtain ⟨y13, hy13, h⟩ := bind_some h
  obtain ⟨g14, h⟩ := grd_some h
  obtain ⟨y15, hy15, h⟩ := bind_some h
  obtain ⟨g16, h⟩ := grd_some h
  obtain ⟨y17, hy17, h⟩ := bind_some h
  obtain ⟨g18, h⟩ := grd_some h
  obtain ⟨y19, hy19, h⟩ := bind_some h
  obtain ⟨g20, h⟩ := grd_some h
  obtain ⟨y21, hy21, h⟩ := bind_some h
  obtain ⟨g22, h⟩ := grd_some h
  refine At.draw_end mixedOrd 0 [1, 3] [0] _ (st' := ⟨[(1, .ptr 0 0), (3, sv (((((y12 ++ y13) ++ y15) ++ y17) ++ y19) ++ y21))], [.blk 25 (T_api_State.pvs p0)]⟩) (tips := [(0, { r := 1 }), (1, { T := [0], r := 1 }), (2, { tip := { pc := some { ρ := [], n0 := 0, res := sv y12, σ' := [], e := [] } }, r := 1 }), (3, { r := 1 }), (4, { T := [0], r := 1 }), (5, { tip := { pc := some { ρ := [], n0 := 0, res := sv y13, σ' := [], e := [] } }, r := 1 }), (7, { r := 1 }), (8, { T := [0], r := 1 }), (9, { tip := { pc := some { ρ := [], n0 := 0, res := sv y15, σ' := [], e := [] } }, r := 1 }), (11, { r := 1 }), (12, { T := [0], r := 1 }), (13, { tip := { pc := some { ρ := [], n0 := 0, res := sv y17, σ' := [], e := [] } }, r := 1 }), (15, { r := 1 }), (16, { T := [0], r := 1 }), (17, { tip := { pc := some { ρ := [], n0 := 0, res := sv y19, σ' := [], e := [] } }, r := 1 }), (19, { r := 1 }), (20, { T := [0], r := 1 }), (21, { r := 1 }), (22, { r := 1 }), (23, { tip := { pc := some { ρ := [], n0 := 0, res := sv y21, σ' := [], e := [] } }, r := 1 })]) (by kernel_rfl) (allc (C_retraceref03_Int p0.Now y12 hy12) (allc (C_retraceref03_Int p0.Since y13 hy13) (allc g14 (allc (C_retraceref03_Int p0.Halt y15 hy15) (allc g16 (allc (C_retraceref03_Int p0.Fault y17 hy17) (allc g18 (allc (C_retraceref03_Int p0.Who y19 hy19) (allc g20 (allc (C_retraceref01_Num (wu64 ((p0.Procs).length : Int)) y21 hy21) (allc g22 all0))))))))))) (norm ?_)
  refine At.seq ?_
  refine At.seq ?_
  refine At.region_end [1, 3, 4] [0] _ (st' := ⟨[(1, .ptr 0 0), (3, sv (((((y12 ++ y13) ++ y15) ++ y17) ++ y19) ++ y21)), (4, i64 0)], [.blk 25 (T_api_State.pvs p0)]⟩) (tips := []) (by kernel_rfl) all0 (norm ?_)
  refine At.block ?_
  refine At.loop (fun s : (ByteArray × Int) => F_retraceref30_Put_L1 p0 s.1 s.2) (fun s : (ByteArray × Int) => ⟨[(1, .ptr 0 0), (3, sv s.1), (4, i64 s.2)], [.blk 25 (T_api_State.pvs p0)]⟩) r ((((((y12 ++ y13) ++ y15) ++ y17) ++ y19) ++ y21), 0) h ?_
  rintro ⟨x37, x38⟩ oo39 h f40
  replace h : F_retraceref30_Put_L1 p0 x37 x38 = some oo39 := h
  rw [F_retraceref30_Put_L1] at h
  refine At.seq ?_
  refine At.seq ?_
  refine At.region_end [1, 3, 4, 34] [0] _ (st' := ⟨[(1, .ptr 0 0), (3, sv x37), (4, i64 x38), (34, bo (decide (x38 < ((p0.Procs).length : Int))))], [.blk 25 (T_api_State.pvs p0)]⟩) (tips := []) (by kernel_rfl) all0 (norm ?_)
  refine At.cond (decide (x38 < ((p0.Procs).length : Int))) (by kernel_rfl) (fun b42 => ?_) (fun b42 => ?_)
  · replace h := cond_t b42 h
    refine At.nar [1, 3, 4] [0] (st' := ⟨[(1, .ptr 0 0), (3, sv x37), (4, i64 x38)], [.blk 25 (T_api_State.pvs p0)]⟩) (by kernel_rfl) ?_
    refine At.skip (norm ?_)
    refine At.seq ?_
    refine At.block ?_
    obtain ⟨y46, hy46, h⟩ := bind_some h
    obtain ⟨y47, hy47, h⟩ := bind_some h
    obtain ⟨g48, h⟩ := grd_some h
    refine At.region_end [1, 3, 4] [0] _ (st' := ⟨[(1, .ptr 0 0), (3, sv (x37 ++ y47)), (4, i64 x38)], [.blk 25 (T_api_State.pvs p0)]⟩) (tips := [(4, { orc := .cells (T_api_Proc.enc y46) }), (6, { pc := some { ρ := [], n0 := 0, res := sv y47, σ' := [], e := [] } })]) (by kernel_rfl) (allc (elemAt_of T_api_Proc.enc_len hy46) (allc (C_retraceref30_proc y46 y47 hy47) (allc g48 all0))) (norm ?_)
    refine At.region_end [1, 3, 4] [0] _ (st' := ⟨[(1, .ptr 0 0), (3, sv (x37 ++ y47)), (4, i64 (w64 (x38 + 1)))], [.blk 25 (T_api_State.pvs p0)]⟩) (tips := []) (by kernel_rfl) all0 (fun a w hs => ⟨_, (some_eq h).symm, hs⟩)
  · replace h := cond_f b42 h
    refine At.nar [1, 3] [0] (st' := ⟨[(1, .ptr 0 0), (3, sv x37)], [.blk 25 (T_api_State.pvs p0)]⟩) (by kernel_rfl) ?_
    obtain ⟨r49, h, e50⟩ := map_inr h
    rw [f40 _ e50] at h
    refine At.exit (norm ?_)
    refine At.seq ?_
    obtain ⟨y53, hy53, h⟩ := bind_some h
    obtain ⟨g54, h⟩ := grd_some h
    refine At.region_end [2] [] _ (st' := ⟨[(2, sv (x37 ++ y53))], []⟩) (tips := [(3, { pc := some { ρ := [], n0 := 0, res := sv y53, σ' := [], e := [] } })]) (by kernel_rfl) (allc (C_retraceref03_Ints p0.Out y53 hy53) (allc g54 all0)) (norm ?_)
    obtain rfl := some_eq h
    exact At.ret fun a w hs => ret_ok hR (ρ := []) (gs := []) (by kernel_rfl) all0 (by kernel_rfl) rfl rfl a w hs _ (.inl rfl)
set_option maxRecDepth 100000 in
theorem C_retraceref03_Same (p0 : (List Int)) (p1 : (List Int)) (r : Bool) (h : F_retraceref03_Same p0 p1 = some r) : FnOK Try.prog 49 [lv (eInt .i64) p0, lv (eInt .i64) p1] [] (bo r) [] [] := by
  rw [F_retraceref03_Same] at h
  refine FnOK.intro Try.func49 rfl (by kernel_rfl) (by kernel_rfl) fun E gv R hR => ?_
  refine At.seq ?_
  refine At.region_end [0, 1] [] _ (st' := ⟨[(0, lv (eInt .i64) p0), (1, lv (eInt .i64) p1)], []⟩) (tips := []) (by kernel_rfl) all0 (norm ?_)
  refine At.seq ?_
  refine At.seq ?_
  refine At.region_end [0, 1, 10] [] _ (st' := ⟨[(0, lv (eInt .i64) p0), (1, lv (eInt .i64) p1), (10, bo (((p0).length : Int) != ((p1).length : Int)))], []⟩) (tips := []) (by kernel_rfl) all0 (norm ?_)
  refine At.cond (((p0).length : Int) != ((p1).length : Int)) (by kernel_rfl) (fun b2 => ?_) (fun b2 => ?_)
  · replace h := cond_t b2 h
    refine At.seq ?_
    refine At.region_end [4] [] _ (st' := ⟨[(4, bo false)], []⟩) (tips := []) (by kernel_rfl) all0 (norm ?_)
    obtain rfl := some_eq h
    exact At.ret fun a w hs => ret_ok hR (ρ := []) (gs := []) (by kernel_rfl) all0 (by kernel_rfl) rfl rfl a w hs _ (.inl rfl)
  · replace h := cond_f b2 h
    refine At.nar [0, 1] [] (st' := ⟨[(0, lv (eInt .i64) p0), (1, lv (eInt .i64) p1)], []⟩) (by kernel_rfl) ?_
    refine At.skip (norm ?_)
    refine At.seq ?_
    refine At.seq ?_
    refine At.region_end [0, 1, 5] [] _ (st' := ⟨[(0, lv (eInt .i64) p0), (1, lv (eInt .i64) p1), (5, i64 0)], []⟩) (tips := []) (by kernel_rfl) all0 (norm ?_)
    refine At.block ?_
    refine At.loop (fun s : (Int) => F_retraceref03_Same_L1 p0 p1 s) (fun s : (Int) => ⟨[(0, lv (eInt .i64) p0), (1, lv (eInt .i64) p1), (5, i64 s)], []⟩) r 0 h ?_
    intro x22 oo23 h f24
    replace h : F_retraceref03_Same_L1 p0 p1 x22 = some oo23 := h
    rw [F_retraceref03_Same_L1] at h
    refine At.seq ?_
    refine At.seq ?_
    refine At.region_end [0, 1, 5, 14] [] _ (st' := ⟨[(0, lv (eInt .i64) p0), (1, lv (eInt .i64) p1), (5, i64 x22), (14, bo (decide (x22 < ((p0).length : Int))))], []⟩) (tips := []) (by kernel_rfl) all0 (norm ?_)
    refine At.cond (decide (x22 < ((p0).length : Int))) (by kernel_rfl) (fun b26 => ?_) (fun b26 => ?_)
    · replace h := cond_t b26 h
      refine At.nar [0, 1, 5] [] (st' := ⟨[(0, lv (eInt .i64) p0), (1, lv (eInt .i64) p1), (5, i64 x22)], []⟩) (by kernel_rfl) ?_
      refine At.skip (norm ?_)
      refine At.seq ?_
      refine At.block ?_
      refine At.seq ?_
      obtain ⟨y34, hy34, h⟩ := bind_some h
      obtain ⟨y35, hy35, h⟩ := bind_some h
      refine At.draw_end mixedOrd 0 [0, 1, 5, 25] [] _ (st' := ⟨[(0, lv (eInt .i64) p0), (1, lv (eInt .i64) p1), (5, i64 x22), (25, bo (y34 != y35))], []⟩) (tips := [(2, { tip := { orc := .cells ((eInt .i64) y34) } }), (6, { tip := { orc := .cells ((eInt .i64) y35) } })]) (by kernel_rfl) (allc (elemAt_of (he_int .i64) hy34) (allc (elemAt_of (he_int .i64) hy35) all0)) (norm ?_)
      refine At.cond (y34 != y35) (by kernel_rfl) (fun b36 => ?_) (fun b36 => ?_)
      · replace h := cond_t b36 h
        refine At.seq ?_
        refine At.region_end [4] [] _ (st' := ⟨[(4, bo false)], []⟩) (tips := []) (by kernel_rfl) all0 (norm ?_)
        obtain ⟨r37, h, e38⟩ := map_inr h
        rw [f24 _ e38] at h
        obtain rfl := some_eq h
        exact At.ret fun a w hs => ret_ok hR (ρ := []) (gs := []) (by kernel_rfl) all0 (by kernel_rfl) rfl rfl a w hs _ (.inl rfl)
      · replace h := cond_f b36 h
        refine At.nar [0, 1, 5] [] (st' := ⟨[(0, lv (eInt .i64) p0), (1, lv (eInt .i64) p1), (5, i64 x22)], []⟩) (by kernel_rfl) ?_
        refine At.skip (norm ?_)
        refine At.region_end [0, 1, 5] [] _ (st' := ⟨[(0, lv (eInt .i64) p0), (1, lv (eInt .i64) p1), (5, i64 (w64 (x22 + 1)))], []⟩) (tips := []) (by kernel_rfl) all0 (fun a w hs => ⟨_, (some_eq h).symm, hs⟩)
    · replace h := cond_f b26 h
      refine At.nar [] [] (st' := ⟨[], []⟩) (by kernel_rfl) ?_
      obtain ⟨r39, h, e40⟩ := map_inr h
      rw [f24 _ e40] at h
      refine At.exit (norm ?_)
      refine At.seq ?_
      refine At.region_end [4] [] _ (st' := ⟨[(4, bo true)], []⟩) (tips := []) (by kernel_rfl) all0 (norm ?_)
      obtain rfl := some_eq h
      exact At.ret fun a w hs => ret_ok hR (ρ := []) (gs := []) (by kernel_rfl) all0 (by kernel_rfl) rfl rfl a w hs _ (.inl rfl)
set_option maxRecDepth 100000 in
theorem C_retraceref22_Alts (p0 : (List T_api_Alt)) (p1 : (List T_api_Alt)) (r : Bool) (h : F_retraceref22_Alts p0 p1 = some r) : FnOK Try.prog 74 [lv T_api_Alt.enc p0, lv T_api_Alt.enc p1] [] (bo r) [] [] := by
  rw [F_retraceref22_Alts] at h
  refine FnOK.intro Try.func74 rfl (by kernel_rfl) (by kernel_rfl) fun E gv R hR => ?_
  refine At.seq ?_
  refine At.region_end [0, 1] [] _ (st' := ⟨[(0, lv T_api_Alt.enc p0), (1, lv T_api_Alt.enc p1)], []⟩) (tips := []) (by kernel_rfl) all0 (norm ?_)
  refine At.seq ?_
  refine At.seq ?_
  refine At.region_end [0, 1, 10] [] _ (st' := ⟨[(0, lv T_api_Alt.enc p0), (1, lv T_api_Alt.enc p1), (10, bo (((p0).length : Int) != ((p1).length : Int)))], []⟩) (tips := []) (by kernel_rfl) all0 (norm ?_)
  refine At.cond (((p0).length : Int) != ((p1).length : Int)) (by kernel_rfl) (fun b2 => ?_) (fun b2 => ?_)
  · replace h := cond_t b2 h
    refine At.seq ?_
    refine At.region_end [4] [] _ (st' := ⟨[(4, bo false)], []⟩) (tips := []) (by kernel_rfl) all0 (norm ?_)
    obtain rfl := some_eq h
    exact At.ret fun a w hs => ret_ok hR (ρ := []) (gs := []) (by kernel_rfl) all0 (by kernel_rfl) rfl rfl a w hs _ (.inl rfl)
  · replace h := cond_f b2 h
    refine At.nar [0, 1] [] (st' := ⟨[(0, lv T_api_Alt.enc p0), (1, lv T_api_Alt.enc p1)], []⟩) (by kernel_rfl) ?_
    refine At.skip (norm ?_)
    refine At.seq ?_
    refine At.seq ?_
    refine At.region_end [0, 1, 5] [] _ (st' := ⟨[(0, lv T_api_Alt.enc p0), (1, lv T_api_Alt.enc p1), (5, i64 0)], []⟩) (tips := []) (by kernel_rfl) all0 (norm ?_)
    refine At.block ?_
    refine At.loop (fun s : (Int) => F_retraceref22_Alts_L1 p0 p1 s) (fun s : (Int) => ⟨[(0, lv T_api_Alt.enc p0), (1, lv T_api_Alt.enc p1), (5, i64 s)], []⟩) r 0 h ?_
    intro x22 oo23 h f24
    replace h : F_retraceref22_Alts_L1 p0 p1 x22 = some oo23 := h
    rw [F_retraceref22_Alts_L1] at h
    refine At.seq ?_
    refine At.seq ?_
    refine At.region_end [0, 1, 5, 14] [] _ (st' := ⟨[(0, lv T_api_Alt.enc p0), (1, lv T_api_Alt.enc p1), (5, i64 x22), (14, bo (decide (x22 < ((p0).length : Int))))], []⟩) (tips := []) (by kernel_rfl) all0 (norm ?_)
    refine At.cond (decide (x22 < ((p0).length : Int))) (by kernel_rfl) (fun b26 => ?_) (fun b26 => ?_)
    · replace h := cond_t b26 h
      refine At.nar [0, 1, 5] [] (st' := ⟨[(0, lv T_api_Alt.enc p0), (1, lv T_api_Alt.enc p1), (5, i64 x22)], []⟩) (by kernel_rfl) ?_
      refine At.skip (norm ?_)
      refine At.seq ?_
      refine At.block ?_
      refine At.seq ?_
      obtain ⟨y34, hy34, h⟩ := bind_some h
      obtain ⟨y35, hy35, h⟩ := bind_some h
      refine At.draw_end mixedOrd 0 [0, 1, 5, 25] [] _ (st' := ⟨[(0, lv T_api_Alt.enc p0), (1, lv T_api_Alt.enc p1), (5, i64 x22), (25, bo (!((y34.Kind == y35.Kind) && ((y34.Chan == y35.Chan) && ((y34.Val == y35.Val) && ((y34.Slot == y35.Slot) && ((y34.Goto == y35.Goto) && true)))))))], []⟩) (tips := [(2, { tip := { orc := .cells (T_api_Alt.enc y34) } }), (6, { tip := { orc := .cells (T_api_Alt.enc y35) } })]) (by kernel_rfl) (allc (elemAt_of T_api_Alt.enc_len hy34) (allc (elemAt_of T_api_Alt.enc_len hy35) all0)) (norm ?_)
      refine At.cond (!((y34.Kind == y35.Kind) && ((y34.Chan == y35.Chan) && ((y34.Val == y35.Val) && ((y34.Slot == y35.Slot) && ((y34.Goto == y35.Goto) && true)))))) (by kernel_rfl) (fun b36 => ?_) (fun b36 => ?_)
      · replace h := cond_t b36 h
        refine At.seq ?_
        refine At.region_end [4] [] _ (st' := ⟨[(4, bo false)], []⟩) (tips := []) (by kernel_rfl) all0 (norm ?_)
        obtain ⟨r37, h, e38⟩ := map_inr h
        rw [f24 _ e38] at h
        obtain rfl := some_eq h
        exact At.ret fun a w hs => ret_ok hR (ρ := []) (gs := []) (by kernel_rfl) all0 (by kernel_rfl) rfl rfl a w hs _ (.inl rfl)
      · replace h := cond_f b36 h
        refine At.nar [0, 1, 5] [] (st' := ⟨[(0, lv T_api_Alt.enc p0), (1, lv T_api_Alt.enc p1), (5, i64 x22)], []⟩) (by kernel_rfl) ?_
        refine At.skip (norm ?_)
        refine At.region_end [0, 1, 5] [] _ (st' := ⟨[(0, lv T_api_Alt.enc p0), (1, lv T_api_Alt.enc p1), (5, i64 (w64 (x22 + 1)))], []⟩) (tips := []) (by kernel_rfl) all0 (fun a w hs => ⟨_, (some_eq h).symm, hs⟩)
    · replace h := cond_f b26 h
      refine At.nar [] [] (st' := ⟨[], []⟩) (by kernel_rfl) ?_
      obtain ⟨r39, h, e40⟩ := map_inr h
      rw [f24 _ e40] at h
      refine At.exit (norm ?_)
      refine At.seq ?_
      refine At.region_end [4] [] _ (st' := ⟨[(4, bo true)], []⟩) (tips := []) (by kernel_rfl) all0 (norm ?_)
      obtain rfl := some_eq h
      exact At.ret fun a w hs => ret_ok hR (ρ := []) (gs := []) (by kernel_rfl) all0 (by kernel_rfl) rfl rfl a w hs _ (.inl rfl)
set_option maxRecDepth 100000 in
theorem C_retraceref22_Same (p0 : T_api_Proc) (p1 : T_api_Proc) (r : Bool) (h : F_retraceref22_Same p0 p1 = some r) : FnOK Try.prog 50 [.agg (T_api_Proc.pvs p0), .agg (T_api_Proc.pvs p1)] [] (bo r) [] [] := by
  rw [F_retraceref22_Same] at h
  refine FnOK.intro Try.func50 rfl (by kernel_rfl) (by kernel_rfl) fun E gv R hR => ?_
  refine At.seq ?_
  refine At.region_end [2, 3] [0, 1] _ (st' := ⟨[(2, .ptr 0 0), (3, .ptr 1 0)], [.blk 70 (T_api_Proc.pvs p0), .blk 70 (T_api_Proc.pvs p1)]⟩) (tips := []) (by kernel_rfl) all0 (norm ?_)
  refine At.seq ?_
  refine At.seqJ (S := Bool) (fun s => ⟨[(2, .ptr 0 0), (3, .ptr 1 0), (44, bo s)], [.blk 70 (T_api_Proc.pvs p0), .blk 70 (T_api_Proc.pvs p1)]⟩) (fun s => F_retraceref22_Same_J1 p0 p1 s = some r) ?_ ?_
  · rcases tf (p0.Def != p1.Def) with b33 | b33
    · replace h := cond_t b33 h
      refine At.region_end [2, 3, 44] [0, 1] _ (st' := ⟨[(2, .ptr 0 0), (3, .ptr 1 0), (44, bo true)], [.blk 70 (T_api_Proc.pvs p0), .blk 70 (T_api_Proc.pvs p1)]⟩) (tips := [(5, { orc := .val (.bool true) })]) (by kernel_rfl) (allc (congrArg D.bool b33) all0) (fun a w hs => ⟨true, h, hs⟩)
    · replace h := cond_f b33 h
      rcases tf (p0.At != p1.At) with b34 | b34
      · replace h := cond_t b34 h
        refine At.region_end [2, 3, 44] [0, 1] _ (st' := ⟨[(2, .ptr 0 0), (3, .ptr 1 0), (44, bo true)], [.blk 70 (T_api_Proc.pvs p0), .blk 70 (T_api_Proc.pvs p1)]⟩) (tips := [(5, { orc := .val (.bool false) }), (12, { orc := .val (.bool true) })]) (by kernel_rfl) (allc (congrArg D.bool b33) (allc (congrArg D.bool b34) all0)) (fun a w hs => ⟨true, h, hs⟩)
      · replace h := cond_f b34 h
        rcases tf (p0.Fuel != p1.Fuel) with b35 | b35
        · replace h := cond_t b35 h
          refine At.region_end [2, 3, 44] [0, 1] _ (st' := ⟨[(2, .ptr 0 0), (3, .ptr 1 0), (44, bo true)], [.blk 70 (T_api_Proc.pvs p0), .blk 70 (T_api_Proc.pvs p1)]⟩) (tips := [(5, { orc := .val (.bool false) }), (12, { orc := .val (.bool false) }), (19, { orc := .val (.bool true) })]) (by kernel_rfl) (allc (congrArg D.bool b33) (allc (congrArg D.bool b34) (allc (congrArg D.bool b35) all0))) (fun a w hs => ⟨true, h, hs⟩)
        · replace h := cond_f b35 h
          rcases tf (p0.Mode != p1.Mode) with b36 | b36
          · replace h := cond_t b36 h
            refine At.region_end [2, 3, 44] [0, 1] _ (st' := ⟨[(2, .ptr 0 0), (3, .ptr 1 0), (44, bo true)], [.blk 70 (T_api_Proc.pvs p0), .blk 70 (T_api_Proc.pvs p1)]⟩) (tips := [(5, { orc := .val (.bool false) }), (12, { orc := .val (.bool false) }), (19, { orc := .val (.bool false) }), (26, { orc := .val (.bool true) })]) (by kernel_rfl) (allc (congrArg D.bool b33) (allc (congrArg D.bool b34) (allc (congrArg D.bool b35) (allc (congrArg D.bool b36) all0)))) (fun a w hs => ⟨true, h, hs⟩)
          · replace h := cond_f b36 h
            rcases tf (p0.Chan != p1.Chan) with b37 | b37
            · replace h := cond_t b37 h
              refine At.region_end [2, 3, 44] [0, 1] _ (st' := ⟨[(2, .ptr 0 0), (3, .ptr 1 0), (44, bo true)], [.blk 70 (T_api_Proc.pvs p0), .blk 70 (T_api_Proc.pvs p1)]⟩) (tips := [(5, { orc := .val (.bool false) }), (12, { orc := .val (.bool false) }), (19, { orc := .val (.bool false) }), (26, { orc := .val (.bool false) }), (33, { orc := .val (.bool true) })]) (by kernel_rfl) (allc (congrArg D.bool b33) (allc (congrArg D.bool b34) (allc (congrArg D.bool b35) (allc (congrArg D.bool b36) (allc (congrArg D.bool b37) all0))))) (fun a w hs => ⟨true, h, hs⟩)
            · replace h := cond_f b37 h
              refine At.region_end [2, 3, 44] [0, 1] _ (st' := ⟨[(2, .ptr 0 0), (3, .ptr 1 0), (44, bo (p0.Val != p1.Val))], [.blk 70 (T_api_Proc.pvs p0), .blk 70 (T_api_Proc.pvs p1)]⟩) (tips := [(5, { orc := .val (.bool false) }), (12, { orc := .val (.bool false) }), (19, { orc := .val (.bool false) }), (26, { orc := .val (.bool false) }), (33, { orc := .val (.bool false) })]) (by kernel_rfl) (allc (congrArg D.bool b33) (allc (congrArg D.bool b34) (allc (congrArg D.bool b35) (allc (congrArg D.bool b36) (allc (congrArg D.bool b37) all0))))) (fun a w hs => ⟨(p0.Val != p1.Val), h, hs⟩)
  · intro x18 h
    replace h : F_retraceref22_Same_J1 p0 p1 x18 = some r := h
    rw [F_retraceref22_Same_J1] at h
    refine At.cond x18 (by kernel_rfl) (fun b19 => ?_) (fun b19 => ?_)
    · replace h := cond_t b19 h
      refine At.seq ?_
      refine At.region_end [4] [] _ (st' := ⟨[(4, bo false)], []⟩) (tips := []) (by kernel_rfl) all0 (norm ?_)
      obtain rfl := some_eq h
      exact At.ret fun a w hs => ret_ok hR (ρ := []) (gs := []) (by kernel_rfl) all0 (by kernel_rfl) rfl rfl a w hs _ (.inl rfl)
    · replace h := cond_f b19 h
      refine At.nar [2, 3] [0, 1] (st' := ⟨[(2, .ptr 0 0), (3, .ptr 1 0)], [.blk 70 (T_api_Proc.pvs p0), .blk 70 (T_api_Proc.pvs p1)]⟩) (by kernel_rfl) ?_
      refine At.skip (norm ?_)
      refine At.seqJ (S := Bool) (fun s => ⟨[(4, bo s)], []⟩) (fun s => F_retraceref22_Same_J2 s = some r) ?_ ?_
      · rcases tf (p0.Slot == p1.Slot) with b27 | b27
        · replace h := cond_t b27 h
          rcases tf (p0.Until == p1.Until) with b28 | b28
          · replace h := cond_t b28 h
            rcases tf (p0.Since == p1.Since) with b29 | b29
            · replace h := cond_t b29 h
              obtain ⟨y30, hy30, h⟩ := bind_some h
              rcases tf y30 with b31 | b31
              · replace h := cond_t b31 h
                obtain ⟨y32, hy32, h⟩ := bind_some h
                refine At.region_end [4] [] _ (st' := ⟨[(4, bo y32)], []⟩) (tips := [(5, { orc := .val (.bool true) }), (12, { orc := .val (.bool true) }), (19, { orc := .val (.bool true) }), (24, { pc := some { ρ := [], n0 := 0, res := bo y30, σ' := [], e := [] } }), (26, { orc := .val (.bool true) }), (31, { pc := some { ρ := [], n0 := 0, res := bo y32, σ' := [], e := [] } })]) (by kernel_rfl) (allc (congrArg D.bool b27) (allc (congrArg D.bool b28) (allc (congrArg D.bool b29) (allc (C_retraceref03_Same p0.Vars p1.Vars y30 hy30) (allc (congrArg D.bool b31) (allc (C_retraceref22_Alts p0.Alts p1.Alts y32 hy32) all0)))))) (fun a w hs => ⟨y32, h, hs⟩)
              · replace h := cond_f b31 h
                refine At.region_end [4] [] _ (st' := ⟨[(4, bo false)], []⟩) (tips := [(5, { orc := .val (.bool true) }), (12, { orc := .val (.bool true) }), (19, { orc := .val (.bool true) }), (24, { pc := some { ρ := [], n0 := 0, res := bo y30, σ' := [], e := [] } }), (26, { orc := .val (.bool false) })]) (by kernel_rfl) (allc (congrArg D.bool b27) (allc (congrArg D.bool b28) (allc (congrArg D.bool b29) (allc (C_retraceref03_Same p0.Vars p1.Vars y30 hy30) (allc (congrArg D.bool b31) all0))))) (fun a w hs => ⟨false, h, hs⟩)
            · replace h := cond_f b29 h
              refine At.region_end [4] [] _ (st' := ⟨[(4, bo false)], []⟩) (tips := [(5, { orc := .val (.bool true) }), (12, { orc := .val (.bool true) }), (19, { orc := .val (.bool false) })]) (by kernel_rfl) (allc (congrArg D.bool b27) (allc (congrArg D.bool b28) (allc (congrArg D.bool b29) all0))) (fun a w hs => ⟨false, h, hs⟩)
          · replace h := cond_f b28 h
            refine At.region_end [4] [] _ (st' := ⟨[(4, bo false)], []⟩) (tips := [(5, { orc := .val (.bool true) }), (12, { orc := .val (.bool false) })]) (by kernel_rfl) (allc (congrArg D.bool b27) (allc (congrArg D.bool b28) all0)) (fun a w hs => ⟨false, h, hs⟩)
        · replace h := cond_f b27 h
          refine At.region_end [4] [] _ (st' := ⟨[(4, bo false)], []⟩) (tips := [(5, { orc := .val (.bool false) })]) (by kernel_rfl) (allc (congrArg D.bool b27) all0) (fun a w hs => ⟨false, h, hs⟩)
      · intro x26 h
        replace h : F_retraceref22_Same_J2 x26 = some r := h
        rw [F_retraceref22_Same_J2] at h
        obtain rfl := some_eq h
        exact At.ret fun a w hs => ret_ok hR (ρ := []) (gs := []) (by kernel_rfl) all0 (by kernel_rfl) rfl rfl a w hs _ (.inl rfl)
set_option maxRecDepth 100000 in
theorem C_retraceref28_Same (p0 : T_api_State) (p1 : T_api_State) (r : Bool) (h : F_retraceref28_Same p0 p1 = some r) : FnOK Try.prog 16 [.agg (T_api_State.pvs p0), .agg (T_api_State.pvs p1)] [] (bo r) [] [] := by
  rw [F_retraceref28_Same] at h
  refine FnOK.intro Try.func16 rfl (by kernel_rfl) (by kernel_rfl) fun E gv R hR => ?_
  refine At.seq ?_
  refine At.region_end [2, 3] [0, 1] _ (st' := ⟨[(2, .ptr 0 0), (3, .ptr 1 0)], [.blk 25 (T_api_State.pvs p0), .blk 25 (T_api_State.pvs p1)]⟩) (tips := []) (by kernel_rfl) all0 (norm ?_)
  refine At.seq ?_
  refine At.seqJ (S := Bool) (fun s => ⟨[(2, .ptr 0 0), (3, .ptr 1 0), (55, bo s)], [.blk 25 (T_api_State.pvs p0), .blk 25 (T_api_State.pvs p1)]⟩) (fun s => F_retraceref28_Same_J1 p0 p1 s = some r) ?_ ?_
  · rcases tf (p0.Now != p1.Now) with b72 | b72
    · replace h := cond_t b72 h
      refine At.region_end [2, 3, 55] [0, 1] _ (st' := ⟨[(2, .ptr 0 0), (3, .ptr 1 0), (55, bo true)], [.blk 25 (T_api_State.pvs p0), .blk 25 (T_api_State.pvs p1)]⟩) (tips := [(5, { orc := .val (.bool true) })]) (by kernel_rfl) (allc (congrArg D.bool b72) all0) (fun a w hs => ⟨true, h, hs⟩)
    · replace h := cond_f b72 h
      rcases tf (p0.Since != p1.Since) with b73 | b73
      · replace h := cond_t b73 h
        refine At.region_end [2, 3, 55] [0, 1] _ (st' := ⟨[(2, .ptr 0 0), (3, .ptr 1 0), (55, bo true)], [.blk 25 (T_api_State.pvs p0), .blk 25 (T_api_State.pvs p1)]⟩) (tips := [(5, { orc := .val (.bool false) }), (12, { orc := .val (.bool true) })]) (by kernel_rfl) (allc (congrArg D.bool b72) (allc (congrArg D.bool b73) all0)) (fun a w hs => ⟨true, h, hs⟩)
      · replace h := cond_f b73 h
        rcases tf (p0.Halt != p1.Halt) with b74 | b74
        · replace h := cond_t b74 h
          refine At.region_end [2, 3, 55] [0, 1] _ (st' := ⟨[(2, .ptr 0 0), (3, .ptr 1 0), (55, bo true)], [.blk 25 (T_api_State.pvs p0), .blk 25 (T_api_State.pvs p1)]⟩) (tips := [(5, { orc := .val (.bool false) }), (12, { orc := .val (.bool false) }), (19, { orc := .val (.bool true) })]) (by kernel_rfl) (allc (congrArg D.bool b72) (allc (congrArg D.bool b73) (allc (congrArg D.bool b74) all0))) (fun a w hs => ⟨true, h, hs⟩)
        · replace h := cond_f b74 h
          rcases tf (p0.Fault != p1.Fault) with b75 | b75
          · replace h := cond_t b75 h
            refine At.region_end [2, 3, 55] [0, 1] _ (st' := ⟨[(2, .ptr 0 0), (3, .ptr 1 0), (55, bo true)], [.blk 25 (T_api_State.pvs p0), .blk 25 (T_api_State.pvs p1)]⟩) (tips := [(5, { orc := .val (.bool false) }), (12, { orc := .val (.bool false) }), (19, { orc := .val (.bool false) }), (26, { orc := .val (.bool true) })]) (by kernel_rfl) (allc (congrArg D.bool b72) (allc (congrArg D.bool b73) (allc (congrArg D.bool b74) (allc (congrArg D.bool b75) all0)))) (fun a w hs => ⟨true, h, hs⟩)
          · replace h := cond_f b75 h
            rcases tf (p0.Who != p1.Who) with b76 | b76
            · replace h := cond_t b76 h
              refine At.region_end [2, 3, 55] [0, 1] _ (st' := ⟨[(2, .ptr 0 0), (3, .ptr 1 0), (55, bo true)], [.blk 25 (T_api_State.pvs p0), .blk 25 (T_api_State.pvs p1)]⟩) (tips := [(5, { orc := .val (.bool false) }), (12, { orc := .val (.bool false) }), (19, { orc := .val (.bool false) }), (26, { orc := .val (.bool false) }), (33, { orc := .val (.bool true) })]) (by kernel_rfl) (allc (congrArg D.bool b72) (allc (congrArg D.bool b73) (allc (congrArg D.bool b74) (allc (congrArg D.bool b75) (allc (congrArg D.bool b76) all0))))) (fun a w hs => ⟨true, h, hs⟩)
            · replace h := cond_f b76 h
              obtain ⟨y77, hy77, h⟩ := bind_some h
              rcases tf (!y77) with b78 | b78
              · replace h := cond_t b78 h
                refine At.region_end [2, 3, 55] [0, 1] _ (st' := ⟨[(2, .ptr 0 0), (3, .ptr 1 0), (55, bo true)], [.blk 25 (T_api_State.pvs p0), .blk 25 (T_api_State.pvs p1)]⟩) (tips := [(5, { orc := .val (.bool false) }), (12, { orc := .val (.bool false) }), (19, { orc := .val (.bool false) }), (26, { orc := .val (.bool false) }), (33, { orc := .val (.bool false) }), (38, { pc := some { ρ := [], n0 := 0, res := bo y77, σ' := [], e := [] } }), (41, { orc := .val (.bool true) })]) (by kernel_rfl) (allc (congrArg D.bool b72) (allc (congrArg D.bool b73) (allc (congrArg D.bool b74) (allc (congrArg D.bool b75) (allc (congrArg D.bool b76) (allc (C_retraceref03_Same p0.Out p1.Out y77 hy77) (allc (congrArg D.bool b78) all0))))))) (fun a w hs => ⟨true, h, hs⟩)
              · replace h := cond_f b78 h
                refine At.region_end [2, 3, 55] [0, 1] _ (st' := ⟨[(2, .ptr 0 0), (3, .ptr 1 0), (55, bo (((p0.Procs).length : Int) != ((p1.Procs).length : Int)))], [.blk 25 (T_api_State.pvs p0), .blk 25 (T_api_State.pvs p1)]⟩) (tips := [(5, { orc := .val (.bool false) }), (12, { orc := .val (.bool false) }), (19, { orc := .val (.bool false) }), (26, { orc := .val (.bool false) }), (33, { orc := .val (.bool false) }), (38, { pc := some { ρ := [], n0 := 0, res := bo y77, σ' := [], e := [] } }), (41, { orc := .val (.bool false) })]) (by kernel_rfl) (allc (congrArg D.bool b72) (allc (congrArg D.bool b73) (allc (congrArg D.bool b74) (allc (congrArg D.bool b75) (allc (congrArg D.bool b76) (allc (C_retraceref03_Same p0.Out p1.Out y77 hy77) (allc (congrArg D.bool b78) all0))))))) (fun a w hs => ⟨(((p0.Procs).length : Int) != ((p1.Procs).length : Int)), h, hs⟩)
  · intro x24 h
    replace h : F_retraceref28_Same_J1 p0 p1 x24 = some r := h
    rw [F_retraceref28_Same_J1] at h
    refine At.cond x24 (by kernel_rfl) (fun b25 => ?_) (fun b25 => ?_)
    · replace h := cond_t b25 h
      refine At.seq ?_
      refine At.region_end [4] [] _ (st' := ⟨[(4, bo false)], []⟩) (tips := []) (by kernel_rfl) all0 (norm ?_)
      obtain rfl := some_eq h
      exact At.ret fun a w hs => ret_ok hR (ρ := []) (gs := []) (by kernel_rfl) all0 (by kernel_rfl) rfl rfl a w hs _ (.inl rfl)
    · replace h := cond_f b25 h
      refine At.nar [2, 3] [0, 1] (st' := ⟨[(2, .ptr 0 0), (3, .ptr 1 0)], [.blk 25 (T_api_State.pvs p0), .blk 25 (T_api_State.pvs p1)]⟩) (by kernel_rfl) ?_
      refine At.skip (norm ?_)
      refine At.seq ?_
      refine At.seq ?_
      refine At.region_end [2, 3, 5] [0, 1] _ (st' := ⟨[(2, .ptr 0 0), (3, .ptr 1 0), (5, i64 0)], [.blk 25 (T_api_State.pvs p0), .blk 25 (T_api_State.pvs p1)]⟩) (tips := []) (by kernel_rfl) all0 (norm ?_)
      refine At.block ?_
      refine At.loop (fun s : (Int) => F_retraceref28_Same_L2 p0 p1 s) (fun s : (Int) => ⟨[(2, .ptr 0 0), (3, .ptr 1 0), (5, i64 s)], [.blk 25 (T_api_State.pvs p0), .blk 25 (T_api_State.pvs p1)]⟩) r 0 h ?_
      intro x49 oo50 h f51
      replace h : F_retraceref28_Same_L2 p0 p1 x49 = some oo50 := h
      rw [F_retraceref28_Same_L2] at h
      refine At.seq ?_
      refine At.seq ?_
      refine At.region_end [2, 3, 5, 60] [0, 1] _ (st' := ⟨[(2, .ptr 0 0), (3, .ptr 1 0), (5, i64 x49), (60, bo (decide (x49 < ((p0.Procs).length : Int))))], [.blk 25 (T_api_State.pvs p0), .blk 25 (T_api_State.pvs p1)]⟩) (tips := []) (by kernel_rfl) all0 (norm ?_)
      refine At.cond (decide (x49 < ((p0.Procs).length : Int))) (by kernel_rfl) (fun b53 => ?_) (fun b53 => ?_)
      · replace h := cond_t b53 h
        refine At.nar [2, 3, 5] [0, 1] (st' := ⟨[(2, .ptr 0 0), (3, .ptr 1 0), (5, i64 x49)], [.blk 25 (T_api_State.pvs p0), .blk 25 (T_api_State.pvs p1)]⟩) (by kernel_rfl) ?_
        refine At.skip (norm ?_)
        refine At.seq ?_
        refine At.block ?_
        refine At.seq ?_
        obtain ⟨y64, hy64, h⟩ := bind_some h
        obtain ⟨y65, hy65, h⟩ := bind_some h
        obtain ⟨y66, hy66, h⟩ := bind_some h
        refine At.draw_end mixedOrd 0 [2, 3, 5, 74] [0, 1] _ (st' := ⟨[(2, .ptr 0 0), (3, .ptr 1 0), (5, i64 x49), (74, bo (!y66))], [.blk 25 (T_api_State.pvs p0), .blk 25 (T_api_State.pvs p1)]⟩) (tips := [(0, { r := 2 }), (1, { T := [0], r := 2 }), (3, { tip := { orc := .cells (T_api_Proc.enc y64) } }), (5, { r := 2 }), (6, { T := [1], r := 2 }), (8, { tip := { orc := .cells (T_api_Proc.enc y65) } }), (10, { tip := { pc := some { ρ := [], n0 := 0, res := bo y66, σ' := [], e := [] } }, r := 2 })]) (by kernel_rfl) (allc (elemAt_of T_api_Proc.enc_len hy64) (allc (elemAt_of T_api_Proc.enc_len hy65) (allc (C_retraceref22_Same y64 y65 y66 hy66) all0))) (norm ?_)
        refine At.cond (!y66) (by kernel_rfl) (fun b67 => ?_) (fun b67 => ?_)
        · replace h := cond_t b67 h
          refine At.seq ?_
          refine At.region_end [4] [] _ (st' := ⟨[(4, bo false)], []⟩) (tips := []) (by kernel_rfl) all0 (norm ?_)
          obtain ⟨r68, h, e69⟩ := map_inr h
          rw [f51 _ e69] at h
          obtain rfl := some_eq h
          exact At.ret fun a w hs => ret_ok hR (ρ := []) (gs := []) (by kernel_rfl) all0 (by kernel_rfl) rfl rfl a w hs _ (.inl rfl)
        · replace h := cond_f b67 h
          refine At.nar [2, 3, 5] [0, 1] (st' := ⟨[(2, .ptr 0 0), (3, .ptr 1 0), (5, i64 x49)], [.blk 25 (T_api_State.pvs p0), .blk 25 (T_api_State.pvs p1)]⟩) (by kernel_rfl) ?_
          refine At.skip (norm ?_)
          refine At.region_end [2, 3, 5] [0, 1] _ (st' := ⟨[(2, .ptr 0 0), (3, .ptr 1 0), (5, i64 (w64 (x49 + 1)))], [.blk 25 (T_api_State.pvs p0), .blk 25 (T_api_State.pvs p1)]⟩) (tips := []) (by kernel_rfl) all0 (fun a w hs => ⟨_, (some_eq h).symm, hs⟩)
      · replace h := cond_f b53 h
        refine At.nar [] [] (st' := ⟨[], []⟩) (by kernel_rfl) ?_
        obtain ⟨r70, h, e71⟩ := map_inr h
        rw [f51 _ e71] at h
        refine At.exit (norm ?_)
        refine At.seq ?_
        refine At.region_end [4] [] _ (st' := ⟨[(4, bo true)], []⟩) (tips := []) (by kernel_rfl) all0 (norm ?_)
        obtain rfl := some_eq h
        exact At.ret fun a w hs => ret_ok hR (ρ := []) (gs := []) (by kernel_rfl) all0 (by kernel_rfl) rfl rfl a w hs _ (.inl rfl)
set_option maxRecDepth 100000 in
theorem C_retracelaw30_DumpPuts (p0 : T_api_State) (r : Bool) (h : F_retracelaw30_DumpPuts p0 = some r) : FnOK Try.prog 3 [.agg (T_api_State.pvs p0)] [] (bo r) [] [] := by
  rw [F_retracelaw30_DumpPuts] at h
  refine FnOK.intro Try.func3 rfl (by kernel_rfl) (by kernel_rfl) fun E gv R hR => ?_
  refine At.seq ?_
  refine At.region_end [1] [0] _ (st' := ⟨[(1, .ptr 0 0)], [.blk 25 (T_api_State.pvs p0)]⟩) (tips := []) (by kernel_rfl) all0 (norm ?_)
  refine At.seq ?_
  refine At.seq ?_
  obtain ⟨y7, hy7, h⟩ := bind_some h
  refine At.region_end [1, 7] [0] _ (st' := ⟨[(1, .ptr 0 0), (7, bo y7)], [.blk 25 (T_api_State.pvs p0)]⟩) (tips := [(1, { pc := some { ρ := [], n0 := 0, res := bo y7, σ' := [], e := [] } })]) (by kernel_rfl) (allc (C_retracelaw30_large p0 y7 hy7) all0) (norm ?_)
  refine At.cond y7 (by kernel_rfl) (fun b8 => ?_) (fun b8 => ?_)
  · replace h := cond_t b8 h
    refine At.seq ?_
    obtain ⟨y10, hy10, h⟩ := bind_some h
    refine At.region_end [2] [] _ (st' := ⟨[(2, bo y10)], []⟩) (tips := [(0, { pc := some { ρ := [], n0 := 0, res := bo y10, σ' := [], e := [] } })]) (by kernel_rfl) (allc (C_retracelaw30_live y10 hy10) all0) (norm ?_)
    obtain rfl := some_eq h
    exact At.ret fun a w hs => ret_ok hR (ρ := []) (gs := []) (by kernel_rfl) all0 (by kernel_rfl) rfl rfl a w hs _ (.inl rfl)
  · replace h := cond_f b8 h
    refine At.nar [1] [0] (st' := ⟨[(1, .ptr 0 0)], [.blk 25 (T_api_State.pvs p0)]⟩) (by kernel_rfl) ?_
    refine At.skip (norm ?_)
    refine At.seq ?_
    obtain ⟨y12, hy12, h⟩ := bind_some h
    refine At.region_end [1, 3] [0] _ (st' := ⟨[(1, .ptr 0 0), (3, sv y12)], [.blk 25 (T_api_State.pvs p0)]⟩) (tips := [(1, { pc := some { ρ := [], n0 := 0, res := sv y12, σ' := [], e := [] } })]) (by kernel_rfl) (allc (C_dump_Put_v2 p0 y12 hy12) all0) (norm ?_)
    refine At.seq ?_
    obtain ⟨y14, hy14, h⟩ := bind_some h
    refine At.region_end [1, 3, 4, 5] [0, 1] _ (st' := ⟨[(1, .ptr 0 0), (3, sv y12), (4, .ptr 1 0), (5, i64 y14.2)], [.blk 25 (T_api_State.pvs p0), .blk 25 (T_api_State.pvs y14.1)]⟩) (tips := [(1, { pc := some { ρ := [], n0 := 0, res := .tup [.agg (T_api_State.pvs y14.1), i64 y14.2], σ' := [], e := [] } })]) (by kernel_rfl) (allc (C_dump_Get y12 y14 hy14) all0) (norm ?_)
    refine At.seqJ (S := Bool) (fun s => ⟨[(2, bo s)], []⟩) (fun s => F_retracelaw30_DumpPuts_J1 s = some r) ?_ ?_
    · obtain ⟨y22, hy22, h⟩ := bind_some h
      rcases tf (y12.toList == y22.toList) with b23 | b23
      · replace h := cond_t b23 h
        obtain ⟨y24, hy24, h⟩ := bind_some h
        rcases tf y24 with b25 | b25
        · replace h := cond_t b25 h
          rcases tf (y14.2 == 0) with b26 | b26
          · replace h := cond_t b26 h
            obtain ⟨y27, hy27, h⟩ := bind_some h
            refine At.region_end [2] [] _ (st' := ⟨[(2, bo y27)], []⟩) (tips := [(2, { pc := some { ρ := [], n0 := 0, res := sv y22, σ' := [], e := [] } }), (4, { orc := .val (.bool true) }), (7, { pc := some { ρ := [], n0 := 0, res := bo y24, σ' := [], e := [] } }), (9, { orc := .val (.bool true) }), (13, { orc := .val (.bool true) }), (14, { pc := some { ρ := [], n0 := 0, res := bo y27, σ' := [], e := [] } })]) (by kernel_rfl) (allc (C_retraceref30_Put p0 y22 hy22) (allc (congrArg D.bool b23) (allc (C_retraceref28_Same y14.1 p0 y24 hy24) (allc (congrArg D.bool b25) (allc (congrArg D.bool b26) (allc (C_retracelaw30_live y27 hy27) all0)))))) (fun a w hs => ⟨y27, h, hs⟩)
          · replace h := cond_f b26 h
            refine At.region_end [2] [] _ (st' := ⟨[(2, bo false)], []⟩) (tips := [(2, { pc := some { ρ := [], n0 := 0, res := sv y22, σ' := [], e := [] } }), (4, { orc := .val (.bool true) }), (7, { pc := some { ρ := [], n0 := 0, res := bo y24, σ' := [], e := [] } }), (9, { orc := .val (.bool true) }), (13, { orc := .val (.bool false) })]) (by kernel_rfl) (allc (C_retraceref30_Put p0 y22 hy22) (allc (congrArg D.bool b23) (allc (C_retraceref28_Same y14.1 p0 y24 hy24) (allc (congrArg D.bool b25) (allc (congrArg D.bool b26) all0))))) (fun a w hs => ⟨false, h, hs⟩)
        · replace h := cond_f b25 h
          refine At.region_end [2] [] _ (st' := ⟨[(2, bo false)], []⟩) (tips := [(2, { pc := some { ρ := [], n0 := 0, res := sv y22, σ' := [], e := [] } }), (4, { orc := .val (.bool true) }), (7, { pc := some { ρ := [], n0 := 0, res := bo y24, σ' := [], e := [] } }), (9, { orc := .val (.bool false) })]) (by kernel_rfl) (allc (C_retraceref30_Put p0 y22 hy22) (allc (congrArg D.bool b23) (allc (C_retraceref28_Same y14.1 p0 y24 hy24) (allc (congrArg D.bool b25) all0)))) (fun a w hs => ⟨false, h, hs⟩)
      · replace h := cond_f b23 h
        refine At.region_end [2] [] _ (st' := ⟨[(2, bo false)], []⟩) (tips := [(2, { pc := some { ρ := [], n0 := 0, res := sv y22, σ' := [], e := [] } }), (4, { orc := .val (.bool false) })]) (by kernel_rfl) (allc (C_retraceref30_Put p0 y22 hy22) (allc (congrArg D.bool b23) all0)) (fun a w hs => ⟨false, h, hs⟩)
    · intro x21 h
      replace h : F_retracelaw30_DumpPuts_J1 x21 = some r := h
      rw [F_retracelaw30_DumpPuts_J1] at h
      obtain rfl := some_eq h
      exact At.ret fun a w hs => ret_ok hR (ρ := []) (gs := []) (by kernel_rfl) all0 (by kernel_rfl) rfl rfl a w hs _ (.inl rfl)
set_option maxRecDepth 100000 in
theorem C_retraceref01_Get (p0 : ByteArray) (p1 : Int) (r : T_retraceref01_Got) (h : F_retraceref01_Get p0 p1 = some r) : FnOK Try.prog 85 [sv p0, i64 p1] [] (.agg (T_retraceref01_Got.pvs r)) [] [] := by
  rw [F_retraceref01_Get] at h
  refine FnOK.intro Try.func85 rfl (by kernel_rfl) (by kernel_rfl) fun E gv R hR => ?_
  refine At.seq ?_
  refine At.region_end [0, 1, 4] [0] _ (st' := ⟨[(0, sv p0), (1, i64 p1), (4, .ptr 0 0)], [.blk 127 [u64 0, i64 0, i64 0]]⟩) (tips := []) (by kernel_rfl) all0 (norm ?_)
  refine At.seq ?_
  refine At.seqJ (S := Bool) (fun s => ⟨[(0, sv p0), (1, i64 p1), (4, .ptr 0 0), (16, bo s)], [.blk 127 [u64 0, i64 0, i64 0]]⟩) (fun s => F_retraceref01_Get_J1 p0 p1 s = some r) ?_ ?_
  · rcases tf (decide (p1 < 0)) with b142 | b142
    · replace h := cond_t b142 h
      refine At.region_end [0, 1, 4, 16] [0] _ (st' := ⟨[(0, sv p0), (1, i64 p1), (4, .ptr 0 0), (16, bo true)], [.blk 127 [u64 0, i64 0, i64 0]]⟩) (tips := [(2, { orc := .val (.bool true) })]) (by kernel_rfl) (allc (congrArg D.bool b142) all0) (fun a w hs => ⟨true, h, hs⟩)
    · replace h := cond_f b142 h
      refine At.region_end [0, 1, 4, 16] [0] _ (st' := ⟨[(0, sv p0), (1, i64 p1), (4, .ptr 0 0), (16, bo (decide ((p0.size : Int) < p1)))], [.blk 127 [u64 0, i64 0, i64 0]]⟩) (tips := [(2, { orc := .val (.bool false) })]) (by kernel_rfl) (allc (congrArg D.bool b142) all0) (fun a w hs => ⟨(decide ((p0.size : Int) < p1)), h, hs⟩)
  · intro x6 h
    replace h : F_retraceref01_Get_J1 p0 p1 x6 = some r := h
    rw [F_retraceref01_Get_J1] at h
    refine At.cond x6 (by kernel_rfl) (fun b7 => ?_) (fun b7 => ?_)
    · replace h := cond_t b7 h
      refine At.seq ?_
      refine At.region_end [4] [0] _ (st' := ⟨[(4, .ptr 0 0)], [.blk 127 [u64 0, i64 0, i64 1]]⟩) (tips := []) (by kernel_rfl) all0 (norm ?_)
      obtain rfl := some_eq h
      exact At.ret fun a w hs => ret_ok hR (ρ := []) (gs := []) (by kernel_rfl) all0 (by kernel_rfl) rfl rfl a w hs _ (.inl rfl)
    · replace h := cond_f b7 h
      refine At.nar [0, 1, 4] [0] (st' := ⟨[(0, sv p0), (1, i64 p1), (4, .ptr 0 0)], [.blk 127 [u64 0, i64 0, i64 0]]⟩) (by kernel_rfl) ?_
      refine At.skip (norm ?_)
      refine At.seq ?_
      refine At.region_end [0, 1, 4, 5, 6] [0] _ (st' := ⟨[(0, sv p0), (1, i64 p1), (4, .ptr 0 0), (5, u64 0), (6, u64 1)], [.blk 127 [u64 0, i64 0, i64 0]]⟩) (tips := []) (by kernel_rfl) all0 (norm ?_)
      refine At.seq ?_
      refine At.seq ?_
      refine At.region_end [0, 1, 4, 5, 6, 7] [0] _ (st' := ⟨[(0, sv p0), (1, i64 p1), (4, .ptr 0 0), (5, u64 0), (6, u64 1), (7, i64 0)], [.blk 127 [u64 0, i64 0, i64 0]]⟩) (tips := []) (by kernel_rfl) all0 (norm ?_)
      refine At.block ?_
      refine At.loop (fun s : (Int × Int × Int) => F_retraceref01_Get_L3 p0 p1 s.1 s.2.1 s.2.2) (fun s : (Int × Int × Int) => ⟨[(0, sv p0), (1, i64 p1), (4, .ptr 0 0), (5, u64 s.1), (6, u64 s.2.1), (7, i64 s.2.2)], [.blk 127 [u64 0, i64 0, i64 0]]⟩) r (0, 1, 0) h ?_
      rintro ⟨x75, x76, x77⟩ oo78 h f79
      replace h : F_retraceref01_Get_L3 p0 p1 x75 x76 x77 = some oo78 := h
      rw [F_retraceref01_Get_L3] at h
      refine At.seq ?_
      refine At.seq ?_
      refine At.region_end [0, 1, 4, 5, 6, 7, 19] [0] _ (st' := ⟨[(0, sv p0), (1, i64 p1), (4, .ptr 0 0), (5, u64 x75), (6, u64 x76), (7, i64 x77), (19, bo (decide (x77 < 10)))], [.blk 127 [u64 0, i64 0, i64 0]]⟩) (tips := []) (by kernel_rfl) all0 (norm ?_)
      refine At.cond (decide (x77 < 10)) (by kernel_rfl) (fun b81 => ?_) (fun b81 => ?_)
      · replace h := cond_t b81 h
        refine At.nar [0, 1, 4, 5, 6, 7] [0] (st' := ⟨[(0, sv p0), (1, i64 p1), (4, .ptr 0 0), (5, u64 x75), (6, u64 x76), (7, i64 x77)], [.blk 127 [u64 0, i64 0, i64 0]]⟩) (by kernel_rfl) ?_
        refine At.skip (norm ?_)
        refine At.seq ?_
        refine At.block ?_
        refine At.seq ?_
        refine At.seq ?_
        refine At.region_end [0, 1, 4, 5, 6, 7, 27] [0] _ (st' := ⟨[(0, sv p0), (1, i64 p1), (4, .ptr 0 0), (5, u64 x75), (6, u64 x76), (7, i64 x77), (27, bo (decide ((p0.size : Int) ≤ (w64 (p1 + x77)))))], [.blk 127 [u64 0, i64 0, i64 0]]⟩) (tips := []) (by kernel_rfl) all0 (norm ?_)
        refine At.cond (decide ((p0.size : Int) ≤ (w64 (p1 + x77)))) (by kernel_rfl) (fun b109 => ?_) (fun b109 => ?_)
        · replace h := cond_t b109 h
          refine At.seq ?_
          refine At.region_end [4] [0] _ (st' := ⟨[(4, .ptr 0 0)], [.blk 127 [u64 0, i64 0, i64 2]]⟩) (tips := []) (by kernel_rfl) all0 (norm ?_)
          obtain ⟨r110, h, e111⟩ := map_inr h
          rw [f79 _ e111] at h
          obtain rfl := some_eq h
          exact At.ret fun a w hs => ret_ok hR (ρ := []) (gs := []) (by kernel_rfl) all0 (by kernel_rfl) rfl rfl a w hs _ (.inl rfl)
        · replace h := cond_f b109 h
          refine At.nar [0, 1, 4, 5, 6, 7] [0] (st' := ⟨[(0, sv p0), (1, i64 p1), (4, .ptr 0 0), (5, u64 x75), (6, u64 x76), (7, i64 x77)], [.blk 127 [u64 0, i64 0, i64 0]]⟩) (by kernel_rfl) ?_
          refine At.skip (norm ?_)
          refine At.seq ?_
          obtain ⟨y113, hy113, h⟩ := bind_some h
          refine At.region_end [0, 1, 4, 5, 6, 7, 8] [0] _ (st' := ⟨[(0, sv p0), (1, i64 p1), (4, .ptr 0 0), (5, u64 x75), (6, u64 x76), (7, i64 x77), (8, u8 y113)], [.blk 127 [u64 0, i64 0, i64 0]]⟩) (tips := [(4, { orc := .val (.int .u8 y113) })]) (by kernel_rfl) (allc hy113 all0) (norm ?_)
          refine At.seq ?_
          refine At.seqJ (S := Bool) (fun s => ⟨[(0, sv p0), (1, i64 p1), (4, .ptr 0 0), (5, u64 x75), (6, u64 x76), (7, i64 x77), (8, u8 y113), (47, bo s)], [.blk 127 [u64 0, i64 0, i64 0]]⟩) (fun s => F_retraceref01_Get_J2 p1 x75 x76 x77 y113 s = some oo78) ?_ ?_
          · rcases tf (x77 == 9) with b136 | b136
            · replace h := cond_t b136 h
              rcases tf (decide (1 < y113)) with b137 | b137
              · replace h := cond_t b137 h
                refine At.region_end [0, 1, 4, 5, 6, 7, 8, 47] [0] _ (st' := ⟨[(0, sv p0), (1, i64 p1), (4, .ptr 0 0), (5, u64 x75), (6, u64 x76), (7, i64 x77), (8, u8 y113), (47, bo true)], [.blk 127 [u64 0, i64 0, i64 0]]⟩) (tips := [(2, { orc := .val (.bool true) }), (6, { orc := .val (.bool true) })]) (by kernel_rfl) (allc (congrArg D.bool b136) (allc (congrArg D.bool b137) all0)) (fun a w hs => ⟨true, h, hs⟩)
              · replace h := cond_f b137 h
                rcases tf (y113 == 0) with b138 | b138
                · replace h := cond_t b138 h
                  refine At.region_end [0, 1, 4, 5, 6, 7, 8, 47] [0] _ (st' := ⟨[(0, sv p0), (1, i64 p1), (4, .ptr 0 0), (5, u64 x75), (6, u64 x76), (7, i64 x77), (8, u8 y113), (47, bo (decide (0 < x77)))], [.blk 127 [u64 0, i64 0, i64 0]]⟩) (tips := [(2, { orc := .val (.bool true) }), (6, { orc := .val (.bool false) }), (9, { orc := .val (.bool true) })]) (by kernel_rfl) (allc (congrArg D.bool b136) (allc (congrArg D.bool b137) (allc (congrArg D.bool b138) all0))) (fun a w hs => ⟨(decide (0 < x77)), h, hs⟩)
                · replace h := cond_f b138 h
                  refine At.region_end [0, 1, 4, 5, 6, 7, 8, 47] [0] _ (st' := ⟨[(0, sv p0), (1, i64 p1), (4, .ptr 0 0), (5, u64 x75), (6, u64 x76), (7, i64 x77), (8, u8 y113), (47, bo false)], [.blk 127 [u64 0, i64 0, i64 0]]⟩) (tips := [(2, { orc := .val (.bool true) }), (6, { orc := .val (.bool false) }), (9, { orc := .val (.bool false) })]) (by kernel_rfl) (allc (congrArg D.bool b136) (allc (congrArg D.bool b137) (allc (congrArg D.bool b138) all0))) (fun a w hs => ⟨false, h, hs⟩)
            · replace h := cond_f b136 h
              rcases tf (y113 == 0) with b139 | b139
              · replace h := cond_t b139 h
                refine At.region_end [0, 1, 4, 5, 6, 7, 8, 47] [0] _ (st' := ⟨[(0, sv p0), (1, i64 p1), (4, .ptr 0 0), (5, u64 x75), (6, u64 x76), (7, i64 x77), (8, u8 y113), (47, bo (decide (0 < x77)))], [.blk 127 [u64 0, i64 0, i64 0]]⟩) (tips := [(2, { orc := .val (.bool false) }), (9, { orc := .val (.bool true) })]) (by kernel_rfl) (allc (congrArg D.bool b136) (allc (congrArg D.bool b139) all0)) (fun a w hs => ⟨(decide (0 < x77)), h, hs⟩)
              · replace h := cond_f b139 h
                refine At.region_end [0, 1, 4, 5, 6, 7, 8, 47] [0] _ (st' := ⟨[(0, sv p0), (1, i64 p1), (4, .ptr 0 0), (5, u64 x75), (6, u64 x76), (7, i64 x77), (8, u8 y113), (47, bo false)], [.blk 127 [u64 0, i64 0, i64 0]]⟩) (tips := [(2, { orc := .val (.bool false) }), (9, { orc := .val (.bool false) })]) (by kernel_rfl) (allc (congrArg D.bool b136) (allc (congrArg D.bool b139) all0)) (fun a w hs => ⟨false, h, hs⟩)
          · intro x128 h
            replace h : F_retraceref01_Get_J2 p1 x75 x76 x77 y113 x128 = some oo78 := h
            rw [F_retraceref01_Get_J2] at h
            refine At.cond x128 (by kernel_rfl) (fun b129 => ?_) (fun b129 => ?_)
            · replace h := cond_t b129 h
              refine At.seq ?_
              refine At.region_end [4] [0] _ (st' := ⟨[(4, .ptr 0 0)], [.blk 127 [u64 0, i64 0, i64 3]]⟩) (tips := []) (by kernel_rfl) all0 (norm ?_)
              obtain ⟨r130, h, e131⟩ := map_inr h
              rw [f79 _ e131] at h
              obtain rfl := some_eq h
              exact At.ret fun a w hs => ret_ok hR (ρ := []) (gs := []) (by kernel_rfl) all0 (by kernel_rfl) rfl rfl a w hs _ (.inl rfl)
            · replace h := cond_f b129 h
              refine At.nar [0, 1, 4, 5, 6, 7, 8] [0] (st' := ⟨[(0, sv p0), (1, i64 p1), (4, .ptr 0 0), (5, u64 x75), (6, u64 x76), (7, i64 x77), (8, u8 y113)], [.blk 127 [u64 0, i64 0, i64 0]]⟩) (by kernel_rfl) ?_
              refine At.skip (norm ?_)
              refine At.seq ?_
              refine At.region_end [0, 1, 4, 5, 6, 7, 8] [0] _ (st' := ⟨[(0, sv p0), (1, i64 p1), (4, .ptr 0 0), (5, u64 (wu64 (x75 + (wu64 ((wu64 (Int.tmod y113 128)) * x76))))), (6, u64 x76), (7, i64 x77), (8, u8 y113)], [.blk 127 [u64 0, i64 0, i64 0]]⟩) (tips := []) (by kernel_rfl) (allc (by decide : 128 ≠ (0:Int)) all0) (norm ?_)
              refine At.seq ?_
              refine At.seq ?_
              refine At.region_end [0, 1, 4, 5, 6, 7, 57] [0] _ (st' := ⟨[(0, sv p0), (1, i64 p1), (4, .ptr 0 0), (5, u64 (wu64 (x75 + (wu64 ((wu64 (Int.tmod y113 128)) * x76))))), (6, u64 x76), (7, i64 x77), (57, bo (decide (y113 < 128)))], [.blk 127 [u64 0, i64 0, i64 0]]⟩) (tips := []) (by kernel_rfl) all0 (norm ?_)
              refine At.cond (decide (y113 < 128)) (by kernel_rfl) (fun b133 => ?_) (fun b133 => ?_)
              · replace h := cond_t b133 h
                refine At.seq ?_
                refine At.region_end [4] [0] _ (st' := ⟨[(4, .ptr 0 0)], [.blk 127 [u64 (wu64 (x75 + (wu64 ((wu64 (Int.tmod y113 128)) * x76)))), i64 (w64 ((w64 (p1 + x77)) + 1)), i64 0]]⟩) (tips := []) (by kernel_rfl) all0 (norm ?_)
                obtain ⟨r134, h, e135⟩ := map_inr h
                rw [f79 _ e135] at h
                obtain rfl := some_eq h
                exact At.ret fun a w hs => ret_ok hR (ρ := []) (gs := []) (by kernel_rfl) all0 (by kernel_rfl) rfl rfl a w hs _ (.inl rfl)
              · replace h := cond_f b133 h
                refine At.nar [0, 1, 4, 5, 6, 7] [0] (st' := ⟨[(0, sv p0), (1, i64 p1), (4, .ptr 0 0), (5, u64 (wu64 (x75 + (wu64 ((wu64 (Int.tmod y113 128)) * x76))))), (6, u64 x76), (7, i64 x77)], [.blk 127 [u64 0, i64 0, i64 0]]⟩) (by kernel_rfl) ?_
                refine At.skip (norm ?_)
                refine At.region_end [0, 1, 4, 5, 6, 7] [0] _ (st' := ⟨[(0, sv p0), (1, i64 p1), (4, .ptr 0 0), (5, u64 (wu64 (x75 + (wu64 ((wu64 (Int.tmod y113 128)) * x76))))), (6, u64 (wu64 (x76 * 128))), (7, i64 x77)], [.blk 127 [u64 0, i64 0, i64 0]]⟩) (tips := []) (by kernel_rfl) all0 (norm ?_)
                refine At.region_end [0, 1, 4, 5, 6, 7] [0] _ (st' := ⟨[(0, sv p0), (1, i64 p1), (4, .ptr 0 0), (5, u64 (wu64 (x75 + (wu64 ((wu64 (Int.tmod y113 128)) * x76))))), (6, u64 (wu64 (x76 * 128))), (7, i64 (w64 (x77 + 1)))], [.blk 127 [u64 0, i64 0, i64 0]]⟩) (tips := []) (by kernel_rfl) all0 (fun a w hs => ⟨_, (some_eq h).symm, hs⟩)
      · replace h := cond_f b81 h
        refine At.nar [4] [0] (st' := ⟨[(4, .ptr 0 0)], [.blk 127 [u64 0, i64 0, i64 0]]⟩) (by kernel_rfl) ?_
        obtain ⟨r140, h, e141⟩ := map_inr h
        rw [f79 _ e141] at h
        refine At.exit (norm ?_)
        refine At.seq ?_
        refine At.region_end [4] [0] _ (st' := ⟨[(4, .ptr 0 0)], [.blk 127 [u64 0, i64 0, i64 3]]⟩) (tips := []) (by kernel_rfl) all0 (norm ?_)
        obtain rfl := some_eq h
        exact At.ret fun a w hs => ret_ok hR (ρ := []) (gs := []) (by kernel_rfl) all0 (by kernel_rfl) rfl rfl a w hs _ (.inl rfl)
set_option maxRecDepth 100000 in
theorem C_retraceref03_Reader_fail (p1 : Int) (o0 : T_retraceref03_Reader) (r : T_retraceref03_Reader) (h : F_retraceref03_Reader_fail p1 o0 = some r) : FnOK Try.prog 54 [.ptr 0 0, i64 p1] [.blk 41 (T_retraceref03_Reader.pvs o0)] (.tup []) [.blk 41 (T_retraceref03_Reader.pvs r)] [1] := by
  rw [F_retraceref03_Reader_fail] at h
  refine FnOK.intro Try.func54 rfl (by kernel_rfl) (by kernel_rfl) fun E gv R hR => ?_
  refine At.seq ?_
  refine At.region_end [0, 1, 8] [0, 1] _ (st' := ⟨[(0, .ptr 0 0), (1, i64 p1), (8, bo (o0.Bad == 0))], [.blk 41 (T_retraceref03_Reader.pvs o0), .ghost (gv 0) (.ptr 0 0)]⟩) (tips := []) (by kernel_rfl) all0 (norm ?_)
  refine At.cond (o0.Bad == 0) (by kernel_rfl) (fun b1 => ?_) (fun b1 => ?_)
  · replace h := cond_t b1 h
    obtain rfl := some_eq h
    refine At.region_end [] [0, 1] _ (st' := ⟨[], [.blk 41 [sv o0.S, i64 p1], .ghost (gv 0) (.ptr 0 0)]⟩) (tips := []) (by kernel_rfl) all0 (fun a w hs => ret_ok hR (ρ := [0]) (gs := [.ghost (gv 0) (.ptr 0 0)]) (by kernel_rfl) all0 (by kernel_rfl) rfl rfl a w hs _ (.inr rfl))
  · replace h := cond_f b1 h
    refine At.nar [] [0, 1] (st' := ⟨[], [.blk 41 (T_retraceref03_Reader.pvs o0), .ghost (gv 0) (.ptr 0 0)]⟩) (by kernel_rfl) ?_
    obtain rfl := some_eq h
    refine At.skip (fun a w hs => ret_ok hR (ρ := [0]) (gs := [.ghost (gv 0) (.ptr 0 0)]) (by kernel_rfl) all0 (by kernel_rfl) rfl rfl a w hs _ (.inr rfl))
set_option maxRecDepth 100000 in
theorem C_retraceref03_Reader_Num (o0 : T_retraceref03_Reader) (r : Int × T_retraceref03_Reader) (h : F_retraceref03_Reader_Num o0 = some r) : FnOK Try.prog 77 [.ptr 0 0] [.blk 41 (T_retraceref03_Reader.pvs o0)] (u64 r.1) [.blk 41 (T_retraceref03_Reader.pvs r.2)] [1] := by
  rw [F_retraceref03_Reader_Num] at h
  refine FnOK.intro Try.func77 rfl (by kernel_rfl) (by kernel_rfl) fun E gv R hR => ?_
  refine At.seq ?_
  refine At.region_end [0] [0, 1] _ (st' := ⟨[(0, .ptr 0 0)], [.blk 41 (T_retraceref03_Reader.pvs o0), .ghost (gv 0) (.ptr 0 0)]⟩) (tips := []) (by kernel_rfl) all0 (norm ?_)
  refine At.seq ?_
  refine At.seq ?_
  refine At.region_end [0, 8] [0, 1] _ (st' := ⟨[(0, .ptr 0 0), (8, bo (o0.Bad != 0))], [.blk 41 (T_retraceref03_Reader.pvs o0), .ghost (gv 0) (.ptr 0 0)]⟩) (tips := []) (by kernel_rfl) all0 (norm ?_)
  refine At.cond (o0.Bad != 0) (by kernel_rfl) (fun b2 => ?_) (fun b2 => ?_)
  · replace h := cond_t b2 h
    refine At.seq ?_
    refine At.region_end [2] [0, 1] _ (st' := ⟨[(2, u64 0)], [.blk 41 (T_retraceref03_Reader.pvs o0), .ghost (gv 0) (.ptr 0 0)]⟩) (tips := []) (by kernel_rfl) all0 (norm ?_)
    obtain rfl := some_eq h
    exact At.ret fun a w hs => ret_ok hR (ρ := [0]) (gs := [.ghost (gv 0) (.ptr 0 0)]) (by kernel_rfl) all0 (by kernel_rfl) rfl rfl a w hs _ (.inl rfl)
  · replace h := cond_f b2 h
    refine At.nar [0] [0, 1] (st' := ⟨[(0, .ptr 0 0)], [.blk 41 (T_retraceref03_Reader.pvs o0), .ghost (gv 0) (.ptr 0 0)]⟩) (by kernel_rfl) ?_
    refine At.skip (norm ?_)
    refine At.seq ?_
    obtain ⟨y4, hy4, h⟩ := bind_some h
    refine At.region_end [0, 3] [0, 1, 2] _ (st' := ⟨[(0, .ptr 0 0), (3, .ptr 2 0)], [.blk 41 (T_retraceref03_Reader.pvs o0), .ghost (gv 0) (.ptr 0 0), .blk 127 (T_retraceref01_Got.pvs y4)]⟩) (tips := [(4, { pc := some { ρ := [], n0 := 0, res := .agg (T_retraceref01_Got.pvs y4), σ' := [], e := [] } })]) (by kernel_rfl) (allc (C_retraceref01_Get o0.S 0 y4 hy4) all0) (norm ?_)
    refine At.seq ?_
    refine At.seq ?_
    refine At.region_end [0, 3, 16] [0, 1, 2] _ (st' := ⟨[(0, .ptr 0 0), (3, .ptr 2 0), (16, bo (y4.E != 0))], [.blk 41 (T_retraceref03_Reader.pvs o0), .ghost (gv 0) (.ptr 0 0), .blk 127 (T_retraceref01_Got.pvs y4)]⟩) (tips := []) (by kernel_rfl) all0 (norm ?_)
    refine At.cond (y4.E != 0) (by kernel_rfl) (fun b8 => ?_) (fun b8 => ?_)
    · replace h := cond_t b8 h
      refine At.seq ?_
      obtain ⟨y10, hy10, h⟩ := bind_some h
      refine At.region_end [] [0, 1] _ (st' := ⟨[], [.blk 41 (T_retraceref03_Reader.pvs y10), .ghost (gv 0) (.ptr 0 0)]⟩) (tips := [(3, { pc := some { ρ := [0], n0 := 1, res := .tup [], σ' := [.blk 41 (T_retraceref03_Reader.pvs y10)], e := [1] } })]) (by kernel_rfl) (allc (C_retraceref03_Reader_fail y4.E o0 y10 hy10) all0) (norm ?_)
      refine At.seq ?_
      refine At.region_end [2] [0, 1] _ (st' := ⟨[(2, u64 0)], [.blk 41 (T_retraceref03_Reader.pvs y10), .ghost (gv 0) (.ptr 0 0)]⟩) (tips := []) (by kernel_rfl) all0 (norm ?_)
      obtain rfl := some_eq h
      exact At.ret fun a w hs => ret_ok hR (ρ := [0]) (gs := [.ghost (gv 0) (.ptr 0 0)]) (by kernel_rfl) all0 (by kernel_rfl) rfl rfl a w hs _ (.inl rfl)
    · replace h := cond_f b8 h
      refine At.nar [0, 3] [0, 1, 2] (st' := ⟨[(0, .ptr 0 0), (3, .ptr 2 0)], [.blk 41 (T_retraceref03_Reader.pvs o0), .ghost (gv 0) (.ptr 0 0), .blk 127 (T_retraceref01_Got.pvs y4)]⟩) (by kernel_rfl) ?_
      refine At.skip (norm ?_)
      refine At.seq ?_
      obtain ⟨g12, h⟩ := grd_some h
      refine At.draw_end mixedOrd 0 [3] [0, 1, 2] _ (st' := ⟨[(3, .ptr 2 0)], [.blk 41 [sv (o0.S.extract (Int.toNat y4.Next) (Int.toNat (o0.S.size : Int))), i64 o0.Bad], .ghost (gv 0) (.ptr 0 0), .blk 127 (T_retraceref01_Got.pvs y4)]⟩) (tips := [(0, { r := 3 }), (1, { r := 3 }), (2, { r := 3 }), (3, { r := 3 }), (4, { T := [0], r := 3 }), (5, { r := 3 }), (6, { T := [2], r := 3 }), (8, { r := 3 }), (9, { r := 3 }), (10, { T := [0], r := 3 })]) (by kernel_rfl) (allc g12 all0) (norm ?_)
      refine At.seq ?_
      refine At.region_end [2] [0, 1] _ (st' := ⟨[(2, u64 y4.U)], [.blk 41 [sv (o0.S.extract (Int.toNat y4.Next) (Int.toNat (o0.S.size : Int))), i64 o0.Bad], .ghost (gv 0) (.ptr 0 0)]⟩) (tips := []) (by kernel_rfl) all0 (norm ?_)
      obtain rfl := some_eq h
      exact At.ret fun a w hs => ret_ok hR (ρ := [0]) (gs := [.ghost (gv 0) (.ptr 0 0)]) (by kernel_rfl) all0 (by kernel_rfl) rfl rfl a w hs _ (.inl rfl)
set_option maxRecDepth 100000 in
theorem C_retraceref01_Zag (p0 : Int) (r : Int) (h : F_retraceref01_Zag p0 = some r) : FnOK Try.prog 76 [u64 p0] [] (i64 r) [] [] := by
  rw [F_retraceref01_Zag] at h
  refine FnOK.intro Try.func76 rfl (by kernel_rfl) (by kernel_rfl) fun E gv R hR => ?_
  refine At.seq ?_
  refine At.region_end [0] [] _ (st' := ⟨[(0, u64 p0)], []⟩) (tips := []) (by kernel_rfl) all0 (norm ?_)
  refine At.seq ?_
  refine At.seq ?_
  refine At.region_end [0, 5] [] _ (st' := ⟨[(0, u64 p0), (5, bo ((Int.tmod p0 2) == 1))], []⟩) (tips := []) (by kernel_rfl) (allc (by decide : 2 ≠ (0:Int)) all0) (norm ?_)
  refine At.cond ((Int.tmod p0 2) == 1) (by kernel_rfl) (fun b2 => ?_) (fun b2 => ?_)
  · replace h := cond_t b2 h
    refine At.seq ?_
    refine At.region_end [2] [] _ (st' := ⟨[(2, i64 (w64 ((w64 (0 - (w64 (wu64 (Int.tdiv p0 2))))) - 1)))], []⟩) (tips := []) (by kernel_rfl) (allc (by decide : 2 ≠ (0:Int)) all0) (norm ?_)
    obtain rfl := some_eq h
    exact At.ret fun a w hs => ret_ok hR (ρ := []) (gs := []) (by kernel_rfl) all0 (by kernel_rfl) rfl rfl a w hs _ (.inl rfl)
  · replace h := cond_f b2 h
    refine At.nar [0] [] (st' := ⟨[(0, u64 p0)], []⟩) (by kernel_rfl) ?_
    refine At.skip (norm ?_)
    refine At.seq ?_
    refine At.region_end [2] [] _ (st' := ⟨[(2, i64 (w64 (wu64 (Int.tdiv p0 2))))], []⟩) (tips := []) (by kernel_rfl) (allc (by decide : 2 ≠ (0:Int)) all0) (norm ?_)
    obtain rfl := some_eq h
    exact At.ret fun a w hs => ret_ok hR (ρ := []) (gs := []) (by kernel_rfl) all0 (by kernel_rfl) rfl rfl a w hs _ (.inl rfl)
set_option maxRecDepth 100000 in
theorem C_retraceref03_Reader_Int (o0 : T_retraceref03_Reader) (r : Int × T_retraceref03_Reader) (h : F_retraceref03_Reader_Int o0 = some r) : FnOK Try.prog 60 [.ptr 0 0] [.blk 41 (T_retraceref03_Reader.pvs o0)] (i64 r.1) [.blk 41 (T_retraceref03_Reader.pvs r.2)] [1] := by
  rw [F_retraceref03_Reader_Int] at h
  refine FnOK.intro Try.func60 rfl (by kernel_rfl) (by kernel_rfl) fun E gv R hR => ?_
  refine At.seq ?_
  refine At.region_end [0] [0, 1] _ (st' := ⟨[(0, .ptr 0 0)], [.blk 41 (T_retraceref03_Reader.pvs o0), .ghost (gv 0) (.ptr 0 0)]⟩) (tips := []) (by kernel_rfl) all0 (norm ?_)
  refine At.seq ?_
  obtain ⟨y3, hy3, h⟩ := bind_some h
  obtain ⟨y4, hy4, h⟩ := bind_some h
  refine At.region_end [2] [0, 1] _ (st' := ⟨[(2, i64 y4)], [.blk 41 (T_retraceref03_Reader.pvs y3.2), .ghost (gv 0) (.ptr 0 0)]⟩) (tips := [(1, { pc := some { ρ := [0], n0 := 1, res := u64 y3.1, σ' := [.blk 41 (T_retraceref03_Reader.pvs y3.2)], e := [1] } }), (2, { pc := some { ρ := [], n0 := 0, res := i64 y4, σ' := [], e := [] } })]) (by kernel_rfl) (allc (C_retraceref03_Reader_Num o0 y3 hy3) (allc (C_retraceref01_Zag y3.1 y4 hy4) all0)) (norm ?_)
  obtain rfl := some_eq h
  exact At.ret fun a w hs => ret_ok hR (ρ := [0]) (gs := [.ghost (gv 0) (.ptr 0 0)]) (by kernel_rfl) all0 (by kernel_rfl) rfl rfl a w hs _ (.inl rfl)
set_option maxRecDepth 100000 in
theorem C_retraceref03_Reader_Upto (p1 : Int) (o0 : T_retraceref03_Reader) (r : Int × T_retraceref03_Reader) (h : F_retraceref03_Reader_Upto p1 o0 = some r) : FnOK Try.prog 61 [.ptr 0 0, i64 p1] [.blk 41 (T_retraceref03_Reader.pvs o0)] (i64 r.1) [.blk 41 (T_retraceref03_Reader.pvs r.2)] [1] := by
  rw [F_retraceref03_Reader_Upto] at h
  refine FnOK.intro Try.func61 rfl (by kernel_rfl) (by kernel_rfl) fun E gv R hR => ?_
  refine At.seq ?_
  refine At.region_end [0, 1] [0, 1] _ (st' := ⟨[(0, .ptr 0 0), (1, i64 p1)], [.blk 41 (T_retraceref03_Reader.pvs o0), .ghost (gv 0) (.ptr 0 0)]⟩) (tips := []) (by kernel_rfl) all0 (norm ?_)
  refine At.seq ?_
  refine At.region_end [0, 1, 5] [0, 1] _ (st' := ⟨[(0, .ptr 0 0), (1, i64 p1), (5, sv o0.S)], [.blk 41 (T_retraceref03_Reader.pvs o0), .ghost (gv 0) (.ptr 0 0)]⟩) (tips := []) (by kernel_rfl) all0 (norm ?_)
  refine At.seq ?_
  obtain ⟨y2, hy2, h⟩ := bind_some h
  refine At.region_end [0, 1, 5, 6] [0, 1] _ (st' := ⟨[(0, .ptr 0 0), (1, i64 p1), (5, sv o0.S), (6, u64 y2.1)], [.blk 41 (T_retraceref03_Reader.pvs y2.2), .ghost (gv 0) (.ptr 0 0)]⟩) (tips := [(1, { pc := some { ρ := [0], n0 := 1, res := u64 y2.1, σ' := [.blk 41 (T_retraceref03_Reader.pvs y2.2)], e := [1] } })]) (by kernel_rfl) (allc (C_retraceref03_Reader_Num o0 y2 hy2) all0) (norm ?_)
  refine At.seq ?_
  refine At.seqJ (S := Bool) (fun s => ⟨[(0, .ptr 0 0), (5, sv o0.S), (6, u64 y2.1), (27, bo s)], [.blk 41 (T_retraceref03_Reader.pvs y2.2), .ghost (gv 0) (.ptr 0 0)]⟩) (fun s => F_retraceref03_Reader_Upto_J1 o0 y2 s = some r) ?_ ?_
  · rcases tf (y2.2.Bad == 0) with b17 | b17
    · replace h := cond_t b17 h
      rcases tf (decide (p1 < 0)) with b18 | b18
      · replace h := cond_t b18 h
        refine At.region_end [0, 5, 6, 27] [0, 1] _ (st' := ⟨[(0, .ptr 0 0), (5, sv o0.S), (6, u64 y2.1), (27, bo true)], [.blk 41 (T_retraceref03_Reader.pvs y2.2), .ghost (gv 0) (.ptr 0 0)]⟩) (tips := [(5, { orc := .val (.bool true) }), (8, { orc := .val (.bool true) })]) (by kernel_rfl) (allc (congrArg D.bool b17) (allc (congrArg D.bool b18) all0)) (fun a w hs => ⟨true, h, hs⟩)
      · replace h := cond_f b18 h
        refine At.region_end [0, 5, 6, 27] [0, 1] _ (st' := ⟨[(0, .ptr 0 0), (5, sv o0.S), (6, u64 y2.1), (27, bo (decide ((wu64 p1) < y2.1)))], [.blk 41 (T_retraceref03_Reader.pvs y2.2), .ghost (gv 0) (.ptr 0 0)]⟩) (tips := [(5, { orc := .val (.bool true) }), (8, { orc := .val (.bool false) })]) (by kernel_rfl) (allc (congrArg D.bool b17) (allc (congrArg D.bool b18) all0)) (fun a w hs => ⟨(decide ((wu64 p1) < y2.1)), h, hs⟩)
    · replace h := cond_f b17 h
      refine At.region_end [0, 5, 6, 27] [0, 1] _ (st' := ⟨[(0, .ptr 0 0), (5, sv o0.S), (6, u64 y2.1), (27, bo false)], [.blk 41 (T_retraceref03_Reader.pvs y2.2), .ghost (gv 0) (.ptr 0 0)]⟩) (tips := [(5, { orc := .val (.bool false) })]) (by kernel_rfl) (allc (congrArg D.bool b17) all0) (fun a w hs => ⟨false, h, hs⟩)
  · intro x13 h
    replace h : F_retraceref03_Reader_Upto_J1 o0 y2 x13 = some r := h
    rw [F_retraceref03_Reader_Upto_J1] at h
    refine At.cond x13 (by kernel_rfl) (fun b14 => ?_) (fun b14 => ?_)
    · replace h := cond_t b14 h
      refine At.seq ?_
      refine At.region_end [0] [0, 1] _ (st' := ⟨[(0, .ptr 0 0)], [.blk 41 [sv o0.S, i64 y2.2.Bad], .ghost (gv 0) (.ptr 0 0)]⟩) (tips := []) (by kernel_rfl) all0 (norm ?_)
      refine At.seq ?_
      obtain ⟨y16, hy16, h⟩ := bind_some h
      refine At.region_end [] [0, 1] _ (st' := ⟨[], [.blk 41 (T_retraceref03_Reader.pvs y16), .ghost (gv 0) (.ptr 0 0)]⟩) (tips := [(1, { pc := some { ρ := [0], n0 := 1, res := .tup [], σ' := [.blk 41 (T_retraceref03_Reader.pvs y16)], e := [1] } })]) (by kernel_rfl) (allc (C_retraceref03_Reader_fail 6 (⟨o0.S, y2.2.Bad⟩ : T_retraceref03_Reader) y16 hy16) all0) (norm ?_)
      refine At.seq ?_
      refine At.region_end [4] [0, 1] _ (st' := ⟨[(4, i64 0)], [.blk 41 (T_retraceref03_Reader.pvs y16), .ghost (gv 0) (.ptr 0 0)]⟩) (tips := []) (by kernel_rfl) all0 (norm ?_)
      obtain rfl := some_eq h
      exact At.ret fun a w hs => ret_ok hR (ρ := [0]) (gs := [.ghost (gv 0) (.ptr 0 0)]) (by kernel_rfl) all0 (by kernel_rfl) rfl rfl a w hs _ (.inl rfl)
    · replace h := cond_f b14 h
      refine At.nar [6] [0, 1] (st' := ⟨[(6, u64 y2.1)], [.blk 41 (T_retraceref03_Reader.pvs y2.2), .ghost (gv 0) (.ptr 0 0)]⟩) (by kernel_rfl) ?_
      refine At.skip (norm ?_)
      refine At.seq ?_
      refine At.region_end [4] [0, 1] _ (st' := ⟨[(4, i64 (w64 y2.1))], [.blk 41 (T_retraceref03_Reader.pvs y2.2), .ghost (gv 0) (.ptr 0 0)]⟩) (tips := []) (by kernel_rfl) all0 (norm ?_)
      obtain rfl := some_eq h
      exact At.ret fun a w hs => ret_ok hR (ρ := [0]) (gs := [.ghost (gv 0) (.ptr 0 0)]) (by kernel_rfl) all0 (by kernel_rfl) rfl rfl a w hs _ (.inl rfl)
set_option maxRecDepth 100000 in
theorem C_retraceref03_Reader_Ints (p1 : Int) (o0 : T_retraceref03_Reader) (r : (List Int) × T_retraceref03_Reader) (h : F_retraceref03_Reader_Ints p1 o0 = some r) : FnOK Try.prog 62 [.ptr 0 0, i64 p1] [.blk 41 (T_retraceref03_Reader.pvs o0)] (.row 1 (r.1).length) [.blk 41 (T_retraceref03_Reader.pvs r.2), .row 3 1 (encL (eInt .i64) r.1)] [1] := by
  rw [F_retraceref03_Reader_Ints] at h
  refine FnOK.intro Try.func62 rfl (by kernel_rfl) (by kernel_rfl) fun E gv R hR => ?_
  refine At.seq ?_
  refine At.region_end [0, 1] [0, 1] _ (st' := ⟨[(0, .ptr 0 0), (1, i64 p1)], [.blk 41 (T_retraceref03_Reader.pvs o0), .ghost (gv 0) (.ptr 0 0)]⟩) (tips := []) (by kernel_rfl) all0 (norm ?_)
  refine At.seq ?_
  obtain ⟨y2, hy2, h⟩ := bind_some h
  refine At.region_end [0, 5] [0, 1] _ (st' := ⟨[(0, .ptr 0 0), (5, i64 y2.1)], [.blk 41 (T_retraceref03_Reader.pvs y2.2), .ghost (gv 0) (.ptr 0 0)]⟩) (tips := [(2, { pc := some { ρ := [0], n0 := 1, res := i64 y2.1, σ' := [.blk 41 (T_retraceref03_Reader.pvs y2.2)], e := [1] } })]) (by kernel_rfl) (allc (C_retraceref03_Reader_Upto p1 o0 y2 hy2) all0) (norm ?_)
  refine At.seq ?_
  refine At.region_end [0, 5, 6] [0, 1] _ (st' := ⟨[(0, .ptr 0 0), (5, i64 y2.1), (6, .d (.list true 0 []))], [.blk 41 (T_retraceref03_Reader.pvs y2.2), .ghost (gv 0) (.ptr 0 0)]⟩) (tips := []) (by kernel_rfl) all0 (norm ?_)
  refine At.seq ?_
  refine At.seq ?_
  refine At.region_end [0, 5, 6, 7] [0, 1] _ (st' := ⟨[(0, .ptr 0 0), (5, i64 y2.1), (6, .d (.list true 0 [])), (7, i64 0)], [.blk 41 (T_retraceref03_Reader.pvs y2.2), .ghost (gv 0) (.ptr 0 0)]⟩) (tips := []) (by kernel_rfl) all0 (norm ?_)
  refine At.block ?_
  refine At.edNar [.ownS 6 3 1] [0, 5, 6, 7] [0, 1, 2] (st' := ⟨[(0, .ptr 0 0), (5, i64 y2.1), (6, .row 2 ([] : List Int).length), (7, i64 0)], [.blk 41 (T_retraceref03_Reader.pvs y2.2), .ghost (gv 0) (.ptr 0 0), .row 3 1 (encL (eInt .i64) ([]))]⟩) (by kernel_rfl) ?_
  refine At.loop (fun s : (Int × ByteArray × Int × (List Int)) => F_retraceref03_Reader_Ints_L2 y2 s.1 s.2.1 s.2.2.1 s.2.2.2) (fun s : (Int × ByteArray × Int × (List Int)) => ⟨[(0, .ptr 0 0), (5, i64 y2.1), (6, .row 2 (s.2.2.2).length), (7, i64 s.1)], [.blk 41 [sv s.2.1, i64 s.2.2.1], .ghost (gv 0) (.ptr 0 0), .row 3 1 (encL (eInt .i64) s.2.2.2)]⟩) r (0, y2.2.S, y2.2.Bad, ([] : (List Int))) h ?_
  rintro ⟨x23, x24, x25, x26⟩ oo27 h f28
  replace h : F_retraceref03_Reader_Ints_L2 y2 x23 x24 x25 x26 = some oo27 := h
  rw [F_retraceref03_Reader_Ints_L2] at h
  refine At.seq ?_
  refine At.seqJ (S := Bool) (fun s => ⟨[(0, .ptr 0 0), (5, i64 y2.1), (6, .row 2 (x26).length), (7, i64 x23), (20, bo s)], [.blk 41 [sv x24, i64 x25], .ghost (gv 0) (.ptr 0 0), .row 3 1 (encL (eInt .i64) x26)]⟩) (fun s => F_retraceref03_Reader_Ints_J1 x23 x24 x25 x26 s = some oo27) ?_ ?_
  · rcases tf (decide (x23 < y2.1)) with b44 | b44
    · replace h := cond_t b44 h
      refine At.region_end [0, 5, 6, 7, 20] [0, 1, 2] _ (st' := ⟨[(0, .ptr 0 0), (5, i64 y2.1), (6, .row 2 (x26).length), (7, i64 x23), (20, bo (x25 == 0))], [.blk 41 [sv x24, i64 x25], .ghost (gv 0) (.ptr 0 0), .row 3 1 (encL (eInt .i64) x26)]⟩) (tips := [(3, { orc := .val (.bool true) })]) (by kernel_rfl) (allc (congrArg D.bool b44) all0) (fun a w hs => ⟨(x25 == 0), h, hs⟩)
    · replace h := cond_f b44 h
      refine At.region_end [0, 5, 6, 7, 20] [0, 1, 2] _ (st' := ⟨[(0, .ptr 0 0), (5, i64 y2.1), (6, .row 2 (x26).length), (7, i64 x23), (20, bo false)], [.blk 41 [sv x24, i64 x25], .ghost (gv 0) (.ptr 0 0), .row 3 1 (encL (eInt .i64) x26)]⟩) (tips := [(3, { orc := .val (.bool false) })]) (by kernel_rfl) (allc (congrArg D.bool b44) all0) (fun a w hs => ⟨false, h, hs⟩)
  · intro x34 h
    replace h : F_retraceref03_Reader_Ints_J1 x23 x24 x25 x26 x34 = some oo27 := h
    rw [F_retraceref03_Reader_Ints_J1] at h
    refine At.cond x34 (by kernel_rfl) (fun b35 => ?_) (fun b35 => ?_)
    · replace h := cond_t b35 h
      refine At.nar [0, 5, 6, 7] [0, 1, 2] (st' := ⟨[(0, .ptr 0 0), (5, i64 y2.1), (6, .row 2 (x26).length), (7, i64 x23)], [.blk 41 [sv x24, i64 x25], .ghost (gv 0) (.ptr 0 0), .row 3 1 (encL (eInt .i64) x26)]⟩) (by kernel_rfl) ?_
      refine At.skip (norm ?_)
      refine At.seq ?_
      refine At.block ?_
      obtain ⟨y38, hy38, h⟩ := bind_some h
      obtain ⟨g39, h⟩ := grd_some h
      refine At.region_end [0, 5, 6, 7] [0, 1, 2] _ (st' := ⟨[(0, .ptr 0 0), (5, i64 y2.1), (6, .row 2 ((x26 ++ [y38.1])).length), (7, i64 x23)], [.blk 41 (T_retraceref03_Reader.pvs y38.2), .ghost (gv 0) (.ptr 0 0), .row 3 1 (encL (eInt .i64) (x26 ++ [y38.1]))]⟩) (tips := [(2, { pc := some { ρ := [0], n0 := 1, res := i64 y38.1, σ' := [.blk 41 (T_retraceref03_Reader.pvs y38.2)], e := [1] } }), (4, { form := some ((x26 ++ [y38.1]).length, encL (eInt .i64) (x26 ++ [y38.1])) })]) (by kernel_rfl) (allc (C_retraceref03_Reader_Int (⟨x24, x25⟩ : T_retraceref03_Reader) y38 hy38) (allc (len_app x26 ([y38.1])) (allc (encL_app (eInt .i64) x26 ([y38.1])) (allc (app_ok (he_int .i64) (by decide) g39) (allc (encL_len (he_int .i64) ([y38.1])) all0))))) (norm ?_)
      refine At.region_end [0, 5, 6, 7] [0, 1, 2] _ (st' := ⟨[(0, .ptr 0 0), (5, i64 y2.1), (6, .row 2 ((x26 ++ [y38.1])).length), (7, i64 (w64 (x23 + 1)))], [.blk 41 (T_retraceref03_Reader.pvs y38.2), .ghost (gv 0) (.ptr 0 0), .row 3 1 (encL (eInt .i64) (x26 ++ [y38.1]))]⟩) (tips := []) (by kernel_rfl) all0 (fun a w hs => ⟨_, (some_eq h).symm, hs⟩)
    · replace h := cond_f b35 h
      refine At.nar [0, 6] [0, 1, 2] (st' := ⟨[(0, .ptr 0 0), (6, .row 2 (x26).length)], [.blk 41 [sv x24, i64 x25], .ghost (gv 0) (.ptr 0 0), .row 3 1 (encL (eInt .i64) x26)]⟩) (by kernel_rfl) ?_
      obtain ⟨r40, h, e41⟩ := map_inr h
      rw [f28 _ e41] at h
      refine At.exit (norm ?_)
      refine At.seq ?_
      refine At.seq ?_
      refine At.region_end [6, 32] [0, 1, 2] _ (st' := ⟨[(6, .row 2 (x26).length), (32, bo (x25 != 0))], [.blk 41 [sv x24, i64 x25], .ghost (gv 0) (.ptr 0 0), .row 3 1 (encL (eInt .i64) x26)]⟩) (tips := []) (by kernel_rfl) all0 (norm ?_)
      refine At.cond (x25 != 0) (by kernel_rfl) (fun b43 => ?_) (fun b43 => ?_)
      · replace h := cond_t b43 h
        refine At.seq ?_
        refine At.region_end [4] [0, 1] _ (st' := ⟨[(4, .d (.list true 0 []))], [.blk 41 [sv x24, i64 x25], .ghost (gv 0) (.ptr 0 0)]⟩) (tips := []) (by kernel_rfl) all0 (norm ?_)
        refine At.edNar [.ownS 4 3 1] [4] [0, 1, 2] (st' := ⟨[(4, .row 2 ([] : List Int).length)], [.blk 41 [sv x24, i64 x25], .ghost (gv 0) (.ptr 0 0), .row 3 1 (encL (eInt .i64) ([]))]⟩) (by kernel_rfl) ?_
        obtain rfl := some_eq h
        exact At.ret fun a w hs => ret_ok hR (ρ := [0, 2]) (gs := [.ghost (gv 0) (.ptr 0 0)]) (by kernel_rfl) all0 (by kernel_rfl) rfl rfl a w hs _ (.inl rfl)
      · replace h := cond_f b43 h
        refine At.nar [6] [0, 1, 2] (st' := ⟨[(6, .row 2 (x26).length)], [.blk 41 [sv x24, i64 x25], .ghost (gv 0) (.ptr 0 0), .row 3 1 (encL (eInt .i64) x26)]⟩) (by kernel_rfl) ?_
        refine At.skip (norm ?_)
        refine At.seq ?_
        refine At.region_end [4] [0, 1, 2] _ (st' := ⟨[(4, .row 2 (x26).length)], [.blk 41 [sv x24, i64 x25], .ghost (gv 0) (.ptr 0 0), .row 3 1 (encL (eInt .i64) x26)]⟩) (tips := []) (by kernel_rfl) all0 (norm ?_)
        obtain rfl := some_eq h
        exact At.ret fun a w hs => ret_ok hR (ρ := [0, 2]) (gs := [.ghost (gv 0) (.ptr 0 0)]) (by kernel_rfl) all0 (by kernel_rfl) rfl rfl a w hs _ (.inl rfl)
set_option maxRecDepth 100000 in
theorem C_retraceref30_Read (o0 : T_retraceref03_Reader) (r : T_api_State × T_retraceref03_Reader) (h : F_retraceref30_Read o0 = some r) : FnOK Try.prog 22 [.ptr 0 0] [.blk 41 (T_retraceref03_Reader.pvs o0)] (.agg (T_api_State.pvs r.1)) [.blk 41 (T_retraceref03_Reader.pvs r.2)] [1] := by
  rw [F_retraceref30_Read] at h
  refine FnOK.intro Try.func22 rfl (by kernel_rfl) (by kernel_rfl) fun E gv R hR => ?_
  refine At.seq ?_
  refine At.region_end [0, 2] [0, 1, 2] _ (st' := ⟨[(0, .ptr 0 0), (2, .ptr 2 0)], [.blk 41 (T_retraceref03_Reader.pvs o0), .ghost (gv 0) (.ptr 0 0), .blk 25 [i64 0, i64 0, i64 0, i64 0, i64 0, .d (.list true 0 []), .d (.list true 0 [])]]⟩) (tips := []) (by kernel_rfl) all0 (norm ?_)
  refine At.seq ?_
  refine At.region_end [0, 2, 3] [0, 1, 2, 3] _ (st' := ⟨[(0, .ptr 0 0), (2, .ptr 2 0), (3, .ptr 3 0)], [.blk 41 (T_retraceref03_Reader.pvs o0), .ghost (gv 0) (.ptr 0 0), .blk 25 [i64 0, i64 0, i64 0, i64 0, i64 0, .d (.list true 0 []), .d (.list true 0 [])], .blk 25 [i64 0, i64 0, i64 0, i64 0, i64 0, .d (.list true 0 []), .d (.list true 0 [])]]⟩) (tips := []) (by kernel_rfl) all0 (norm ?_)
  refine At.seq ?_
  obtain ⟨y2, hy2, h⟩ := bind_some h
  refine At.region_end [0, 2, 3] [0, 1, 2, 3] _ (st' := ⟨[(0, .ptr 0 0), (2, .ptr 2 0), (3, .ptr 3 0)], [.blk 41 (T_retraceref03_Reader.pvs y2.2), .ghost (gv 0) (.ptr 0 0), .blk 25 [i64 0, i64 0, i64 0, i64 0, i64 0, .d (.list true 0 []), .d (.list true 0 [])], .blk 25 [i64 y2.1, i64 0, i64 0, i64 0, i64 0, .d (.list true 0 []), .d (.list true 0 [])]]⟩) (tips := [(1, { pc := some { ρ := [0], n0 := 1, res := i64 y2.1, σ' := [.blk 41 (T_retraceref03_Reader.pvs y2.2)], e := [1] } })]) (by kernel_rfl) (allc (C_retraceref03_Reader_Int o0 y2 hy2) all0) (norm ?_)
  refine At.seq ?_
  obtain ⟨y4, hy4, h⟩ := bind_some h
  refine At.region_end [0, 2, 3] [0, 1, 2, 3] _ (st' := ⟨[(0, .ptr 0 0), (2, .ptr 2 0), (3, .ptr 3 0)], [.blk 41 (T_retraceref03_Reader.pvs y4.2), .ghost (gv 0) (.ptr 0 0), .blk 25 [i64 0, i64 0, i64 0, i64 0, i64 0, .d (.list true 0 []), .d (.list true 0 [])], .blk 25 [i64 y2.1, i64 y4.1, i64 0, i64 0, i64 0, .d (.list true 0 []), .d (.list true 0 [])]]⟩) (tips := [(1, { pc := some { ρ := [0], n0 := 1, res := i64 y4.1, σ' := [.blk 41 (T_retraceref03_Reader.pvs y4.2)], e := [1] } })]) (by kernel_rfl) (allc (C_retraceref03_Reader_Int y2.2 y4 hy4) all0) (norm ?_)
  refine At.seq ?_
  obtain ⟨y6, hy6, h⟩ := bind_some h
  refine At.region_end [0, 2, 3] [0, 1, 2, 3] _ (st' := ⟨[(0, .ptr 0 0), (2, .ptr 2 0), (3, .ptr 3 0)], [.blk 41 (T_retraceref03_Reader.pvs y6.2), .ghost (gv 0) (.ptr 0 0), .blk 25 [i64 0, i64 0, i64 0, i64 0, i64 0, .d (.list true 0 []), .d (.list true 0 [])], .blk 25 [i64 y2.1, i64 y4.1, i64 y6.1, i64 0, i64 0, .d (.list true 0 []), .d (.list true 0 [])]]⟩) (tips := [(1, { pc := some { ρ := [0], n0 := 1, res := i64 y6.1, σ' := [.blk 41 (T_retraceref03_Reader.pvs y6.2)], e := [1] } })]) (by kernel_rfl) (allc (C_retraceref03_Reader_Int y4.2 y6 hy6) all0) (norm ?_)
  refine At.seq ?_
  obtain ⟨y8, hy8, h⟩ := bind_some h
  refine At.region_end [0, 2, 3] [0, 1, 2, 3] _ (st' := ⟨[(0, .ptr 0 0), (2, .ptr 2 0), (3, .ptr 3 0)], [.blk 41 (T_retraceref03_Reader.pvs y8.2), .ghost (gv 0) (.ptr 0 0), .blk 25 [i64 0, i64 0, i64 0, i64 0, i64 0, .d (.list true 0 []), .d (.list true 0 [])], .blk 25 [i64 y2.1, i64 y4.1, i64 y6.1, i64 y8.1, i64 0, .d (.list true 0 []), .d (.list true 0 [])]]⟩) (tips := [(1, { pc := some { ρ := [0], n0 := 1, res := i64 y8.1, σ' := [.blk 41 (T_retraceref03_Reader.pvs y8.2)], e := [1] } })]) (by kernel_rfl) (allc (C_retraceref03_Reader_Int y6.2 y8 hy8) all0) (norm ?_)
  refine At.seq ?_
  obtain ⟨y10, hy10, h⟩ := bind_some h
  refine At.region_end [0, 2, 3] [0, 1, 2, 3] _ (st' := ⟨[(0, .ptr 0 0), (2, .ptr 2 0), (3, .ptr 3 0)], [.blk 41 (T_retraceref03_Reader.pvs y10.2), .ghost (gv 0) (.ptr 0 0), .blk 25 [i64 0, i64 0, i64 0, i64 0, i64 0, .d (.list true 0 []), .d (.list true 0 [])], .blk 25 [i64 y2.1, i64 y4.1, i64 y6.1, i64 y8.1, i64 y10.1, .d (.list true 0 []), .d (.list true 0 [])]]⟩) (tips := [(1, { pc := some { ρ := [0], n0 := 1, res := i64 y10.1, σ' := [.blk 41 (T_retraceref03_Reader.pvs y10.2)], e := [1] } })]) (by kernel_rfl) (allc (C_retraceref03_Reader_Int y8.2 y10 hy10) all0) (norm ?_)
  refine At.seq ?_
  obtain ⟨y12, hy12, h⟩ := bind_some h
  refine At.region_end [0, 2, 3, 4] [0, 1, 2, 3] _ (st' := ⟨[(0, .ptr 0 0), (2, .ptr 2 0), (3, .ptr 3 0), (4, i64 y12.1)], [.blk 41 (T_retraceref03_Reader.pvs y12.2), .ghost (gv 0) (.ptr 0 0), .blk 25 [i64 0, i64 0, i64 0, i64 0, i64 0, .d (.list true 0 []), .d (.list true 0 [])], .blk 25 [i64 y2.1, i64 y4.1, i64 y6.1, i64 y8.1, i64 y10.1, .d (.list true 0 []), .d (.list true 0 [])]]⟩) (tips := [(1, { pc := some { ρ := [0], n0 := 1, res := i64 y12.1, σ' := [.blk 41 (T_retraceref03_Reader.pvs y12.2)], e := [1] } })]) (by kernel_rfl) (allc (C_retraceref03_Reader_Upto 4096 y10.2 y12 hy12) all0) (norm ?_)
  refine At.seq ?_
  refine At.seq ?_
  refine At.region_end [0, 2, 3, 4, 5] [0, 1, 2, 3] _ (st' := ⟨[(0, .ptr 0 0), (2, .ptr 2 0), (3, .ptr 3 0), (4, i64 y12.1), (5, i64 0)], [.blk 41 (T_retraceref03_Reader.pvs y12.2), .ghost (gv 0) (.ptr 0 0), .blk 25 [i64 0, i64 0, i64 0, i64 0, i64 0, .d (.list true 0 []), .d (.list true 0 [])], .blk 25 [i64 y2.1, i64 y4.1, i64 y6.1, i64 y8.1, i64 y10.1, .d (.list true 0 []), .d (.list true 0 [])]]⟩) (tips := []) (by kernel_rfl) all0 (norm ?_)
  refine At.block ?_
  refine At.edNar [.ownO 3 5 70 11] [0, 2, 3, 4, 5] [0, 1, 2, 3, 4] (st' := ⟨[(0, .ptr 0 0), (2, .ptr 2 0), (3, .ptr 3 0), (4, i64 y12.1), (5, i64 0)], [.blk 41 (T_retraceref03_Reader.pvs y12.2), .ghost (gv 0) (.ptr 0 0), .blk 25 [i64 0, i64 0, i64 0, i64 0, i64 0, .d (.list true 0 []), .d (.list true 0 [])], .blk 25 [i64 y2.1, i64 y4.1, i64 y6.1, i64 y8.1, i64 y10.1, .row 4 ([] : List T_api_Proc).length, .d (.list true 0 [])], .row 70 11 (encL T_api_Proc.enc ([]))]⟩) (by kernel_rfl) ?_
  refine At.loop (fun s : (Int × ByteArray × Int × (List T_api_Proc)) => F_retraceref30_Read_L4 y2 y4 y6 y8 y10 y12 s.1 s.2.1 s.2.2.1 s.2.2.2) (fun s : (Int × ByteArray × Int × (List T_api_Proc)) => ⟨[(0, .ptr 0 0), (2, .ptr 2 0), (3, .ptr 3 0), (4, i64 y12.1), (5, i64 s.1)], [.blk 41 [sv s.2.1, i64 s.2.2.1], .ghost (gv 0) (.ptr 0 0), .blk 25 [i64 0, i64 0, i64 0, i64 0, i64 0, .d (.list true 0 []), .d (.list true 0 [])], .blk 25 [i64 y2.1, i64 y4.1, i64 y6.1, i64 y8.1, i64 y10.1, .row 4 (s.2.2.2).length, .d (.list true 0 [])], .row 70 11 (encL T_api_Proc.enc s.2.2.2)]⟩) r (0, y12.2.S, y12.2.Bad, ([] : (List T_api_Proc))) h ?_
  rintro ⟨x227, x228, x229, x230⟩ oo231 h f232
  replace h : F_retraceref30_Read_L4 y2 y4 y6 y8 y10 y12 x227 x228 x229 x230 = some oo231 := h
  rw [F_retraceref30_Read_L4] at h
  refine At.seq ?_
  refine At.seqJ (S := Bool) (fun s => ⟨[(0, .ptr 0 0), (2, .ptr 2 0), (3, .ptr 3 0), (4, i64 y12.1), (5, i64 x227), (36, bo s)], [.blk 41 [sv x228, i64 x229], .ghost (gv 0) (.ptr 0 0), .blk 25 [i64 0, i64 0, i64 0, i64 0, i64 0, .d (.list true 0 []), .d (.list true 0 [])], .blk 25 [i64 y2.1, i64 y4.1, i64 y6.1, i64 y8.1, i64 y10.1, .row 4 (x230).length, .d (.list true 0 [])], .row 70 11 (encL T_api_Proc.enc x230)]⟩) (fun s => F_retraceref30_Read_J1 y2 y4 y6 y8 y10 x227 x228 x229 x230 s = some oo231) ?_ ?_
  · rcases tf (decide (x227 < y12.1)) with b444 | b444
    · replace h := cond_t b444 h
      refine At.region_end [0, 2, 3, 4, 5, 36] [0, 1, 2, 3, 4] _ (st' := ⟨[(0, .ptr 0 0), (2, .ptr 2 0), (3, .ptr 3 0), (4, i64 y12.1), (5, i64 x227), (36, bo (x229 == 0))], [.blk 41 [sv x228, i64 x229], .ghost (gv 0) (.ptr 0 0), .blk 25 [i64 0, i64 0, i64 0, i64 0, i64 0, .d (.list true 0 []), .d (.list true 0 [])], .blk 25 [i64 y2.1, i64 y4.1, i64 y6.1, i64 y8.1, i64 y10.1, .row 4 (x230).length, .d (.list true 0 [])], .row 70 11 (encL T_api_Proc.enc x230)]⟩) (tips := [(3, { orc := .val (.bool true) })]) (by kernel_rfl) (allc (congrArg D.bool b444) all0) (fun a w hs => ⟨(x229 == 0), h, hs⟩)
    · replace h := cond_f b444 h
      refine At.region_end [0, 2, 3, 4, 5, 36] [0, 1, 2, 3, 4] _ (st' := ⟨[(0, .ptr 0 0), (2, .ptr 2 0), (3, .ptr 3 0), (4, i64 y12.1), (5, i64 x227), (36, bo false)], [.blk 41 [sv x228, i64 x229], .ghost (gv 0) (.ptr 0 0), .blk 25 [i64 0, i64 0, i64 0, i64 0, i64 0, .d (.list true 0 []), .d (.list true 0 [])], .blk 25 [i64 y2.1, i64 y4.1, i64 y6.1, i64 y8.1, i64 y10.1, .row 4 (x230).length, .d (.list true 0 [])], .row 70 11 (encL T_api_Proc.enc x230)]⟩) (tips := [(3, { orc := .val (.bool false) })]) (by kernel_rfl) (allc (congrArg D.bool b444) all0) (fun a w hs => ⟨false, h, hs⟩)
  · intro x238 h
    replace h : F_retraceref30_Read_J1 y2 y4 y6 y8 y10 x227 x228 x229 x230 x238 = some oo231 := h
    rw [F_retraceref30_Read_J1] at h
    refine At.cond x238 (by kernel_rfl) (fun b239 => ?_) (fun b239 => ?_)
    · replace h := cond_t b239 h
      refine At.nar [0, 2, 3, 4, 5] [0, 1, 2, 3, 4] (st' := ⟨[(0, .ptr 0 0), (2, .ptr 2 0), (3, .ptr 3 0), (4, i64 y12.1), (5, i64 x227)], [.blk 41 [sv x228, i64 x229], .ghost (gv 0) (.ptr 0 0), .blk 25 [i64 0, i64 0, i64 0, i64 0, i64 0, .d (.list true 0 []), .d (.list true 0 [])], .blk 25 [i64 y2.1, i64 y4.1, i64 y6.1, i64 y8.1, i64 y10.1, .row 4 (x230).length, .d (.list true 0 [])], .row 70 11 (encL T_api_Proc.enc x230)]⟩) (by kernel_rfl) ?_
      refine At.skip (norm ?_)
      refine At.seq ?_
      refine At.block ?_
      refine At.seq ?_
      refine At.region_end [0, 2, 3, 4, 5, 6] [0, 1, 2, 3, 4, 5] _ (st' := ⟨[(0, .ptr 0 0), (2, .ptr 2 0), (3, .ptr 3 0), (4, i64 y12.1), (5, i64 x227), (6, .ptr 5 0)], [.blk 41 [sv x228, i64 x229], .ghost (gv 0) (.ptr 0 0), .blk 25 [i64 0, i64 0, i64 0, i64 0, i64 0, .d (.list true 0 []), .d (.list true 0 [])], .blk 25 [i64 y2.1, i64 y4.1, i64 y6.1, i64 y8.1, i64 y10.1, .row 4 (x230).length, .d (.list true 0 [])], .row 70 11 (encL T_api_Proc.enc x230), .blk 70 [i64 0, i64 0, .d (.list true 0 []), i64 0, i64 0, i64 0, i64 0, i64 0, i64 0, i64 0, .d (.list true 0 [])]]⟩) (tips := []) (by kernel_rfl) all0 (norm ?_)
      refine At.seq ?_
      obtain ⟨y340, hy340, h⟩ := bind_some h
      refine At.region_end [0, 2, 3, 4, 5, 6] [0, 1, 2, 3, 4, 5] _ (st' := ⟨[(0, .ptr 0 0), (2, .ptr 2 0), (3, .ptr 3 0), (4, i64 y12.1), (5, i64 x227), (6, .ptr 5 0)], [.blk 41 (T_retraceref03_Reader.pvs y340.2), .ghost (gv 0) (.ptr 0 0), .blk 25 [i64 0, i64 0, i64 0, i64 0, i64 0, .d (.list true 0 []), .d (.list true 0 [])], .blk 25 [i64 y2.1, i64 y4.1, i64 y6.1, i64 y8.1, i64 y10.1, .row 4 (x230).length, .d (.list true 0 [])], .row 70 11 (encL T_api_Proc.enc x230), .blk 70 [i64 y340.1, i64 0, .d (.list true 0 []), i64 0, i64 0, i64 0, i64 0, i64 0, i64 0, i64 0, .d (.list true 0 [])]]⟩) (tips := [(1, { pc := some { ρ := [0], n0 := 1, res := i64 y340.1, σ' := [.blk 41 (T_retraceref03_Reader.pvs y340.2)], e := [1] } })]) (by kernel_rfl) (allc (C_retraceref03_Reader_Int (⟨x228, x229⟩ : T_retraceref03_Reader) y340 hy340) all0) (norm ?_)
      refine At.seq ?_
      obtain ⟨y342, hy342, h⟩ := bind_some h
      refine At.region_end [0, 2, 3, 4, 5, 6] [0, 1, 2, 3, 4, 5] _ (st' := ⟨[(0, .ptr 0 0), (2, .ptr 2 0), (3, .ptr 3 0), (4, i64 y12.1), (5, i64 x227), (6, .ptr 5 0)], [.blk 41 (T_retraceref03_Reader.pvs y342.2), .ghost (gv 0) (.ptr 0 0), .blk 25 [i64 0, i64 0, i64 0, i64 0, i64 0, .d (.list true 0 []), .d (.list true 0 [])], .blk 25 [i64 y2.1, i64 y4.1, i64 y6.1, i64 y8.1, i64 y10.1, .row 4 (x230).length, .d (.list true 0 [])], .row 70 11 (encL T_api_Proc.enc x230), .blk 70 [i64 y340.1, i64 y342.1, .d (.list true 0 []), i64 0, i64 0, i64 0, i64 0, i64 0, i64 0, i64 0, .d (.list true 0 [])]]⟩) (tips := [(1, { pc := some { ρ := [0], n0 := 1, res := i64 y342.1, σ' := [.blk 41 (T_retraceref03_Reader.pvs y342.2)], e := [1] } })]) (by kernel_rfl) (allc (C_retraceref03_Reader_Int y340.2 y342 hy342) all0) (norm ?_)
      refine At.seq ?_
      obtain ⟨y344, hy344, h⟩ := bind_some h
      refine At.region_end [0, 2, 3, 4, 5, 6] [0, 1, 2, 3, 4, 5, 6] _ (st' := ⟨[(0, .ptr 0 0), (2, .ptr 2 0), (3, .ptr 3 0), (4, i64 y12.1), (5, i64 x227), (6, .ptr 5 0)], [.blk 41 (T_retraceref03_Reader.pvs y344.2), .ghost (gv 0) (.ptr 0 0), .blk 25 [i64 0, i64 0, i64 0, i64 0, i64 0, .d (.list true 0 []), .d (.list true 0 [])], .blk 25 [i64 y2.1, i64 y4.1, i64 y6.1, i64 y8.1, i64 y10.1, .row 4 (x230).length, .d (.list true 0 [])], .row 70 11 (encL T_api_Proc.enc x230), .blk 70 [i64 y340.1, i64 y342.1, .row 6 (y344.1).length, i64 0, i64 0, i64 0, i64 0, i64 0, i64 0, i64 0, .d (.list true 0 [])], .row 3 1 (encL (eInt .i64) y344.1)]⟩) (tips := [(1, { pc := some { ρ := [0, 6], n0 := 1, res := .row 1 (y344.1).length, σ' := [.blk 41 (T_retraceref03_Reader.pvs y344.2), .row 3 1 (encL (eInt .i64) y344.1)], e := [1] } })]) (by kernel_rfl) (allc (C_retraceref03_Reader_Ints 4096 y342.2 y344 hy344) all0) (norm ?_)
      refine At.seq ?_
      obtain ⟨y346, hy346, h⟩ := bind_some h
      refine At.region_end [0, 2, 3, 4, 5, 6] [0, 1, 2, 3, 4, 5, 6] _ (st' := ⟨[(0, .ptr 0 0), (2, .ptr 2 0), (3, .ptr 3 0), (4, i64 y12.1), (5, i64 x227), (6, .ptr 5 0)], [.blk 41 (T_retraceref03_Reader.pvs y346.2), .ghost (gv 0) (.ptr 0 0), .blk 25 [i64 0, i64 0, i64 0, i64 0, i64 0, .d (.list true 0 []), .d (.list true 0 [])], .blk 25 [i64 y2.1, i64 y4.1, i64 y6.1, i64 y8.1, i64 y10.1, .row 4 (x230).length, .d (.list true 0 [])], .row 70 11 (encL T_api_Proc.enc x230), .blk 70 [i64 y340.1, i64 y342.1, .row 6 (y344.1).length, i64 y346.1, i64 0, i64 0, i64 0, i64 0, i64 0, i64 0, .d (.list true 0 [])], .row 3 1 (encL (eInt .i64) y344.1)]⟩) (tips := [(1, { pc := some { ρ := [0], n0 := 1, res := i64 y346.1, σ' := [.blk 41 (T_retraceref03_Reader.pvs y346.2)], e := [1] } })]) (by kernel_rfl) (allc (C_retraceref03_Reader_Int y344.2 y346 hy346) all0) (norm ?_)
      refine At.seq ?_
      obtain ⟨y348, hy348, h⟩ := bind_some h
      refine At.region_end [0, 2, 3, 4, 5, 6] [0, 1, 2, 3, 4, 5, 6] _ (st' := ⟨[(0, .ptr 0 0), (2, .ptr 2 0), (3, .ptr 3 0), (4, i64 y12.1), (5, i64 x227), (6, .ptr 5 0)], [.blk 41 (T_retraceref03_Reader.pvs y348.2), .ghost (gv 0) (.ptr 0 0), .blk 25 [i64 0, i64 0, i64 0, i64 0, i64 0, .d (.list true 0 []), .d (.list true 0 [])], .blk 25 [i64 y2.1, i64 y4.1, i64 y6.1, i64 y8.1, i64 y10.1, .row 4 (x230).length, .d (.list true 0 [])], .row 70 11 (encL T_api_Proc.enc x230), .blk 70 [i64 y340.1, i64 y342.1, .row 6 (y344.1).length, i64 y346.1, i64 y348.1, i64 0, i64 0, i64 0, i64 0, i64 0, .d (.list true 0 [])], .row 3 1 (encL (eInt .i64) y344.1)]⟩) (tips := [(1, { pc := some { ρ := [0], n0 := 1, res := i64 y348.1, σ' := [.blk 41 (T_retraceref03_Reader.pvs y348.2)], e := [1] } })]) (by kernel_rfl) (allc (C_retraceref03_Reader_Int y346.2 y348 hy348) all0) (norm ?_)
      refine At.seq ?_
      obtain ⟨y350, hy350, h⟩ := bind_some h
      refine At.region_end [0, 2, 3, 4, 5, 6] [0, 1, 2, 3, 4, 5, 6] _ (st' := ⟨[(0, .ptr 0 0), (2, .ptr 2 0), (3, .ptr 3 0), (4, i64 y12.1), (5, i64 x227), (6, .ptr 5 0)], [.blk 41 (T_retraceref03_Reader.pvs y350.2), .ghost (gv 0) (.ptr 0 0), .blk 25 [i64 0, i64 0, i64 0, i64 0, i64 0, .d (.list true 0 []), .d (.list true 0 [])], .blk 25 [i64 y2.1, i64 y4.1, i64 y6.1, i64 y8.1, i64 y10.1, .row 4 (x230).length, .d (.list true 0 [])], .row 70 11 (encL T_api_Proc.enc x230), .blk 70 [i64 y340.1, i64 y342.1, .row 6 (y344.1).length, i64 y346.1, i64 y348.1, i64 y350.1, i64 0, i64 0, i64 0, i64 0, .d (.list true 0 [])], .row 3 1 (encL (eInt .i64) y344.1)]⟩) (tips := [(1, { pc := some { ρ := [0], n0 := 1, res := i64 y350.1, σ' := [.blk 41 (T_retraceref03_Reader.pvs y350.2)], e := [1] } })]) (by kernel_rfl) (allc (C_retraceref03_Reader_Int y348.2 y350 hy350) all0) (norm ?_)
      refine At.seq ?_
      obtain ⟨y352, hy352, h⟩ := bind_some h
      refine At.region_end [0, 2, 3, 4, 5, 6] [0, 1, 2, 3, 4, 5, 6] _ (st' := ⟨[(0, .ptr 0 0), (2, .ptr 2 0), (3, .ptr 3 0), (4, i64 y12.1), (5, i64 x227), (6, .ptr 5 0)], [.blk 41 (T_retraceref03_Reader.pvs y352.2), .ghost (gv 0) (.ptr 0 0), .blk 25 [i64 0, i64 0, i64 0, i64 0, i64 0, .d (.list true 0 []), .d (.list true 0 [])], .blk 25 [i64 y2.1, i64 y4.1, i64 y6.1, i64 y8.1, i64 y10.1, .row 4 (x230).length, .d (.list true 0 [])], .row 70 11 (encL T_api_Proc.enc x230), .blk 70 [i64 y340.1, i64 y342.1, .row 6 (y344.1).length, i64 y346.1, i64 y348.1, i64 y350.1, i64 y352.1, i64 0, i64 0, i64 0, .d (.list true 0 [])], .row 3 1 (encL (eInt .i64) y344.1)]⟩) (tips := [(1, { pc := some { ρ := [0], n0 := 1, res := i64 y352.1, σ' := [.blk 41 (T_retraceref03_Reader.pvs y352.2)], e := [1] } })]) (by kernel_rfl) (allc (C_retraceref03_Reader_Int y350.2 y352 hy352) all0) (norm ?_)
      refine At.seq ?_
      obtain ⟨y354, hy354, h⟩ := bind_some h
      refine At.region_end [0, 2, 3, 4, 5, 6] [0, 1, 2, 3, 4, 5, 6] _ (st' := ⟨[(0, .ptr 0 0), (2, .ptr 2 0), (3, .ptr 3 0), (4, i64 y12.1), (5, i64 x227), (6, .ptr 5 0)], [.blk 41 (T_retraceref03_Reader.pvs y354.2), .ghost (gv 0) (.ptr 0 0), .blk 25 [i64 0, i64 0, i64 0, i64 0, i64 0, .d (.list true 0 []), .d (.list true 0 [])], .blk 25 [i64 y2.1, i64 y4.1, i64 y6.1, i64 y8.1, i64 y10.1, .row 4 (x230).length, .d (.list true 0 [])], .row 70 11 (encL T_api_Proc.enc x230), .blk 70 [i64 y340.1, i64 y342.1, .row 6 (y344.1).length, i64 y346.1, i64 y348.1, i64 y350.1, i64 y352.1, i64 y354.1, i64 0, i64 0, .d (.list true 0 [])], .row 3 1 (encL (eInt .i64) y344.1)]⟩) (tips := [(1, { pc := some { ρ := [0], n0 := 1, res := i64 y354.1, σ' := [.blk 41 (T_retraceref03_Reader.pvs y354.2)], e := [1] } })]) (by kernel_rfl) (allc (C_retraceref03_Reader_Int y352.2 y354 hy354) all0) (norm ?_)
      refine At.seq ?_
      obtain ⟨y356, hy356, h⟩ := bind_some h
      refine At.region_end [0, 2, 3, 4, 5, 6] [0, 1, 2, 3, 4, 5, 6] _ (st' := ⟨[(0, .ptr 0 0), (2, .ptr 2 0), (3, .ptr 3 0), (4, i64 y12.1), (5, i64 x227), (6, .ptr 5 0)], [.blk 41 (T_retraceref03_Reader.pvs y356.2), .ghost (gv 0) (.ptr 0 0), .blk 25 [i64 0, i64 0, i64 0, i64 0, i64 0, .d (.list true 0 []), .d (.list true 0 [])], .blk 25 [i64 y2.1, i64 y4.1, i64 y6.1, i64 y8.1, i64 y10.1, .row 4 (x230).length, .d (.list true 0 [])], .row 70 11 (encL T_api_Proc.enc x230), .blk 70 [i64 y340.1, i64 y342.1, .row 6 (y344.1).length, i64 y346.1, i64 y348.1, i64 y350.1, i64 y352.1, i64 y354.1, i64 y356.1, i64 0, .d (.list true 0 [])], .row 3 1 (encL (eInt .i64) y344.1)]⟩) (tips := [(1, { pc := some { ρ := [0], n0 := 1, res := i64 y356.1, σ' := [.blk 41 (T_retraceref03_Reader.pvs y356.2)], e := [1] } })]) (by kernel_rfl) (allc (C_retraceref03_Reader_Int y354.2 y356 hy356) all0) (norm ?_)
      refine At.seq ?_
      obtain ⟨y358, hy358, h⟩ := bind_some h
      refine At.region_end [0, 2, 3, 4, 5, 6] [0, 1, 2, 3, 4, 5, 6] _ (st' := ⟨[(0, .ptr 0 0), (2, .ptr 2 0), (3, .ptr 3 0), (4, i64 y12.1), (5, i64 x227), (6, .ptr 5 0)], [.blk 41 (T_retraceref03_Reader.pvs y358.2), .ghost (gv 0) (.ptr 0 0), .blk 25 [i64 0, i64 0, i64 0, i64 0, i64 0, .d (.list true 0 []), .d (.list true 0 [])], .blk 25 [i64 y2.1, i64 y4.1, i64 y6.1, i64 y8.1, i64 y10.1, .row 4 (x230).length, .d (.list true 0 [])], .row 70 11 (encL T_api_Proc.enc x230), .blk 70 [i64 y340.1, i64 y342.1, .row 6 (y344.1).length, i64 y346.1, i64 y348.1, i64 y350.1, i64 y352.1, i64 y354.1, i64 y356.1, i64 y358.1, .d (.list true 0 [])], .row 3 1 (encL (eInt .i64) y344.1)]⟩) (tips := [(1, { pc := some { ρ := [0], n0 := 1, res := i64 y358.1, σ' := [.blk 41 (T_retraceref03_Reader.pvs y358.2)], e := [1] } })]) (by kernel_rfl) (allc (C_retraceref03_Reader_Int y356.2 y358 hy358) all0) (norm ?_)
      refine At.seq ?_
      obtain ⟨y360, hy360, h⟩ := bind_some h
      refine At.region_end [0, 2, 3, 4, 5, 6, 7] [0, 1, 2, 3, 4, 5, 6] _ (st' := ⟨[(0, .ptr 0 0), (2, .ptr 2 0), (3, .ptr 3 0), (4, i64 y12.1), (5, i64 x227), (6, .ptr 5 0), (7, i64 y360.1)], [.blk 41 (T_retraceref03_Reader.pvs y360.2), .ghost (gv 0) (.ptr 0 0), .blk 25 [i64 0, i64 0, i64 0, i64 0, i64 0, .d (.list true 0 []), .d (.list true 0 [])], .blk 25 [i64 y2.1, i64 y4.1, i64 y6.1, i64 y8.1, i64 y10.1, .row 4 (x230).length, .d (.list true 0 [])], .row 70 11 (encL T_api_Proc.enc x230), .blk 70 [i64 y340.1, i64 y342.1, .row 6 (y344.1).length, i64 y346.1, i64 y348.1, i64 y350.1, i64 y352.1, i64 y354.1, i64 y356.1, i64 y358.1, .d (.list true 0 [])], .row 3 1 (encL (eInt .i64) y344.1)]⟩) (tips := [(1, { pc := some { ρ := [0], n0 := 1, res := i64 y360.1, σ' := [.blk 41 (T_retraceref03_Reader.pvs y360.2)], e := [1] } })]) (by kernel_rfl) (allc (C_retraceref03_Reader_Upto 4096 y358.2 y360 hy360) all0) (norm ?_)
      refine At.seq ?_
      refine At.seq ?_
      refine At.region_end [0, 2, 3, 4, 5, 6, 7, 8] [0, 1, 2, 3, 4, 5, 6] _ (st' := ⟨[(0, .ptr 0 0), (2, .ptr 2 0), (3, .ptr 3 0), (4, i64 y12.1), (5, i64 x227), (6, .ptr 5 0), (7, i64 y360.1), (8, i64 0)], [.blk 41 (T_retraceref03_Reader.pvs y360.2), .ghost (gv 0) (.ptr 0 0), .blk 25 [i64 0, i64 0, i64 0, i64 0, i64 0, .d (.list true 0 []), .d (.list true 0 [])], .blk 25 [i64 y2.1, i64 y4.1, i64 y6.1, i64 y8.1, i64 y10.1, .row 4 (x230).length, .d (.list true 0 [])], .row 70 11 (encL T_api_Proc.enc x230), .blk 70 [i64 y340.1, i64 y342.1, .row 6 (y344.1).length, i64 y346.1, i64 y348.1, i64 y350.1, i64 y352.1, i64 y354.1, i64 y356.1, i64 y358.1, .d (.list true 0 [])], .row 3 1 (encL (eInt .i64) y344.1)]⟩) (tips := []) (by kernel_rfl) all0 (norm ?_)
      refine At.block ?_
      refine At.edNar [.ownO 5 10 102 5] [0, 2, 3, 4, 5, 6, 7, 8] [0, 1, 2, 3, 4, 5, 6, 7] (st' := ⟨[(0, .ptr 0 0), (2, .ptr 2 0), (3, .ptr 3 0), (4, i64 y12.1), (5, i64 x227), (6, .ptr 5 0), (7, i64 y360.1), (8, i64 0)], [.blk 41 (T_retraceref03_Reader.pvs y360.2), .ghost (gv 0) (.ptr 0 0), .blk 25 [i64 0, i64 0, i64 0, i64 0, i64 0, .d (.list true 0 []), .d (.list true 0 [])], .blk 25 [i64 y2.1, i64 y4.1, i64 y6.1, i64 y8.1, i64 y10.1, .row 4 (x230).length, .d (.list true 0 [])], .row 70 11 (encL T_api_Proc.enc x230), .blk 70 [i64 y340.1, i64 y342.1, .row 6 (y344.1).length, i64 y346.1, i64 y348.1, i64 y350.1, i64 y352.1, i64 y354.1, i64 y356.1, i64 y358.1, .row 7 ([] : List T_api_Alt).length], .row 3 1 (encL (eInt .i64) y344.1), .row 102 5 (encL T_api_Alt.enc ([]))]⟩) (by kernel_rfl) ?_
      refine At.loop (fun s : (Int × ByteArray × Int × (List T_api_Alt)) => F_retraceref30_Read_L3 x227 x230 y340 y342 y344 y346 y348 y350 y352 y354 y356 y358 y360 s.1 s.2.1 s.2.2.1 s.2.2.2) (fun s : (Int × ByteArray × Int × (List T_api_Alt)) => ⟨[(0, .ptr 0 0), (2, .ptr 2 0), (3, .ptr 3 0), (4, i64 y12.1), (5, i64 x227), (6, .ptr 5 0), (7, i64 y360.1), (8, i64 s.1)], [.blk 41 [sv s.2.1, i64 s.2.2.1], .ghost (gv 0) (.ptr 0 0), .blk 25 [i64 0, i64 0, i64 0, i64 0, i64 0, .d (.list true 0 []), .d (.list true 0 [])], .blk 25 [i64 y2.1, i64 y4.1, i64 y6.1, i64 y8.1, i64 y10.1, .row 4 (x230).length, .d (.list true 0 [])], .row 70 11 (encL T_api_Proc.enc x230), .blk 70 [i64 y340.1, i64 y342.1, .row 6 (y344.1).length, i64 y346.1, i64 y348.1, i64 y350.1, i64 y352.1, i64 y354.1, i64 y356.1, i64 y358.1, .row 7 (s.2.2.2).length], .row 3 1 (encL (eInt .i64) y344.1), .row 102 5 (encL T_api_Alt.enc s.2.2.2)]⟩) oo231 (0, y360.2.S, y360.2.Bad, ([] : (List T_api_Alt))) h ?_
      rintro ⟨x399, x400, x401, x402⟩ oo403 h f404
      replace h : F_retraceref30_Read_L3 x227 x230 y340 y342 y344 y346 y348 y350 y352 y354 y356 y358 y360 x399 x400 x401 x402 = some oo403 := h
      rw [F_retraceref30_Read_L3] at h
      refine At.seq ?_
      refine At.seqJ (S := Bool) (fun s => ⟨[(0, .ptr 0 0), (2, .ptr 2 0), (3, .ptr 3 0), (4, i64 y12.1), (5, i64 x227), (6, .ptr 5 0), (7, i64 y360.1), (8, i64 x399), (80, bo s)], [.blk 41 [sv x400, i64 x401], .ghost (gv 0) (.ptr 0 0), .blk 25 [i64 0, i64 0, i64 0, i64 0, i64 0, .d (.list true 0 []), .d (.list true 0 [])], .blk 25 [i64 y2.1, i64 y4.1, i64 y6.1, i64 y8.1, i64 y10.1, .row 4 (x230).length, .d (.list true 0 [])], .row 70 11 (encL T_api_Proc.enc x230), .blk 70 [i64 y340.1, i64 y342.1, .row 6 (y344.1).length, i64 y346.1, i64 y348.1, i64 y350.1, i64 y352.1, i64 y354.1, i64 y356.1, i64 y358.1, .row 7 (x402).length], .row 3 1 (encL (eInt .i64) y344.1), .row 102 5 (encL T_api_Alt.enc x402)]⟩) (fun s => F_retraceref30_Read_J2 x227 x230 y340 y342 y344 y346 y348 y350 y352 y354 y356 y358 x399 x400 x401 x402 s = some oo403) ?_ ?_
      · rcases tf (decide (x399 < y360.1)) with b437 | b437
        · replace h := cond_t b437 h
          refine At.region_end [0, 2, 3, 4, 5, 6, 7, 8, 80] [0, 1, 2, 3, 4, 5, 6, 7] _ (st' := ⟨[(0, .ptr 0 0), (2, .ptr 2 0), (3, .ptr 3 0), (4, i64 y12.1), (5, i64 x227), (6, .ptr 5 0), (7, i64 y360.1), (8, i64 x399), (80, bo (x401 == 0))], [.blk 41 [sv x400, i64 x401], .ghost (gv 0) (.ptr 0 0), .blk 25 [i64 0, i64 0, i64 0, i64 0, i64 0, .d (.list true 0 []), .d (.list true 0 [])], .blk 25 [i64 y2.1, i64 y4.1, i64 y6.1, i64 y8.1, i64 y10.1, .row 4 (x230).length, .d (.list true 0 [])], .row 70 11 (encL T_api_Proc.enc x230), .blk 70 [i64 y340.1, i64 y342.1, .row 6 (y344.1).length, i64 y346.1, i64 y348.1, i64 y350.1, i64 y352.1, i64 y354.1, i64 y356.1, i64 y358.1, .row 7 (x402).length], .row 3 1 (encL (eInt .i64) y344.1), .row 102 5 (encL T_api_Alt.enc x402)]⟩) (tips := [(3, { orc := .val (.bool true) })]) (by kernel_rfl) (allc (congrArg D.bool b437) all0) (fun a w hs => ⟨(x401 == 0), h, hs⟩)
        · replace h := cond_f b437 h
          refine At.region_end [0, 2, 3, 4, 5, 6, 7, 8, 80] [0, 1, 2, 3, 4, 5, 6, 7] _ (st' := ⟨[(0, .ptr 0 0), (2, .ptr 2 0), (3, .ptr 3 0), (4, i64 y12.1), (5, i64 x227), (6, .ptr 5 0), (7, i64 y360.1), (8, i64 x399), (80, bo false)], [.blk 41 [sv x400, i64 x401], .ghost (gv 0) (.ptr 0 0), .blk 25 [i64 0, i64 0, i64 0, i64 0, i64 0, .d (.list true 0 []), .d (.list true 0 [])], .blk 25 [i64 y2.1, i64 y4.1, i64 y6.1, i64 y8.1, i64 y10.1, .row 4 (x230).length, .d (.list true 0 [])], .row 70 11 (encL T_api_Proc.enc x230), .blk 70 [i64 y340.1, i64 y342.1, .row 6 (y344.1).length, i64 y346.1, i64 y348.1, i64 y350.1, i64 y352.1, i64 y354.1, i64 y356.1, i64 y358.1, .row 7 (x402).length], .row 3 1 (encL (eInt .i64) y344.1), .row 102 5 (encL T_api_Alt.enc x402)]⟩) (tips := [(3, { orc := .val (.bool false) })]) (by kernel_rfl) (allc (congrArg D.bool b437) all0) (fun a w hs => ⟨false, h, hs⟩)
      · intro x410 h
        replace h : F_retraceref30_Read_J2 x227 x230 y340 y342 y344 y346 y348 y350 y352 y354 y356 y358 x399 x400 x401 x402 x410 = some oo403 := h
        rw [F_retraceref30_Read_J2] at h
        refine At.cond x410 (by kernel_rfl) (fun b411 => ?_) (fun b411 => ?_)
        · replace h := cond_t b411 h
          refine At.nar [0, 2, 3, 4, 5, 6, 7, 8] [0, 1, 2, 3, 4, 5, 6, 7] (st' := ⟨[(0, .ptr 0 0), (2, .ptr 2 0), (3, .ptr 3 0), (4, i64 y12.1), (5, i64 x227), (6, .ptr 5 0), (7, i64 y360.1), (8, i64 x399)], [.blk 41 [sv x400, i64 x401], .ghost (gv 0) (.ptr 0 0), .blk 25 [i64 0, i64 0, i64 0, i64 0, i64 0, .d (.list true 0 []), .d (.list true 0 [])], .blk 25 [i64 y2.1, i64 y4.1, i64 y6.1, i64 y8.1, i64 y10.1, .row 4 (x230).length, .d (.list true 0 [])], .row 70 11 (encL T_api_Proc.enc x230), .blk 70 [i64 y340.1, i64 y342.1, .row 6 (y344.1).length, i64 y346.1, i64 y348.1, i64 y350.1, i64 y352.1, i64 y354.1, i64 y356.1, i64 y358.1, .row 7 (x402).length], .row 3 1 (encL (eInt .i64) y344.1), .row 102 5 (encL T_api_Alt.enc x402)]⟩) (by kernel_rfl) ?_
          refine At.skip (norm ?_)
          refine At.seq ?_
          refine At.block ?_
          refine At.seq ?_
          refine At.region_end [0, 2, 3, 4, 5, 6, 7, 8, 9] [0, 1, 2, 3, 4, 5, 6, 7, 8] _ (st' := ⟨[(0, .ptr 0 0), (2, .ptr 2 0), (3, .ptr 3 0), (4, i64 y12.1), (5, i64 x227), (6, .ptr 5 0), (7, i64 y360.1), (8, i64 x399), (9, .ptr 8 0)], [.blk 41 [sv x400, i64 x401], .ghost (gv 0) (.ptr 0 0), .blk 25 [i64 0, i64 0, i64 0, i64 0, i64 0, .d (.list true 0 []), .d (.list true 0 [])], .blk 25 [i64 y2.1, i64 y4.1, i64 y6.1, i64 y8.1, i64 y10.1, .row 4 (x230).length, .d (.list true 0 [])], .row 70 11 (encL T_api_Proc.enc x230), .blk 70 [i64 y340.1, i64 y342.1, .row 6 (y344.1).length, i64 y346.1, i64 y348.1, i64 y350.1, i64 y352.1, i64 y354.1, i64 y356.1, i64 y358.1, .row 7 (x402).length], .row 3 1 (encL (eInt .i64) y344.1), .row 102 5 (encL T_api_Alt.enc x402), .blk 102 [i64 0, i64 0, i64 0, i64 0, i64 0]]⟩) (tips := []) (by kernel_rfl) all0 (norm ?_)
          refine At.seq ?_
          obtain ⟨y424, hy424, h⟩ := bind_some h
          refine At.region_end [0, 2, 3, 4, 5, 6, 7, 8, 9] [0, 1, 2, 3, 4, 5, 6, 7, 8] _ (st' := ⟨[(0, .ptr 0 0), (2, .ptr 2 0), (3, .ptr 3 0), (4, i64 y12.1), (5, i64 x227), (6, .ptr 5 0), (7, i64 y360.1), (8, i64 x399), (9, .ptr 8 0)], [.blk 41 (T_retraceref03_Reader.pvs y424.2), .ghost (gv 0) (.ptr 0 0), .blk 25 [i64 0, i64 0, i64 0, i64 0, i64 0, .d (.list true 0 []), .d (.list true 0 [])], .blk 25 [i64 y2.1, i64 y4.1, i64 y6.1, i64 y8.1, i64 y10.1, .row 4 (x230).length, .d (.list true 0 [])], .row 70 11 (encL T_api_Proc.enc x230), .blk 70 [i64 y340.1, i64 y342.1, .row 6 (y344.1).length, i64 y346.1, i64 y348.1, i64 y350.1, i64 y352.1, i64 y354.1, i64 y356.1, i64 y358.1, .row 7 (x402).length], .row 3 1 (encL (eInt .i64) y344.1), .row 102 5 (encL T_api_Alt.enc x402), .blk 102 [i64 y424.1, i64 0, i64 0, i64 0, i64 0]]⟩) (tips := [(1, { pc := some { ρ := [0], n0 := 1, res := i64 y424.1, σ' := [.blk 41 (T_retraceref03_Reader.pvs y424.2)], e := [1] } })]) (by kernel_rfl) (allc (C_retraceref03_Reader_Int (⟨x400, x401⟩ : T_retraceref03_Reader) y424 hy424) all0) (norm ?_)
          refine At.seq ?_
          obtain ⟨y426, hy426, h⟩ := bind_some h
          refine At.region_end [0, 2, 3, 4, 5, 6, 7, 8, 9] [0, 1, 2, 3, 4, 5, 6, 7, 8] _ (st' := ⟨[(0, .ptr 0 0), (2, .ptr 2 0), (3, .ptr 3 0), (4, i64 y12.1), (5, i64 x227), (6, .ptr 5 0), (7, i64 y360.1), (8, i64 x399), (9, .ptr 8 0)], [.blk 41 (T_retraceref03_Reader.pvs y426.2), .ghost (gv 0) (.ptr 0 0), .blk 25 [i64 0, i64 0, i64 0, i64 0, i64 0, .d (.list true 0 []), .d (.list true 0 [])], .blk 25 [i64 y2.1, i64 y4.1, i64 y6.1, i64 y8.1, i64 y10.1, .row 4 (x230).length, .d (.list true 0 [])], .row 70 11 (encL T_api_Proc.enc x230), .blk 70 [i64 y340.1, i64 y342.1, .row 6 (y344.1).length, i64 y346.1, i64 y348.1, i64 y350.1, i64 y352.1, i64 y354.1, i64 y356.1, i64 y358.1, .row 7 (x402).length], .row 3 1 (encL (eInt .i64) y344.1), .row 102 5 (encL T_api_Alt.enc x402), .blk 102 [i64 y424.1, i64 y426.1, i64 0, i64 0, i64 0]]⟩) (tips := [(1, { pc := some { ρ := [0], n0 := 1, res := i64 y426.1, σ' := [.blk 41 (T_retraceref03_Reader.pvs y426.2)], e := [1] } })]) (by kernel_rfl) (allc (C_retraceref03_Reader_Int y424.2 y426 hy426) all0) (norm ?_)
          refine At.seq ?_
          obtain ⟨y428, hy428, h⟩ := bind_some h
          refine At.region_end [0, 2, 3, 4, 5, 6, 7, 8, 9] [0, 1, 2, 3, 4, 5, 6, 7, 8] _ (st' := ⟨[(0, .ptr 0 0), (2, .ptr 2 0), (3, .ptr 3 0), (4, i64 y12.1), (5, i64 x227), (6, .ptr 5 0), (7, i64 y360.1), (8, i64 x399), (9, .ptr 8 0)], [.blk 41 (T_retraceref03_Reader.pvs y428.2), .ghost (gv 0) (.ptr 0 0), .blk 25 [i64 0, i64 0, i64 0, i64 0, i64 0, .d (.list true 0 []), .d (.list true 0 [])], .blk 25 [i64 y2.1, i64 y4.1, i64 y6.1, i64 y8.1, i64 y10.1, .row 4 (x230).length, .d (.list true 0 [])], .row 70 11 (encL T_api_Proc.enc x230), .blk 70 [i64 y340.1, i64 y342.1, .row 6 (y344.1).length, i64 y346.1, i64 y348.1, i64 y350.1, i64 y352.1, i64 y354.1, i64 y356.1, i64 y358.1, .row 7 (x402).length], .row 3 1 (encL (eInt .i64) y344.1), .row 102 5 (encL T_api_Alt.enc x402), .blk 102 [i64 y424.1, i64 y426.1, i64 y428.1, i64 0, i64 0]]⟩) (tips := [(1, { pc := some { ρ := [0], n0 := 1, res := i64 y428.1, σ' := [.blk 41 (T_retraceref03_Reader.pvs y428.2)], e := [1] } })]) (by kernel_rfl) (allc (C_retraceref03_Reader_Int y426.2 y428 hy428) all0) (norm ?_)
          refine At.seq ?_
          obtain ⟨y430, hy430, h⟩ := bind_some h
          refine At.region_end [0, 2, 3, 4, 5, 6, 7, 8, 9] [0, 1, 2, 3, 4, 5, 6, 7, 8] _ (st' := ⟨[(0, .ptr 0 0), (2, .ptr 2 0), (3, .ptr 3 0), (4, i64 y12.1), (5, i64 x227), (6, .ptr 5 0), (7, i64 y360.1), (8, i64 x399), (9, .ptr 8 0)], [.blk 41 (T_retraceref03_Reader.pvs y430.2), .ghost (gv 0) (.ptr 0 0), .blk 25 [i64 0, i64 0, i64 0, i64 0, i64 0, .d (.list true 0 []), .d (.list true 0 [])], .blk 25 [i64 y2.1, i64 y4.1, i64 y6.1, i64 y8.1, i64 y10.1, .row 4 (x230).length, .d (.list true 0 [])], .row 70 11 (encL T_api_Proc.enc x230), .blk 70 [i64 y340.1, i64 y342.1, .row 6 (y344.1).length, i64 y346.1, i64 y348.1, i64 y350.1, i64 y352.1, i64 y354.1, i64 y356.1, i64 y358.1, .row 7 (x402).length], .row 3 1 (encL (eInt .i64) y344.1), .row 102 5 (encL T_api_Alt.enc x402), .blk 102 [i64 y424.1, i64 y426.1, i64 y428.1, i64 y430.1, i64 0]]⟩) (tips := [(1, { pc := some { ρ := [0], n0 := 1, res := i64 y430.1, σ' := [.blk 41 (T_retraceref03_Reader.pvs y430.2)], e := [1] } })]) (by kernel_rfl) (allc (C_retraceref03_Reader_Int y428.2 y430 hy430) all0) (norm ?_)
          refine At.seq ?_
          obtain ⟨y432, hy432, h⟩ := bind_some h
          refine At.region_end [0, 2, 3, 4, 5, 6, 7, 8, 9] [0, 1, 2, 3, 4, 5, 6, 7, 8] _ (st' := ⟨[(0, .ptr 0 0), (2, .ptr 2 0), (3, .ptr 3 0), (4, i64 y12.1), (5, i64 x227), (6, .ptr 5 0), (7, i64 y360.1), (8, i64 x399), (9, .ptr 8 0)], [.blk 41 (T_retraceref03_Reader.pvs y432.2), .ghost (gv 0) (.ptr 0 0), .blk 25 [i64 0, i64 0, i64 0, i64 0, i64 0, .d (.list true 0 []), .d (.list true 0 [])], .blk 25 [i64 y2.1, i64 y4.1, i64 y6.1, i64 y8.1, i64 y10.1, .row 4 (x230).length, .d (.list true 0 [])], .row 70 11 (encL T_api_Proc.enc x230), .blk 70 [i64 y340.1, i64 y342.1, .row 6 (y344.1).length, i64 y346.1, i64 y348.1, i64 y350.1, i64 y352.1, i64 y354.1, i64 y356.1, i64 y358.1, .row 7 (x402).length], .row 3 1 (encL (eInt .i64) y344.1), .row 102 5 (encL T_api_Alt.enc x402), .blk 102 [i64 y424.1, i64 y426.1, i64 y428.1, i64 y430.1, i64 y432.1]]⟩) (tips := [(1, { pc := some { ρ := [0], n0 := 1, res := i64 y432.1, σ' := [.blk 41 (T_retraceref03_Reader.pvs y432.2)], e := [1] } })]) (by kernel_rfl) (allc (C_retraceref03_Reader_Int y430.2 y432 hy432) all0) (norm ?_)
          obtain ⟨g433, h⟩ := grd_some h
          refine At.region_end [0, 2, 3, 4, 5, 6, 7, 8] [0, 1, 2, 3, 4, 5, 6, 7] _ (st' := ⟨[(0, .ptr 0 0), (2, .ptr 2 0), (3, .ptr 3 0), (4, i64 y12.1), (5, i64 x227), (6, .ptr 5 0), (7, i64 y360.1), (8, i64 x399)], [.blk 41 (T_retraceref03_Reader.pvs y432.2), .ghost (gv 0) (.ptr 0 0), .blk 25 [i64 0, i64 0, i64 0, i64 0, i64 0, .d (.list true 0 []), .d (.list true 0 [])], .blk 25 [i64 y2.1, i64 y4.1, i64 y6.1, i64 y8.1, i64 y10.1, .row 4 (x230).length, .d (.list true 0 [])], .row 70 11 (encL T_api_Proc.enc x230), .blk 70 [i64 y340.1, i64 y342.1, .row 6 (y344.1).length, i64 y346.1, i64 y348.1, i64 y350.1, i64 y352.1, i64 y354.1, i64 y356.1, i64 y358.1, .row 7 ((x402 ++ [(⟨y424.1, y426.1, y428.1, y430.1, y432.1⟩ : T_api_Alt)])).length], .row 3 1 (encL (eInt .i64) y344.1), .row 102 5 (encL T_api_Alt.enc (x402 ++ [(⟨y424.1, y426.1, y428.1, y430.1, y432.1⟩ : T_api_Alt)]))]⟩) (tips := [(4, { form := some ((x402 ++ [(⟨y424.1, y426.1, y428.1, y430.1, y432.1⟩ : T_api_Alt)]).length, encL T_api_Alt.enc (x402 ++ [(⟨y424.1, y426.1, y428.1, y430.1, y432.1⟩ : T_api_Alt)])) })]) (by kernel_rfl) (allc (len_app x402 ([(⟨y424.1, y426.1, y428.1, y430.1, y432.1⟩ : T_api_Alt)])) (allc (encL_app T_api_Alt.enc x402 ([(⟨y424.1, y426.1, y428.1, y430.1, y432.1⟩ : T_api_Alt)])) (allc (app_ok T_api_Alt.enc_len (by decide) g433) (allc (encL_len T_api_Alt.enc_len ([(⟨y424.1, y426.1, y428.1, y430.1, y432.1⟩ : T_api_Alt)])) all0)))) (norm ?_)
          refine At.region_end [0, 2, 3, 4, 5, 6, 7, 8] [0, 1, 2, 3, 4, 5, 6, 7] _ (st' := ⟨[(0, .ptr 0 0), (2, .ptr 2 0), (3, .ptr 3 0), (4, i64 y12.1), (5, i64 x227), (6, .ptr 5 0), (7, i64 y360.1), (8, i64 (w64 (x399 + 1)))], [.blk 41 (T_retraceref03_Reader.pvs y432.2), .ghost (gv 0) (.ptr 0 0), .blk 25 [i64 0, i64 0, i64 0, i64 0, i64 0, .d (.list true 0 []), .d (.list true 0 [])], .blk 25 [i64 y2.1, i64 y4.1, i64 y6.1, i64 y8.1, i64 y10.1, .row 4 (x230).length, .d (.list true 0 [])], .row 70 11 (encL T_api_Proc.enc x230), .blk 70 [i64 y340.1, i64 y342.1, .row 6 (y344.1).length, i64 y346.1, i64 y348.1, i64 y350.1, i64 y352.1, i64 y354.1, i64 y356.1, i64 y358.1, .row 7 ((x402 ++ [(⟨y424.1, y426.1, y428.1, y430.1, y432.1⟩ : T_api_Alt)])).length], .row 3 1 (encL (eInt .i64) y344.1), .row 102 5 (encL T_api_Alt.enc (x402 ++ [(⟨y424.1, y426.1, y428.1, y430.1, y432.1⟩ : T_api_Alt)]))]⟩) (tips := []) (by kernel_rfl) all0 (fun a w hs => ⟨_, (some_eq h).symm, hs⟩)
        · replace h := cond_f b411 h
          refine At.nar [0, 2, 3, 4, 5, 6] [0, 1, 2, 3, 4, 5, 6, 7] (st' := ⟨[(0, .ptr 0 0), (2, .ptr 2 0), (3, .ptr 3 0), (4, i64 y12.1), (5, i64 x227), (6, .ptr 5 0)], [.blk 41 [sv x400, i64 x401], .ghost (gv 0) (.ptr 0 0), .blk 25 [i64 0, i64 0, i64 0, i64 0, i64 0, .d (.list true 0 []), .d (.list true 0 [])], .blk 25 [i64 y2.1, i64 y4.1, i64 y6.1, i64 y8.1, i64 y10.1, .row 4 (x230).length, .d (.list true 0 [])], .row 70 11 (encL T_api_Proc.enc x230), .blk 70 [i64 y340.1, i64 y342.1, .row 6 (y344.1).length, i64 y346.1, i64 y348.1, i64 y350.1, i64 y352.1, i64 y354.1, i64 y356.1, i64 y358.1, .row 7 (x402).length], .row 3 1 (encL (eInt .i64) y344.1), .row 102 5 (encL T_api_Alt.enc x402)]⟩) (by kernel_rfl) ?_
          obtain ⟨r434, h, e435⟩ := map_inr h
          rw [f404 _ e435] at h
          refine At.exit (norm ?_)
          obtain ⟨g436, h⟩ := grd_some h
          refine At.region_end [0, 2, 3, 4, 5] [0, 1, 2, 3, 4] _ (st' := ⟨[(0, .ptr 0 0), (2, .ptr 2 0), (3, .ptr 3 0), (4, i64 y12.1), (5, i64 x227)], [.blk 41 [sv x400, i64 x401], .ghost (gv 0) (.ptr 0 0), .blk 25 [i64 0, i64 0, i64 0, i64 0, i64 0, .d (.list true 0 []), .d (.list true 0 [])], .blk 25 [i64 y2.1, i64 y4.1, i64 y6.1, i64 y8.1, i64 y10.1, .row 4 ((x230 ++ [(⟨y340.1, y342.1, y344.1, y346.1, y348.1, y350.1, y352.1, y354.1, y356.1, y358.1, x402⟩ : T_api_Proc)])).length, .d (.list true 0 [])], .row 70 11 (encL T_api_Proc.enc (x230 ++ [(⟨y340.1, y342.1, y344.1, y346.1, y348.1, y350.1, y352.1, y354.1, y356.1, y358.1, x402⟩ : T_api_Proc)]))]⟩) (tips := [(3, { settle := [6, 7] }), (4, { form := some ((x230 ++ [(⟨y340.1, y342.1, y344.1, y346.1, y348.1, y350.1, y352.1, y354.1, y356.1, y358.1, x402⟩ : T_api_Proc)]).length, encL T_api_Proc.enc (x230 ++ [(⟨y340.1, y342.1, y344.1, y346.1, y348.1, y350.1, y352.1, y354.1, y356.1, y358.1, x402⟩ : T_api_Proc)])) })]) (by kernel_rfl) (allc (len_app x230 ([(⟨y340.1, y342.1, y344.1, y346.1, y348.1, y350.1, y352.1, y354.1, y356.1, y358.1, x402⟩ : T_api_Proc)])) (allc (encL_app T_api_Proc.enc x230 ([(⟨y340.1, y342.1, y344.1, y346.1, y348.1, y350.1, y352.1, y354.1, y356.1, y358.1, x402⟩ : T_api_Proc)])) (allc (app_ok T_api_Proc.enc_len (by decide) g436) (allc (encL_len T_api_Proc.enc_len ([(⟨y340.1, y342.1, y344.1, y346.1, y348.1, y350.1, y352.1, y354.1, y356.1, y358.1, x402⟩ : T_api_Proc)])) all0)))) (norm ?_)
          refine At.region_end [0, 2, 3, 4, 5] [0, 1, 2, 3, 4] _ (st' := ⟨[(0, .ptr 0 0), (2, .ptr 2 0), (3, .ptr 3 0), (4, i64 y12.1), (5, i64 (w64 (x227 + 1)))], [.blk 41 [sv x400, i64 x401], .ghost (gv 0) (.ptr 0 0), .blk 25 [i64 0, i64 0, i64 0, i64 0, i64 0, .d (.list true 0 []), .d (.list true 0 [])], .blk 25 [i64 y2.1, i64 y4.1, i64 y6.1, i64 y8.1, i64 y10.1, .row 4 ((x230 ++ [(⟨y340.1, y342.1, y344.1, y346.1, y348.1, y350.1, y352.1, y354.1, y356.1, y358.1, x402⟩ : T_api_Proc)])).length, .d (.list true 0 [])], .row 70 11 (encL T_api_Proc.enc (x230 ++ [(⟨y340.1, y342.1, y344.1, y346.1, y348.1, y350.1, y352.1, y354.1, y356.1, y358.1, x402⟩ : T_api_Proc)]))]⟩) (tips := []) (by kernel_rfl) all0 (fun a w hs => ⟨_, (some_eq h).symm, hs⟩)
    · replace h := cond_f b239 h
      refine At.nar [0, 2, 3] [0, 1, 2, 3, 4] (st' := ⟨[(0, .ptr 0 0), (2, .ptr 2 0), (3, .ptr 3 0)], [.blk 41 [sv x228, i64 x229], .ghost (gv 0) (.ptr 0 0), .blk 25 [i64 0, i64 0, i64 0, i64 0, i64 0, .d (.list true 0 []), .d (.list true 0 [])], .blk 25 [i64 y2.1, i64 y4.1, i64 y6.1, i64 y8.1, i64 y10.1, .row 4 (x230).length, .d (.list true 0 [])], .row 70 11 (encL T_api_Proc.enc x230)]⟩) (by kernel_rfl) ?_
      obtain ⟨r438, h, e439⟩ := map_inr h
      rw [f232 _ e439] at h
      refine At.exit (norm ?_)
      refine At.seq ?_
      obtain ⟨y441, hy441, h⟩ := bind_some h
      refine At.region_end [0, 2, 3] [0, 1, 2, 3, 4, 5] _ (st' := ⟨[(0, .ptr 0 0), (2, .ptr 2 0), (3, .ptr 3 0)], [.blk 41 (T_retraceref03_Reader.pvs y441.2), .ghost (gv 0) (.ptr 0 0), .blk 25 [i64 0, i64 0, i64 0, i64 0, i64 0, .d (.list true 0 []), .d (.list true 0 [])], .blk 25 [i64 y2.1, i64 y4.1, i64 y6.1, i64 y8.1, i64 y10.1, .row 4 (x230).length, .row 5 (y441.1).length], .row 70 11 (encL T_api_Proc.enc x230), .row 3 1 (encL (eInt .i64) y441.1)]⟩) (tips := [(1, { pc := some { ρ := [0, 5], n0 := 1, res := .row 1 (y441.1).length, σ' := [.blk 41 (T_retraceref03_Reader.pvs y441.2), .row 3 1 (encL (eInt .i64) y441.1)], e := [1] } })]) (by kernel_rfl) (allc (C_retraceref03_Reader_Ints 1048576 (⟨x228, x229⟩ : T_retraceref03_Reader) y441 hy441) all0) (norm ?_)
      refine At.seq ?_
      refine At.seq ?_
      refine At.region_end [2, 3, 117] [0, 1, 2, 3, 4, 5] _ (st' := ⟨[(2, .ptr 2 0), (3, .ptr 3 0), (117, bo (y441.2.Bad != 0))], [.blk 41 (T_retraceref03_Reader.pvs y441.2), .ghost (gv 0) (.ptr 0 0), .blk 25 [i64 0, i64 0, i64 0, i64 0, i64 0, .d (.list true 0 []), .d (.list true 0 [])], .blk 25 [i64 y2.1, i64 y4.1, i64 y6.1, i64 y8.1, i64 y10.1, .row 4 (x230).length, .row 5 (y441.1).length], .row 70 11 (encL T_api_Proc.enc x230), .row 3 1 (encL (eInt .i64) y441.1)]⟩) (tips := []) (by kernel_rfl) all0 (norm ?_)
      refine At.cond (y441.2.Bad != 0) (by kernel_rfl) (fun b443 => ?_) (fun b443 => ?_)
      · replace h := cond_t b443 h
        refine At.seq ?_
        refine At.region_end [2] [0, 1, 2] _ (st' := ⟨[(2, .ptr 2 0)], [.blk 41 (T_retraceref03_Reader.pvs y441.2), .ghost (gv 0) (.ptr 0 0), .blk 25 [i64 0, i64 0, i64 0, i64 0, i64 0, .d (.list true 0 []), .d (.list true 0 [])]]⟩) (tips := []) (by kernel_rfl) all0 (norm ?_)
        refine At.edNar [.loO 2] [2] [0, 1, 2] (st' := ⟨[(2, .ptr 2 0)], [.blk 41 (T_retraceref03_Reader.pvs y441.2), .ghost (gv 0) (.ptr 0 0), .blk 25 [i64 0, i64 0, i64 0, i64 0, i64 0, lv T_api_Proc.enc ([] : List T_api_Proc), lv (eInt .i64) ([] : List Int)]]⟩) (by kernel_rfl) ?_
        obtain rfl := some_eq h
        exact At.ret fun a w hs => ret_ok hR (ρ := [0]) (gs := [.ghost (gv 0) (.ptr 0 0)]) (by kernel_rfl) all0 (by kernel_rfl) rfl rfl a w hs _ (.inl rfl)
      · replace h := cond_f b443 h
        refine At.nar [2, 3] [0, 1, 2, 3, 4, 5] (st' := ⟨[(2, .ptr 2 0), (3, .ptr 3 0)], [.blk 41 (T_retraceref03_Reader.pvs y441.2), .ghost (gv 0) (.ptr 0 0), .blk 25 [i64 0, i64 0, i64 0, i64 0, i64 0, .d (.list true 0 []), .d (.list true 0 [])], .blk 25 [i64 y2.1, i64 y4.1, i64 y6.1, i64 y8.1, i64 y10.1, .row 4 (x230).length, .row 5 (y441.1).length], .row 70 11 (encL T_api_Proc.enc x230), .row 3 1 (encL (eInt .i64) y441.1)]⟩) (by kernel_rfl) ?_
        refine At.skip (norm ?_)
        refine At.seq ?_
        refine At.region_end [2] [0, 1, 2, 4, 5] _ (st' := ⟨[(2, .ptr 2 0)], [.blk 41 (T_retraceref03_Reader.pvs y441.2), .ghost (gv 0) (.ptr 0 0), .blk 25 [i64 y2.1, i64 y4.1, i64 y6.1, i64 y8.1, i64 y10.1, .row 3 (x230).length, .row 4 (y441.1).length], .row 70 11 (encL T_api_Proc.enc x230), .row 3 1 (encL (eInt .i64) y441.1)]⟩) (tips := []) (by kernel_rfl) all0 (norm ?_)
        refine At.edNar [.settle 3, .settle 4] [2] [0, 1, 2] (st' := ⟨[(2, .ptr 2 0)], [.blk 41 (T_retraceref03_Reader.pvs y441.2), .ghost (gv 0) (.ptr 0 0), .blk 25 [i64 y2.1, i64 y4.1, i64 y6.1, i64 y8.1, i64 y10.1, lv T_api_Proc.enc x230, lv (eInt .i64) y441.1]]⟩) (by kernel_rfl) ?_
        obtain rfl := some_eq h
        exact At.ret fun a w hs => ret_ok hR (ρ := [0]) (gs := [.ghost (gv 0) (.ptr 0 0)]) (by kernel_rfl) all0 (by kernel_rfl) rfl rfl a w hs _ (.inl rfl)
set_option maxRecDepth 100000 in
theorem C_retraceref03_Reader_End (o0 : T_retraceref03_Reader) (r : Int) (h : F_retraceref03_Reader_End o0 = some r) : FnOK Try.prog 51 [.ptr 0 0] [.blk 41 (T_retraceref03_Reader.pvs o0)] (i64 r) [.blk 41 (T_retraceref03_Reader.pvs o0)] [1] := by
  rw [F_retraceref03_Reader_End] at h
  refine FnOK.intro Try.func51 rfl (by kernel_rfl) (by kernel_rfl) fun E gv R hR => ?_
  refine At.seq ?_
  refine At.region_end [0] [0, 1] _ (st' := ⟨[(0, .ptr 0 0)], [.blk 41 (T_retraceref03_Reader.pvs o0), .ghost (gv 0) (.ptr 0 0)]⟩) (tips := []) (by kernel_rfl) all0 (norm ?_)
  refine At.seq ?_
  refine At.seqJ (S := Bool) (fun s => ⟨[(0, .ptr 0 0), (15, bo s)], [.blk 41 (T_retraceref03_Reader.pvs o0), .ghost (gv 0) (.ptr 0 0)]⟩) (fun s => F_retraceref03_Reader_End_J1 o0 s = some r) ?_ ?_
  · rcases tf (o0.Bad == 0) with b8 | b8
    · replace h := cond_t b8 h
      refine At.region_end [0, 15] [0, 1] _ (st' := ⟨[(0, .ptr 0 0), (15, bo (decide (0 < (o0.S.size : Int))))], [.blk 41 (T_retraceref03_Reader.pvs o0), .ghost (gv 0) (.ptr 0 0)]⟩) (tips := [(5, { orc := .val (.bool true) })]) (by kernel_rfl) (allc (congrArg D.bool b8) all0) (fun a w hs => ⟨(decide (0 < (o0.S.size : Int))), h, hs⟩)
    · replace h := cond_f b8 h
      refine At.region_end [0, 15] [0, 1] _ (st' := ⟨[(0, .ptr 0 0), (15, bo false)], [.blk 41 (T_retraceref03_Reader.pvs o0), .ghost (gv 0) (.ptr 0 0)]⟩) (tips := [(5, { orc := .val (.bool false) })]) (by kernel_rfl) (allc (congrArg D.bool b8) all0) (fun a w hs => ⟨false, h, hs⟩)
  · intro x6 h
    replace h : F_retraceref03_Reader_End_J1 o0 x6 = some r := h
    rw [F_retraceref03_Reader_End_J1] at h
    refine At.cond x6 (by kernel_rfl) (fun b7 => ?_) (fun b7 => ?_)
    · replace h := cond_t b7 h
      refine At.seq ?_
      refine At.region_end [2] [0, 1] _ (st' := ⟨[(2, i64 3)], [.blk 41 (T_retraceref03_Reader.pvs o0), .ghost (gv 0) (.ptr 0 0)]⟩) (tips := []) (by kernel_rfl) all0 (norm ?_)
      obtain rfl := some_eq h
      exact At.ret fun a w hs => ret_ok hR (ρ := [0]) (gs := [.ghost (gv 0) (.ptr 0 0)]) (by kernel_rfl) all0 (by kernel_rfl) rfl rfl a w hs _ (.inl rfl)
    · replace h := cond_f b7 h
      refine At.nar [0] [0, 1] (st' := ⟨[(0, .ptr 0 0)], [.blk 41 (T_retraceref03_Reader.pvs o0), .ghost (gv 0) (.ptr 0 0)]⟩) (by kernel_rfl) ?_
      refine At.skip (norm ?_)
      refine At.seq ?_
      refine At.region_end [2] [0, 1] _ (st' := ⟨[(2, i64 o0.Bad)], [.blk 41 (T_retraceref03_Reader.pvs o0), .ghost (gv 0) (.ptr 0 0)]⟩) (tips := []) (by kernel_rfl) all0 (norm ?_)
      obtain rfl := some_eq h
      exact At.ret fun a w hs => ret_ok hR (ρ := [0]) (gs := [.ghost (gv 0) (.ptr 0 0)]) (by kernel_rfl) all0 (by kernel_rfl) rfl rfl a w hs _ (.inl rfl)
set_option maxRecDepth 100000 in
theorem C_retraceref30_Get (p0 : ByteArray) (r : T_retraceref30_Got) (h : F_retraceref30_Get p0 = some r) : FnOK Try.prog 17 [sv p0] [] (.agg (T_retraceref30_Got.pvs r)) [] [] := by
  rw [F_retraceref30_Get] at h
  refine FnOK.intro Try.func17 rfl (by kernel_rfl) (by kernel_rfl) fun E gv R hR => ?_
  refine At.seq ?_
  refine At.region_end [0, 2] [0] _ (st' := ⟨[(0, sv p0), (2, .ptr 0 0)], [.blk 34 [i64 0, i64 0, i64 0, i64 0, i64 0, .d (.list true 0 []), .d (.list true 0 []), i64 0]]⟩) (tips := []) (by kernel_rfl) all0 (norm ?_)
  refine At.seq ?_
  refine At.region_end [2, 3] [0, 1] _ (st' := ⟨[(2, .ptr 0 0), (3, .ptr 1 0)], [.blk 34 [i64 0, i64 0, i64 0, i64 0, i64 0, .d (.list true 0 []), .d (.list true 0 []), i64 0], .blk 41 [sv p0, i64 0]]⟩) (tips := []) (by kernel_rfl) all0 (norm ?_)
  refine At.seq ?_
  obtain ⟨y2, hy2, h⟩ := bind_some h
  refine At.region_end [2, 3, 4] [0, 1, 2] _ (st' := ⟨[(2, .ptr 0 0), (3, .ptr 1 0), (4, .ptr 2 0)], [.blk 34 [i64 0, i64 0, i64 0, i64 0, i64 0, .d (.list true 0 []), .d (.list true 0 []), i64 0], .blk 41 (T_retraceref03_Reader.pvs y2.2), .blk 25 (T_api_State.pvs y2.1)]⟩) (tips := [(1, { pc := some { ρ := [1], n0 := 1, res := .agg (T_api_State.pvs y2.1), σ' := [.blk 41 (T_retraceref03_Reader.pvs y2.2)], e := [1] } })]) (by kernel_rfl) (allc (C_retraceref30_Read (⟨p0, 0⟩ : T_retraceref03_Reader) y2 hy2) all0) (norm ?_)
  refine At.seq ?_
  refine At.seq ?_
  obtain ⟨y7, hy7, h⟩ := bind_some h
  refine At.region_end [2, 4, 5] [0, 2] _ (st' := ⟨[(2, .ptr 0 0), (4, .ptr 1 0), (5, i64 y7)], [.blk 34 [i64 0, i64 0, i64 0, i64 0, i64 0, .d (.list true 0 []), .d (.list true 0 []), i64 0], .blk 25 (T_api_State.pvs y2.1)]⟩) (tips := [(1, { pc := some { ρ := [1], n0 := 1, res := i64 y7, σ' := [.blk 41 (T_retraceref03_Reader.pvs y2.2)], e := [1] } })]) (by kernel_rfl) (allc (C_retraceref03_Reader_End y2.2 y7 hy7) all0) (norm ?_)
  refine At.seq ?_
  refine At.region_end [2, 4, 5, 14] [0, 1] _ (st' := ⟨[(2, .ptr 0 0), (4, .ptr 1 0), (5, i64 y7), (14, bo (y7 != 0))], [.blk 34 [i64 0, i64 0, i64 0, i64 0, i64 0, .d (.list true 0 []), .d (.list true 0 []), i64 0], .blk 25 (T_api_State.pvs y2.1)]⟩) (tips := []) (by kernel_rfl) all0 (norm ?_)
  refine At.cond (y7 != 0) (by kernel_rfl) (fun b8 => ?_) (fun b8 => ?_)
  · replace h := cond_t b8 h
    refine At.seq ?_
    refine At.region_end [2] [0] _ (st' := ⟨[(2, .ptr 0 0)], [.blk 34 [i64 0, i64 0, i64 0, i64 0, i64 0, .d (.list true 0 []), .d (.list true 0 []), i64 y7]]⟩) (tips := []) (by kernel_rfl) all0 (norm ?_)
    refine At.edNar [.loO 0] [2] [0] (st' := ⟨[(2, .ptr 0 0)], [.blk 34 [i64 0, i64 0, i64 0, i64 0, i64 0, lv T_api_Proc.enc ([] : List T_api_Proc), lv (eInt .i64) ([] : List Int), i64 y7]]⟩) (by kernel_rfl) ?_
    obtain rfl := some_eq h
    exact At.ret fun a w hs => ret_ok hR (ρ := []) (gs := []) (by kernel_rfl) all0 (by kernel_rfl) rfl rfl a w hs _ (.inl rfl)
  · replace h := cond_f b8 h
    refine At.nar [2, 4] [0, 1] (st' := ⟨[(2, .ptr 0 0), (4, .ptr 1 0)], [.blk 34 [i64 0, i64 0, i64 0, i64 0, i64 0, .d (.list true 0 []), .d (.list true 0 []), i64 0], .blk 25 (T_api_State.pvs y2.1)]⟩) (by kernel_rfl) ?_
    refine At.skip (norm ?_)
    refine At.seq ?_
    refine At.region_end [2] [0] _ (st' := ⟨[(2, .ptr 0 0)], [.blk 34 (T_api_State.pvs y2.1 ++ [i64 0])]⟩) (tips := []) (by kernel_rfl) all0 (norm ?_)
    obtain rfl := some_eq h
    exact At.ret fun a w hs => ret_ok hR (ρ := []) (gs := []) (by kernel_rfl) all0 (by kernel_rfl) rfl rfl a w hs _ (.inl rfl)
set_option maxRecDepth 100000 in
theorem C_retracelaw30_DumpGets (p0 : ByteArray) (r : Bool) (h : F_retracelaw30_DumpGets p0 = some r) : FnOK Try.prog 4 [sv p0] [] (bo r) [] [] := by
  rw [F_retracelaw30_DumpGets] at h
  refine FnOK.intro Try.func4 rfl (by kernel_rfl) (by kernel_rfl) fun E gv R hR => ?_
  refine At.seq ?_
  refine At.region_end [0] [] _ (st' := ⟨[(0, sv p0)], []⟩) (tips := []) (by kernel_rfl) all0 (norm ?_)
  refine At.seq ?_
  refine At.seq ?_
  refine At.region_end [0, 8] [] _ (st' := ⟨[(0, sv p0), (8, bo (decide (800 < (p0.size : Int))))], []⟩) (tips := []) (by kernel_rfl) all0 (norm ?_)
  refine At.cond (decide (800 < (p0.size : Int))) (by kernel_rfl) (fun b4 => ?_) (fun b4 => ?_)
  · replace h := cond_t b4 h
    refine At.seq ?_
    obtain ⟨y6, hy6, h⟩ := bind_some h
    refine At.region_end [2] [] _ (st' := ⟨[(2, bo y6)], []⟩) (tips := [(0, { pc := some { ρ := [], n0 := 0, res := bo y6, σ' := [], e := [] } })]) (by kernel_rfl) (allc (C_retracelaw30_live y6 hy6) all0) (norm ?_)
    obtain rfl := some_eq h
    exact At.ret fun a w hs => ret_ok hR (ρ := []) (gs := []) (by kernel_rfl) all0 (by kernel_rfl) rfl rfl a w hs _ (.inl rfl)
  · replace h := cond_f b4 h
    refine At.nar [0] [] (st' := ⟨[(0, sv p0)], []⟩) (by kernel_rfl) ?_
    refine At.skip (norm ?_)
    refine At.seq ?_
    obtain ⟨y8, hy8, h⟩ := bind_some h
    refine At.region_end [0, 3, 4] [0] _ (st' := ⟨[(0, sv p0), (3, .ptr 0 0), (4, i64 y8.2)], [.blk 25 (T_api_State.pvs y8.1)]⟩) (tips := [(1, { pc := some { ρ := [], n0 := 0, res := .tup [.agg (T_api_State.pvs y8.1), i64 y8.2], σ' := [], e := [] } })]) (by kernel_rfl) (allc (C_dump_Get p0 y8 hy8) all0) (norm ?_)
    refine At.seq ?_
    obtain ⟨y10, hy10, h⟩ := bind_some h
    refine At.region_end [0, 3, 4, 5] [0, 1] _ (st' := ⟨[(0, sv p0), (3, .ptr 0 0), (4, i64 y8.2), (5, .ptr 1 0)], [.blk 25 (T_api_State.pvs y8.1), .blk 34 (T_retraceref30_Got.pvs y10)]⟩) (tips := [(1, { pc := some { ρ := [], n0 := 0, res := .agg (T_retraceref30_Got.pvs y10), σ' := [], e := [] } })]) (by kernel_rfl) (allc (C_retraceref30_Get p0 y10 hy10) all0) (norm ?_)
    refine At.seq ?_
    refine At.seqJ (S := Bool) (fun s => ⟨[(0, sv p0), (3, .ptr 0 0), (4, i64 y8.2), (27, bo s)], [.blk 25 (T_api_State.pvs y8.1)]⟩) (fun s => F_retracelaw30_DumpGets_J1 p0 y8 s = some r) ?_ ?_
    · obtain ⟨y32, hy32, h⟩ := bind_some h
      rcases tf (!y32) with b33 | b33
      · replace h := cond_t b33 h
        refine At.region_end [0, 3, 4, 27] [0] _ (st' := ⟨[(0, sv p0), (3, .ptr 0 0), (4, i64 y8.2), (27, bo true)], [.blk 25 (T_api_State.pvs y8.1)]⟩) (tips := [(3, { pc := some { ρ := [], n0 := 0, res := bo y32, σ' := [], e := [] } }), (5, { orc := .val (.bool true) })]) (by kernel_rfl) (allc (C_retraceref28_Same y8.1 y10.S y32 hy32) (allc (congrArg D.bool b33) all0)) (fun a w hs => ⟨true, h, hs⟩)
      · replace h := cond_f b33 h
        refine At.region_end [0, 3, 4, 27] [0] _ (st' := ⟨[(0, sv p0), (3, .ptr 0 0), (4, i64 y8.2), (27, bo (y8.2 != y10.E))], [.blk 25 (T_api_State.pvs y8.1)]⟩) (tips := [(3, { pc := some { ρ := [], n0 := 0, res := bo y32, σ' := [], e := [] } }), (5, { orc := .val (.bool false) })]) (by kernel_rfl) (allc (C_retraceref28_Same y8.1 y10.S y32 hy32) (allc (congrArg D.bool b33) all0)) (fun a w hs => ⟨(y8.2 != y10.E), h, hs⟩)
    · intro x19 h
      replace h : F_retracelaw30_DumpGets_J1 p0 y8 x19 = some r := h
      rw [F_retracelaw30_DumpGets_J1] at h
      refine At.cond x19 (by kernel_rfl) (fun b20 => ?_) (fun b20 => ?_)
      · replace h := cond_t b20 h
        refine At.seq ?_
        refine At.region_end [2] [] _ (st' := ⟨[(2, bo false)], []⟩) (tips := []) (by kernel_rfl) all0 (norm ?_)
        obtain rfl := some_eq h
        exact At.ret fun a w hs => ret_ok hR (ρ := []) (gs := []) (by kernel_rfl) all0 (by kernel_rfl) rfl rfl a w hs _ (.inl rfl)
      · replace h := cond_f b20 h
        refine At.nar [0, 3, 4] [0] (st' := ⟨[(0, sv p0), (3, .ptr 0 0), (4, i64 y8.2)], [.blk 25 (T_api_State.pvs y8.1)]⟩) (by kernel_rfl) ?_
        refine At.skip (norm ?_)
        refine At.seqJ (S := Bool) (fun s => ⟨[(2, bo s)], []⟩) (fun s => F_retracelaw30_DumpGets_J2 s = some r) ?_ ?_
        · rcases tf (y8.2 != 0) with b27 | b27
          · replace h := cond_t b27 h
            obtain ⟨y28, hy28, h⟩ := bind_some h
            refine At.region_end [2] [] _ (st' := ⟨[(2, bo y28)], []⟩) (tips := [(2, { orc := .val (.bool true) }), (9, { pc := some { ρ := [], n0 := 0, res := bo y28, σ' := [], e := [] } })]) (by kernel_rfl) (allc (congrArg D.bool b27) (allc (C_retracelaw30_live y28 hy28) all0)) (fun a w hs => ⟨y28, h, hs⟩)
          · replace h := cond_f b27 h
            obtain ⟨y29, hy29, h⟩ := bind_some h
            rcases tf (y29.toList == p0.toList) with b30 | b30
            · replace h := cond_t b30 h
              obtain ⟨y31, hy31, h⟩ := bind_some h
              refine At.region_end [2] [] _ (st' := ⟨[(2, bo y31)], []⟩) (tips := [(2, { orc := .val (.bool false) }), (4, { pc := some { ρ := [], n0 := 0, res := sv y29, σ' := [], e := [] } }), (8, { orc := .val (.bool true) }), (9, { pc := some { ρ := [], n0 := 0, res := bo y31, σ' := [], e := [] } })]) (by kernel_rfl) (allc (congrArg D.bool b27) (allc (C_dump_Put_v2 y8.1 y29 hy29) (allc (congrArg D.bool b30) (allc (C_retracelaw30_live y31 hy31) all0)))) (fun a w hs => ⟨y31, h, hs⟩)
            · replace h := cond_f b30 h
              refine At.region_end [2] [] _ (st' := ⟨[(2, bo false)], []⟩) (tips := [(2, { orc := .val (.bool false) }), (4, { pc := some { ρ := [], n0 := 0, res := sv y29, σ' := [], e := [] } }), (8, { orc := .val (.bool false) })]) (by kernel_rfl) (allc (congrArg D.bool b27) (allc (C_dump_Put_v2 y8.1 y29 hy29) (allc (congrArg D.bool b30) all0))) (fun a w hs => ⟨false, h, hs⟩)
        · intro x26 h
          replace h : F_retracelaw30_DumpGets_J2 x26 = some r := h
          rw [F_retracelaw30_DumpGets_J2] at h
          obtain rfl := some_eq h
          exact At.ret fun a w hs => ret_ok hR (ρ := []) (gs := []) (by kernel_rfl) all0 (by kernel_rfl) rfl rfl a w hs _ (.inl rfl)
set_option maxRecDepth 100000 in
theorem C_wire_Reader_Raw_1 (p0 : ByteArray) (o0_0 : Int) (o1_0 : ByteArray) (r : Int × Int × ByteArray) (h : F_wire_Reader_Raw_1 p0 o0_0 o1_0 = some r) : FnOK Try.prog 53 [sv p0, .ptr 0 0, .ptr 1 0] [.blk 3 [i64 o0_0], .blk 9 [sv o1_0]] (.tup [i64 r.1, i64 r.2.1]) [.blk 3 [i64 o0_0], .blk 9 [sv r.2.2]] [1, 3] := by
  rw [F_wire_Reader_Raw_1] at h
  refine FnOK.intro Try.func53 rfl (by kernel_rfl) (by kernel_rfl) fun E gv R hR => ?_
  refine At.seq ?_
  refine At.region_end [0, 1, 2] [0, 1, 2, 3] _ (st' := ⟨[(0, sv p0), (1, .ptr 0 0), (2, .ptr 1 0)], [.blk 3 [i64 o0_0], .blk 9 [sv o1_0], .ghost (gv 0) (.ptr 0 0), .ghost (gv 1) (.ptr 1 0)]⟩) (tips := []) (by kernel_rfl) all0 (norm ?_)
  refine At.seq ?_
  refine At.seq ?_
  refine At.region_end [0, 1, 2, 7] [0, 1, 2, 3] _ (st' := ⟨[(0, sv p0), (1, .ptr 0 0), (2, .ptr 1 0), (7, bo (decide (o0_0 < 0)))], [.blk 3 [i64 o0_0], .blk 9 [sv o1_0], .ghost (gv 0) (.ptr 0 0), .ghost (gv 1) (.ptr 1 0)]⟩) (tips := []) (by kernel_rfl) all0 (norm ?_)
  refine At.cond (decide (o0_0 < 0)) (by kernel_rfl) (fun b2 => ?_) (fun b2 => ?_)
  · replace h := cond_t b2 h
    refine At.seq ?_
    refine At.region_end [4, 5] [0, 1, 2, 3] _ (st' := ⟨[(4, i64 0), (5, i64 1)], [.blk 3 [i64 o0_0], .blk 9 [sv o1_0], .ghost (gv 0) (.ptr 0 0), .ghost (gv 1) (.ptr 1 0)]⟩) (tips := []) (by kernel_rfl) all0 (norm ?_)
    obtain rfl := some_eq h
    exact At.ret fun a w hs => ret_ok hR (ρ := [0, 1]) (gs := [.ghost (gv 0) (.ptr 0 0), .ghost (gv 1) (.ptr 1 0)]) (by kernel_rfl) all0 (by kernel_rfl) rfl rfl a w hs _ (.inl rfl)
  · replace h := cond_f b2 h
    refine At.nar [0, 1, 2] [0, 1, 2, 3] (st' := ⟨[(0, sv p0), (1, .ptr 0 0), (2, .ptr 1 0)], [.blk 3 [i64 o0_0], .blk 9 [sv o1_0], .ghost (gv 0) (.ptr 0 0), .ghost (gv 1) (.ptr 1 0)]⟩) (by kernel_rfl) ?_
    refine At.skip (norm ?_)
    refine At.seq ?_
    refine At.seq ?_
    refine At.region_end [0, 1, 2, 11] [0, 1, 2, 3] _ (st' := ⟨[(0, sv p0), (1, .ptr 0 0), (2, .ptr 1 0), (11, bo (decide ((p0.size : Int) < o0_0)))], [.blk 3 [i64 o0_0], .blk 9 [sv o1_0], .ghost (gv 0) (.ptr 0 0), .ghost (gv 1) (.ptr 1 0)]⟩) (tips := []) (by kernel_rfl) all0 (norm ?_)
    refine At.cond (decide ((p0.size : Int) < o0_0)) (by kernel_rfl) (fun b4 => ?_) (fun b4 => ?_)
    · replace h := cond_t b4 h
      refine At.seq ?_
      refine At.region_end [4, 5] [0, 1, 2, 3] _ (st' := ⟨[(4, i64 0), (5, i64 2)], [.blk 3 [i64 o0_0], .blk 9 [sv o1_0], .ghost (gv 0) (.ptr 0 0), .ghost (gv 1) (.ptr 1 0)]⟩) (tips := []) (by kernel_rfl) all0 (norm ?_)
      obtain rfl := some_eq h
      exact At.ret fun a w hs => ret_ok hR (ρ := [0, 1]) (gs := [.ghost (gv 0) (.ptr 0 0), .ghost (gv 1) (.ptr 1 0)]) (by kernel_rfl) all0 (by kernel_rfl) rfl rfl a w hs _ (.inl rfl)
    · replace h := cond_f b4 h
      refine At.nar [0, 1, 2] [0, 1, 2, 3] (st' := ⟨[(0, sv p0), (1, .ptr 0 0), (2, .ptr 1 0)], [.blk 3 [i64 o0_0], .blk 9 [sv o1_0], .ghost (gv 0) (.ptr 0 0), .ghost (gv 1) (.ptr 1 0)]⟩) (by kernel_rfl) ?_
      refine At.skip (norm ?_)
      refine At.seq ?_
      obtain ⟨g6, h⟩ := grd_some h
      refine At.region_end [1] [0, 1, 2, 3] _ (st' := ⟨[(1, .ptr 0 0)], [.blk 3 [i64 o0_0], .blk 9 [sv (p0.extract (Int.toNat 0) (Int.toNat o0_0))], .ghost (gv 0) (.ptr 0 0), .ghost (gv 1) (.ptr 1 0)]⟩) (tips := []) (by kernel_rfl) (allc g6 all0) (norm ?_)
      refine At.seq ?_
      refine At.region_end [4, 5] [0, 1, 2, 3] _ (st' := ⟨[(4, i64 o0_0), (5, i64 0)], [.blk 3 [i64 o0_0], .blk 9 [sv (p0.extract (Int.toNat 0) (Int.toNat o0_0))], .ghost (gv 0) (.ptr 0 0), .ghost (gv 1) (.ptr 1 0)]⟩) (tips := []) (by kernel_rfl) all0 (norm ?_)
      obtain rfl := some_eq h
      exact At.ret fun a w hs => ret_ok hR (ρ := [0, 1]) (gs := [.ghost (gv 0) (.ptr 0 0), .ghost (gv 1) (.ptr 1 0)]) (by kernel_rfl) all0 (by kernel_rfl) rfl rfl a w hs _ (.inl rfl)
set_option maxRecDepth 100000 in
theorem C_wire_Reader_step_v3 (o0 : T_wire_Reader) (o1_0 : Int) (o2_0 : ByteArray) (r : Bool × T_wire_Reader × ByteArray) (h : F_wire_Reader_step_v3 o0 o1_0 o2_0 = some r) : FnOK Try.prog 52 [.ptr 0 0, .fn (.func 53) [] [.ptr 1 0, .ptr 2 0]] [.blk 89 (T_wire_Reader.pvs o0), .blk 3 [i64 o1_0], .blk 9 [sv o2_0]] (bo r.1) [.blk 89 (T_wire_Reader.pvs r.2.1), .blk 3 [i64 o1_0], .blk 9 [sv r.2.2]] [1, 3, 5] := by
  rw [F_wire_Reader_step_v3] at h
  refine FnOK.intro Try.func52 rfl (by kernel_rfl) (by kernel_rfl) fun E gv R hR => ?_
  refine At.seq ?_
  refine At.region_end [0, 1] [0, 1, 2, 3, 4, 5] _ (st' := ⟨[(0, .ptr 0 0), (1, .fn (.func 53) [] [.ptr 1 0, .ptr 2 0])], [.blk 89 (T_wire_Reader.pvs o0), .blk 3 [i64 o1_0], .blk 9 [sv o2_0], .ghost (gv 0) (.ptr 0 0), .ghost (gv 1) (.ptr 1 0), .ghost (gv 2) (.ptr 2 0)]⟩) (tips := []) (by kernel_rfl) all0 (norm ?_)
  refine At.seq ?_
  refine At.seq ?_
  refine At.region_end [0, 1, 15] [0, 1, 2, 3, 4, 5] _ (st' := ⟨[(0, .ptr 0 0), (1, .fn (.func 53) [] [.ptr 1 0, .ptr 2 0]), (15, bo (o0.e != 0))], [.blk 89 (T_wire_Reader.pvs o0), .blk 3 [i64 o1_0], .blk 9 [sv o2_0], .ghost (gv 0) (.ptr 0 0), .ghost (gv 1) (.ptr 1 0), .ghost (gv 2) (.ptr 2 0)]⟩) (tips := []) (by kernel_rfl) all0 (norm ?_)
  refine At.cond (o0.e != 0) (by kernel_rfl) (fun b2 => ?_) (fun b2 => ?_)
  · replace h := cond_t b2 h
    refine At.seq ?_
    refine At.region_end [4] [0, 1, 2, 3, 4, 5] _ (st' := ⟨[(4, bo false)], [.blk 89 (T_wire_Reader.pvs o0), .blk 3 [i64 o1_0], .blk 9 [sv o2_0], .ghost (gv 0) (.ptr 0 0), .ghost (gv 1) (.ptr 1 0), .ghost (gv 2) (.ptr 2 0)]⟩) (tips := []) (by kernel_rfl) all0 (norm ?_)
    obtain rfl := some_eq h
    exact At.ret fun a w hs => ret_ok hR (ρ := [0, 1, 2]) (gs := [.ghost (gv 0) (.ptr 0 0), .ghost (gv 1) (.ptr 1 0), .ghost (gv 2) (.ptr 2 0)]) (by kernel_rfl) all0 (by kernel_rfl) rfl rfl a w hs _ (.inl rfl)
  · replace h := cond_f b2 h
    refine At.nar [0, 1] [0, 1, 2, 3, 4, 5] (st' := ⟨[(0, .ptr 0 0), (1, .fn (.func 53) [] [.ptr 1 0, .ptr 2 0])], [.blk 89 (T_wire_Reader.pvs o0), .blk 3 [i64 o1_0], .blk 9 [sv o2_0], .ghost (gv 0) (.ptr 0 0), .ghost (gv 1) (.ptr 1 0), .ghost (gv 2) (.ptr 2 0)]⟩) (by kernel_rfl) ?_
    refine At.skip (norm ?_)
    refine At.seq ?_
    obtain ⟨y4, hy4, h⟩ := bind_some h
    refine At.region_end [0, 5, 6] [0, 1, 2, 3, 4, 5] _ (st' := ⟨[(0, .ptr 0 0), (5, i64 y4.1), (6, i64 y4.2.1)], [.blk 89 (T_wire_Reader.pvs o0), .blk 3 [i64 o1_0], .blk 9 [sv y4.2.2], .ghost (gv 0) (.ptr 0 0), .ghost (gv 1) (.ptr 1 0), .ghost (gv 2) (.ptr 2 0)]⟩) (tips := [(5, { pc := some { ρ := [1, 2], n0 := 2, res := .tup [i64 y4.1, i64 y4.2.1], σ' := [.blk 3 [i64 o1_0], .blk 9 [sv y4.2.2]], e := [1, 3] } })]) (by kernel_rfl) (allc (C_wire_Reader_Raw_1 o0.s o1_0 o2_0 y4 hy4) all0) (norm ?_)
    refine At.seq ?_
    refine At.seq ?_
    refine At.region_end [0, 5, 6, 26] [0, 1, 2, 3, 4, 5] _ (st' := ⟨[(0, .ptr 0 0), (5, i64 y4.1), (6, i64 y4.2.1), (26, bo (y4.2.1 != 0))], [.blk 89 (T_wire_Reader.pvs o0), .blk 3 [i64 o1_0], .blk 9 [sv y4.2.2], .ghost (gv 0) (.ptr 0 0), .ghost (gv 1) (.ptr 1 0), .ghost (gv 2) (.ptr 2 0)]⟩) (tips := []) (by kernel_rfl) all0 (norm ?_)
    refine At.cond (y4.2.1 != 0) (by kernel_rfl) (fun b6 => ?_) (fun b6 => ?_)
    · replace h := cond_t b6 h
      refine At.seq ?_
      refine At.region_end [] [0, 1, 2, 3, 4, 5] _ (st' := ⟨[], [.blk 89 [sv o0.s, i64 y4.2.1], .blk 3 [i64 o1_0], .blk 9 [sv y4.2.2], .ghost (gv 0) (.ptr 0 0), .ghost (gv 1) (.ptr 1 0), .ghost (gv 2) (.ptr 2 0)]⟩) (tips := []) (by kernel_rfl) all0 (norm ?_)
      refine At.seq ?_
      refine At.region_end [4] [0, 1, 2, 3, 4, 5] _ (st' := ⟨[(4, bo false)], [.blk 89 [sv o0.s, i64 y4.2.1], .blk 3 [i64 o1_0], .blk 9 [sv y4.2.2], .ghost (gv 0) (.ptr 0 0), .ghost (gv 1) (.ptr 1 0), .ghost (gv 2) (.ptr 2 0)]⟩) (tips := []) (by kernel_rfl) all0 (norm ?_)
      obtain rfl := some_eq h
      exact At.ret fun a w hs => ret_ok hR (ρ := [0, 1, 2]) (gs := [.ghost (gv 0) (.ptr 0 0), .ghost (gv 1) (.ptr 1 0), .ghost (gv 2) (.ptr 2 0)]) (by kernel_rfl) all0 (by kernel_rfl) rfl rfl a w hs _ (.inl rfl)
    · replace h := cond_f b6 h
      refine At.nar [0, 5] [0, 1, 2, 3, 4, 5] (st' := ⟨[(0, .ptr 0 0), (5, i64 y4.1)], [.blk 89 (T_wire_Reader.pvs o0), .blk 3 [i64 o1_0], .blk 9 [sv y4.2.2], .ghost (gv 0) (.ptr 0 0), .ghost (gv 1) (.ptr 1 0), .ghost (gv 2) (.ptr 2 0)]⟩) (by kernel_rfl) ?_
      refine At.skip (norm ?_)
      refine At.seq ?_
      obtain ⟨g8, h⟩ := grd_some h
      refine At.region_end [] [0, 1, 2, 3, 4, 5] _ (st' := ⟨[], [.blk 89 [sv (o0.s.extract (Int.toNat y4.1) (Int.toNat (o0.s.size : Int))), i64 o0.e], .blk 3 [i64 o1_0], .blk 9 [sv y4.2.2], .ghost (gv 0) (.ptr 0 0), .ghost (gv 1) (.ptr 1 0), .ghost (gv 2) (.ptr 2 0)]⟩) (tips := []) (by kernel_rfl) (allc g8 all0) (norm ?_)
      refine At.seq ?_
      refine At.region_end [4] [0, 1, 2, 3, 4, 5] _ (st' := ⟨[(4, bo true)], [.blk 89 [sv (o0.s.extract (Int.toNat y4.1) (Int.toNat (o0.s.size : Int))), i64 o0.e], .blk 3 [i64 o1_0], .blk 9 [sv y4.2.2], .ghost (gv 0) (.ptr 0 0), .ghost (gv 1) (.ptr 1 0), .ghost (gv 2) (.ptr 2 0)]⟩) (tips := []) (by kernel_rfl) all0 (norm ?_)
      obtain rfl := some_eq h
      exact At.ret fun a w hs => ret_ok hR (ρ := [0, 1, 2]) (gs := [.ghost (gv 0) (.ptr 0 0), .ghost (gv 1) (.ptr 1 0), .ghost (gv 2) (.ptr 2 0)]) (by kernel_rfl) all0 (by kernel_rfl) rfl rfl a w hs _ (.inl rfl)
set_option maxRecDepth 100000 in
theorem C_wire_Reader_Raw (p1 : Int) (o0 : T_wire_Reader) (r : ByteArray × T_wire_Reader) (h : F_wire_Reader_Raw p1 o0 = some r) : FnOK Try.prog 19 [.ptr 0 0, i64 p1] [.blk 89 (T_wire_Reader.pvs o0)] (sv r.1) [.blk 89 (T_wire_Reader.pvs r.2)] [1] := by
  rw [F_wire_Reader_Raw] at h
  refine FnOK.intro Try.func19 rfl (by kernel_rfl) (by kernel_rfl) fun E gv R hR => ?_
  refine At.seq ?_
  refine At.region_end [0, 3] [0, 1, 2] _ (st' := ⟨[(0, .ptr 0 0), (3, .ptr 2 0)], [.blk 89 (T_wire_Reader.pvs o0), .ghost (gv 0) (.ptr 0 0), .blk 3 [i64 p1]]⟩) (tips := []) (by kernel_rfl) all0 (norm ?_)
  refine At.seq ?_
  refine At.region_end [0, 3, 5] [0, 1, 2, 3] _ (st' := ⟨[(0, .ptr 0 0), (3, .ptr 2 0), (5, .ptr 3 0)], [.blk 89 (T_wire_Reader.pvs o0), .ghost (gv 0) (.ptr 0 0), .blk 3 [i64 p1], .blk 9 [sv (⟨#[]⟩ : ByteArray)]]⟩) (tips := []) (by kernel_rfl) all0 (norm ?_)
  refine At.seq ?_
  obtain ⟨y2, hy2, h⟩ := bind_some h
  refine At.region_end [5] [0, 1, 3] _ (st' := ⟨[(5, .ptr 2 0)], [.blk 89 (T_wire_Reader.pvs y2.2.1), .ghost (gv 0) (.ptr 0 0), .blk 9 [sv y2.2.2]]⟩) (tips := [(2, { pc := some { ρ := [0, 2, 3], n0 := 3, res := bo y2.1, σ' := [.blk 89 (T_wire_Reader.pvs y2.2.1), .blk 3 [i64 p1], .blk 9 [sv y2.2.2]], e := [1, 3, 5] } })]) (by kernel_rfl) (allc (C_wire_Reader_step_v3 o0 p1 (⟨#[]⟩ : ByteArray) y2 hy2) all0) (norm ?_)
  refine At.seq ?_
  refine At.region_end [4] [0, 1] _ (st' := ⟨[(4, sv y2.2.2)], [.blk 89 (T_wire_Reader.pvs y2.2.1), .ghost (gv 0) (.ptr 0 0)]⟩) (tips := []) (by kernel_rfl) all0 (norm ?_)
  obtain rfl := some_eq h
  exact At.ret fun a w hs => ret_ok hR (ρ := [0]) (gs := [.ghost (gv 0) (.ptr 0 0)]) (by kernel_rfl) all0 (by kernel_rfl) rfl rfl a w hs _ (.inl rfl)
set_option maxRecDepth 100000 in
theorem C_retraceref03_Reader_Raw (p1 : Int) (o0 : T_retraceref03_Reader) (r : ByteArray × T_retraceref03_Reader) (h : F_retraceref03_Reader_Raw p1 o0 = some r) : FnOK Try.prog 20 [.ptr 0 0, i64 p1] [.blk 41 (T_retraceref03_Reader.pvs o0)] (sv r.1) [.blk 41 (T_retraceref03_Reader.pvs r.2)] [1] := by
  rw [F_retraceref03_Reader_Raw] at h
  refine FnOK.intro Try.func20 rfl (by kernel_rfl) (by kernel_rfl) fun E gv R hR => ?_
  refine At.seq ?_
  refine At.region_end [0, 1] [0, 1] _ (st' := ⟨[(0, .ptr 0 0), (1, i64 p1)], [.blk 41 (T_retraceref03_Reader.pvs o0), .ghost (gv 0) (.ptr 0 0)]⟩) (tips := []) (by kernel_rfl) all0 (norm ?_)
  refine At.seq ?_
  refine At.seq ?_
  refine At.region_end [0, 1, 10] [0, 1] _ (st' := ⟨[(0, .ptr 0 0), (1, i64 p1), (10, bo (o0.Bad != 0))], [.blk 41 (T_retraceref03_Reader.pvs o0), .ghost (gv 0) (.ptr 0 0)]⟩) (tips := []) (by kernel_rfl) all0 (norm ?_)
  refine At.cond (o0.Bad != 0) (by kernel_rfl) (fun b2 => ?_) (fun b2 => ?_)
  · replace h := cond_t b2 h
    refine At.seq ?_
    refine At.region_end [4] [0, 1] _ (st' := ⟨[(4, sv (⟨#[]⟩ : ByteArray))], [.blk 41 (T_retraceref03_Reader.pvs o0), .ghost (gv 0) (.ptr 0 0)]⟩) (tips := []) (by kernel_rfl) all0 (norm ?_)
    obtain rfl := some_eq h
    exact At.ret fun a w hs => ret_ok hR (ρ := [0]) (gs := [.ghost (gv 0) (.ptr 0 0)]) (by kernel_rfl) all0 (by kernel_rfl) rfl rfl a w hs _ (.inl rfl)
  · replace h := cond_f b2 h
    refine At.nar [0, 1] [0, 1] (st' := ⟨[(0, .ptr 0 0), (1, i64 p1)], [.blk 41 (T_retraceref03_Reader.pvs o0), .ghost (gv 0) (.ptr 0 0)]⟩) (by kernel_rfl) ?_
    refine At.skip (norm ?_)
    refine At.seq ?_
    refine At.seq ?_
    refine At.region_end [0, 1, 12] [0, 1] _ (st' := ⟨[(0, .ptr 0 0), (1, i64 p1), (12, bo (decide (p1 < 0)))], [.blk 41 (T_retraceref03_Reader.pvs o0), .ghost (gv 0) (.ptr 0 0)]⟩) (tips := []) (by kernel_rfl) all0 (norm ?_)
    refine At.cond (decide (p1 < 0)) (by kernel_rfl) (fun b6 => ?_) (fun b6 => ?_)
    · replace h := cond_t b6 h
      refine At.seq ?_
      obtain ⟨y8, hy8, h⟩ := bind_some h
      refine At.region_end [] [0, 1] _ (st' := ⟨[], [.blk 41 (T_retraceref03_Reader.pvs y8), .ghost (gv 0) (.ptr 0 0)]⟩) (tips := [(1, { pc := some { ρ := [0], n0 := 1, res := .tup [], σ' := [.blk 41 (T_retraceref03_Reader.pvs y8)], e := [1] } })]) (by kernel_rfl) (allc (C_retraceref03_Reader_fail 1 o0 y8 hy8) all0) (norm ?_)
      refine At.seq ?_
      refine At.region_end [4] [0, 1] _ (st' := ⟨[(4, sv (⟨#[]⟩ : ByteArray))], [.blk 41 (T_retraceref03_Reader.pvs y8), .ghost (gv 0) (.ptr 0 0)]⟩) (tips := []) (by kernel_rfl) all0 (norm ?_)
      obtain rfl := some_eq h
      exact At.ret fun a w hs => ret_ok hR (ρ := [0]) (gs := [.ghost (gv 0) (.ptr 0 0)]) (by kernel_rfl) all0 (by kernel_rfl) rfl rfl a w hs _ (.inl rfl)
    · replace h := cond_f b6 h
      refine At.nar [0, 1] [0, 1] (st' := ⟨[(0, .ptr 0 0), (1, i64 p1)], [.blk 41 (T_retraceref03_Reader.pvs o0), .ghost (gv 0) (.ptr 0 0)]⟩) (by kernel_rfl) ?_
      refine At.skip (norm ?_)
      refine At.seq ?_
      refine At.seq ?_
      refine At.region_end [0, 1, 21] [0, 1] _ (st' := ⟨[(0, .ptr 0 0), (1, i64 p1), (21, bo (decide ((o0.S.size : Int) < p1)))], [.blk 41 (T_retraceref03_Reader.pvs o0), .ghost (gv 0) (.ptr 0 0)]⟩) (tips := []) (by kernel_rfl) all0 (norm ?_)
      refine At.cond (decide ((o0.S.size : Int) < p1)) (by kernel_rfl) (fun b12 => ?_) (fun b12 => ?_)
      · replace h := cond_t b12 h
        refine At.seq ?_
        obtain ⟨y14, hy14, h⟩ := bind_some h
        refine At.region_end [] [0, 1] _ (st' := ⟨[], [.blk 41 (T_retraceref03_Reader.pvs y14), .ghost (gv 0) (.ptr 0 0)]⟩) (tips := [(1, { pc := some { ρ := [0], n0 := 1, res := .tup [], σ' := [.blk 41 (T_retraceref03_Reader.pvs y14)], e := [1] } })]) (by kernel_rfl) (allc (C_retraceref03_Reader_fail 2 o0 y14 hy14) all0) (norm ?_)
        refine At.seq ?_
        refine At.region_end [4] [0, 1] _ (st' := ⟨[(4, sv (⟨#[]⟩ : ByteArray))], [.blk 41 (T_retraceref03_Reader.pvs y14), .ghost (gv 0) (.ptr 0 0)]⟩) (tips := []) (by kernel_rfl) all0 (norm ?_)
        obtain rfl := some_eq h
        exact At.ret fun a w hs => ret_ok hR (ρ := [0]) (gs := [.ghost (gv 0) (.ptr 0 0)]) (by kernel_rfl) all0 (by kernel_rfl) rfl rfl a w hs _ (.inl rfl)
      · replace h := cond_f b12 h
        refine At.nar [0, 1] [0, 1] (st' := ⟨[(0, .ptr 0 0), (1, i64 p1)], [.blk 41 (T_retraceref03_Reader.pvs o0), .ghost (gv 0) (.ptr 0 0)]⟩) (by kernel_rfl) ?_
        refine At.skip (norm ?_)
        refine At.seq ?_
        obtain ⟨g16, h⟩ := grd_some h
        refine At.region_end [0, 1, 5] [0, 1] _ (st' := ⟨[(0, .ptr 0 0), (1, i64 p1), (5, sv (o0.S.extract (Int.toNat 0) (Int.toNat p1)))], [.blk 41 (T_retraceref03_Reader.pvs o0), .ghost (gv 0) (.ptr 0 0)]⟩) (tips := []) (by kernel_rfl) (allc g16 all0) (norm ?_)
        refine At.seq ?_
        obtain ⟨g18, h⟩ := grd_some h
        refine At.region_end [5] [0, 1] _ (st' := ⟨[(5, sv (o0.S.extract (Int.toNat 0) (Int.toNat p1)))], [.blk 41 [sv (o0.S.extract (Int.toNat p1) (Int.toNat (o0.S.size : Int))), i64 o0.Bad], .ghost (gv 0) (.ptr 0 0)]⟩) (tips := []) (by kernel_rfl) (allc g18 all0) (norm ?_)
        refine At.seq ?_
        refine At.region_end [4] [0, 1] _ (st' := ⟨[(4, sv (o0.S.extract (Int.toNat 0) (Int.toNat p1)))], [.blk 41 [sv (o0.S.extract (Int.toNat p1) (Int.toNat (o0.S.size : Int))), i64 o0.Bad], .ghost (gv 0) (.ptr 0 0)]⟩) (tips := []) (by kernel_rfl) all0 (norm ?_)
        obtain rfl := some_eq h
        exact At.ret fun a w hs => ret_ok hR (ρ := [0]) (gs := [.ghost (gv 0) (.ptr 0 0)]) (by kernel_rfl) all0 (by kernel_rfl) rfl rfl a w hs _ (.inl rfl)
set_option maxRecDepth 100000 in
theorem C_wire_Reader_step_v4 (o0_0 : Int) (r : Bool) (h : F_wire_Reader_step_v4 o0_0 = some r) : FnOK Try.prog 52 [.d .nilP, .fn (.func 81) [] [.ptr 0 0]] [.blk 2 [i64 o0_0]] (bo r) [.blk 2 [i64 o0_0]] [1] := by
  rw [F_wire_Reader_step_v4] at h
  refine FnOK.intro Try.func52 rfl (by kernel_rfl) (by kernel_rfl) fun E gv R hR => ?_
  refine At.seq ?_
  refine At.region_end [0, 1] [0, 1] _ (st' := ⟨[(0, .d .nilP), (1, .fn (.func 81) [] [.ptr 0 0])], [.blk 2 [i64 o0_0], .ghost (gv 0) (.ptr 0 0)]⟩) (tips := []) (by kernel_rfl) all0 (norm ?_)
  refine At.seq ?_
  refine At.seq ?_
  refine At.region_end [0, 1, 15] [0, 1] _ (st' := ⟨[(0, .d .nilP), (1, .fn (.func 81) [] [.ptr 0 0]), (15, bo true)], [.blk 2 [i64 o0_0], .ghost (gv 0) (.ptr 0 0)]⟩) (tips := []) (by kernel_rfl) all0 (norm ?_)
  refine At.cond true (by kernel_rfl) (fun _ => ?_) (fun hb => by cases hb)
  refine At.seq ?_
  refine At.region_end [4] [0, 1] _ (st' := ⟨[(4, bo false)], [.blk 2 [i64 o0_0], .ghost (gv 0) (.ptr 0 0)]⟩) (tips := []) (by kernel_rfl) all0 (norm ?_)
  obtain rfl := some_eq h
  exact At.ret fun a w hs => ret_ok hR (ρ := [0]) (gs := [.ghost (gv 0) (.ptr 0 0)]) (by kernel_rfl) all0 (by kernel_rfl) rfl rfl a w hs _ (.inl rfl)
set_option maxRecDepth 100000 in
theorem C_wire_Reader_Int_v2  (r : Int) (h : F_wire_Reader_Int_v2  = some r) : FnOK Try.prog 66 [.d .nilP] [] (i64 r) [] [] := by
  rw [F_wire_Reader_Int_v2] at h
  refine FnOK.intro Try.func66 rfl (by kernel_rfl) (by kernel_rfl) fun E gv R hR => ?_
  refine At.seq ?_
  refine At.region_end [0] [] _ (st' := ⟨[(0, .d .nilP)], []⟩) (tips := []) (by kernel_rfl) all0 (norm ?_)
  refine At.seq ?_
  refine At.region_end [0, 3] [0] _ (st' := ⟨[(0, .d .nilP), (3, .ptr 0 0)], [.blk 2 [i64 0]]⟩) (tips := []) (by kernel_rfl) all0 (norm ?_)
  refine At.seq ?_
  obtain ⟨y2, hy2, h⟩ := bind_some h
  refine At.region_end [3] [0] _ (st' := ⟨[(3, .ptr 0 0)], [.blk 2 [i64 0]]⟩) (tips := [(2, { pc := some { ρ := [0], n0 := 1, res := bo y2, σ' := [.blk 2 [i64 0]], e := [1] } })]) (by kernel_rfl) (allc (C_wire_Reader_step_v4 0 y2 hy2) all0) (norm ?_)
  refine At.seq ?_
  refine At.region_end [2] [] _ (st' := ⟨[(2, i64 0)], []⟩) (tips := []) (by kernel_rfl) all0 (norm ?_)
  obtain rfl := some_eq h
  exact At.ret fun a w hs => ret_ok hR (ρ := []) (gs := []) (by kernel_rfl) all0 (by kernel_rfl) rfl rfl a w hs _ (.inl rfl)
set_option maxRecDepth 100000 in
theorem C_dump_reader_into_v5 (o1 : T_api_State) (r : T_api_State) (h : F_dump_reader_into_v5 o1 = some r) : FnOK Try.prog 55 [.agg [.d .nilP], .view 0 0 5] [.blk 96 [.ptr 1 0, .ptr 1 1, .ptr 1 2, .ptr 1 3, .ptr 1 4], .blk 25 [i64 o1.Now, i64 o1.Since, i64 o1.Halt, i64 o1.Fault, i64 o1.Who, .row 2 (o1.Procs).length, .row 3 (o1.Out).length], .row 70 11 (encL T_api_Proc.enc o1.Procs), .row 3 1 (encL (eInt .i64) o1.Out)] (.tup []) [.blk 96 [.ptr 1 0, .ptr 1 1, .ptr 1 2, .ptr 1 3, .ptr 1 4], .blk 25 [i64 r.Now, i64 r.Since, i64 r.Halt, i64 r.Fault, i64 r.Who, .row 2 (r.Procs).length, .row 3 (r.Out).length], .row 70 11 (encL T_api_Proc.enc r.Procs), .row 3 1 (encL (eInt .i64) r.Out)] [1, 3, 4, 6] := by
  rw [F_dump_reader_into_v5] at h
  refine FnOK.intro Try.func55 rfl (by kernel_rfl) (by kernel_rfl) fun E gv R hR => ?_
  refine At.seq ?_
  refine At.region_end [1, 2] [0, 1, 2, 3, 4, 5, 6, 7, 8] _ (st' := ⟨[(1, .view 0 0 5), (2, .ptr 8 0)], [.blk 96 [.ptr 1 0, .ptr 1 1, .ptr 1 2, .ptr 1 3, .ptr 1 4], .blk 25 [i64 o1.Now, i64 o1.Since, i64 o1.Halt, i64 o1.Fault, i64 o1.Who, .row 2 (o1.Procs).length, .row 3 (o1.Out).length], .row 70 11 (encL T_api_Proc.enc o1.Procs), .row 3 1 (encL (eInt .i64) o1.Out), .ghost (gv 0) (.ptr 0 0), .ghost (gv 1) (.ptr 1 0), .ghost (gv 2) (.row 2 0), .ghost (gv 3) (.row 3 0), .blk 94 [.d .nilP]]⟩) (tips := []) (by kernel_rfl) all0 (norm ?_)
  refine At.seq ?_
  refine At.region_end [2, 6, 7, 8] [0, 1, 2, 3, 4, 5, 6, 7, 8] _ (st' := ⟨[(2, .ptr 8 0), (6, .view 0 0 5), (7, i64 5), (8, i64 0)], [.blk 96 [.ptr 1 0, .ptr 1 1, .ptr 1 2, .ptr 1 3, .ptr 1 4], .blk 25 [i64 o1.Now, i64 o1.Since, i64 o1.Halt, i64 o1.Fault, i64 o1.Who, .row 2 (o1.Procs).length, .row 3 (o1.Out).length], .row 70 11 (encL T_api_Proc.enc o1.Procs), .row 3 1 (encL (eInt .i64) o1.Out), .ghost (gv 0) (.ptr 0 0), .ghost (gv 1) (.ptr 1 0), .ghost (gv 2) (.row 2 0), .ghost (gv 3) (.row 3 0), .blk 94 [.d .nilP]]⟩) (tips := []) (by kernel_rfl) all0 (norm ?_)
  refine At.block ?_
  refine At.loopN 6 ?_
  refine At.roundN ?_
  refine At.seq ?_
  refine At.region_end [2, 6, 7, 8, 9] [0, 1, 2, 3, 4, 5, 6, 7, 8] _ (st' := ⟨[(2, .ptr 8 0), (6, .view 0 0 5), (7, i64 5), (8, i64 0), (9, bo true)], [.blk 96 [.ptr 1 0, .ptr 1 1, .ptr 1 2, .ptr 1 3, .ptr 1 4], .blk 25 [i64 o1.Now, i64 o1.Since, i64 o1.Halt, i64 o1.Fault, i64 o1.Who, .row 2 (o1.Procs).length, .row 3 (o1.Out).length], .row 70 11 (encL T_api_Proc.enc o1.Procs), .row 3 1 (encL (eInt .i64) o1.Out), .ghost (gv 0) (.ptr 0 0), .ghost (gv 1) (.ptr 1 0), .ghost (gv 2) (.row 2 0), .ghost (gv 3) (.row 3 0), .blk 94 [.d .nilP]]⟩) (tips := []) (by kernel_rfl) all0 (norm ?_)
  refine At.seq ?_
  refine At.cond true (by kernel_rfl) (fun _ => ?_) (fun hb => by cases hb)
  refine At.nar [2, 6, 7, 8] [0, 1, 2, 3, 4, 5, 6, 7, 8] (st' := ⟨[(2, .ptr 8 0), (6, .view 0 0 5), (7, i64 5), (8, i64 0)], [.blk 96 [.ptr 1 0, .ptr 1 1, .ptr 1 2, .ptr 1 3, .ptr 1 4], .blk 25 [i64 o1.Now, i64 o1.Since, i64 o1.Halt, i64 o1.Fault, i64 o1.Who, .row 2 (o1.Procs).length, .row 3 (o1.Out).length], .row 70 11 (encL T_api_Proc.enc o1.Procs), .row 3 1 (encL (eInt .i64) o1.Out), .ghost (gv 0) (.ptr 0 0), .ghost (gv 1) (.ptr 1 0), .ghost (gv 2) (.row 2 0), .ghost (gv 3) (.row 3 0), .blk 94 [.d .nilP]]⟩) (by kernel_rfl) ?_
  refine At.skip (norm ?_)
  refine At.seq ?_
  refine At.block ?_
  refine At.seq ?_
  refine At.region_end [2, 5, 6, 7, 8] [0, 1, 2, 3, 4, 5, 6, 7, 8] _ (st' := ⟨[(2, .ptr 8 0), (5, .ptr 1 0), (6, .view 0 0 5), (7, i64 5), (8, i64 0)], [.blk 96 [.ptr 1 0, .ptr 1 1, .ptr 1 2, .ptr 1 3, .ptr 1 4], .blk 25 [i64 o1.Now, i64 o1.Since, i64 o1.Halt, i64 o1.Fault, i64 o1.Who, .row 2 (o1.Procs).length, .row 3 (o1.Out).length], .row 70 11 (encL T_api_Proc.enc o1.Procs), .row 3 1 (encL (eInt .i64) o1.Out), .ghost (gv 0) (.ptr 0 0), .ghost (gv 1) (.ptr 1 0), .ghost (gv 2) (.row 2 0), .ghost (gv 3) (.row 3 0), .blk 94 [.d .nilP]]⟩) (tips := []) (by kernel_rfl) (allc (⟨by decide, by decide⟩ : Within 0 5) all0) (norm ?_)
  obtain ⟨y2, hy2, h⟩ := bind_some h
  refine At.region_end [2, 6, 7, 8] [0, 1, 2, 3, 4, 5, 6, 7, 8] _ (st' := ⟨[(2, .ptr 8 0), (6, .view 0 0 5), (7, i64 5), (8, i64 0)], [.blk 96 [.ptr 1 0, .ptr 1 1, .ptr 1 2, .ptr 1 3, .ptr 1 4], .blk 25 [i64 y2, i64 o1.Since, i64 o1.Halt, i64 o1.Fault, i64 o1.Who, .row 2 (o1.Procs).length, .row 3 (o1.Out).length], .row 70 11 (encL T_api_Proc.enc o1.Procs), .row 3 1 (encL (eInt .i64) o1.Out), .ghost (gv 0) (.ptr 0 0), .ghost (gv 1) (.ptr 1 0), .ghost (gv 2) (.row 2 0), .ghost (gv 3) (.row 3 0), .blk 94 [.d .nilP]]⟩) (tips := [(3, { pc := some { ρ := [], n0 := 0, res := i64 y2, σ' := [], e := [] } })]) (by kernel_rfl) (allc (C_wire_Reader_Int_v2 y2 hy2) all0) (norm ?_)
  refine At.region_end [2, 6, 7, 8] [0, 1, 2, 3, 4, 5, 6, 7, 8] _ (st' := ⟨[(2, .ptr 8 0), (6, .view 0 0 5), (7, i64 5), (8, i64 1)], [.blk 96 [.ptr 1 0, .ptr 1 1, .ptr 1 2, .ptr 1 3, .ptr 1 4], .blk 25 [i64 y2, i64 o1.Since, i64 o1.Halt, i64 o1.Fault, i64 o1.Who, .row 2 (o1.Procs).length, .row 3 (o1.Out).length], .row 70 11 (encL T_api_Proc.enc o1.Procs), .row 3 1 (encL (eInt .i64) o1.Out), .ghost (gv 0) (.ptr 0 0), .ghost (gv 1) (.ptr 1 0), .ghost (gv 2) (.row 2 0), .ghost (gv 3) (.row 3 0), .blk 94 [.d .nilP]]⟩) (tips := []) (by kernel_rfl) all0 ?_
  refine At.roundN ?_
  refine At.seq ?_
  refine At.region_end [2, 6, 7, 8, 9] [0, 1, 2, 3, 4, 5, 6, 7, 8] _ (st' := ⟨[(2, .ptr 8 0), (6, .view 0 0 5), (7, i64 5), (8, i64 1), (9, bo true)], [.blk 96 [.ptr 1 0, .ptr 1 1, .ptr 1 2, .ptr 1 3, .ptr 1 4], .blk 25 [i64 y2, i64 o1.Since, i64 o1.Halt, i64 o1.Fault, i64 o1.Who, .row 2 (o1.Procs).length, .row 3 (o1.Out).length], .row 70 11 (encL T_api_Proc.enc o1.Procs), .row 3 1 (encL (eInt .i64) o1.Out), .ghost (gv 0) (.ptr 0 0), .ghost (gv 1) (.ptr 1 0), .ghost (gv 2) (.row 2 0), .ghost (gv 3) (.row 3 0), .blk 94 [.d .nilP]]⟩) (tips := []) (by kernel_rfl) all0 (norm ?_)
  refine At.seq ?_
  refine At.cond true (by kernel_rfl) (fun _ => ?_) (fun hb => by cases hb)
  refine At.nar [2, 6, 7, 8] [0, 1, 2, 3, 4, 5, 6, 7, 8] (st' := ⟨[(2, .ptr 8 0), (6, .view 0 0 5), (7, i64 5), (8, i64 1)], [.blk 96 [.ptr 1 0, .ptr 1 1, .ptr 1 2, .ptr 1 3, .ptr 1 4], .blk 25 [i64 y2, i64 o1.Since, i64 o1.Halt, i64 o1.Fault, i64 o1.Who, .row 2 (o1.Procs).length, .row 3 (o1.Out).length], .row 70 11 (encL T_api_Proc.enc o1.Procs), .row 3 1 (encL (eInt .i64) o1.Out), .ghost (gv 0) (.ptr 0 0), .ghost (gv 1) (.ptr 1 0), .ghost (gv 2) (.row 2 0), .ghost (gv 3) (.row 3 0), .blk 94 [.d .nilP]]⟩) (by kernel_rfl) ?_
  refine At.skip (norm ?_)
  refine At.seq ?_
  refine At.block ?_
  refine At.seq ?_
  refine At.region_end [2, 5, 6, 7, 8] [0, 1, 2, 3, 4, 5, 6, 7, 8] _ (st' := ⟨[(2, .ptr 8 0), (5, .ptr 1 1), (6, .view 0 0 5), (7, i64 5), (8, i64 1)], [.blk 96 [.ptr 1 0, .ptr 1 1, .ptr 1 2, .ptr 1 3, .ptr 1 4], .blk 25 [i64 y2, i64 o1.Since, i64 o1.Halt, i64 o1.Fault, i64 o1.Who, .row 2 (o1.Procs).length, .row 3 (o1.Out).length], .row 70 11 (encL T_api_Proc.enc o1.Procs), .row 3 1 (encL (eInt .i64) o1.Out), .ghost (gv 0) (.ptr 0 0), .ghost (gv 1) (.ptr 1 0), .ghost (gv 2) (.row 2 0), .ghost (gv 3) (.row 3 0), .blk 94 [.d .nilP]]⟩) (tips := []) (by kernel_rfl) (allc (⟨by decide, by decide⟩ : Within 1 5) all0) (norm ?_)
  obtain ⟨y4, hy4, h⟩ := bind_some h
  refine At.region_end [2, 6, 7, 8] [0, 1, 2, 3, 4, 5, 6, 7, 8] _ (st' := ⟨[(2, .ptr 8 0), (6, .view 0 0 5), (7, i64 5), (8, i64 1)], [.blk 96 [.ptr 1 0, .ptr 1 1, .ptr 1 2, .ptr 1 3, .ptr 1 4], .blk 25 [i64 y2, i64 y4, i64 o1.Halt, i64 o1.Fault, i64 o1.Who, .row 2 (o1.Procs).length, .row 3 (o1.Out).length], .row 70 11 (encL T_api_Proc.enc o1.Procs), .row 3 1 (encL (eInt .i64) o1.Out), .ghost (gv 0) (.ptr 0 0), .ghost (gv 1) (.ptr 1 0), .ghost (gv 2) (.row 2 0), .ghost (gv 3) (.row 3 0), .blk 94 [.d .nilP]]⟩) (tips := [(3, { pc := some { ρ := [], n0 := 0, res := i64 y4, σ' := [], e := [] } })]) (by kernel_rfl) (allc (C_wire_Reader_Int_v2 y4 hy4) all0) (norm ?_)
  refine At.region_end [2, 6, 7, 8] [0, 1, 2, 3, 4, 5, 6, 7, 8] _ (st' := ⟨[(2, .ptr 8 0), (6, .view 0 0 5), (7, i64 5), (8, i64 2)], [.blk 96 [.ptr 1 0, .ptr 1 1, .ptr 1 2, .ptr 1 3, .ptr 1 4], .blk 25 [i64 y2, i64 y4, i64 o1.Halt, i64 o1.Fault, i64 o1.Who, .row 2 (o1.Procs).length, .row 3 (o1.Out).length], .row 70 11 (encL T_api_Proc.enc o1.Procs), .row 3 1 (encL (eInt .i64) o1.Out), .ghost (gv 0) (.ptr 0 0), .ghost (gv 1) (.ptr 1 0), .ghost (gv 2) (.row 2 0), .ghost (gv 3) (.row 3 0), .blk 94 [.d .nilP]]⟩) (tips := []) (by kernel_rfl) all0 ?_
  refine At.roundN ?_
  refine At.seq ?_
  refine At.region_end [2, 6, 7, 8, 9] [0, 1, 2, 3, 4, 5, 6, 7, 8] _ (st' := ⟨[(2, .ptr 8 0), (6, .view 0 0 5), (7, i64 5), (8, i64 2), (9, bo true)], [.blk 96 [.ptr 1 0, .ptr 1 1, .ptr 1 2, .ptr 1 3, .ptr 1 4], .blk 25 [i64 y2, i64 y4, i64 o1.Halt, i64 o1.Fault, i64 o1.Who, .row 2 (o1.Procs).length, .row 3 (o1.Out).length], .row 70 11 (encL T_api_Proc.enc o1.Procs), .row 3 1 (encL (eInt .i64) o1.Out), .ghost (gv 0) (.ptr 0 0), .ghost (gv 1) (.ptr 1 0), .ghost (gv 2) (.row 2 0), .ghost (gv 3) (.row 3 0), .blk 94 [.d .nilP]]⟩) (tips := []) (by kernel_rfl) all0 (norm ?_)
  refine At.seq ?_
  refine At.cond true (by kernel_rfl) (fun _ => ?_) (fun hb => by cases hb)
  refine At.nar [2, 6, 7, 8] [0, 1, 2, 3, 4, 5, 6, 7, 8] (st' := ⟨[(2, .ptr 8 0), (6, .view 0 0 5), (7, i64 5), (8, i64 2)], [.blk 96 [.ptr 1 0, .ptr 1 1, .ptr 1 2, .ptr 1 3, .ptr 1 4], .blk 25 [i64 y2, i64 y4, i64 o1.Halt, i64 o1.Fault, i64 o1.Who, .row 2 (o1.Procs).length, .row 3 (o1.Out).length], .row 70 11 (encL T_api_Proc.enc o1.Procs), .row 3 1 (encL (eInt .i64) o1.Out), .ghost (gv 0) (.ptr 0 0), .ghost (gv 1) (.ptr 1 0), .ghost (gv 2) (.row 2 0), .ghost (gv 3) (.row 3 0), .blk 94 [.d .nilP]]⟩) (by kernel_rfl) ?_
  refine At.skip (norm ?_)
  refine At.seq ?_
  refine At.block ?_
  refine At.seq ?_
  refine At.region_end [2, 5, 6, 7, 8] [0, 1, 2, 3, 4, 5, 6, 7, 8] _ (st' := ⟨[(2, .ptr 8 0), (5, .ptr 1 2), (6, .view 0 0 5), (7, i64 5), (8, i64 2)], [.blk 96 [.ptr 1 0, .ptr 1 1, .ptr 1 2, .ptr 1 3, .ptr 1 4], .blk 25 [i64 y2, i64 y4, i64 o1.Halt, i64 o1.Fault, i64 o1.Who, .row 2 (o1.Procs).length, .row 3 (o1.Out).length], .row 70 11 (encL T_api_Proc.enc o1.Procs), .row 3 1 (encL (eInt .i64) o1.Out), .ghost (gv 0) (.ptr 0 0), .ghost (gv 1) (.ptr 1 0), .ghost (gv 2) (.row 2 0), .ghost (gv 3) (.row 3 0), .blk 94 [.d .nilP]]⟩) (tips := []) (by kernel_rfl) (allc (⟨by decide, by decide⟩ : Within 2 5) all0) (norm ?_)
  obtain ⟨y6, hy6, h⟩ := bind_some h
  refine At.region_end [2, 6, 7, 8] [0, 1, 2, 3, 4, 5, 6, 7, 8] _ (st' := ⟨[(2, .ptr 8 0), (6, .view 0 0 5), (7, i64 5), (8, i64 2)], [.blk 96 [.ptr 1 0, .ptr 1 1, .ptr 1 2, .ptr 1 3, .ptr 1 4], .blk 25 [i64 y2, i64 y4, i64 y6, i64 o1.Fault, i64 o1.Who, .row 2 (o1.Procs).length, .row 3 (o1.Out).length], .row 70 11 (encL T_api_Proc.enc o1.Procs), .row 3 1 (encL (eInt .i64) o1.Out), .ghost (gv 0) (.ptr 0 0), .ghost (gv 1) (.ptr 1 0), .ghost (gv 2) (.row 2 0), .ghost (gv 3) (.row 3 0), .blk 94 [.d .nilP]]⟩) (tips := [(3, { pc := some { ρ := [], n0 := 0, res := i64 y6, σ' := [], e := [] } })]) (by kernel_rfl) (allc (C_wire_Reader_Int_v2 y6 hy6) all0) (norm ?_)
  refine At.region_end [2, 6, 7, 8] [0, 1, 2, 3, 4, 5, 6, 7, 8] _ (st' := ⟨[(2, .ptr 8 0), (6, .view 0 0 5), (7, i64 5), (8, i64 3)], [.blk 96 [.ptr 1 0, .ptr 1 1, .ptr 1 2, .ptr 1 3, .ptr 1 4], .blk 25 [i64 y2, i64 y4, i64 y6, i64 o1.Fault, i64 o1.Who, .row 2 (o1.Procs).length, .row 3 (o1.Out).length], .row 70 11 (encL T_api_Proc.enc o1.Procs), .row 3 1 (encL (eInt .i64) o1.Out), .ghost (gv 0) (.ptr 0 0), .ghost (gv 1) (.ptr 1 0), .ghost (gv 2) (.row 2 0), .ghost (gv 3) (.row 3 0), .blk 94 [.d .nilP]]⟩) (tips := []) (by kernel_rfl) all0 ?_
  refine At.roundN ?_
  refine At.seq ?_
  refine At.region_end [2, 6, 7, 8, 9] [0, 1, 2, 3, 4, 5, 6, 7, 8] _ (st' := ⟨[(2, .ptr 8 0), (6, .view 0 0 5), (7, i64 5), (8, i64 3), (9, bo true)], [.blk 96 [.ptr 1 0, .ptr 1 1, .ptr 1 2, .ptr 1 3, .ptr 1 4], .blk 25 [i64 y2, i64 y4, i64 y6, i64 o1.Fault, i64 o1.Who, .row 2 (o1.Procs).length, .row 3 (o1.Out).length], .row 70 11 (encL T_api_Proc.enc o1.Procs), .row 3 1 (encL (eInt .i64) o1.Out), .ghost (gv 0) (.ptr 0 0), .ghost (gv 1) (.ptr 1 0), .ghost (gv 2) (.row 2 0), .ghost (gv 3) (.row 3 0), .blk 94 [.d .nilP]]⟩) (tips := []) (by kernel_rfl) all0 (norm ?_)
  refine At.seq ?_
  refine At.cond true (by kernel_rfl) (fun _ => ?_) (fun hb => by cases hb)
  refine At.nar [2, 6, 7, 8] [0, 1, 2, 3, 4, 5, 6, 7, 8] (st' := ⟨[(2, .ptr 8 0), (6, .view 0 0 5), (7, i64 5), (8, i64 3)], [.blk 96 [.ptr 1 0, .ptr 1 1, .ptr 1 2, .ptr 1 3, .ptr 1 4], .blk 25 [i64 y2, i64 y4, i64 y6, i64 o1.Fault, i64 o1.Who, .row 2 (o1.Procs).length, .row 3 (o1.Out).length], .row 70 11 (encL T_api_Proc.enc o1.Procs), .row 3 1 (encL (eInt .i64) o1.Out), .ghost (gv 0) (.ptr 0 0), .ghost (gv 1) (.ptr 1 0), .ghost (gv 2) (.row 2 0), .ghost (gv 3) (.row 3 0), .blk 94 [.d .nilP]]⟩) (by kernel_rfl) ?_
  refine At.skip (norm ?_)
  refine At.seq ?_
  refine At.block ?_
  refine At.seq ?_
  refine At.region_end [2, 5, 6, 7, 8] [0, 1, 2, 3, 4, 5, 6, 7, 8] _ (st' := ⟨[(2, .ptr 8 0), (5, .ptr 1 3), (6, .view 0 0 5), (7, i64 5), (8, i64 3)], [.blk 96 [.ptr 1 0, .ptr 1 1, .ptr 1 2, .ptr 1 3, .ptr 1 4], .blk 25 [i64 y2, i64 y4, i64 y6, i64 o1.Fault, i64 o1.Who, .row 2 (o1.Procs).length, .row 3 (o1.Out).length], .row 70 11 (encL T_api_Proc.enc o1.Procs), .row 3 1 (encL (eInt .i64) o1.Out), .ghost (gv 0) (.ptr 0 0), .ghost (gv 1) (.ptr 1 0), .ghost (gv 2) (.row 2 0), .ghost (gv 3) (.row 3 0), .blk 94 [.d .nilP]]⟩) (tips := []) (by kernel_rfl) (allc (⟨by decide, by decide⟩ : Within 3 5) all0) (norm ?_)
  obtain ⟨y8, hy8, h⟩ := bind_some h
  refine At.region_end [2, 6, 7, 8] [0, 1, 2, 3, 4, 5, 6, 7, 8] _ (st' := ⟨[(2, .ptr 8 0), (6, .view 0 0 5), (7, i64 5), (8, i64 3)], [.blk 96 [.ptr 1 0, .ptr 1 1, .ptr 1 2, .ptr 1 3, .ptr 1 4], .blk 25 [i64 y2, i64 y4, i64 y6, i64 y8, i64 o1.Who, .row 2 (o1.Procs).length, .row 3 (o1.Out).length], .row 70 11 (encL T_api_Proc.enc o1.Procs), .row 3 1 (encL (eInt .i64) o1.Out), .ghost (gv 0) (.ptr 0 0), .ghost (gv 1) (.ptr 1 0), .ghost (gv 2) (.row 2 0), .ghost (gv 3) (.row 3 0), .blk 94 [.d .nilP]]⟩) (tips := [(3, { pc := some { ρ := [], n0 := 0, res := i64 y8, σ' := [], e := [] } })]) (by kernel_rfl) (allc (C_wire_Reader_Int_v2 y8 hy8) all0) (norm ?_)
  refine At.region_end [2, 6, 7, 8] [0, 1, 2, 3, 4, 5, 6, 7, 8] _ (st' := ⟨[(2, .ptr 8 0), (6, .view 0 0 5), (7, i64 5), (8, i64 4)], [.blk 96 [.ptr 1 0, .ptr 1 1, .ptr 1 2, .ptr 1 3, .ptr 1 4], .blk 25 [i64 y2, i64 y4, i64 y6, i64 y8, i64 o1.Who, .row 2 (o1.Procs).length, .row 3 (o1.Out).length], .row 70 11 (encL T_api_Proc.enc o1.Procs), .row 3 1 (encL (eInt .i64) o1.Out), .ghost (gv 0) (.ptr 0 0), .ghost (gv 1) (.ptr 1 0), .ghost (gv 2) (.row 2 0), .ghost (gv 3) (.row 3 0), .blk 94 [.d .nilP]]⟩) (tips := []) (by kernel_rfl) all0 ?_
  refine At.roundN ?_
  refine At.seq ?_
  refine At.region_end [2, 6, 7, 8, 9] [0, 1, 2, 3, 4, 5, 6, 7, 8] _ (st' := ⟨[(2, .ptr 8 0), (6, .view 0 0 5), (7, i64 5), (8, i64 4), (9, bo true)], [.blk 96 [.ptr 1 0, .ptr 1 1, .ptr 1 2, .ptr 1 3, .ptr 1 4], .blk 25 [i64 y2, i64 y4, i64 y6, i64 y8, i64 o1.Who, .row 2 (o1.Procs).length, .row 3 (o1.Out).length], .row 70 11 (encL T_api_Proc.enc o1.Procs), .row 3 1 (encL (eInt .i64) o1.Out), .ghost (gv 0) (.ptr 0 0), .ghost (gv 1) (.ptr 1 0), .ghost (gv 2) (.row 2 0), .ghost (gv 3) (.row 3 0), .blk 94 [.d .nilP]]⟩) (tips := []) (by kernel_rfl) all0 (norm ?_)
  refine At.seq ?_
  refine At.cond true (by kernel_rfl) (fun _ => ?_) (fun hb => by cases hb)
  refine At.nar [2, 6, 7, 8] [0, 1, 2, 3, 4, 5, 6, 7, 8] (st' := ⟨[(2, .ptr 8 0), (6, .view 0 0 5), (7, i64 5), (8, i64 4)], [.blk 96 [.ptr 1 0, .ptr 1 1, .ptr 1 2, .ptr 1 3, .ptr 1 4], .blk 25 [i64 y2, i64 y4, i64 y6, i64 y8, i64 o1.Who, .row 2 (o1.Procs).length, .row 3 (o1.Out).length], .row 70 11 (encL T_api_Proc.enc o1.Procs), .row 3 1 (encL (eInt .i64) o1.Out), .ghost (gv 0) (.ptr 0 0), .ghost (gv 1) (.ptr 1 0), .ghost (gv 2) (.row 2 0), .ghost (gv 3) (.row 3 0), .blk 94 [.d .nilP]]⟩) (by kernel_rfl) ?_
  refine At.skip (norm ?_)
  refine At.seq ?_
  refine At.block ?_
  refine At.seq ?_
  refine At.region_end [2, 5, 6, 7, 8] [0, 1, 2, 3, 4, 5, 6, 7, 8] _ (st' := ⟨[(2, .ptr 8 0), (5, .ptr 1 4), (6, .view 0 0 5), (7, i64 5), (8, i64 4)], [.blk 96 [.ptr 1 0, .ptr 1 1, .ptr 1 2, .ptr 1 3, .ptr 1 4], .blk 25 [i64 y2, i64 y4, i64 y6, i64 y8, i64 o1.Who, .row 2 (o1.Procs).length, .row 3 (o1.Out).length], .row 70 11 (encL T_api_Proc.enc o1.Procs), .row 3 1 (encL (eInt .i64) o1.Out), .ghost (gv 0) (.ptr 0 0), .ghost (gv 1) (.ptr 1 0), .ghost (gv 2) (.row 2 0), .ghost (gv 3) (.row 3 0), .blk 94 [.d .nilP]]⟩) (tips := []) (by kernel_rfl) (allc (⟨by decide, by decide⟩ : Within 4 5) all0) (norm ?_)
  obtain ⟨y10, hy10, h⟩ := bind_some h
  refine At.region_end [2, 6, 7, 8] [0, 1, 2, 3, 4, 5, 6, 7, 8] _ (st' := ⟨[(2, .ptr 8 0), (6, .view 0 0 5), (7, i64 5), (8, i64 4)], [.blk 96 [.ptr 1 0, .ptr 1 1, .ptr 1 2, .ptr 1 3, .ptr 1 4], .blk 25 [i64 y2, i64 y4, i64 y6, i64 y8, i64 y10, .row 2 (o1.Procs).length, .row 3 (o1.Out).length], .row 70 11 (encL T_api_Proc.enc o1.Procs), .row 3 1 (encL (eInt .i64) o1.Out), .ghost (gv 0) (.ptr 0 0), .ghost (gv 1) (.ptr 1 0), .ghost (gv 2) (.row 2 0), .ghost (gv 3) (.row 3 0), .blk 94 [.d .nilP]]⟩) (tips := [(3, { pc := some { ρ := [], n0 := 0, res := i64 y10, σ' := [], e := [] } })]) (by kernel_rfl) (allc (C_wire_Reader_Int_v2 y10 hy10) all0) (norm ?_)
  refine At.region_end [2, 6, 7, 8] [0, 1, 2, 3, 4, 5, 6, 7, 8] _ (st' := ⟨[(2, .ptr 8 0), (6, .view 0 0 5), (7, i64 5), (8, i64 5)], [.blk 96 [.ptr 1 0, .ptr 1 1, .ptr 1 2, .ptr 1 3, .ptr 1 4], .blk 25 [i64 y2, i64 y4, i64 y6, i64 y8, i64 y10, .row 2 (o1.Procs).length, .row 3 (o1.Out).length], .row 70 11 (encL T_api_Proc.enc o1.Procs), .row 3 1 (encL (eInt .i64) o1.Out), .ghost (gv 0) (.ptr 0 0), .ghost (gv 1) (.ptr 1 0), .ghost (gv 2) (.row 2 0), .ghost (gv 3) (.row 3 0), .blk 94 [.d .nilP]]⟩) (tips := []) (by kernel_rfl) all0 ?_
  refine At.roundN ?_
  refine At.seq ?_
  refine At.region_end [2, 6, 7, 8, 9] [0, 1, 2, 3, 4, 5, 6, 7, 8] _ (st' := ⟨[(2, .ptr 8 0), (6, .view 0 0 5), (7, i64 5), (8, i64 5), (9, bo false)], [.blk 96 [.ptr 1 0, .ptr 1 1, .ptr 1 2, .ptr 1 3, .ptr 1 4], .blk 25 [i64 y2, i64 y4, i64 y6, i64 y8, i64 y10, .row 2 (o1.Procs).length, .row 3 (o1.Out).length], .row 70 11 (encL T_api_Proc.enc o1.Procs), .row 3 1 (encL (eInt .i64) o1.Out), .ghost (gv 0) (.ptr 0 0), .ghost (gv 1) (.ptr 1 0), .ghost (gv 2) (.row 2 0), .ghost (gv 3) (.row 3 0), .blk 94 [.d .nilP]]⟩) (tips := []) (by kernel_rfl) all0 (norm ?_)
  refine At.seq ?_
  refine At.cond false (by kernel_rfl) (fun hb => by cases hb) (fun _ => ?_)
  refine At.nar [] [0, 1, 2, 3, 4, 5, 6, 7] (st' := ⟨[], [.blk 96 [.ptr 1 0, .ptr 1 1, .ptr 1 2, .ptr 1 3, .ptr 1 4], .blk 25 [i64 y2, i64 y4, i64 y6, i64 y8, i64 y10, .row 2 (o1.Procs).length, .row 3 (o1.Out).length], .row 70 11 (encL T_api_Proc.enc o1.Procs), .row 3 1 (encL (eInt .i64) o1.Out), .ghost (gv 0) (.ptr 0 0), .ghost (gv 1) (.ptr 1 0), .ghost (gv 2) (.row 2 0), .ghost (gv 3) (.row 3 0)]⟩) (by kernel_rfl) ?_
  obtain rfl := some_eq h
  refine At.exit (fun a w hs => ret_ok hR (ρ := [0, 1, 2, 3]) (gs := [.ghost (gv 0) (.ptr 0 0), .ghost (gv 1) (.ptr 1 0), .ghost (gv 2) (.row 2 0), .ghost (gv 3) (.row 3 0)]) (by kernel_rfl) all0 (by kernel_rfl) rfl rfl a w hs _ (.inr rfl))
set_option maxRecDepth 100000 in
theorem C_wire_Reader_step_v5 (o0_0 : Int) (o1_0 : Int) (r : Bool) (h : F_wire_Reader_step_v5 o0_0 o1_0 = some r) : FnOK Try.prog 52 [.d .nilP, .fn (.func 79) [] [.ptr 0 0, .ptr 1 0]] [.blk 79 [u64 o0_0], .blk 3 [i64 o1_0]] (bo r) [.blk 79 [u64 o0_0], .blk 3 [i64 o1_0]] [1, 3] := by
  rw [F_wire_Reader_step_v5] at h
  refine FnOK.intro Try.func52 rfl (by kernel_rfl) (by kernel_rfl) fun E gv R hR => ?_
  refine At.seq ?_
  refine At.region_end [0, 1] [0, 1, 2, 3] _ (st' := ⟨[(0, .d .nilP), (1, .fn (.func 79) [] [.ptr 0 0, .ptr 1 0])], [.blk 79 [u64 o0_0], .blk 3 [i64 o1_0], .ghost (gv 0) (.ptr 0 0), .ghost (gv 1) (.ptr 1 0)]⟩) (tips := []) (by kernel_rfl) all0 (norm ?_)
  refine At.seq ?_
  refine At.seq ?_
  refine At.region_end [0, 1, 15] [0, 1, 2, 3] _ (st' := ⟨[(0, .d .nilP), (1, .fn (.func 79) [] [.ptr 0 0, .ptr 1 0]), (15, bo true)], [.blk 79 [u64 o0_0], .blk 3 [i64 o1_0], .ghost (gv 0) (.ptr 0 0), .ghost (gv 1) (.ptr 1 0)]⟩) (tips := []) (by kernel_rfl) all0 (norm ?_)
  refine At.cond true (by kernel_rfl) (fun _ => ?_) (fun hb => by cases hb)
  refine At.seq ?_
  refine At.region_end [4] [0, 1, 2, 3] _ (st' := ⟨[(4, bo false)], [.blk 79 [u64 o0_0], .blk 3 [i64 o1_0], .ghost (gv 0) (.ptr 0 0), .ghost (gv 1) (.ptr 1 0)]⟩) (tips := []) (by kernel_rfl) all0 (norm ?_)
  obtain rfl := some_eq h
  exact At.ret fun a w hs => ret_ok hR (ρ := [0, 1]) (gs := [.ghost (gv 0) (.ptr 0 0), .ghost (gv 1) (.ptr 1 0)]) (by kernel_rfl) all0 (by kernel_rfl) rfl rfl a w hs _ (.inl rfl)
set_option maxRecDepth 100000 in
theorem C_wire_Reader_Upto_v2 (p1 : Int) (r : Int) (h : F_wire_Reader_Upto_v2 p1 = some r) : FnOK Try.prog 65 [.d .nilP, i64 p1] [] (i64 r) [] [] := by
  rw [F_wire_Reader_Upto_v2] at h
  refine FnOK.intro Try.func65 rfl (by kernel_rfl) (by kernel_rfl) fun E gv R hR => ?_
  refine At.seq ?_
  refine At.region_end [0, 3] [0] _ (st' := ⟨[(0, .d .nilP), (3, .ptr 0 0)], [.blk 3 [i64 p1]]⟩) (tips := []) (by kernel_rfl) all0 (norm ?_)
  refine At.seq ?_
  refine At.region_end [0, 3, 5] [0, 1] _ (st' := ⟨[(0, .d .nilP), (3, .ptr 0 0), (5, .ptr 1 0)], [.blk 3 [i64 p1], .blk 79 [u64 0]]⟩) (tips := []) (by kernel_rfl) all0 (norm ?_)
  refine At.seq ?_
  obtain ⟨y2, hy2, h⟩ := bind_some h
  refine At.region_end [5, 6] [1] _ (st' := ⟨[(5, .ptr 0 0), (6, bo y2)], [.blk 79 [u64 0]]⟩) (tips := [(2, { pc := some { ρ := [1, 0], n0 := 2, res := bo y2, σ' := [.blk 79 [u64 0], .blk 3 [i64 p1]], e := [1, 3] } })]) (by kernel_rfl) (allc (C_wire_Reader_step_v5 0 p1 y2 hy2) all0) (norm ?_)
  refine At.seq ?_
  refine At.seq ?_
  refine At.region_end [5, 11] [0] _ (st' := ⟨[(5, .ptr 0 0), (11, bo (!y2))], [.blk 79 [u64 0]]⟩) (tips := []) (by kernel_rfl) all0 (norm ?_)
  refine At.cond (!y2) (by kernel_rfl) (fun b4 => ?_) (fun b4 => ?_)
  · replace h := cond_t b4 h
    refine At.seq ?_
    refine At.region_end [4] [] _ (st' := ⟨[(4, i64 0)], []⟩) (tips := []) (by kernel_rfl) all0 (norm ?_)
    obtain rfl := some_eq h
    exact At.ret fun a w hs => ret_ok hR (ρ := []) (gs := []) (by kernel_rfl) all0 (by kernel_rfl) rfl rfl a w hs _ (.inl rfl)
  · replace h := cond_f b4 h
    refine At.nar [5] [0] (st' := ⟨[(5, .ptr 0 0)], [.blk 79 [u64 0]]⟩) (by kernel_rfl) ?_
    refine At.skip (norm ?_)
    refine At.seq ?_
    refine At.region_end [4] [] _ (st' := ⟨[(4, i64 0)], []⟩) (tips := []) (by kernel_rfl) all0 (norm ?_)
    obtain rfl := some_eq h
    exact At.ret fun a w hs => ret_ok hR (ρ := []) (gs := []) (by kernel_rfl) all0 (by kernel_rfl) rfl rfl a w hs _ (.inl rfl)
set_option maxRecDepth 100000 in
theorem C_wire_Reader_Err_v2  (r : Int) (h : F_wire_Reader_Err_v2  = some r) : FnOK Try.prog 24 [.d .nilP] [] (i64 r) [] [] := by
  rw [F_wire_Reader_Err_v2] at h
  refine FnOK.intro Try.func24 rfl (by kernel_rfl) (by kernel_rfl) fun E gv R hR => ?_
  refine At.seq ?_
  refine At.region_end [0] [] _ (st' := ⟨[(0, .d .nilP)], []⟩) (tips := []) (by kernel_rfl) all0 (norm ?_)
  refine At.seq ?_
  refine At.seq ?_
  refine At.region_end [0, 4] [] _ (st' := ⟨[(0, .d .nilP), (4, bo true)], []⟩) (tips := []) (by kernel_rfl) all0 (norm ?_)
  refine At.cond true (by kernel_rfl) (fun _ => ?_) (fun hb => by cases hb)
  refine At.seq ?_
  refine At.region_end [2] [] _ (st' := ⟨[(2, i64 9)], []⟩) (tips := []) (by kernel_rfl) all0 (norm ?_)
  obtain rfl := some_eq h
  exact At.ret fun a w hs => ret_ok hR (ρ := []) (gs := []) (by kernel_rfl) all0 (by kernel_rfl) rfl rfl a w hs _ (.inl rfl)
set_option maxRecDepth 100000 in
theorem C_dump_reader_into_v6 (o1 : T_api_Proc) (r : T_api_Proc) (h : F_dump_reader_into_v6 o1 = some r) : FnOK Try.prog 55 [.agg [.d .nilP], .view 0 0 2] [.blk 96 [.ptr 1 0, .ptr 1 1], .blk 70 [i64 o1.Def, i64 o1.At, .row 2 (o1.Vars).length, i64 o1.Fuel, i64 o1.Mode, i64 o1.Chan, i64 o1.Val, i64 o1.Slot, i64 o1.Until, i64 o1.Since, .row 3 (o1.Alts).length], .row 3 1 (encL (eInt .i64) o1.Vars), .row 102 5 (encL T_api_Alt.enc o1.Alts)] (.tup []) [.blk 96 [.ptr 1 0, .ptr 1 1], .blk 70 [i64 r.Def, i64 r.At, .row 2 (r.Vars).length, i64 r.Fuel, i64 r.Mode, i64 r.Chan, i64 r.Val, i64 r.Slot, i64 r.Until, i64 r.Since, .row 3 (r.Alts).length], .row 3 1 (encL (eInt .i64) r.Vars), .row 102 5 (encL T_api_Alt.enc r.Alts)] [1, 3, 4, 6] := by
  rw [F_dump_reader_into_v6] at h
  refine FnOK.intro Try.func55 rfl (by kernel_rfl) (by kernel_rfl) fun E gv R hR => ?_
  refine At.seq ?_
  refine At.region_end [1, 2] [0, 1, 2, 3, 4, 5, 6, 7, 8] _ (st' := ⟨[(1, .view 0 0 2), (2, .ptr 8 0)], [.blk 96 [.ptr 1 0, .ptr 1 1], .blk 70 [i64 o1.Def, i64 o1.At, .row 2 (o1.Vars).length, i64 o1.Fuel, i64 o1.Mode, i64 o1.Chan, i64 o1.Val, i64 o1.Slot, i64 o1.Until, i64 o1.Since, .row 3 (o1.Alts).length], .row 3 1 (encL (eInt .i64) o1.Vars), .row 102 5 (encL T_api_Alt.enc o1.Alts), .ghost (gv 0) (.ptr 0 0), .ghost (gv 1) (.ptr 1 0), .ghost (gv 2) (.row 2 0), .ghost (gv 3) (.row 3 0), .blk 94 [.d .nilP]]⟩) (tips := []) (by kernel_rfl) all0 (norm ?_)
  refine At.seq ?_
  refine At.region_end [2, 6, 7, 8] [0, 1, 2, 3, 4, 5, 6, 7, 8] _ (st' := ⟨[(2, .ptr 8 0), (6, .view 0 0 2), (7, i64 2), (8, i64 0)], [.blk 96 [.ptr 1 0, .ptr 1 1], .blk 70 [i64 o1.Def, i64 o1.At, .row 2 (o1.Vars).length, i64 o1.Fuel, i64 o1.Mode, i64 o1.Chan, i64 o1.Val, i64 o1.Slot, i64 o1.Until, i64 o1.Since, .row 3 (o1.Alts).length], .row 3 1 (encL (eInt .i64) o1.Vars), .row 102 5 (encL T_api_Alt.enc o1.Alts), .ghost (gv 0) (.ptr 0 0), .ghost (gv 1) (.ptr 1 0), .ghost (gv 2) (.row 2 0), .ghost (gv 3) (.row 3 0), .blk 94 [.d .nilP]]⟩) (tips := []) (by kernel_rfl) all0 (norm ?_)
  refine At.block ?_
  refine At.loopN 3 ?_
  refine At.roundN ?_
  refine At.seq ?_
  refine At.region_end [2, 6, 7, 8, 9] [0, 1, 2, 3, 4, 5, 6, 7, 8] _ (st' := ⟨[(2, .ptr 8 0), (6, .view 0 0 2), (7, i64 2), (8, i64 0), (9, bo true)], [.blk 96 [.ptr 1 0, .ptr 1 1], .blk 70 [i64 o1.Def, i64 o1.At, .row 2 (o1.Vars).length, i64 o1.Fuel, i64 o1.Mode, i64 o1.Chan, i64 o1.Val, i64 o1.Slot, i64 o1.Until, i64 o1.Since, .row 3 (o1.Alts).length], .row 3 1 (encL (eInt .i64) o1.Vars), .row 102 5 (encL T_api_Alt.enc o1.Alts), .ghost (gv 0) (.ptr 0 0), .ghost (gv 1) (.ptr 1 0), .ghost (gv 2) (.row 2 0), .ghost (gv 3) (.row 3 0), .blk 94 [.d .nilP]]⟩) (tips := []) (by kernel_rfl) all0 (norm ?_)
  refine At.seq ?_
  refine At.cond true (by kernel_rfl) (fun _ => ?_) (fun hb => by cases hb)
  refine At.nar [2, 6, 7, 8] [0, 1, 2, 3, 4, 5, 6, 7, 8] (st' := ⟨[(2, .ptr 8 0), (6, .view 0 0 2), (7, i64 2), (8, i64 0)], [.blk 96 [.ptr 1 0, .ptr 1 1], .blk 70 [i64 o1.Def, i64 o1.At, .row 2 (o1.Vars).length, i64 o1.Fuel, i64 o1.Mode, i64 o1.Chan, i64 o1.Val, i64 o1.Slot, i64 o1.Until, i64 o1.Since, .row 3 (o1.Alts).length], .row 3 1 (encL (eInt .i64) o1.Vars), .row 102 5 (encL T_api_Alt.enc o1.Alts), .ghost (gv 0) (.ptr 0 0), .ghost (gv 1) (.ptr 1 0), .ghost (gv 2) (.row 2 0), .ghost (gv 3) (.row 3 0), .blk 94 [.d .nilP]]⟩) (by kernel_rfl) ?_
  refine At.skip (norm ?_)
  refine At.seq ?_
  refine At.block ?_
  refine At.seq ?_
  refine At.region_end [2, 5, 6, 7, 8] [0, 1, 2, 3, 4, 5, 6, 7, 8] _ (st' := ⟨[(2, .ptr 8 0), (5, .ptr 1 0), (6, .view 0 0 2), (7, i64 2), (8, i64 0)], [.blk 96 [.ptr 1 0, .ptr 1 1], .blk 70 [i64 o1.Def, i64 o1.At, .row 2 (o1.Vars).length, i64 o1.Fuel, i64 o1.Mode, i64 o1.Chan, i64 o1.Val, i64 o1.Slot, i64 o1.Until, i64 o1.Since, .row 3 (o1.Alts).length], .row 3 1 (encL (eInt .i64) o1.Vars), .row 102 5 (encL T_api_Alt.enc o1.Alts), .ghost (gv 0) (.ptr 0 0), .ghost (gv 1) (.ptr 1 0), .ghost (gv 2) (.row 2 0), .ghost (gv 3) (.row 3 0), .blk 94 [.d .nilP]]⟩) (tips := []) (by kernel_rfl) (allc (⟨by decide, by decide⟩ : Within 0 2) all0) (norm ?_)
  obtain ⟨y2, hy2, h⟩ := bind_some h
  refine At.region_end [2, 6, 7, 8] [0, 1, 2, 3, 4, 5, 6, 7, 8] _ (st' := ⟨[(2, .ptr 8 0), (6, .view 0 0 2), (7, i64 2), (8, i64 0)], [.blk 96 [.ptr 1 0, .ptr 1 1], .blk 70 [i64 y2, i64 o1.At, .row 2 (o1.Vars).length, i64 o1.Fuel, i64 o1.Mode, i64 o1.Chan, i64 o1.Val, i64 o1.Slot, i64 o1.Until, i64 o1.Since, .row 3 (o1.Alts).length], .row 3 1 (encL (eInt .i64) o1.Vars), .row 102 5 (encL T_api_Alt.enc o1.Alts), .ghost (gv 0) (.ptr 0 0), .ghost (gv 1) (.ptr 1 0), .ghost (gv 2) (.row 2 0), .ghost (gv 3) (.row 3 0), .blk 94 [.d .nilP]]⟩) (tips := [(3, { pc := some { ρ := [], n0 := 0, res := i64 y2, σ' := [], e := [] } })]) (by kernel_rfl) (allc (C_wire_Reader_Int_v2 y2 hy2) all0) (norm ?_)
  refine At.region_end [2, 6, 7, 8] [0, 1, 2, 3, 4, 5, 6, 7, 8] _ (st' := ⟨[(2, .ptr 8 0), (6, .view 0 0 2), (7, i64 2), (8, i64 1)], [.blk 96 [.ptr 1 0, .ptr 1 1], .blk 70 [i64 y2, i64 o1.At, .row 2 (o1.Vars).length, i64 o1.Fuel, i64 o1.Mode, i64 o1.Chan, i64 o1.Val, i64 o1.Slot, i64 o1.Until, i64 o1.Since, .row 3 (o1.Alts).length], .row 3 1 (encL (eInt .i64) o1.Vars), .row 102 5 (encL T_api_Alt.enc o1.Alts), .ghost (gv 0) (.ptr 0 0), .ghost (gv 1) (.ptr 1 0), .ghost (gv 2) (.row 2 0), .ghost (gv 3) (.row 3 0), .blk 94 [.d .nilP]]⟩) (tips := []) (by kernel_rfl) all0 ?_
  refine At.roundN ?_
  refine At.seq ?_
  refine At.region_end [2, 6, 7, 8, 9] [0, 1, 2, 3, 4, 5, 6, 7, 8] _ (st' := ⟨[(2, .ptr 8 0), (6, .view 0 0 2), (7, i64 2), (8, i64 1), (9, bo true)], [.blk 96 [.ptr 1 0, .ptr 1 1], .blk 70 [i64 y2, i64 o1.At, .row 2 (o1.Vars).length, i64 o1.Fuel, i64 o1.Mode, i64 o1.Chan, i64 o1.Val, i64 o1.Slot, i64 o1.Until, i64 o1.Since, .row 3 (o1.Alts).length], .row 3 1 (encL (eInt .i64) o1.Vars), .row 102 5 (encL T_api_Alt.enc o1.Alts), .ghost (gv 0) (.ptr 0 0), .ghost (gv 1) (.ptr 1 0), .ghost (gv 2) (.row 2 0), .ghost (gv 3) (.row 3 0), .blk 94 [.d .nilP]]⟩) (tips := []) (by kernel_rfl) all0 (norm ?_)
  refine At.seq ?_
  refine At.cond true (by kernel_rfl) (fun _ => ?_) (fun hb => by cases hb)
  refine At.nar [2, 6, 7, 8] [0, 1, 2, 3, 4, 5, 6, 7, 8] (st' := ⟨[(2, .ptr 8 0), (6, .view 0 0 2), (7, i64 2), (8, i64 1)], [.blk 96 [.ptr 1 0, .ptr 1 1], .blk 70 [i64 y2, i64 o1.At, .row 2 (o1.Vars).length, i64 o1.Fuel, i64 o1.Mode, i64 o1.Chan, i64 o1.Val, i64 o1.Slot, i64 o1.Until, i64 o1.Since, .row 3 (o1.Alts).length], .row 3 1 (encL (eInt .i64) o1.Vars), .row 102 5 (encL T_api_Alt.enc o1.Alts), .ghost (gv 0) (.ptr 0 0), .ghost (gv 1) (.ptr 1 0), .ghost (gv 2) (.row 2 0), .ghost (gv 3) (.row 3 0), .blk 94 [.d .nilP]]⟩) (by kernel_rfl) ?_
  refine At.skip (norm ?_)
  refine At.seq ?_
  refine At.block ?_
  refine At.seq ?_
  refine At.region_end [2, 5, 6, 7, 8] [0, 1, 2, 3, 4, 5, 6, 7, 8] _ (st' := ⟨[(2, .ptr 8 0), (5, .ptr 1 1), (6, .view 0 0 2), (7, i64 2), (8, i64 1)], [.blk 96 [.ptr 1 0, .ptr 1 1], .blk 70 [i64 y2, i64 o1.At, .row 2 (o1.Vars).length, i64 o1.Fuel, i64 o1.Mode, i64 o1.Chan, i64 o1.Val, i64 o1.Slot, i64 o1.Until, i64 o1.Since, .row 3 (o1.Alts).length], .row 3 1 (encL (eInt .i64) o1.Vars), .row 102 5 (encL T_api_Alt.enc o1.Alts), .ghost (gv 0) (.ptr 0 0), .ghost (gv 1) (.ptr 1 0), .ghost (gv 2) (.row 2 0), .ghost (gv 3) (.row 3 0), .blk 94 [.d .nilP]]⟩) (tips := []) (by kernel_rfl) (allc (⟨by decide, by decide⟩ : Within 1 2) all0) (norm ?_)
  obtain ⟨y4, hy4, h⟩ := bind_some h
  refine At.region_end [2, 6, 7, 8] [0, 1, 2, 3, 4, 5, 6, 7, 8] _ (st' := ⟨[(2, .ptr 8 0), (6, .view 0 0 2), (7, i64 2), (8, i64 1)], [.blk 96 [.ptr 1 0, .ptr 1 1], .blk 70 [i64 y2, i64 y4, .row 2 (o1.Vars).length, i64 o1.Fuel, i64 o1.Mode, i64 o1.Chan, i64 o1.Val, i64 o1.Slot, i64 o1.Until, i64 o1.Since, .row 3 (o1.Alts).length], .row 3 1 (encL (eInt .i64) o1.Vars), .row 102 5 (encL T_api_Alt.enc o1.Alts), .ghost (gv 0) (.ptr 0 0), .ghost (gv 1) (.ptr 1 0), .ghost (gv 2) (.row 2 0), .ghost (gv 3) (.row 3 0), .blk 94 [.d .nilP]]⟩) (tips := [(3, { pc := some { ρ := [], n0 := 0, res := i64 y4, σ' := [], e := [] } })]) (by kernel_rfl) (allc (C_wire_Reader_Int_v2 y4 hy4) all0) (norm ?_)
  refine At.region_end [2, 6, 7, 8] [0, 1, 2, 3, 4, 5, 6, 7, 8] _ (st' := ⟨[(2, .ptr 8 0), (6, .view 0 0 2), (7, i64 2), (8, i64 2)], [.blk 96 [.ptr 1 0, .ptr 1 1], .blk 70 [i64 y2, i64 y4, .row 2 (o1.Vars).length, i64 o1.Fuel, i64 o1.Mode, i64 o1.Chan, i64 o1.Val, i64 o1.Slot, i64 o1.Until, i64 o1.Since, .row 3 (o1.Alts).length], .row 3 1 (encL (eInt .i64) o1.Vars), .row 102 5 (encL T_api_Alt.enc o1.Alts), .ghost (gv 0) (.ptr 0 0), .ghost (gv 1) (.ptr 1 0), .ghost (gv 2) (.row 2 0), .ghost (gv 3) (.row 3 0), .blk 94 [.d .nilP]]⟩) (tips := []) (by kernel_rfl) all0 ?_
  refine At.roundN ?_
  refine At.seq ?_
  refine At.region_end [2, 6, 7, 8, 9] [0, 1, 2, 3, 4, 5, 6, 7, 8] _ (st' := ⟨[(2, .ptr 8 0), (6, .view 0 0 2), (7, i64 2), (8, i64 2), (9, bo false)], [.blk 96 [.ptr 1 0, .ptr 1 1], .blk 70 [i64 y2, i64 y4, .row 2 (o1.Vars).length, i64 o1.Fuel, i64 o1.Mode, i64 o1.Chan, i64 o1.Val, i64 o1.Slot, i64 o1.Until, i64 o1.Since, .row 3 (o1.Alts).length], .row 3 1 (encL (eInt .i64) o1.Vars), .row 102 5 (encL T_api_Alt.enc o1.Alts), .ghost (gv 0) (.ptr 0 0), .ghost (gv 1) (.ptr 1 0), .ghost (gv 2) (.row 2 0), .ghost (gv 3) (.row 3 0), .blk 94 [.d .nilP]]⟩) (tips := []) (by kernel_rfl) all0 (norm ?_)
  refine At.seq ?_
  refine At.cond false (by kernel_rfl) (fun hb => by cases hb) (fun _ => ?_)
  refine At.nar [] [0, 1, 2, 3, 4, 5, 6, 7] (st' := ⟨[], [.blk 96 [.ptr 1 0, .ptr 1 1], .blk 70 [i64 y2, i64 y4, .row 2 (o1.Vars).length, i64 o1.Fuel, i64 o1.Mode, i64 o1.Chan, i64 o1.Val, i64 o1.Slot, i64 o1.Until, i64 o1.Since, .row 3 (o1.Alts).length], .row 3 1 (encL (eInt .i64) o1.Vars), .row 102 5 (encL T_api_Alt.enc o1.Alts), .ghost (gv 0) (.ptr 0 0), .ghost (gv 1) (.ptr 1 0), .ghost (gv 2) (.row 2 0), .ghost (gv 3) (.row 3 0)]⟩) (by kernel_rfl) ?_
  obtain rfl := some_eq h
  refine At.exit (fun a w hs => ret_ok hR (ρ := [0, 1, 2, 3]) (gs := [.ghost (gv 0) (.ptr 0 0), .ghost (gv 1) (.ptr 1 0), .ghost (gv 2) (.row 2 0), .ghost (gv 3) (.row 3 0)]) (by kernel_rfl) all0 (by kernel_rfl) rfl rfl a w hs _ (.inr rfl))
set_option maxRecDepth 100000 in
theorem C_wire_Reader_Ints_v2 (p1 : Int) (r : (List Int)) (h : F_wire_Reader_Ints_v2 p1 = some r) : FnOK Try.prog 59 [.d .nilP, i64 p1] [] (.row 0 (r).length) [.row 3 1 (encL (eInt .i64) r)] [] := by
  rw [F_wire_Reader_Ints_v2] at h
  refine FnOK.intro Try.func59 rfl (by kernel_rfl) (by kernel_rfl) fun E gv R hR => ?_
  refine At.seq ?_
  refine At.region_end [0, 1] [] _ (st' := ⟨[(0, .d .nilP), (1, i64 p1)], []⟩) (tips := []) (by kernel_rfl) all0 (norm ?_)
  refine At.seq ?_
  obtain ⟨y2, hy2, h⟩ := bind_some h
  refine At.region_end [0, 5] [] _ (st' := ⟨[(0, .d .nilP), (5, i64 y2)], []⟩) (tips := [(2, { pc := some { ρ := [], n0 := 0, res := i64 y2, σ' := [], e := [] } })]) (by kernel_rfl) (allc (C_wire_Reader_Upto_v2 p1 y2 hy2) all0) (norm ?_)
  refine At.seq ?_
  refine At.region_end [0, 5, 6] [] _ (st' := ⟨[(0, .d .nilP), (5, i64 y2), (6, .d (.list true 0 []))], []⟩) (tips := []) (by kernel_rfl) all0 (norm ?_)
  refine At.seq ?_
  refine At.block ?_
  refine At.edNar [.ownS 6 3 1] [0, 5, 6] [0] (st' := ⟨[(0, .d .nilP), (5, i64 y2), (6, .row 0 ([] : List Int).length)], [.row 3 1 (encL (eInt .i64) ([]))]⟩) (by kernel_rfl) ?_
  refine At.loop (fun s : ((List Int)) => F_wire_Reader_Ints_v2_L2 y2 s) (fun s : ((List Int)) => ⟨[(0, .d .nilP), (5, i64 y2), (6, .row 0 (s).length)], [.row 3 1 (encL (eInt .i64) s)]⟩) r ([] : (List Int)) h ?_
  intro x22 oo23 h f24
  replace h : F_wire_Reader_Ints_v2_L2 y2 x22 = some oo23 := h
  rw [F_wire_Reader_Ints_v2_L2] at h
  refine At.seq ?_
  refine At.seqJ (S := Bool) (fun s => ⟨[(0, .d .nilP), (5, i64 y2), (6, .row 0 (x22).length), (18, bo s)], [.row 3 1 (encL (eInt .i64) x22)]⟩) (fun s => F_wire_Reader_Ints_v2_J1 x22 s = some oo23) ?_ ?_
  · rcases tf (decide (((x22).length : Int) < y2)) with b45 | b45
    · replace h := cond_t b45 h
      obtain ⟨y46, hy46, h⟩ := bind_some h
      refine At.region_end [0, 5, 6, 18] [0] _ (st' := ⟨[(0, .d .nilP), (5, i64 y2), (6, .row 0 (x22).length), (18, bo (y46 == 0))], [.row 3 1 (encL (eInt .i64) x22)]⟩) (tips := [(4, { orc := .val (.bool true) }), (6, { pc := some { ρ := [], n0 := 0, res := i64 y46, σ' := [], e := [] } })]) (by kernel_rfl) (allc (congrArg D.bool b45) (allc (C_wire_Reader_Err_v2 y46 hy46) all0)) (fun a w hs => ⟨(y46 == 0), h, hs⟩)
    · replace h := cond_f b45 h
      refine At.region_end [0, 5, 6, 18] [0] _ (st' := ⟨[(0, .d .nilP), (5, i64 y2), (6, .row 0 (x22).length), (18, bo false)], [.row 3 1 (encL (eInt .i64) x22)]⟩) (tips := [(4, { orc := .val (.bool false) })]) (by kernel_rfl) (allc (congrArg D.bool b45) all0) (fun a w hs => ⟨false, h, hs⟩)
  · intro x33 h
    replace h : F_wire_Reader_Ints_v2_J1 x22 x33 = some oo23 := h
    rw [F_wire_Reader_Ints_v2_J1] at h
    refine At.cond x33 (by kernel_rfl) (fun b34 => ?_) (fun b34 => ?_)
    · replace h := cond_t b34 h
      refine At.nar [0, 5, 6] [0] (st' := ⟨[(0, .d .nilP), (5, i64 y2), (6, .row 0 (x22).length)], [.row 3 1 (encL (eInt .i64) x22)]⟩) (by kernel_rfl) ?_
      refine At.skip (norm ?_)
      refine At.block ?_
      obtain ⟨y35, hy35, h⟩ := bind_some h
      obtain ⟨g36, h⟩ := grd_some h
      refine At.region_end [0, 5, 6] [0] _ (st' := ⟨[(0, .d .nilP), (5, i64 y2), (6, .row 0 ((x22 ++ [y35])).length)], [.row 3 1 (encL (eInt .i64) (x22 ++ [y35]))]⟩) (tips := [(2, { pc := some { ρ := [], n0 := 0, res := i64 y35, σ' := [], e := [] } }), (4, { form := some ((x22 ++ [y35]).length, encL (eInt .i64) (x22 ++ [y35])) })]) (by kernel_rfl) (allc (C_wire_Reader_Int_v2 y35 hy35) (allc (len_app x22 ([y35])) (allc (encL_app (eInt .i64) x22 ([y35])) (allc (app_ok (he_int .i64) (by decide) g36) (allc (encL_len (he_int .i64) ([y35])) all0))))) (fun a w hs => ⟨_, (some_eq h).symm, hs⟩)
    · replace h := cond_f b34 h
      refine At.nar [0, 6] [0] (st' := ⟨[(0, .d .nilP), (6, .row 0 (x22).length)], [.row 3 1 (encL (eInt .i64) x22)]⟩) (by kernel_rfl) ?_
      obtain ⟨r37, h, e38⟩ := map_inr h
      rw [f24 _ e38] at h
      refine At.exit (norm ?_)
      refine At.seq ?_
      refine At.seq ?_
      obtain ⟨y43, hy43, h⟩ := bind_some h
      refine At.region_end [6, 26] [0] _ (st' := ⟨[(6, .row 0 (x22).length), (26, bo (y43 != 0))], [.row 3 1 (encL (eInt .i64) x22)]⟩) (tips := [(1, { pc := some { ρ := [], n0 := 0, res := i64 y43, σ' := [], e := [] } })]) (by kernel_rfl) (allc (C_wire_Reader_Err_v2 y43 hy43) all0) (norm ?_)
      refine At.cond (y43 != 0) (by kernel_rfl) (fun b44 => ?_) (fun b44 => ?_)
      · replace h := cond_t b44 h
        refine At.seq ?_
        refine At.region_end [4] [] _ (st' := ⟨[(4, .d (.list true 0 []))], []⟩) (tips := []) (by kernel_rfl) all0 (norm ?_)
        refine At.edNar [.ownS 4 3 1] [4] [0] (st' := ⟨[(4, .row 0 ([] : List Int).length)], [.row 3 1 (encL (eInt .i64) ([]))]⟩) (by kernel_rfl) ?_
        obtain rfl := some_eq h
        exact At.ret fun a w hs => ret_ok hR (ρ := [0]) (gs := []) (by kernel_rfl) all0 (by kernel_rfl) rfl rfl a w hs _ (.inl rfl)
      · replace h := cond_f b44 h
        refine At.nar [6] [0] (st' := ⟨[(6, .row 0 (x22).length)], [.row 3 1 (encL (eInt .i64) x22)]⟩) (by kernel_rfl) ?_
        refine At.skip (norm ?_)
        refine At.seq ?_
        refine At.region_end [4] [0] _ (st' := ⟨[(4, .row 0 (x22).length)], [.row 3 1 (encL (eInt .i64) x22)]⟩) (tips := []) (by kernel_rfl) all0 (norm ?_)
        obtain rfl := some_eq h
        exact At.ret fun a w hs => ret_ok hR (ρ := [0]) (gs := []) (by kernel_rfl) all0 (by kernel_rfl) rfl rfl a w hs _ (.inl rfl)
end Go.Ab
