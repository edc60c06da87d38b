import Derived.Test.YthjalpodmnagnaaGEv
namespace Go.Ab
open Go.Proofs
set_option linter.unusedVariables false
set_option maxRecDepth 100000 in
theorem C_vint_Size (p0 : Int) (r : Int) (h : F_vint_Size p0 = some r) : FnOK Try.prog 84 [u64 p0] [] (i64 r) [] [] := by
  rw [F_vint_Size] at h
  refine FnOK.intro Try.func84 rfl (by kernel_rfl) (by kernel_rfl) fun E gv R hR => ?_
  refine At.seq ?_
  refine At.region_end [0] [] _ (st' := ⟨[(0, u64 p0)], []⟩) (tips := []) (by kernel_rfl) all0 (norm ?_)
  refine At.seq ?_
  refine At.region_end [0, 3] [] _ (st' := ⟨[(0, u64 p0), (3, i64 1)], []⟩) (tips := []) (by kernel_rfl) all0 (norm ?_)
  refine At.seq ?_
  refine At.block ?_
  refine At.loop (fun s : (Int × Int) => F_vint_Size_L1 s.1 s.2) (fun s : (Int × Int) => ⟨[(0, u64 s.1), (3, i64 s.2)], []⟩) r (p0, 1) h ?_
  rintro ⟨x9, x10⟩ oo11 h f12
  replace h : F_vint_Size_L1 x9 x10 = some oo11 := h
  rw [F_vint_Size_L1] at h
  refine At.seq ?_
  refine At.seq ?_
  refine At.region_end [0, 3, 5] [] _ (st' := ⟨[(0, u64 x9), (3, i64 x10), (5, bo (decide (128 ≤ x9)))], []⟩) (tips := []) (by kernel_rfl) all0 (norm ?_)
  refine At.cond (decide (128 ≤ x9)) (by kernel_rfl) (fun b14 => ?_) (fun b14 => ?_)
  · replace h := cond_t b14 h
    refine At.nar [0, 3] [] (st' := ⟨[(0, u64 x9), (3, i64 x10)], []⟩) (by kernel_rfl) ?_
    refine At.skip (norm ?_)
    refine At.seq ?_
    refine At.block ?_
    refine At.region_end [0, 3] [] _ (st' := ⟨[(0, u64 x9), (3, i64 (w64 (x10 + 1)))], []⟩) (tips := []) (by kernel_rfl) all0 (norm ?_)
    refine At.region_end [0, 3] [] _ (st' := ⟨[(0, u64 (Int.fdiv x9 128)), (3, i64 (w64 (x10 + 1)))], []⟩) (tips := []) (by kernel_rfl) (allc (by decide : (0:Int) ≤ 7) all0) (fun a w hs => ⟨_, (some_eq h).symm, hs⟩)
  · replace h := cond_f b14 h
    refine At.nar [3] [] (st' := ⟨[(3, i64 x10)], []⟩) (by kernel_rfl) ?_
    obtain ⟨r15, h, e16⟩ := map_inr h
    rw [f12 _ e16] at h
    refine At.exit (norm ?_)
    refine At.seq ?_
    refine At.region_end [2] [] _ (st' := ⟨[(2, i64 x10)], []⟩) (tips := []) (by kernel_rfl) all0 (norm ?_)
    obtain rfl := some_eq h
    exact At.ret fun a w hs => ret_ok hR (ρ := []) (gs := []) (by kernel_rfl) all0 (by kernel_rfl) rfl rfl a w hs _ (.inl rfl)
set_option maxRecDepth 100000 in
theorem C_vint_Put (p0 : ByteArray) (p1 : Int) (r : ByteArray) (h : F_vint_Put p0 p1 = some r) : FnOK Try.prog 72 [sv p0, u64 p1] [] (sv r) [] [] := by
  rw [F_vint_Put] at h
  refine FnOK.intro Try.func72 rfl (by kernel_rfl) (by kernel_rfl) fun E gv R hR => ?_
  refine At.seq ?_
  refine At.region_end [0, 1] [] _ (st' := ⟨[(0, sv p0), (1, u64 p1)], []⟩) (tips := []) (by kernel_rfl) all0 (norm ?_)
  refine At.seq ?_
  obtain ⟨y3, hy3, h⟩ := bind_some h
  obtain ⟨g4, h⟩ := grd_some h
  refine At.region_end [0, 1, 5] [0] _ (st' := ⟨[(0, sv p0), (1, u64 p1), (5, .row 0 ([] : List Int).length)], [.row 5 1 (encL (eInt .u8) ([]))]⟩) (tips := [(3, { pc := some { ρ := [], n0 := 0, res := i64 y3, σ' := [], e := [] } })]) (by kernel_rfl) (allc (C_vint_Size p1 y3 hy3) (allc g4 all0)) (norm ?_)
  refine At.seq ?_
  obtain ⟨g6, h⟩ := grd_some h
  refine At.region_end [1, 5] [0] _ (st' := ⟨[(1, u64 p1), (5, .row 0 ((([] : List Int) ++ (sB p0))).length)], [.row 5 1 (encL (eInt .u8) (([] : List Int) ++ (sB p0)))]⟩) (tips := [(2, { form := some ((([] : List Int) ++ (sB p0)).length, encL (eInt .u8) (([] : List Int) ++ (sB p0))) })]) (by kernel_rfl) (allc (len_appS ([] : List Int) p0) (allc (encL_appS ([] : List Int) p0) (allc (app_ok (he_int .u8) (by decide) g6) all0))) (norm ?_)
  refine At.seq ?_
  refine At.block ?_
  refine At.loop (fun s : (Int × (List Int)) => F_vint_Put_L1 s.1 s.2) (fun s : (Int × (List Int)) => ⟨[(1, u64 s.1), (5, .row 0 (s.2).length)], [.row 5 1 (encL (eInt .u8) s.2)]⟩) r (p1, (([] : List Int) ++ (sB p0))) h ?_
  rintro ⟨x17, x18⟩ oo19 h f20
  replace h : F_vint_Put_L1 x17 x18 = some oo19 := h
  rw [F_vint_Put_L1] at h
  refine At.seq ?_
  refine At.seq ?_
  refine At.region_end [1, 5, 16] [0] _ (st' := ⟨[(1, u64 x17), (5, .row 0 (x18).length), (16, bo (decide (128 ≤ x17)))], [.row 5 1 (encL (eInt .u8) x18)]⟩) (tips := []) (by kernel_rfl) all0 (norm ?_)
  refine At.cond (decide (128 ≤ x17)) (by kernel_rfl) (fun b22 => ?_) (fun b22 => ?_)
  · replace h := cond_t b22 h
    refine At.nar [1, 5] [0] (st' := ⟨[(1, u64 x17), (5, .row 0 (x18).length)], [.row 5 1 (encL (eInt .u8) x18)]⟩) (by kernel_rfl) ?_
    refine At.skip (norm ?_)
    refine At.seq ?_
    refine At.block ?_
    obtain ⟨g24, h⟩ := grd_some h
    refine At.region_end [1, 5] [0] _ (st' := ⟨[(1, u64 x17), (5, .row 0 ((x18 ++ [(bits .or .u8 (wu8 x17) 128)])).length)], [.row 5 1 (encL (eInt .u8) (x18 ++ [(bits .or .u8 (wu8 x17) 128)]))]⟩) (tips := [(5, { form := some ((x18 ++ [(bits .or .u8 (wu8 x17) 128)]).length, encL (eInt .u8) (x18 ++ [(bits .or .u8 (wu8 x17) 128)])) })]) (by kernel_rfl) (allc (len_app x18 ([(bits .or .u8 (wu8 x17) 128)])) (allc (encL_app (eInt .u8) x18 ([(bits .or .u8 (wu8 x17) 128)])) (allc (app_ok (he_int .u8) (by decide) g24) (allc (encL_len (he_int .u8) ([(bits .or .u8 (wu8 x17) 128)])) all0)))) (norm ?_)
    refine At.region_end [1, 5] [0] _ (st' := ⟨[(1, u64 (Int.fdiv x17 128)), (5, .row 0 ((x18 ++ [(bits .or .u8 (wu8 x17) 128)])).length)], [.row 5 1 (encL (eInt .u8) (x18 ++ [(bits .or .u8 (wu8 x17) 128)]))]⟩) (tips := []) (by kernel_rfl) (allc (by decide : (0:Int) ≤ 7) all0) (fun a w hs => ⟨_, (some_eq h).symm, hs⟩)
  · replace h := cond_f b22 h
    refine At.nar [1, 5] [0] (st' := ⟨[(1, u64 x17), (5, .row 0 (x18).length)], [.row 5 1 (encL (eInt .u8) x18)]⟩) (by kernel_rfl) ?_
    obtain ⟨r25, h, e26⟩ := map_inr h
    rw [f20 _ e26] at h
    refine At.exit (norm ?_)
    refine At.seq ?_
    obtain ⟨g28, h⟩ := grd_some h
    refine At.region_end [4] [] _ (st' := ⟨[(4, sv (strOfNums (x18 ++ [(wu8 x17)])))], []⟩) (tips := [(4, { form := some ((x18 ++ [(wu8 x17)]).length, encL (eInt .u8) (x18 ++ [(wu8 x17)])) }), (5, { orc := .nums (x18 ++ [(wu8 x17)]) })]) (by kernel_rfl) (allc (len_app x18 ([(wu8 x17)])) (allc (encL_app (eInt .u8) x18 ([(wu8 x17)])) (allc (app_ok (he_int .u8) (by decide) g28) (allc (encL_len (he_int .u8) ([(wu8 x17)])) (allc (encL_map .u8 (x18 ++ [(wu8 x17)])) (allc (rfl : ((x18 ++ [(wu8 x17)])).length = ((x18 ++ [(wu8 x17)])).length) all0)))))) (norm ?_)
    obtain rfl := some_eq h
    exact At.ret fun a w hs => ret_ok hR (ρ := []) (gs := []) (by kernel_rfl) all0 (by kernel_rfl) rfl rfl a w hs _ (.inl rfl)
set_option maxRecDepth 100000 in
theorem C_wire_Writer_add (p1 : ByteArray) (o0 : T_wire_Writer) (r : T_wire_Writer) (h : F_wire_Writer_add p1 o0 = some r) : FnOK Try.prog 71 [.ptr 0 0, sv p1] [.blk 74 [.row 1 (o0.s).length], .row 5 1 (encL (eInt .u8) o0.s)] (.tup []) [.blk 74 [.row 1 (r.s).length], .row 5 1 (encL (eInt .u8) r.s)] [1, 2, 3] := by
  rw [F_wire_Writer_add] at h
  refine FnOK.intro Try.func71 rfl (by kernel_rfl) (by kernel_rfl) fun E gv R hR => ?_
  refine At.seq ?_
  refine At.region_end [0, 1, 5] [0, 1, 2, 3] _ (st' := ⟨[(0, .ptr 0 0), (1, sv p1), (5, bo true)], [.blk 74 [.row 1 (o0.s).length], .row 5 1 (encL (eInt .u8) o0.s), .ghost (gv 0) (.ptr 0 0), .ghost (gv 1) (.row 1 0)]⟩) (tips := []) (by kernel_rfl) all0 (norm ?_)
  refine At.cond true (by kernel_rfl) (fun _ => ?_) (fun hb => by cases hb)
  obtain ⟨g1, h⟩ := grd_some h
  obtain rfl := some_eq h
  refine At.region_end [] [0, 1, 2, 3] _ (st' := ⟨[], [.blk 74 [.row 1 ((o0.s ++ (sB p1))).length], .row 5 1 (encL (eInt .u8) (o0.s ++ (sB p1))), .ghost (gv 0) (.ptr 0 0), .ghost (gv 1) (.undef)]⟩) (tips := [(6, { form := some ((o0.s ++ (sB p1)).length, encL (eInt .u8) (o0.s ++ (sB p1))) })]) (by kernel_rfl) (allc (len_appS o0.s p1) (allc (encL_appS o0.s p1) (allc (app_ok (he_int .u8) (by decide) g1) all0))) (fun a w hs => ret_ok hR (ρ := [0, 1]) (gs := [.ghost (gv 0) (.ptr 0 0), .ghost (gv 1) (.undef)]) (by kernel_rfl) all0 (by kernel_rfl) rfl rfl a w hs _ (.inr rfl))
set_option maxRecDepth 100000 in
theorem C_wire_Writer_Num (p1 : Int) (o0 : T_wire_Writer) (r : T_wire_Writer) (h : F_wire_Writer_Num p1 o0 = some r) : FnOK Try.prog 40 [.ptr 0 0, u64 p1] [.blk 74 [.row 1 (o0.s).length], .row 5 1 (encL (eInt .u8) o0.s)] (.tup []) [.blk 74 [.row 1 (r.s).length], .row 5 1 (encL (eInt .u8) r.s)] [1, 2, 3] := by
  rw [F_wire_Writer_Num] at h
  refine FnOK.intro Try.func40 rfl (by kernel_rfl) (by kernel_rfl) fun E gv R hR => ?_
  obtain ⟨y1, hy1, h⟩ := bind_some h
  obtain ⟨y2, hy2, h⟩ := bind_some h
  obtain rfl := some_eq h
  refine At.region_end [] [0, 1, 2, 3] _ (st' := ⟨[], [.blk 74 [.row 1 (y2.s).length], .row 5 1 (encL (eInt .u8) y2.s), .ghost (gv 0) (.ptr 0 0), .ghost (gv 1) (.undef)]⟩) (tips := [(2, { pc := some { ρ := [], n0 := 0, res := sv y1, σ' := [], e := [] } }), (3, { pc := some { ρ := [0, 1], n0 := 2, res := .tup [], σ' := [.blk 74 [.row 1 (y2.s).length], .row 5 1 (encL (eInt .u8) y2.s)], e := [1, 2, 3] } })]) (by kernel_rfl) (allc (C_vint_Put (⟨#[]⟩ : ByteArray) p1 y1 hy1) (allc (C_wire_Writer_add y1 o0 y2 hy2) all0)) (fun a w hs => ret_ok hR (ρ := [0, 1]) (gs := [.ghost (gv 0) (.ptr 0 0), .ghost (gv 1) (.undef)]) (by kernel_rfl) all0 (by kernel_rfl) rfl rfl a w hs _ (.inr rfl))
set_option maxRecDepth 100000 in
theorem C_vint_Zig (p0 : Int) (r : Int) (h : F_vint_Zig p0 = some r) : FnOK Try.prog 87 [i64 p0] [] (u64 r) [] [] := by
  rw [F_vint_Zig] at h
  refine FnOK.intro Try.func87 rfl (by kernel_rfl) (by kernel_rfl) fun E gv R hR => ?_
  refine At.seq ?_
  refine At.region_end [0] [] _ (st' := ⟨[(0, i64 p0)], []⟩) (tips := []) (by kernel_rfl) all0 (norm ?_)
  refine At.seq ?_
  refine At.region_end [2] [] _ (st' := ⟨[(2, u64 (bits .xor .u64 (wu64 ((wu64 p0) * 2)) (wu64 (Int.fdiv p0 9223372036854775808))))], []⟩) (tips := []) (by kernel_rfl) (allc (by decide : (0:Int) ≤ 1) (allc (by decide : (0:Int) ≤ 63) all0)) (norm ?_)
  obtain rfl := some_eq h
  exact At.ret fun a w hs => ret_ok hR (ρ := []) (gs := []) (by kernel_rfl) all0 (by kernel_rfl) rfl rfl a w hs _ (.inl rfl)
set_option maxRecDepth 100000 in
theorem C_vint_PutInt (p0 : ByteArray) (p1 : Int) (r : ByteArray) (h : F_vint_PutInt p0 p1 = some r) : FnOK Try.prog 83 [sv p0, i64 p1] [] (sv r) [] [] := by
  rw [F_vint_PutInt] at h
  refine FnOK.intro Try.func83 rfl (by kernel_rfl) (by kernel_rfl) fun E gv R hR => ?_
  refine At.seq ?_
  refine At.region_end [0, 1] [] _ (st' := ⟨[(0, sv p0), (1, i64 p1)], []⟩) (tips := []) (by kernel_rfl) all0 (norm ?_)
  refine At.seq ?_
  obtain ⟨y3, hy3, h⟩ := bind_some h
  obtain ⟨y4, hy4, h⟩ := bind_some h
  refine At.region_end [4] [] _ (st' := ⟨[(4, sv y4)], []⟩) (tips := [(2, { pc := some { ρ := [], n0 := 0, res := u64 y3, σ' := [], e := [] } }), (3, { pc := some { ρ := [], n0 := 0, res := sv y4, σ' := [], e := [] } })]) (by kernel_rfl) (allc (C_vint_Zig p1 y3 hy3) (allc (C_vint_Put p0 y3 y4 hy4) all0)) (norm ?_)
  obtain rfl := some_eq h
  exact At.ret fun a w hs => ret_ok hR (ρ := []) (gs := []) (by kernel_rfl) all0 (by kernel_rfl) rfl rfl a w hs _ (.inl rfl)
set_option maxRecDepth 100000 in
theorem C_wire_Writer_Int (p1 : Int) (o0 : T_wire_Writer) (r : T_wire_Writer) (h : F_wire_Writer_Int p1 o0 = some r) : FnOK Try.prog 67 [.ptr 0 0, i64 p1] [.blk 74 [.row 1 (o0.s).length], .row 5 1 (encL (eInt .u8) o0.s)] (.tup []) [.blk 74 [.row 1 (r.s).length], .row 5 1 (encL (eInt .u8) r.s)] [1, 2, 3] := by
  rw [F_wire_Writer_Int] at h
  refine FnOK.intro Try.func67 rfl (by kernel_rfl) (by kernel_rfl) fun E gv R hR => ?_
  obtain ⟨y1, hy1, h⟩ := bind_some h
  obtain ⟨y2, hy2, h⟩ := bind_some h
  obtain rfl := some_eq h
  refine At.region_end [] [0, 1, 2, 3] _ (st' := ⟨[], [.blk 74 [.row 1 (y2.s).length], .row 5 1 (encL (eInt .u8) y2.s), .ghost (gv 0) (.ptr 0 0), .ghost (gv 1) (.undef)]⟩) (tips := [(2, { pc := some { ρ := [], n0 := 0, res := sv y1, σ' := [], e := [] } }), (3, { pc := some { ρ := [0, 1], n0 := 2, res := .tup [], σ' := [.blk 74 [.row 1 (y2.s).length], .row 5 1 (encL (eInt .u8) y2.s)], e := [1, 2, 3] } })]) (by kernel_rfl) (allc (C_vint_PutInt (⟨#[]⟩ : ByteArray) p1 y1 hy1) (allc (C_wire_Writer_add y1 o0 y2 hy2) all0)) (fun a w hs => ret_ok hR (ρ := [0, 1]) (gs := [.ghost (gv 0) (.ptr 0 0), .ghost (gv 1) (.undef)]) (by kernel_rfl) all0 (by kernel_rfl) rfl rfl a w hs _ (.inr rfl))
set_option maxRecDepth 100000 in
theorem C_wire_Writer_Bytes (o0 : T_wire_Writer) (r : ByteArray) (h : F_wire_Writer_Bytes o0 = some r) : FnOK Try.prog 43 [.ptr 0 0] [.blk 74 [.row 1 (o0.s).length], .row 5 1 (encL (eInt .u8) o0.s)] (sv r) [.blk 74 [.row 1 (o0.s).length], .row 5 1 (encL (eInt .u8) o0.s)] [1, 2] := by
  rw [F_wire_Writer_Bytes] at h
  refine FnOK.intro Try.func43 rfl (by kernel_rfl) (by kernel_rfl) fun E gv R hR => ?_
  refine At.seq ?_
  refine At.region_end [0] [0, 1, 2, 3] _ (st' := ⟨[(0, .ptr 0 0)], [.blk 74 [.row 1 (o0.s).length], .row 5 1 (encL (eInt .u8) o0.s), .ghost (gv 0) (.ptr 0 0), .ghost (gv 1) (.row 1 0)]⟩) (tips := []) (by kernel_rfl) all0 (norm ?_)
  refine At.seq ?_
  refine At.seq ?_
  refine At.region_end [0, 4] [0, 1, 2, 3] _ (st' := ⟨[(0, .ptr 0 0), (4, bo false)], [.blk 74 [.row 1 (o0.s).length], .row 5 1 (encL (eInt .u8) o0.s), .ghost (gv 0) (.ptr 0 0), .ghost (gv 1) (.row 1 0)]⟩) (tips := []) (by kernel_rfl) all0 (norm ?_)
  refine At.cond false (by kernel_rfl) (fun hb => by cases hb) (fun _ => ?_)
  refine At.nar [0] [0, 1, 2, 3] (st' := ⟨[(0, .ptr 0 0)], [.blk 74 [.row 1 (o0.s).length], .row 5 1 (encL (eInt .u8) o0.s), .ghost (gv 0) (.ptr 0 0), .ghost (gv 1) (.row 1 0)]⟩) (by kernel_rfl) ?_
  refine At.skip (norm ?_)
  refine At.seq ?_
  refine At.region_end [2] [0, 1, 2, 3] _ (st' := ⟨[(2, sv (strOfNums o0.s))], [.blk 74 [.row 1 (o0.s).length], .row 5 1 (encL (eInt .u8) o0.s), .ghost (gv 0) (.ptr 0 0), .ghost (gv 1) (.row 1 0)]⟩) (tips := [(4, { orc := .nums o0.s })]) (by kernel_rfl) (allc (encL_map .u8 o0.s) (allc (rfl : (o0.s).length = (o0.s).length) all0)) (norm ?_)
  obtain rfl := some_eq h
  exact At.ret fun a w hs => ret_ok hR (ρ := [0, 1]) (gs := [.ghost (gv 0) (.ptr 0 0), .ghost (gv 1) (.row 1 0)]) (by kernel_rfl) all0 (by kernel_rfl) rfl rfl a w hs _ (.inl rfl)
set_option maxRecDepth 100000 in
theorem C_event_Put (p0 : (List T_api_Event)) (r : ByteArray) (h : F_event_Put p0 = some r) : FnOK Try.prog 35 [lv T_api_Event.enc p0] [] (sv r) [] [] := by
  rw [F_event_Put] at h
  refine FnOK.intro Try.func35 rfl (by kernel_rfl) (by kernel_rfl) fun E gv R hR => ?_
  refine At.seq ?_
  refine At.region_end [0] [] _ (st' := ⟨[(0, lv T_api_Event.enc p0)], []⟩) (tips := []) (by kernel_rfl) all0 (norm ?_)
  refine At.seq ?_
  refine At.region_end [0, 3] [0] _ (st' := ⟨[(0, lv T_api_Event.enc p0), (3, .ptr 0 0)], [.blk 74 [.d (.list true 0 [])]]⟩) (tips := []) (by kernel_rfl) all0 (norm ?_)
  refine At.seq ?_
  refine At.eds [.ownO 0 0 5 1] (st' := ⟨[(0, lv T_api_Event.enc p0), (3, .ptr 0 0)], [.blk 74 [.row 1 ([] : List Int).length], .row 5 1 (encL (eInt .u8) ([]))]⟩) (by kernel_rfl) ?_
  obtain ⟨y2, hy2, h⟩ := bind_some h
  refine At.region_end [0, 3] [0, 1] _ (st' := ⟨[(0, lv T_api_Event.enc p0), (3, .ptr 0 0)], [.blk 74 [.row 1 (y2.s).length], .row 5 1 (encL (eInt .u8) y2.s)]⟩) (tips := [(4, { pc := some { ρ := [0, 1], n0 := 2, res := .tup [], σ' := [.blk 74 [.row 1 (y2.s).length], .row 5 1 (encL (eInt .u8) y2.s)], e := [1, 2, 3] } })]) (by kernel_rfl) (allc (C_wire_Writer_Num (wu64 ((p0).length : Int)) (⟨([] : List Int)⟩ : T_wire_Writer) y2 hy2) all0) (norm ?_)
  refine At.seq ?_
  refine At.seq ?_
  refine At.region_end [3, 13, 14, 15] [0, 1] _ (st' := ⟨[(3, .ptr 0 0), (13, lv T_api_Event.enc p0), (14, i64 ((p0).length : Int)), (15, i64 0)], [.blk 74 [.row 1 (y2.s).length], .row 5 1 (encL (eInt .u8) y2.s)]⟩) (tips := []) (by kernel_rfl) all0 (norm ?_)
  refine At.block ?_
  refine At.loop (fun s : (Int × (List Int)) => F_event_Put_L1 p0 s.1 s.2) (fun s : (Int × (List Int)) => ⟨[(3, .ptr 0 0), (13, lv T_api_Event.enc p0), (14, i64 ((p0).length : Int)), (15, i64 s.1)], [.blk 74 [.row 1 (s.2).length], .row 5 1 (encL (eInt .u8) s.2)]⟩) r (0, y2.s) h ?_
  rintro ⟨x21, x22⟩ oo23 h f24
  replace h : F_event_Put_L1 p0 x21 x22 = some oo23 := h
  rw [F_event_Put_L1] at h
  refine At.seq ?_
  refine At.region_end [3, 13, 14, 15, 16] [0, 1] _ (st' := ⟨[(3, .ptr 0 0), (13, lv T_api_Event.enc p0), (14, i64 ((p0).length : Int)), (15, i64 x21), (16, bo (decide (x21 < ((p0).length : Int))))], [.blk 74 [.row 1 (x22).length], .row 5 1 (encL (eInt .u8) x22)]⟩) (tips := []) (by kernel_rfl) all0 (norm ?_)
  refine At.seq ?_
  refine At.cond (decide (x21 < ((p0).length : Int))) (by kernel_rfl) (fun b26 => ?_) (fun b26 => ?_)
  · replace h := cond_t b26 h
    refine At.nar [3, 13, 14, 15] [0, 1] (st' := ⟨[(3, .ptr 0 0), (13, lv T_api_Event.enc p0), (14, i64 ((p0).length : Int)), (15, i64 x21)], [.blk 74 [.row 1 (x22).length], .row 5 1 (encL (eInt .u8) x22)]⟩) (by kernel_rfl) ?_
    refine At.skip (norm ?_)
    refine At.seq ?_
    refine At.block ?_
    refine At.seq ?_
    obtain ⟨y33, hy33, h⟩ := bind_some h
    refine At.region_end [3, 5, 13, 14, 15] [0, 1, 2] _ (st' := ⟨[(3, .ptr 0 0), (5, .ptr 2 0), (13, lv T_api_Event.enc p0), (14, i64 ((p0).length : Int)), (15, i64 x21)], [.blk 74 [.row 1 (x22).length], .row 5 1 (encL (eInt .u8) x22), .blk 104 (T_api_Event.pvs y33)]⟩) (tips := [(0, { orc := .cells (T_api_Event.enc y33) })]) (by kernel_rfl) (allc (elemAt_of T_api_Event.enc_len hy33) all0) (norm ?_)
    refine At.seq ?_
    obtain ⟨y35, hy35, h⟩ := bind_some h
    refine At.region_end [3, 5, 13, 14, 15] [0, 1, 2] _ (st' := ⟨[(3, .ptr 0 0), (5, .ptr 2 0), (13, lv T_api_Event.enc p0), (14, i64 ((p0).length : Int)), (15, i64 x21)], [.blk 74 [.row 1 (y35.s).length], .row 5 1 (encL (eInt .u8) y35.s), .blk 104 (T_api_Event.pvs y33)]⟩) (tips := [(3, { pc := some { ρ := [0, 1], n0 := 2, res := .tup [], σ' := [.blk 74 [.row 1 (y35.s).length], .row 5 1 (encL (eInt .u8) y35.s)], e := [1, 2, 3] } })]) (by kernel_rfl) (allc (C_wire_Writer_Int y33.Kind (⟨x22⟩ : T_wire_Writer) y35 hy35) all0) (norm ?_)
    obtain ⟨y36, hy36, h⟩ := bind_some h
    refine At.region_end [3, 13, 14, 15] [0, 1] _ (st' := ⟨[(3, .ptr 0 0), (13, lv T_api_Event.enc p0), (14, i64 ((p0).length : Int)), (15, i64 x21)], [.blk 74 [.row 1 (y36.s).length], .row 5 1 (encL (eInt .u8) y36.s)]⟩) (tips := [(3, { pc := some { ρ := [0, 1], n0 := 2, res := .tup [], σ' := [.blk 74 [.row 1 (y36.s).length], .row 5 1 (encL (eInt .u8) y36.s)], e := [1, 2, 3] } })]) (by kernel_rfl) (allc (C_wire_Writer_Int y33.N y35 y36 hy36) all0) (norm ?_)
    refine At.region_end [3, 13, 14, 15] [0, 1] _ (st' := ⟨[(3, .ptr 0 0), (13, lv T_api_Event.enc p0), (14, i64 ((p0).length : Int)), (15, i64 (w64 (x21 + 1)))], [.blk 74 [.row 1 (y36.s).length], .row 5 1 (encL (eInt .u8) y36.s)]⟩) (tips := []) (by kernel_rfl) all0 (fun a w hs => ⟨_, (some_eq h).symm, hs⟩)
  · replace h := cond_f b26 h
    refine At.nar [3] [0, 1] (st' := ⟨[(3, .ptr 0 0)], [.blk 74 [.row 1 (x22).length], .row 5 1 (encL (eInt .u8) x22)]⟩) (by kernel_rfl) ?_
    obtain ⟨r37, h, e38⟩ := map_inr h
    rw [f24 _ e38] at h
    refine At.exit (norm ?_)
    refine At.seq ?_
    obtain ⟨y40, hy40, h⟩ := bind_some h
    refine At.region_end [2] [] _ (st' := ⟨[(2, sv y40)], []⟩) (tips := [(1, { pc := some { ρ := [0, 1], n0 := 2, res := sv y40, σ' := [.blk 74 [.row 1 (x22).length], .row 5 1 (encL (eInt .u8) x22)], e := [1, 2] } })]) (by kernel_rfl) (allc (C_wire_Writer_Bytes (⟨x22⟩ : T_wire_Writer) y40 hy40) all0) (norm ?_)
    obtain rfl := some_eq h
    exact At.ret fun a w hs => ret_ok hR (ρ := []) (gs := []) (by kernel_rfl) all0 (by kernel_rfl) rfl rfl a w hs _ (.inl rfl)
set_option maxRecDepth 100000 in
theorem C_wire_Open (p0 : ByteArray) (r : T_wire_Reader) (h : F_wire_Open p0 = some r) : FnOK Try.prog 18 [sv p0] [] (.ptr 0 0) [.blk 89 (T_wire_Reader.pvs r)] [] := by
  rw [F_wire_Open] at h
  refine FnOK.intro Try.func18 rfl (by kernel_rfl) (by kernel_rfl) fun E gv R hR => ?_
  refine At.seq ?_
  refine At.region_end [0] [] _ (st' := ⟨[(0, sv p0)], []⟩) (tips := []) (by kernel_rfl) all0 (norm ?_)
  refine At.seq ?_
  refine At.region_end [2] [0] _ (st' := ⟨[(2, .ptr 0 0)], [.blk 89 [sv p0, i64 0]]⟩) (tips := []) (by kernel_rfl) all0 (norm ?_)
  obtain rfl := some_eq h
  exact At.ret fun a w hs => ret_ok hR (ρ := [0]) (gs := []) (by kernel_rfl) all0 (by kernel_rfl) rfl rfl a w hs _ (.inl rfl)
set_option maxRecDepth 100000 in
theorem C_vint_Get (p0 : ByteArray) (p1 : Int) (r : Int × Int × Int) (h : F_vint_Get p0 p1 = some r) : FnOK Try.prog 80 [sv p0, i64 p1] [] (.tup [u64 r.1, i64 r.2.1, i64 r.2.2]) [] [] := by
  rw [F_vint_Get] at h
  refine FnOK.intro Try.func80 rfl (by kernel_rfl) (by kernel_rfl) fun E gv R hR => ?_
  refine At.seq ?_
  refine At.region_end [0, 1] [] _ (st' := ⟨[(0, sv p0), (1, i64 p1)], []⟩) (tips := []) (by kernel_rfl) all0 (norm ?_)
  refine At.scope ?_
  refine At.seq ?_
  refine At.seqJ (S := Bool) (fun s => ⟨[(0, sv p0), (1, i64 p1), (18, bo s)], []⟩) (fun s => F_vint_Get_J1 p0 p1 s = some r) ?_ ?_
  · rcases tf (decide (p1 < 0)) with b173 | b173
    · replace h := cond_t b173 h
      refine At.region_end [0, 1, 18] [] _ (st' := ⟨[(0, sv p0), (1, i64 p1), (18, bo true)], []⟩) (tips := [(2, { orc := .val (.bool true) })]) (by kernel_rfl) (allc (congrArg D.bool b173) all0) (fun a w hs => ⟨true, h, hs⟩)
    · replace h := cond_f b173 h
      refine At.region_end [0, 1, 18] [] _ (st' := ⟨[(0, sv p0), (1, i64 p1), (18, bo (decide ((p0.size : Int) < p1)))], []⟩) (tips := [(2, { orc := .val (.bool false) })]) (by kernel_rfl) (allc (congrArg D.bool b173) all0) (fun a w hs => ⟨(decide ((p0.size : Int) < p1)), h, hs⟩)
  · intro x6 h
    replace h : F_vint_Get_J1 p0 p1 x6 = some r := h
    rw [F_vint_Get_J1] at h
    refine At.cond x6 (by kernel_rfl) (fun b7 => ?_) (fun b7 => ?_)
    · replace h := cond_t b7 h
      refine At.seq ?_
      refine At.region_end [4, 5, 6] [] _ (st' := ⟨[(4, u64 0), (5, i64 0), (6, i64 1)], []⟩) (tips := []) (by kernel_rfl) all0 (norm ?_)
      obtain rfl := some_eq h
      exact At.ret fun a w hs => ret_ok hR (ρ := []) (gs := []) (by kernel_rfl) all0 (by kernel_rfl) rfl rfl a w hs _ (.inl rfl)
    · replace h := cond_f b7 h
      refine At.nar [0, 1] [] (st' := ⟨[(0, sv p0), (1, i64 p1)], []⟩) (by kernel_rfl) ?_
      refine At.skip (norm ?_)
      refine At.seq ?_
      refine At.region_end [0, 1, 7] [] _ (st' := ⟨[(0, sv p0), (1, i64 p1), (7, i64 2)], []⟩) (tips := []) (by kernel_rfl) all0 (norm ?_)
      refine At.seq ?_
      refine At.region_end [0, 1, 7, 8] [] _ (st' := ⟨[(0, sv p0), (1, i64 p1), (7, i64 2), (8, u64 0)], []⟩) (tips := []) (by kernel_rfl) all0 (norm ?_)
      refine At.seq ?_
      refine At.label (norm ?_)
      refine At.seqJ (S := Int) (fun s => ⟨[(7, i64 s)], []⟩) (fun s => F_vint_Get_J2 s = some r) ?_ ?_
      · refine At.seq ?_
        obtain ⟨g93, h⟩ := grd_some h
        obtain ⟨g94, h⟩ := grd_some h
        refine At.region_end [1, 7, 8, 22, 23, 24] [0] _ (st' := ⟨[(1, i64 p1), (7, i64 2), (8, u64 0), (22, .row 0 ((sB (p0.extract (Int.toNat p1) (Int.toNat (p0.size : Int))))).length), (23, i64 (((sB (p0.extract (Int.toNat p1) (Int.toNat (p0.size : Int))))).length : Int)), (24, i64 0)], [.row 5 1 (encL (eInt .u8) (sB (p0.extract (Int.toNat p1) (Int.toNat (p0.size : Int)))))]⟩) (tips := [(3, { form := some ((sB (p0.extract (Int.toNat p1) (Int.toNat (p0.size : Int)))).length, encL (eInt .u8) (sB (p0.extract (Int.toNat p1) (Int.toNat (p0.size : Int))))) })]) (by kernel_rfl) (allc g93 (allc (len_sB (p0.extract (Int.toNat p1) (Int.toNat (p0.size : Int)))) (allc (encL_sB (p0.extract (Int.toNat p1) (Int.toNat (p0.size : Int)))) (allc g94 all0)))) (norm ?_)
        refine At.block ?_
        refine At.loop (fun s : (Int × Int) => F_vint_Get_L5 p0 p1 s.1 s.2) (fun s : (Int × Int) => ⟨[(1, i64 p1), (7, i64 2), (8, u64 s.1), (22, .row 0 ((sB (p0.extract (Int.toNat p1) (Int.toNat (p0.size : Int))))).length), (23, i64 (((sB (p0.extract (Int.toNat p1) (Int.toNat (p0.size : Int))))).length : Int)), (24, i64 s.2)], [.row 5 1 (encL (eInt .u8) (sB (p0.extract (Int.toNat p1) (Int.toNat (p0.size : Int)))))]⟩) r (0, 0) h ?_
        rintro ⟨x95, x96⟩ oo97 h f98
        replace h : F_vint_Get_L5 p0 p1 x95 x96 = some oo97 := h
        rw [F_vint_Get_L5] at h
        refine At.seq ?_
        refine At.region_end [1, 7, 8, 22, 23, 24, 25] [0] _ (st' := ⟨[(1, i64 p1), (7, i64 2), (8, u64 x95), (22, .row 0 ((sB (p0.extract (Int.toNat p1) (Int.toNat (p0.size : Int))))).length), (23, i64 (((sB (p0.extract (Int.toNat p1) (Int.toNat (p0.size : Int))))).length : Int)), (24, i64 x96), (25, bo (decide (x96 < (((sB (p0.extract (Int.toNat p1) (Int.toNat (p0.size : Int))))).length : Int))))], [.row 5 1 (encL (eInt .u8) (sB (p0.extract (Int.toNat p1) (Int.toNat (p0.size : Int)))))]⟩) (tips := []) (by kernel_rfl) all0 (norm ?_)
        refine At.seq ?_
        refine At.cond (decide (x96 < (((sB (p0.extract (Int.toNat p1) (Int.toNat (p0.size : Int))))).length : Int))) (by kernel_rfl) (fun b100 => ?_) (fun b100 => ?_)
        · replace h := cond_t b100 h
          refine At.nar [1, 7, 8, 22, 23, 24] [0] (st' := ⟨[(1, i64 p1), (7, i64 2), (8, u64 x95), (22, .row 0 ((sB (p0.extract (Int.toNat p1) (Int.toNat (p0.size : Int))))).length), (23, i64 (((sB (p0.extract (Int.toNat p1) (Int.toNat (p0.size : Int))))).length : Int)), (24, i64 x96)], [.row 5 1 (encL (eInt .u8) (sB (p0.extract (Int.toNat p1) (Int.toNat (p0.size : Int)))))]⟩) (by kernel_rfl) ?_
          refine At.skip (norm ?_)
          refine At.seq ?_
          refine At.block ?_
          refine At.seq ?_
          obtain ⟨y135, hy135, h⟩ := bind_some h
          refine At.region_end [1, 7, 8, 9, 10, 22, 23, 24] [0] _ (st' := ⟨[(1, i64 p1), (7, i64 2), (8, u64 x95), (9, i64 x96), (10, u8 y135), (22, .row 0 ((sB (p0.extract (Int.toNat p1) (Int.toNat (p0.size : Int))))).length), (23, i64 (((sB (p0.extract (Int.toNat p1) (Int.toNat (p0.size : Int))))).length : Int)), (24, i64 x96)], [.row 5 1 (encL (eInt .u8) (sB (p0.extract (Int.toNat p1) (Int.toNat (p0.size : Int)))))]⟩) (tips := [(2, { orc := .val (.int .u8 y135) })]) (by kernel_rfl) (allc ((rAt_of (he_int .u8) (d := .int .u8 y135) hy135 rfl).1) (allc ((rAt_of (he_int .u8) (d := .int .u8 y135) hy135 rfl).2) all0)) (norm ?_)
          refine At.seq ?_
          refine At.block ?_
          refine At.seqJ (S := Bool) (fun s => ⟨[(1, i64 p1), (7, i64 2), (8, u64 x95), (9, i64 x96), (10, u8 y135), (22, .row 0 ((sB (p0.extract (Int.toNat p1) (Int.toNat (p0.size : Int))))).length), (23, i64 (((sB (p0.extract (Int.toNat p1) (Int.toNat (p0.size : Int))))).length : Int)), (24, i64 x96), (29, bo s)], [.row 5 1 (encL (eInt .u8) (sB (p0.extract (Int.toNat p1) (Int.toNat (p0.size : Int)))))]⟩) (fun s => F_vint_Get_J3 p1 x95 x96 y135 s = some oo97) ?_ ?_
          · refine At.seqJ (S := Bool) (fun s => ⟨[(1, i64 p1), (7, i64 2), (8, u64 x95), (9, i64 x96), (10, u8 y135), (22, .row 0 ((sB (p0.extract (Int.toNat p1) (Int.toNat (p0.size : Int))))).length), (23, i64 (((sB (p0.extract (Int.toNat p1) (Int.toNat (p0.size : Int))))).length : Int)), (24, i64 x96), (29, bo s)], [.row 5 1 (encL (eInt .u8) (sB (p0.extract (Int.toNat p1) (Int.toNat (p0.size : Int)))))]⟩) (fun s => F_vint_Get_J4 p1 x95 x96 y135 s = some oo97) ?_ ?_
            · rcases tf (x96 == 9) with b170 | b170
              · replace h := cond_t b170 h
                refine At.region_end [1, 7, 8, 9, 10, 22, 23, 24, 29] [0] _ (st' := ⟨[(1, i64 p1), (7, i64 2), (8, u64 x95), (9, i64 x96), (10, u8 y135), (22, .row 0 ((sB (p0.extract (Int.toNat p1) (Int.toNat (p0.size : Int))))).length), (23, i64 (((sB (p0.extract (Int.toNat p1) (Int.toNat (p0.size : Int))))).length : Int)), (24, i64 x96), (29, bo (decide (1 < y135)))], [.row 5 1 (encL (eInt .u8) (sB (p0.extract (Int.toNat p1) (Int.toNat (p0.size : Int)))))]⟩) (tips := [(2, { orc := .val (.bool true) })]) (by kernel_rfl) (allc (congrArg D.bool b170) all0) (fun a w hs => ⟨(decide (1 < y135)), h, hs⟩)
              · replace h := cond_f b170 h
                refine At.region_end [1, 7, 8, 9, 10, 22, 23, 24, 29] [0] _ (st' := ⟨[(1, i64 p1), (7, i64 2), (8, u64 x95), (9, i64 x96), (10, u8 y135), (22, .row 0 ((sB (p0.extract (Int.toNat p1) (Int.toNat (p0.size : Int))))).length), (23, i64 (((sB (p0.extract (Int.toNat p1) (Int.toNat (p0.size : Int))))).length : Int)), (24, i64 x96), (29, bo false)], [.row 5 1 (encL (eInt .u8) (sB (p0.extract (Int.toNat p1) (Int.toNat (p0.size : Int)))))]⟩) (tips := [(2, { orc := .val (.bool false) })]) (by kernel_rfl) (allc (congrArg D.bool b170) all0) (fun a w hs => ⟨false, h, hs⟩)
            · intro x167 h
              replace h : F_vint_Get_J4 p1 x95 x96 y135 x167 = some oo97 := h
              rw [F_vint_Get_J4] at h
              refine At.cond x167 (by kernel_rfl) (fun b168 => ?_) (fun b168 => ?_)
              · replace h := cond_t b168 h
                refine At.skip (fun a w hs => ⟨x167, h, hs⟩)
              · replace h := cond_f b168 h
                rcases tf (decide (0 < x96)) with b169 | b169
                · replace h := cond_t b169 h
                  refine At.region_end [1, 7, 8, 9, 10, 22, 23, 24, 29] [0] _ (st' := ⟨[(1, i64 p1), (7, i64 2), (8, u64 x95), (9, i64 x96), (10, u8 y135), (22, .row 0 ((sB (p0.extract (Int.toNat p1) (Int.toNat (p0.size : Int))))).length), (23, i64 (((sB (p0.extract (Int.toNat p1) (Int.toNat (p0.size : Int))))).length : Int)), (24, i64 x96), (29, bo (y135 == 0))], [.row 5 1 (encL (eInt .u8) (sB (p0.extract (Int.toNat p1) (Int.toNat (p0.size : Int)))))]⟩) (tips := [(2, { orc := .val (.bool true) })]) (by kernel_rfl) (allc (congrArg D.bool b169) all0) (fun a w hs => ⟨(y135 == 0), h, hs⟩)
                · replace h := cond_f b169 h
                  refine At.region_end [1, 7, 8, 9, 10, 22, 23, 24, 29] [0] _ (st' := ⟨[(1, i64 p1), (7, i64 2), (8, u64 x95), (9, i64 x96), (10, u8 y135), (22, .row 0 ((sB (p0.extract (Int.toNat p1) (Int.toNat (p0.size : Int))))).length), (23, i64 (((sB (p0.extract (Int.toNat p1) (Int.toNat (p0.size : Int))))).length : Int)), (24, i64 x96), (29, bo false)], [.row 5 1 (encL (eInt .u8) (sB (p0.extract (Int.toNat p1) (Int.toNat (p0.size : Int)))))]⟩) (tips := [(2, { orc := .val (.bool false) })]) (by kernel_rfl) (allc (congrArg D.bool b169) all0) (fun a w hs => ⟨false, h, hs⟩)
          · intro x156 h
            replace h : F_vint_Get_J3 p1 x95 x96 y135 x156 = some oo97 := h
            rw [F_vint_Get_J3] at h
            refine At.cond x156 (by kernel_rfl) (fun b157 => ?_) (fun b157 => ?_)
            · replace h := cond_t b157 h
              refine At.seq ?_
              refine At.region_end [7] [] _ (st' := ⟨[(7, i64 3)], []⟩) (tips := []) (by kernel_rfl) all0 (norm ?_)
              obtain ⟨r158, h, e159⟩ := map_inr h
              rw [f98 _ e159] at h
              refine At.exit (fun a w hs => ⟨3, h, hs⟩)
            · replace h := cond_f b157 h
              refine At.seq ?_
              refine At.region_end [1, 7, 8, 9, 10, 22, 23, 24, 42] [0] _ (st' := ⟨[(1, i64 p1), (7, i64 2), (8, u64 x95), (9, i64 x96), (10, u8 y135), (22, .row 0 ((sB (p0.extract (Int.toNat p1) (Int.toNat (p0.size : Int))))).length), (23, i64 (((sB (p0.extract (Int.toNat p1) (Int.toNat (p0.size : Int))))).length : Int)), (24, i64 x96), (42, bo (decide (y135 < 128)))], [.row 5 1 (encL (eInt .u8) (sB (p0.extract (Int.toNat p1) (Int.toNat (p0.size : Int)))))]⟩) (tips := []) (by kernel_rfl) all0 (norm ?_)
              refine At.cond (decide (y135 < 128)) (by kernel_rfl) (fun b160 => ?_) (fun b160 => ?_)
              · replace h := cond_t b160 h
                refine At.seq ?_
                obtain ⟨g162, h⟩ := grd_some h
                refine At.region_end [4, 5, 6] [] _ (st' := ⟨[(4, u64 (bits .or .u64 x95 (wu64 ((wu64 y135) * 2 ^ (min (Int.toNat (w64 (7 * x96))) 64))))), (5, i64 (w64 ((w64 (p1 + x96)) + 1))), (6, i64 0)], []⟩) (tips := []) (by kernel_rfl) (allc g162 all0) (norm ?_)
                obtain ⟨r163, h, e164⟩ := map_inr h
                rw [f98 _ e164] at h
                obtain rfl := some_eq h
                exact At.ret fun a w hs => ret_ok hR (ρ := []) (gs := []) (by kernel_rfl) all0 (by kernel_rfl) rfl rfl a w hs _ (.inl rfl)
              · replace h := cond_f b160 h
                refine At.nar [1, 7, 8, 9, 10, 22, 23, 24] [0] (st' := ⟨[(1, i64 p1), (7, i64 2), (8, u64 x95), (9, i64 x96), (10, u8 y135), (22, .row 0 ((sB (p0.extract (Int.toNat p1) (Int.toNat (p0.size : Int))))).length), (23, i64 (((sB (p0.extract (Int.toNat p1) (Int.toNat (p0.size : Int))))).length : Int)), (24, i64 x96)], [.row 5 1 (encL (eInt .u8) (sB (p0.extract (Int.toNat p1) (Int.toNat (p0.size : Int)))))]⟩) (by kernel_rfl) ?_
                refine At.skip (norm ?_)
                obtain ⟨g165, h⟩ := grd_some h
                refine At.region_end [1, 7, 8, 22, 23, 24] [0] _ (st' := ⟨[(1, i64 p1), (7, i64 2), (8, u64 (bits .or .u64 x95 (wu64 ((wu64 (bits .and .u8 y135 127)) * 2 ^ (min (Int.toNat (w64 (7 * x96))) 64))))), (22, .row 0 ((sB (p0.extract (Int.toNat p1) (Int.toNat (p0.size : Int))))).length), (23, i64 (((sB (p0.extract (Int.toNat p1) (Int.toNat (p0.size : Int))))).length : Int)), (24, i64 x96)], [.row 5 1 (encL (eInt .u8) (sB (p0.extract (Int.toNat p1) (Int.toNat (p0.size : Int)))))]⟩) (tips := []) (by kernel_rfl) (allc g165 all0) (norm ?_)
                refine At.region_end [1, 7, 8, 22, 23, 24] [0] _ (st' := ⟨[(1, i64 p1), (7, i64 2), (8, u64 (bits .or .u64 x95 (wu64 ((wu64 (bits .and .u8 y135 127)) * 2 ^ (min (Int.toNat (w64 (7 * x96))) 64))))), (22, .row 0 ((sB (p0.extract (Int.toNat p1) (Int.toNat (p0.size : Int))))).length), (23, i64 (((sB (p0.extract (Int.toNat p1) (Int.toNat (p0.size : Int))))).length : Int)), (24, i64 (w64 (x96 + 1)))], [.row 5 1 (encL (eInt .u8) (sB (p0.extract (Int.toNat p1) (Int.toNat (p0.size : Int)))))]⟩) (tips := []) (by kernel_rfl) all0 (fun a w hs => ⟨_, (some_eq h).symm, hs⟩)
        · replace h := cond_f b100 h
          refine At.nar [7] [] (st' := ⟨[(7, i64 2)], []⟩) (by kernel_rfl) ?_
          obtain ⟨r171, h, e172⟩ := map_inr h
          rw [f98 _ e172] at h
          refine At.exit (fun a w hs => ⟨2, h, hs⟩)
      · intro x90 h
        replace h : F_vint_Get_J2 x90 = some r := h
        rw [F_vint_Get_J2] at h
        refine At.seq ?_
        refine At.region_end [4, 5, 6] [] _ (st' := ⟨[(4, u64 0), (5, i64 0), (6, i64 x90)], []⟩) (tips := []) (by kernel_rfl) all0 (norm ?_)
        obtain rfl := some_eq h
        exact At.ret fun a w hs => ret_ok hR (ρ := []) (gs := []) (by kernel_rfl) all0 (by kernel_rfl) rfl rfl a w hs _ (.inl rfl)
set_option maxRecDepth 100000 in
theorem C_wire_Reader_Upto_1 (p0 : ByteArray) (o0_0 : Int) (o1_0 : Int) (r : Int × Int × Int) (h : F_wire_Reader_Upto_1 p0 o0_0 o1_0 = some r) : FnOK Try.prog 79 [sv p0, .ptr 0 0, .ptr 1 0] [.blk 79 [u64 o0_0], .blk 3 [i64 o1_0]] (.tup [i64 r.1, i64 r.2.1]) [.blk 79 [u64 r.2.2], .blk 3 [i64 o1_0]] [1, 3] := by
  rw [F_wire_Reader_Upto_1] at h
  refine FnOK.intro Try.func79 rfl (by kernel_rfl) (by kernel_rfl) fun E gv R hR => ?_
  refine At.seq ?_
  refine At.region_end [0, 1, 2] [0, 1, 2, 3] _ (st' := ⟨[(0, sv p0), (1, .ptr 0 0), (2, .ptr 1 0)], [.blk 79 [u64 o0_0], .blk 3 [i64 o1_0], .ghost (gv 0) (.ptr 0 0), .ghost (gv 1) (.ptr 1 0)]⟩) (tips := []) (by kernel_rfl) all0 (norm ?_)
  refine At.seq ?_
  obtain ⟨y2, hy2, h⟩ := bind_some h
  refine At.region_end [1, 2, 4, 5] [0, 1, 2, 3] _ (st' := ⟨[(1, .ptr 0 0), (2, .ptr 1 0), (4, i64 y2.2.1), (5, i64 y2.2.2)], [.blk 79 [u64 y2.1], .blk 3 [i64 o1_0], .ghost (gv 0) (.ptr 0 0), .ghost (gv 1) (.ptr 1 0)]⟩) (tips := [(1, { pc := some { ρ := [], n0 := 0, res := .tup [u64 y2.1, i64 y2.2.1, i64 y2.2.2], σ' := [], e := [] } })]) (by kernel_rfl) (allc (C_vint_Get p0 0 y2 hy2) all0) (norm ?_)
  refine At.seq ?_
  refine At.seqJ (S := Bool) (fun s => ⟨[(4, i64 y2.2.1), (5, i64 y2.2.2), (23, bo s)], [.blk 79 [u64 y2.1], .blk 3 [i64 o1_0], .ghost (gv 0) (.ptr 0 0), .ghost (gv 1) (.ptr 1 0)]⟩) (fun s => F_wire_Reader_Upto_1_J1 y2 s = some r) ?_ ?_
  · rcases tf (y2.2.2 == 0) with b13 | b13
    · replace h := cond_t b13 h
      rcases tf (decide (o1_0 < 0)) with b14 | b14
      · replace h := cond_t b14 h
        refine At.region_end [4, 5, 23] [0, 1, 2, 3] _ (st' := ⟨[(4, i64 y2.2.1), (5, i64 y2.2.2), (23, bo true)], [.blk 79 [u64 y2.1], .blk 3 [i64 o1_0], .ghost (gv 0) (.ptr 0 0), .ghost (gv 1) (.ptr 1 0)]⟩) (tips := [(2, { orc := .val (.bool true) }), (5, { orc := .val (.bool true) })]) (by kernel_rfl) (allc (congrArg D.bool b13) (allc (congrArg D.bool b14) all0)) (fun a w hs => ⟨true, h, hs⟩)
      · replace h := cond_f b14 h
        refine At.region_end [4, 5, 23] [0, 1, 2, 3] _ (st' := ⟨[(4, i64 y2.2.1), (5, i64 y2.2.2), (23, bo (decide ((wu64 o1_0) < y2.1)))], [.blk 79 [u64 y2.1], .blk 3 [i64 o1_0], .ghost (gv 0) (.ptr 0 0), .ghost (gv 1) (.ptr 1 0)]⟩) (tips := [(2, { orc := .val (.bool true) }), (5, { orc := .val (.bool false) })]) (by kernel_rfl) (allc (congrArg D.bool b13) (allc (congrArg D.bool b14) all0)) (fun a w hs => ⟨(decide ((wu64 o1_0) < y2.1)), h, hs⟩)
    · replace h := cond_f b13 h
      refine At.region_end [4, 5, 23] [0, 1, 2, 3] _ (st' := ⟨[(4, i64 y2.2.1), (5, i64 y2.2.2), (23, bo false)], [.blk 79 [u64 y2.1], .blk 3 [i64 o1_0], .ghost (gv 0) (.ptr 0 0), .ghost (gv 1) (.ptr 1 0)]⟩) (tips := [(2, { orc := .val (.bool false) })]) (by kernel_rfl) (allc (congrArg D.bool b13) all0) (fun a w hs => ⟨false, h, hs⟩)
  · intro x11 h
    replace h : F_wire_Reader_Upto_1_J1 y2 x11 = some r := h
    rw [F_wire_Reader_Upto_1_J1] at h
    refine At.cond x11 (by kernel_rfl) (fun b12 => ?_) (fun b12 => ?_)
    · replace h := cond_t b12 h
      refine At.seq ?_
      refine At.region_end [4, 5] [0, 1, 2, 3] _ (st' := ⟨[(4, i64 0), (5, i64 6)], [.blk 79 [u64 y2.1], .blk 3 [i64 o1_0], .ghost (gv 0) (.ptr 0 0), .ghost (gv 1) (.ptr 1 0)]⟩) (tips := []) (by kernel_rfl) all0 (norm ?_)
      obtain rfl := some_eq h
      exact At.ret fun a w hs => ret_ok hR (ρ := [0, 1]) (gs := [.ghost (gv 0) (.ptr 0 0), .ghost (gv 1) (.ptr 1 0)]) (by kernel_rfl) all0 (by kernel_rfl) rfl rfl a w hs _ (.inl rfl)
    · replace h := cond_f b12 h
      refine At.nar [4, 5] [0, 1, 2, 3] (st' := ⟨[(4, i64 y2.2.1), (5, i64 y2.2.2)], [.blk 79 [u64 y2.1], .blk 3 [i64 o1_0], .ghost (gv 0) (.ptr 0 0), .ghost (gv 1) (.ptr 1 0)]⟩) (by kernel_rfl) ?_
      refine At.skip (norm ?_)
      refine At.seq ?_
      refine At.region_end [4, 5] [0, 1, 2, 3] _ (st' := ⟨[(4, i64 y2.2.1), (5, i64 y2.2.2)], [.blk 79 [u64 y2.1], .blk 3 [i64 o1_0], .ghost (gv 0) (.ptr 0 0), .ghost (gv 1) (.ptr 1 0)]⟩) (tips := []) (by kernel_rfl) all0 (norm ?_)
      obtain rfl := some_eq h
      exact At.ret fun a w hs => ret_ok hR (ρ := [0, 1]) (gs := [.ghost (gv 0) (.ptr 0 0), .ghost (gv 1) (.ptr 1 0)]) (by kernel_rfl) all0 (by kernel_rfl) rfl rfl a w hs _ (.inl rfl)
set_option maxRecDepth 100000 in
theorem C_wire_Reader_step (o0 : T_wire_Reader) (o1_0 : Int) (o2_0 : Int) (r : Bool × T_wire_Reader × Int) (h : F_wire_Reader_step o0 o1_0 o2_0 = some r) : FnOK Try.prog 52 [.ptr 0 0, .fn (.func 79) [] [.ptr 1 0, .ptr 2 0]] [.blk 89 (T_wire_Reader.pvs o0), .blk 79 [u64 o1_0], .blk 3 [i64 o2_0]] (bo r.1) [.blk 89 (T_wire_Reader.pvs r.2.1), .blk 79 [u64 r.2.2], .blk 3 [i64 o2_0]] [1, 3, 5] := by
  rw [F_wire_Reader_step] at h
  refine FnOK.intro Try.func52 rfl (by kernel_rfl) (by kernel_rfl) fun E gv R hR => ?_
  refine At.seq ?_
  refine At.region_end [0, 1] [0, 1, 2, 3, 4, 5] _ (st' := ⟨[(0, .ptr 0 0), (1, .fn (.func 79) [] [.ptr 1 0, .ptr 2 0])], [.blk 89 (T_wire_Reader.pvs o0), .blk 79 [u64 o1_0], .blk 3 [i64 o2_0], .ghost (gv 0) (.ptr 0 0), .ghost (gv 1) (.ptr 1 0), .ghost (gv 2) (.ptr 2 0)]⟩) (tips := []) (by kernel_rfl) all0 (norm ?_)
  refine At.seq ?_
  refine At.seq ?_
  refine At.region_end [0, 1, 15] [0, 1, 2, 3, 4, 5] _ (st' := ⟨[(0, .ptr 0 0), (1, .fn (.func 79) [] [.ptr 1 0, .ptr 2 0]), (15, bo (o0.e != 0))], [.blk 89 (T_wire_Reader.pvs o0), .blk 79 [u64 o1_0], .blk 3 [i64 o2_0], .ghost (gv 0) (.ptr 0 0), .ghost (gv 1) (.ptr 1 0), .ghost (gv 2) (.ptr 2 0)]⟩) (tips := []) (by kernel_rfl) all0 (norm ?_)
  refine At.cond (o0.e != 0) (by kernel_rfl) (fun b2 => ?_) (fun b2 => ?_)
  · replace h := cond_t b2 h
    refine At.seq ?_
    refine At.region_end [4] [0, 1, 2, 3, 4, 5] _ (st' := ⟨[(4, bo false)], [.blk 89 (T_wire_Reader.pvs o0), .blk 79 [u64 o1_0], .blk 3 [i64 o2_0], .ghost (gv 0) (.ptr 0 0), .ghost (gv 1) (.ptr 1 0), .ghost (gv 2) (.ptr 2 0)]⟩) (tips := []) (by kernel_rfl) all0 (norm ?_)
    obtain rfl := some_eq h
    exact At.ret fun a w hs => ret_ok hR (ρ := [0, 1, 2]) (gs := [.ghost (gv 0) (.ptr 0 0), .ghost (gv 1) (.ptr 1 0), .ghost (gv 2) (.ptr 2 0)]) (by kernel_rfl) all0 (by kernel_rfl) rfl rfl a w hs _ (.inl rfl)
  · replace h := cond_f b2 h
    refine At.nar [0, 1] [0, 1, 2, 3, 4, 5] (st' := ⟨[(0, .ptr 0 0), (1, .fn (.func 79) [] [.ptr 1 0, .ptr 2 0])], [.blk 89 (T_wire_Reader.pvs o0), .blk 79 [u64 o1_0], .blk 3 [i64 o2_0], .ghost (gv 0) (.ptr 0 0), .ghost (gv 1) (.ptr 1 0), .ghost (gv 2) (.ptr 2 0)]⟩) (by kernel_rfl) ?_
    refine At.skip (norm ?_)
    refine At.seq ?_
    obtain ⟨y4, hy4, h⟩ := bind_some h
    refine At.region_end [0, 5, 6] [0, 1, 2, 3, 4, 5] _ (st' := ⟨[(0, .ptr 0 0), (5, i64 y4.1), (6, i64 y4.2.1)], [.blk 89 (T_wire_Reader.pvs o0), .blk 79 [u64 y4.2.2], .blk 3 [i64 o2_0], .ghost (gv 0) (.ptr 0 0), .ghost (gv 1) (.ptr 1 0), .ghost (gv 2) (.ptr 2 0)]⟩) (tips := [(5, { pc := some { ρ := [1, 2], n0 := 2, res := .tup [i64 y4.1, i64 y4.2.1], σ' := [.blk 79 [u64 y4.2.2], .blk 3 [i64 o2_0]], e := [1, 3] } })]) (by kernel_rfl) (allc (C_wire_Reader_Upto_1 o0.s o1_0 o2_0 y4 hy4) all0) (norm ?_)
    refine At.seq ?_
    refine At.seq ?_
    refine At.region_end [0, 5, 6, 26] [0, 1, 2, 3, 4, 5] _ (st' := ⟨[(0, .ptr 0 0), (5, i64 y4.1), (6, i64 y4.2.1), (26, bo (y4.2.1 != 0))], [.blk 89 (T_wire_Reader.pvs o0), .blk 79 [u64 y4.2.2], .blk 3 [i64 o2_0], .ghost (gv 0) (.ptr 0 0), .ghost (gv 1) (.ptr 1 0), .ghost (gv 2) (.ptr 2 0)]⟩) (tips := []) (by kernel_rfl) all0 (norm ?_)
    refine At.cond (y4.2.1 != 0) (by kernel_rfl) (fun b6 => ?_) (fun b6 => ?_)
    · replace h := cond_t b6 h
      refine At.seq ?_
      refine At.region_end [] [0, 1, 2, 3, 4, 5] _ (st' := ⟨[], [.blk 89 [sv o0.s, i64 y4.2.1], .blk 79 [u64 y4.2.2], .blk 3 [i64 o2_0], .ghost (gv 0) (.ptr 0 0), .ghost (gv 1) (.ptr 1 0), .ghost (gv 2) (.ptr 2 0)]⟩) (tips := []) (by kernel_rfl) all0 (norm ?_)
      refine At.seq ?_
      refine At.region_end [4] [0, 1, 2, 3, 4, 5] _ (st' := ⟨[(4, bo false)], [.blk 89 [sv o0.s, i64 y4.2.1], .blk 79 [u64 y4.2.2], .blk 3 [i64 o2_0], .ghost (gv 0) (.ptr 0 0), .ghost (gv 1) (.ptr 1 0), .ghost (gv 2) (.ptr 2 0)]⟩) (tips := []) (by kernel_rfl) all0 (norm ?_)
      obtain rfl := some_eq h
      exact At.ret fun a w hs => ret_ok hR (ρ := [0, 1, 2]) (gs := [.ghost (gv 0) (.ptr 0 0), .ghost (gv 1) (.ptr 1 0), .ghost (gv 2) (.ptr 2 0)]) (by kernel_rfl) all0 (by kernel_rfl) rfl rfl a w hs _ (.inl rfl)
    · replace h := cond_f b6 h
      refine At.nar [0, 5] [0, 1, 2, 3, 4, 5] (st' := ⟨[(0, .ptr 0 0), (5, i64 y4.1)], [.blk 89 (T_wire_Reader.pvs o0), .blk 79 [u64 y4.2.2], .blk 3 [i64 o2_0], .ghost (gv 0) (.ptr 0 0), .ghost (gv 1) (.ptr 1 0), .ghost (gv 2) (.ptr 2 0)]⟩) (by kernel_rfl) ?_
      refine At.skip (norm ?_)
      refine At.seq ?_
      obtain ⟨g8, h⟩ := grd_some h
      refine At.region_end [] [0, 1, 2, 3, 4, 5] _ (st' := ⟨[], [.blk 89 [sv (o0.s.extract (Int.toNat y4.1) (Int.toNat (o0.s.size : Int))), i64 o0.e], .blk 79 [u64 y4.2.2], .blk 3 [i64 o2_0], .ghost (gv 0) (.ptr 0 0), .ghost (gv 1) (.ptr 1 0), .ghost (gv 2) (.ptr 2 0)]⟩) (tips := []) (by kernel_rfl) (allc g8 all0) (norm ?_)
      refine At.seq ?_
      refine At.region_end [4] [0, 1, 2, 3, 4, 5] _ (st' := ⟨[(4, bo true)], [.blk 89 [sv (o0.s.extract (Int.toNat y4.1) (Int.toNat (o0.s.size : Int))), i64 o0.e], .blk 79 [u64 y4.2.2], .blk 3 [i64 o2_0], .ghost (gv 0) (.ptr 0 0), .ghost (gv 1) (.ptr 1 0), .ghost (gv 2) (.ptr 2 0)]⟩) (tips := []) (by kernel_rfl) all0 (norm ?_)
      obtain rfl := some_eq h
      exact At.ret fun a w hs => ret_ok hR (ρ := [0, 1, 2]) (gs := [.ghost (gv 0) (.ptr 0 0), .ghost (gv 1) (.ptr 1 0), .ghost (gv 2) (.ptr 2 0)]) (by kernel_rfl) all0 (by kernel_rfl) rfl rfl a w hs _ (.inl rfl)
set_option maxRecDepth 100000 in
theorem C_wire_Reader_Upto (p1 : Int) (o0 : T_wire_Reader) (r : Int × T_wire_Reader) (h : F_wire_Reader_Upto p1 o0 = some r) : FnOK Try.prog 65 [.ptr 0 0, i64 p1] [.blk 89 (T_wire_Reader.pvs o0)] (i64 r.1) [.blk 89 (T_wire_Reader.pvs r.2)] [1] := by
  rw [F_wire_Reader_Upto] at h
  refine FnOK.intro Try.func65 rfl (by kernel_rfl) (by kernel_rfl) fun E gv R hR => ?_
  refine At.seq ?_
  refine At.region_end [0, 3] [0, 1, 2] _ (st' := ⟨[(0, .ptr 0 0), (3, .ptr 2 0)], [.blk 89 (T_wire_Reader.pvs o0), .ghost (gv 0) (.ptr 0 0), .blk 3 [i64 p1]]⟩) (tips := []) (by kernel_rfl) all0 (norm ?_)
  refine At.seq ?_
  refine At.region_end [0, 3, 5] [0, 1, 2, 3] _ (st' := ⟨[(0, .ptr 0 0), (3, .ptr 2 0), (5, .ptr 3 0)], [.blk 89 (T_wire_Reader.pvs o0), .ghost (gv 0) (.ptr 0 0), .blk 3 [i64 p1], .blk 79 [u64 0]]⟩) (tips := []) (by kernel_rfl) all0 (norm ?_)
  refine At.seq ?_
  obtain ⟨y2, hy2, h⟩ := bind_some h
  refine At.region_end [5, 6] [0, 1, 3] _ (st' := ⟨[(5, .ptr 2 0), (6, bo y2.1)], [.blk 89 (T_wire_Reader.pvs y2.2.1), .ghost (gv 0) (.ptr 0 0), .blk 79 [u64 y2.2.2]]⟩) (tips := [(2, { pc := some { ρ := [0, 3, 2], n0 := 3, res := bo y2.1, σ' := [.blk 89 (T_wire_Reader.pvs y2.2.1), .blk 79 [u64 y2.2.2], .blk 3 [i64 p1]], e := [1, 3, 5] } })]) (by kernel_rfl) (allc (C_wire_Reader_step o0 0 p1 y2 hy2) all0) (norm ?_)
  refine At.seq ?_
  refine At.seq ?_
  refine At.region_end [5, 11] [0, 1, 2] _ (st' := ⟨[(5, .ptr 2 0), (11, bo (!y2.1))], [.blk 89 (T_wire_Reader.pvs y2.2.1), .ghost (gv 0) (.ptr 0 0), .blk 79 [u64 y2.2.2]]⟩) (tips := []) (by kernel_rfl) all0 (norm ?_)
  refine At.cond (!y2.1) (by kernel_rfl) (fun b4 => ?_) (fun b4 => ?_)
  · replace h := cond_t b4 h
    refine At.seq ?_
    refine At.region_end [4] [0, 1] _ (st' := ⟨[(4, i64 0)], [.blk 89 (T_wire_Reader.pvs y2.2.1), .ghost (gv 0) (.ptr 0 0)]⟩) (tips := []) (by kernel_rfl) all0 (norm ?_)
    obtain rfl := some_eq h
    exact At.ret fun a w hs => ret_ok hR (ρ := [0]) (gs := [.ghost (gv 0) (.ptr 0 0)]) (by kernel_rfl) all0 (by kernel_rfl) rfl rfl a w hs _ (.inl rfl)
  · replace h := cond_f b4 h
    refine At.nar [5] [0, 1, 2] (st' := ⟨[(5, .ptr 2 0)], [.blk 89 (T_wire_Reader.pvs y2.2.1), .ghost (gv 0) (.ptr 0 0), .blk 79 [u64 y2.2.2]]⟩) (by kernel_rfl) ?_
    refine At.skip (norm ?_)
    refine At.seq ?_
    refine At.region_end [4] [0, 1] _ (st' := ⟨[(4, i64 (w64 y2.2.2))], [.blk 89 (T_wire_Reader.pvs y2.2.1), .ghost (gv 0) (.ptr 0 0)]⟩) (tips := []) (by kernel_rfl) all0 (norm ?_)
    obtain rfl := some_eq h
    exact At.ret fun a w hs => ret_ok hR (ρ := [0]) (gs := [.ghost (gv 0) (.ptr 0 0)]) (by kernel_rfl) all0 (by kernel_rfl) rfl rfl a w hs _ (.inl rfl)
set_option maxRecDepth 100000 in
theorem C_wire_Reader_Err (o0 : T_wire_Reader) (r : Int) (h : F_wire_Reader_Err o0 = some r) : FnOK Try.prog 24 [.ptr 0 0] [.blk 89 (T_wire_Reader.pvs o0)] (i64 r) [.blk 89 (T_wire_Reader.pvs o0)] [1] := by
  rw [F_wire_Reader_Err] at h
  refine FnOK.intro Try.func24 rfl (by kernel_rfl) (by kernel_rfl) fun E gv R hR => ?_
  refine At.seq ?_
  refine At.region_end [0] [0, 1] _ (st' := ⟨[(0, .ptr 0 0)], [.blk 89 (T_wire_Reader.pvs o0), .ghost (gv 0) (.ptr 0 0)]⟩) (tips := []) (by kernel_rfl) all0 (norm ?_)
  refine At.seq ?_
  refine At.seq ?_
  refine At.region_end [0, 4] [0, 1] _ (st' := ⟨[(0, .ptr 0 0), (4, bo false)], [.blk 89 (T_wire_Reader.pvs o0), .ghost (gv 0) (.ptr 0 0)]⟩) (tips := []) (by kernel_rfl) all0 (norm ?_)
  refine At.cond false (by kernel_rfl) (fun hb => by cases hb) (fun _ => ?_)
  refine At.nar [0] [0, 1] (st' := ⟨[(0, .ptr 0 0)], [.blk 89 (T_wire_Reader.pvs o0), .ghost (gv 0) (.ptr 0 0)]⟩) (by kernel_rfl) ?_
  refine At.skip (norm ?_)
  refine At.seq ?_
  refine At.region_end [2] [0, 1] _ (st' := ⟨[(2, i64 o0.e)], [.blk 89 (T_wire_Reader.pvs o0), .ghost (gv 0) (.ptr 0 0)]⟩) (tips := []) (by kernel_rfl) all0 (norm ?_)
  obtain rfl := some_eq h
  exact At.ret fun a w hs => ret_ok hR (ρ := [0]) (gs := [.ghost (gv 0) (.ptr 0 0)]) (by kernel_rfl) all0 (by kernel_rfl) rfl rfl a w hs _ (.inl rfl)
set_option maxRecDepth 100000 in
theorem C_vint_Zag (p0 : Int) (r : Int) (h : F_vint_Zag p0 = some r) : FnOK Try.prog 86 [u64 p0] [] (i64 r) [] [] := by
  rw [F_vint_Zag] at h
  refine FnOK.intro Try.func86 rfl (by kernel_rfl) (by kernel_rfl) fun E gv R hR => ?_
  refine At.seq ?_
  refine At.region_end [0] [] _ (st' := ⟨[(0, u64 p0)], []⟩) (tips := []) (by kernel_rfl) all0 (norm ?_)
  refine At.seq ?_
  refine At.region_end [2] [] _ (st' := ⟨[(2, i64 (bits .xor .i64 (w64 (Int.fdiv p0 2)) (w64 (0 - (w64 (bits .and .u64 p0 1))))))], []⟩) (tips := []) (by kernel_rfl) (allc (by decide : (0:Int) ≤ 1) all0) (norm ?_)
  obtain rfl := some_eq h
  exact At.ret fun a w hs => ret_ok hR (ρ := []) (gs := []) (by kernel_rfl) all0 (by kernel_rfl) rfl rfl a w hs _ (.inl rfl)
set_option maxRecDepth 100000 in
theorem C_vint_GetInt (p0 : ByteArray) (p1 : Int) (r : Int × Int × Int) (h : F_vint_GetInt p0 p1 = some r) : FnOK Try.prog 82 [sv p0, i64 p1] [] (.tup [i64 r.1, i64 r.2.1, i64 r.2.2]) [] [] := by
  rw [F_vint_GetInt] at h
  refine FnOK.intro Try.func82 rfl (by kernel_rfl) (by kernel_rfl) fun E gv R hR => ?_
  refine At.seq ?_
  refine At.region_end [0, 1] [] _ (st' := ⟨[(0, sv p0), (1, i64 p1)], []⟩) (tips := []) (by kernel_rfl) all0 (norm ?_)
  refine At.seq ?_
  obtain ⟨y2, hy2, h⟩ := bind_some h
  refine At.region_end [7, 8, 9] [] _ (st' := ⟨[(7, u64 y2.1), (8, i64 y2.2.1), (9, i64 y2.2.2)], []⟩) (tips := [(2, { pc := some { ρ := [], n0 := 0, res := .tup [u64 y2.1, i64 y2.2.1, i64 y2.2.2], σ' := [], e := [] } })]) (by kernel_rfl) (allc (C_vint_Get p0 p1 y2 hy2) all0) (norm ?_)
  refine At.seq ?_
  obtain ⟨y4, hy4, h⟩ := bind_some h
  refine At.region_end [4, 5, 6] [] _ (st' := ⟨[(4, i64 y4), (5, i64 y2.2.1), (6, i64 y2.2.2)], []⟩) (tips := [(1, { pc := some { ρ := [], n0 := 0, res := i64 y4, σ' := [], e := [] } })]) (by kernel_rfl) (allc (C_vint_Zag y2.1 y4 hy4) all0) (norm ?_)
  obtain rfl := some_eq h
  exact At.ret fun a w hs => ret_ok hR (ρ := []) (gs := []) (by kernel_rfl) all0 (by kernel_rfl) rfl rfl a w hs _ (.inl rfl)
set_option maxRecDepth 100000 in
theorem C_wire_Reader_Int_1 (p0 : ByteArray) (o0_0 : Int) (r : Int × Int × Int) (h : F_wire_Reader_Int_1 p0 o0_0 = some r) : FnOK Try.prog 81 [sv p0, .ptr 0 0] [.blk 2 [i64 o0_0]] (.tup [i64 r.1, i64 r.2.1]) [.blk 2 [i64 r.2.2]] [1] := by
  rw [F_wire_Reader_Int_1] at h
  refine FnOK.intro Try.func81 rfl (by kernel_rfl) (by kernel_rfl) fun E gv R hR => ?_
  refine At.seq ?_
  refine At.region_end [0, 1] [0, 1] _ (st' := ⟨[(0, sv p0), (1, .ptr 0 0)], [.blk 2 [i64 o0_0], .ghost (gv 0) (.ptr 0 0)]⟩) (tips := []) (by kernel_rfl) all0 (norm ?_)
  refine At.seq ?_
  obtain ⟨y2, hy2, h⟩ := bind_some h
  refine At.region_end [3, 4] [0, 1] _ (st' := ⟨[(3, i64 y2.2.1), (4, i64 y2.2.2)], [.blk 2 [i64 y2.1], .ghost (gv 0) (.ptr 0 0)]⟩) (tips := [(1, { pc := some { ρ := [], n0 := 0, res := .tup [i64 y2.1, i64 y2.2.1, i64 y2.2.2], σ' := [], e := [] } })]) (by kernel_rfl) (allc (C_vint_GetInt p0 0 y2 hy2) all0) (norm ?_)
  refine At.seq ?_
  refine At.region_end [3, 4] [0, 1] _ (st' := ⟨[(3, i64 y2.2.1), (4, i64 y2.2.2)], [.blk 2 [i64 y2.1], .ghost (gv 0) (.ptr 0 0)]⟩) (tips := []) (by kernel_rfl) all0 (norm ?_)
  obtain rfl := some_eq h
  exact At.ret fun a w hs => ret_ok hR (ρ := [0]) (gs := [.ghost (gv 0) (.ptr 0 0)]) (by kernel_rfl) all0 (by kernel_rfl) rfl rfl a w hs _ (.inl rfl)
set_option maxRecDepth 100000 in
theorem C_wire_Reader_step_v2 (o0 : T_wire_Reader) (o1_0 : Int) (r : Bool × T_wire_Reader × Int) (h : F_wire_Reader_step_v2 o0 o1_0 = some r) : FnOK Try.prog 52 [.ptr 0 0, .fn (.func 81) [] [.ptr 1 0]] [.blk 89 (T_wire_Reader.pvs o0), .blk 2 [i64 o1_0]] (bo r.1) [.blk 89 (T_wire_Reader.pvs r.2.1), .blk 2 [i64 r.2.2]] [1, 3] := by
  rw [F_wire_Reader_step_v2] at h
  refine FnOK.intro Try.func52 rfl (by kernel_rfl) (by kernel_rfl) fun E gv R hR => ?_
  refine At.seq ?_
  refine At.region_end [0, 1] [0, 1, 2, 3] _ (st' := ⟨[(0, .ptr 0 0), (1, .fn (.func 81) [] [.ptr 1 0])], [.blk 89 (T_wire_Reader.pvs o0), .blk 2 [i64 o1_0], .ghost (gv 0) (.ptr 0 0), .ghost (gv 1) (.ptr 1 0)]⟩) (tips := []) (by kernel_rfl) all0 (norm ?_)
  refine At.seq ?_
  refine At.seq ?_
  refine At.region_end [0, 1, 15] [0, 1, 2, 3] _ (st' := ⟨[(0, .ptr 0 0), (1, .fn (.func 81) [] [.ptr 1 0]), (15, bo (o0.e != 0))], [.blk 89 (T_wire_Reader.pvs o0), .blk 2 [i64 o1_0], .ghost (gv 0) (.ptr 0 0), .ghost (gv 1) (.ptr 1 0)]⟩) (tips := []) (by kernel_rfl) all0 (norm ?_)
  refine At.cond (o0.e != 0) (by kernel_rfl) (fun b2 => ?_) (fun b2 => ?_)
  · replace h := cond_t b2 h
    refine At.seq ?_
    refine At.region_end [4] [0, 1, 2, 3] _ (st' := ⟨[(4, bo false)], [.blk 89 (T_wire_Reader.pvs o0), .blk 2 [i64 o1_0], .ghost (gv 0) (.ptr 0 0), .ghost (gv 1) (.ptr 1 0)]⟩) (tips := []) (by kernel_rfl) all0 (norm ?_)
    obtain rfl := some_eq h
    exact At.ret fun a w hs => ret_ok hR (ρ := [0, 1]) (gs := [.ghost (gv 0) (.ptr 0 0), .ghost (gv 1) (.ptr 1 0)]) (by kernel_rfl) all0 (by kernel_rfl) rfl rfl a w hs _ (.inl rfl)
  · replace h := cond_f b2 h
    refine At.nar [0, 1] [0, 1, 2, 3] (st' := ⟨[(0, .ptr 0 0), (1, .fn (.func 81) [] [.ptr 1 0])], [.blk 89 (T_wire_Reader.pvs o0), .blk 2 [i64 o1_0], .ghost (gv 0) (.ptr 0 0), .ghost (gv 1) (.ptr 1 0)]⟩) (by kernel_rfl) ?_
    refine At.skip (norm ?_)
    refine At.seq ?_
    obtain ⟨y4, hy4, h⟩ := bind_some h
    refine At.region_end [0, 5, 6] [0, 1, 2, 3] _ (st' := ⟨[(0, .ptr 0 0), (5, i64 y4.1), (6, i64 y4.2.1)], [.blk 89 (T_wire_Reader.pvs o0), .blk 2 [i64 y4.2.2], .ghost (gv 0) (.ptr 0 0), .ghost (gv 1) (.ptr 1 0)]⟩) (tips := [(5, { pc := some { ρ := [1], n0 := 1, res := .tup [i64 y4.1, i64 y4.2.1], σ' := [.blk 2 [i64 y4.2.2]], e := [1] } })]) (by kernel_rfl) (allc (C_wire_Reader_Int_1 o0.s o1_0 y4 hy4) all0) (norm ?_)
    refine At.seq ?_
    refine At.seq ?_
    refine At.region_end [0, 5, 6, 26] [0, 1, 2, 3] _ (st' := ⟨[(0, .ptr 0 0), (5, i64 y4.1), (6, i64 y4.2.1), (26, bo (y4.2.1 != 0))], [.blk 89 (T_wire_Reader.pvs o0), .blk 2 [i64 y4.2.2], .ghost (gv 0) (.ptr 0 0), .ghost (gv 1) (.ptr 1 0)]⟩) (tips := []) (by kernel_rfl) all0 (norm ?_)
    refine At.cond (y4.2.1 != 0) (by kernel_rfl) (fun b6 => ?_) (fun b6 => ?_)
    · replace h := cond_t b6 h
      refine At.seq ?_
      refine At.region_end [] [0, 1, 2, 3] _ (st' := ⟨[], [.blk 89 [sv o0.s, i64 y4.2.1], .blk 2 [i64 y4.2.2], .ghost (gv 0) (.ptr 0 0), .ghost (gv 1) (.ptr 1 0)]⟩) (tips := []) (by kernel_rfl) all0 (norm ?_)
      refine At.seq ?_
      refine At.region_end [4] [0, 1, 2, 3] _ (st' := ⟨[(4, bo false)], [.blk 89 [sv o0.s, i64 y4.2.1], .blk 2 [i64 y4.2.2], .ghost (gv 0) (.ptr 0 0), .ghost (gv 1) (.ptr 1 0)]⟩) (tips := []) (by kernel_rfl) all0 (norm ?_)
      obtain rfl := some_eq h
      exact At.ret fun a w hs => ret_ok hR (ρ := [0, 1]) (gs := [.ghost (gv 0) (.ptr 0 0), .ghost (gv 1) (.ptr 1 0)]) (by kernel_rfl) all0 (by kernel_rfl) rfl rfl a w hs _ (.inl rfl)
    · replace h := cond_f b6 h
      refine At.nar [0, 5] [0, 1, 2, 3] (st' := ⟨[(0, .ptr 0 0), (5, i64 y4.1)], [.blk 89 (T_wire_Reader.pvs o0), .blk 2 [i64 y4.2.2], .ghost (gv 0) (.ptr 0 0), .ghost (gv 1) (.ptr 1 0)]⟩) (by kernel_rfl) ?_
      refine At.skip (norm ?_)
      refine At.seq ?_
      obtain ⟨g8, h⟩ := grd_some h
      refine At.region_end [] [0, 1, 2, 3] _ (st' := ⟨[], [.blk 89 [sv (o0.s.extract (Int.toNat y4.1) (Int.toNat (o0.s.size : Int))), i64 o0.e], .blk 2 [i64 y4.2.2], .ghost (gv 0) (.ptr 0 0), .ghost (gv 1) (.ptr 1 0)]⟩) (tips := []) (by kernel_rfl) (allc g8 all0) (norm ?_)
      refine At.seq ?_
      refine At.region_end [4] [0, 1, 2, 3] _ (st' := ⟨[(4, bo true)], [.blk 89 [sv (o0.s.extract (Int.toNat y4.1) (Int.toNat (o0.s.size : Int))), i64 o0.e], .blk 2 [i64 y4.2.2], .ghost (gv 0) (.ptr 0 0), .ghost (gv 1) (.ptr 1 0)]⟩) (tips := []) (by kernel_rfl) all0 (norm ?_)
      obtain rfl := some_eq h
      exact At.ret fun a w hs => ret_ok hR (ρ := [0, 1]) (gs := [.ghost (gv 0) (.ptr 0 0), .ghost (gv 1) (.ptr 1 0)]) (by kernel_rfl) all0 (by kernel_rfl) rfl rfl a w hs _ (.inl rfl)
set_option maxRecDepth 100000 in
theorem C_wire_Reader_Int (o0 : T_wire_Reader) (r : Int × T_wire_Reader) (h : F_wire_Reader_Int o0 = some r) : FnOK Try.prog 66 [.ptr 0 0] [.blk 89 (T_wire_Reader.pvs o0)] (i64 r.1) [.blk 89 (T_wire_Reader.pvs r.2)] [1] := by
  rw [F_wire_Reader_Int] at h
  refine FnOK.intro Try.func66 rfl (by kernel_rfl) (by kernel_rfl) fun E gv R hR => ?_
  refine At.seq ?_
  refine At.region_end [0] [0, 1] _ (st' := ⟨[(0, .ptr 0 0)], [.blk 89 (T_wire_Reader.pvs o0), .ghost (gv 0) (.ptr 0 0)]⟩) (tips := []) (by kernel_rfl) all0 (norm ?_)
  refine At.seq ?_
  refine At.region_end [0, 3] [0, 1, 2] _ (st' := ⟨[(0, .ptr 0 0), (3, .ptr 2 0)], [.blk 89 (T_wire_Reader.pvs o0), .ghost (gv 0) (.ptr 0 0), .blk 2 [i64 0]]⟩) (tips := []) (by kernel_rfl) all0 (norm ?_)
  refine At.seq ?_
  obtain ⟨y2, hy2, h⟩ := bind_some h
  refine At.region_end [3] [0, 1, 2] _ (st' := ⟨[(3, .ptr 2 0)], [.blk 89 (T_wire_Reader.pvs y2.2.1), .ghost (gv 0) (.ptr 0 0), .blk 2 [i64 y2.2.2]]⟩) (tips := [(2, { pc := some { ρ := [0, 2], n0 := 2, res := bo y2.1, σ' := [.blk 89 (T_wire_Reader.pvs y2.2.1), .blk 2 [i64 y2.2.2]], e := [1, 3] } })]) (by kernel_rfl) (allc (C_wire_Reader_step_v2 o0 0 y2 hy2) all0) (norm ?_)
  refine At.seq ?_
  refine At.region_end [2] [0, 1] _ (st' := ⟨[(2, i64 y2.2.2)], [.blk 89 (T_wire_Reader.pvs y2.2.1), .ghost (gv 0) (.ptr 0 0)]⟩) (tips := []) (by kernel_rfl) all0 (norm ?_)
  obtain rfl := some_eq h
  exact At.ret fun a w hs => ret_ok hR (ρ := [0]) (gs := [.ghost (gv 0) (.ptr 0 0)]) (by kernel_rfl) all0 (by kernel_rfl) rfl rfl a w hs _ (.inl rfl)
set_option maxRecDepth 100000 in
theorem C_wire_Reader_Left (o0 : T_wire_Reader) (r : Int) (h : F_wire_Reader_Left o0 = some r) : FnOK Try.prog 23 [.ptr 0 0] [.blk 89 (T_wire_Reader.pvs o0)] (i64 r) [.blk 89 (T_wire_Reader.pvs o0)] [1] := by
  rw [F_wire_Reader_Left] at h
  refine FnOK.intro Try.func23 rfl (by kernel_rfl) (by kernel_rfl) fun E gv R hR => ?_
  refine At.seq ?_
  refine At.region_end [0] [0, 1] _ (st' := ⟨[(0, .ptr 0 0)], [.blk 89 (T_wire_Reader.pvs o0), .ghost (gv 0) (.ptr 0 0)]⟩) (tips := []) (by kernel_rfl) all0 (norm ?_)
  refine At.seq ?_
  refine At.seq ?_
  refine At.region_end [0, 4] [0, 1] _ (st' := ⟨[(0, .ptr 0 0), (4, bo false)], [.blk 89 (T_wire_Reader.pvs o0), .ghost (gv 0) (.ptr 0 0)]⟩) (tips := []) (by kernel_rfl) all0 (norm ?_)
  refine At.cond false (by kernel_rfl) (fun hb => by cases hb) (fun _ => ?_)
  refine At.nar [0] [0, 1] (st' := ⟨[(0, .ptr 0 0)], [.blk 89 (T_wire_Reader.pvs o0), .ghost (gv 0) (.ptr 0 0)]⟩) (by kernel_rfl) ?_
  refine At.skip (norm ?_)
  refine At.seq ?_
  refine At.region_end [2] [0, 1] _ (st' := ⟨[(2, i64 (o0.s.size : Int))], [.blk 89 (T_wire_Reader.pvs o0), .ghost (gv 0) (.ptr 0 0)]⟩) (tips := []) (by kernel_rfl) all0 (norm ?_)
  obtain rfl := some_eq h
  exact At.ret fun a w hs => ret_ok hR (ρ := [0]) (gs := [.ghost (gv 0) (.ptr 0 0)]) (by kernel_rfl) all0 (by kernel_rfl) rfl rfl a w hs _ (.inl rfl)
set_option maxRecDepth 100000 in
theorem C_wire_Reader_End (o0 : T_wire_Reader) (r : Int) (h : F_wire_Reader_End o0 = some r) : FnOK Try.prog 44 [.ptr 0 0] [.blk 89 (T_wire_Reader.pvs o0)] (i64 r) [.blk 89 (T_wire_Reader.pvs o0)] [1] := by
  rw [F_wire_Reader_End] at h
  refine FnOK.intro Try.func44 rfl (by kernel_rfl) (by kernel_rfl) fun E gv R hR => ?_
  refine At.seq ?_
  refine At.region_end [0] [0, 1] _ (st' := ⟨[(0, .ptr 0 0)], [.blk 89 (T_wire_Reader.pvs o0), .ghost (gv 0) (.ptr 0 0)]⟩) (tips := []) (by kernel_rfl) all0 (norm ?_)
  refine At.seq ?_
  refine At.seq ?_
  obtain ⟨y10, hy10, h⟩ := bind_some h
  refine At.region_end [0, 3] [0, 1] _ (st' := ⟨[(0, .ptr 0 0), (3, i64 y10)], [.blk 89 (T_wire_Reader.pvs o0), .ghost (gv 0) (.ptr 0 0)]⟩) (tips := [(1, { pc := some { ρ := [0], n0 := 1, res := i64 y10, σ' := [.blk 89 (T_wire_Reader.pvs o0)], e := [1] } })]) (by kernel_rfl) (allc (C_wire_Reader_Err o0 y10 hy10) all0) (norm ?_)
  refine At.seqJ (S := Bool) (fun s => ⟨[(3, i64 y10), (12, bo s)], [.blk 89 (T_wire_Reader.pvs o0), .ghost (gv 0) (.ptr 0 0)]⟩) (fun s => F_wire_Reader_End_J1 y10 s = some r) ?_ ?_
  · rcases tf (y10 != 0) with b15 | b15
    · replace h := cond_t b15 h
      refine At.region_end [3, 12] [0, 1] _ (st' := ⟨[(3, i64 y10), (12, bo true)], [.blk 89 (T_wire_Reader.pvs o0), .ghost (gv 0) (.ptr 0 0)]⟩) (tips := [(2, { orc := .val (.bool true) })]) (by kernel_rfl) (allc (congrArg D.bool b15) all0) (fun a w hs => ⟨true, h, hs⟩)
    · replace h := cond_f b15 h
      obtain ⟨y16, hy16, h⟩ := bind_some h
      refine At.region_end [3, 12] [0, 1] _ (st' := ⟨[(3, i64 y10), (12, bo (y16 == 0))], [.blk 89 (T_wire_Reader.pvs o0), .ghost (gv 0) (.ptr 0 0)]⟩) (tips := [(2, { orc := .val (.bool false) }), (4, { pc := some { ρ := [0], n0 := 1, res := i64 y16, σ' := [.blk 89 (T_wire_Reader.pvs o0)], e := [1] } })]) (by kernel_rfl) (allc (congrArg D.bool b15) (allc (C_wire_Reader_Left o0 y16 hy16) all0)) (fun a w hs => ⟨(y16 == 0), h, hs⟩)
  · intro x13 h
    replace h : F_wire_Reader_End_J1 y10 x13 = some r := h
    rw [F_wire_Reader_End_J1] at h
    refine At.cond x13 (by kernel_rfl) (fun b14 => ?_) (fun b14 => ?_)
    · replace h := cond_t b14 h
      refine At.seq ?_
      refine At.region_end [2] [0, 1] _ (st' := ⟨[(2, i64 y10)], [.blk 89 (T_wire_Reader.pvs o0), .ghost (gv 0) (.ptr 0 0)]⟩) (tips := []) (by kernel_rfl) all0 (norm ?_)
      obtain rfl := some_eq h
      exact At.ret fun a w hs => ret_ok hR (ρ := [0]) (gs := [.ghost (gv 0) (.ptr 0 0)]) (by kernel_rfl) all0 (by kernel_rfl) rfl rfl a w hs _ (.inl rfl)
    · replace h := cond_f b14 h
      refine At.nar [] [0, 1] (st' := ⟨[], [.blk 89 (T_wire_Reader.pvs o0), .ghost (gv 0) (.ptr 0 0)]⟩) (by kernel_rfl) ?_
      refine At.skip (norm ?_)
      refine At.seq ?_
      refine At.region_end [2] [0, 1] _ (st' := ⟨[(2, i64 3)], [.blk 89 (T_wire_Reader.pvs o0), .ghost (gv 0) (.ptr 0 0)]⟩) (tips := []) (by kernel_rfl) all0 (norm ?_)
      obtain rfl := some_eq h
      exact At.ret fun a w hs => ret_ok hR (ρ := [0]) (gs := [.ghost (gv 0) (.ptr 0 0)]) (by kernel_rfl) all0 (by kernel_rfl) rfl rfl a w hs _ (.inl rfl)
set_option maxRecDepth 100000 in
theorem C_event_Check (p0 : (List T_api_Event)) (r : Int × Int) (h : F_event_Check p0 = some r) : FnOK Try.prog 26 [lv T_api_Event.enc p0] [] (.tup [i64 r.1, i64 r.2]) [] [] := by
  rw [F_event_Check] at h
  refine FnOK.intro Try.func26 rfl (by kernel_rfl) (by kernel_rfl) fun E gv R hR => ?_
  refine At.seq ?_
  refine At.region_end [0] [] _ (st' := ⟨[(0, lv T_api_Event.enc p0)], []⟩) (tips := []) (by kernel_rfl) all0 (norm ?_)
  refine At.seq ?_
  refine At.seq ?_
  refine At.region_end [0, 8] [] _ (st' := ⟨[(0, lv T_api_Event.enc p0), (8, bo (decide (65536 < ((p0).length : Int))))], []⟩) (tips := []) (by kernel_rfl) all0 (norm ?_)
  refine At.cond (decide (65536 < ((p0).length : Int))) (by kernel_rfl) (fun b2 => ?_) (fun b2 => ?_)
  · replace h := cond_t b2 h
    refine At.seq ?_
    refine At.region_end [2, 3] [] _ (st' := ⟨[(2, i64 65536), (3, i64 13)], []⟩) (tips := []) (by kernel_rfl) all0 (norm ?_)
    obtain rfl := some_eq h
    exact At.ret fun a w hs => ret_ok hR (ρ := []) (gs := []) (by kernel_rfl) all0 (by kernel_rfl) rfl rfl a w hs _ (.inl rfl)
  · replace h := cond_f b2 h
    refine At.nar [0] [] (st' := ⟨[(0, lv T_api_Event.enc p0)], []⟩) (by kernel_rfl) ?_
    refine At.skip (norm ?_)
    refine At.seq ?_
    refine At.seq ?_
    refine At.region_end [9, 10, 11] [] _ (st' := ⟨[(9, lv T_api_Event.enc p0), (10, i64 ((p0).length : Int)), (11, i64 0)], []⟩) (tips := []) (by kernel_rfl) all0 (norm ?_)
    refine At.block ?_
    refine At.loop (fun s : (Int) => F_event_Check_L2 p0 s) (fun s : (Int) => ⟨[(9, lv T_api_Event.enc p0), (10, i64 ((p0).length : Int)), (11, i64 s)], []⟩) r 0 h ?_
    intro x36 oo37 h f38
    replace h : F_event_Check_L2 p0 x36 = some oo37 := h
    rw [F_event_Check_L2] at h
    refine At.seq ?_
    refine At.region_end [9, 10, 11, 12] [] _ (st' := ⟨[(9, lv T_api_Event.enc p0), (10, i64 ((p0).length : Int)), (11, i64 x36), (12, bo (decide (x36 < ((p0).length : Int))))], []⟩) (tips := []) (by kernel_rfl) all0 (norm ?_)
    refine At.seq ?_
    refine At.cond (decide (x36 < ((p0).length : Int))) (by kernel_rfl) (fun b40 => ?_) (fun b40 => ?_)
    · replace h := cond_t b40 h
      refine At.nar [9, 10, 11] [] (st' := ⟨[(9, lv T_api_Event.enc p0), (10, i64 ((p0).length : Int)), (11, i64 x36)], []⟩) (by kernel_rfl) ?_
      refine At.skip (norm ?_)
      refine At.seq ?_
      refine At.block ?_
      refine At.seq ?_
      obtain ⟨y54, hy54, h⟩ := bind_some h
      refine At.region_end [4, 5, 9, 10, 11] [0] _ (st' := ⟨[(4, i64 x36), (5, .ptr 0 0), (9, lv T_api_Event.enc p0), (10, i64 ((p0).length : Int)), (11, i64 x36)], [.blk 104 (T_api_Event.pvs y54)]⟩) (tips := [(1, { orc := .cells (T_api_Event.enc y54) })]) (by kernel_rfl) (allc (elemAt_of T_api_Event.enc_len hy54) all0) (norm ?_)
      refine At.seqJ (S := Bool) (fun s => ⟨[(4, i64 x36), (9, lv T_api_Event.enc p0), (10, i64 ((p0).length : Int)), (11, i64 x36), (37, bo s)], []⟩) (fun s => F_event_Check_J1 x36 s = some oo37) ?_ ?_
      · rcases tf (decide (y54.Kind < 1)) with b63 | b63
        · replace h := cond_t b63 h
          refine At.region_end [4, 9, 10, 11, 37] [] _ (st' := ⟨[(4, i64 x36), (9, lv T_api_Event.enc p0), (10, i64 ((p0).length : Int)), (11, i64 x36), (37, bo true)], []⟩) (tips := [(3, { orc := .val (.bool true) })]) (by kernel_rfl) (allc (congrArg D.bool b63) all0) (fun a w hs => ⟨true, h, hs⟩)
        · replace h := cond_f b63 h
          rcases tf (decide (3 < y54.Kind)) with b64 | b64
          · replace h := cond_t b64 h
            refine At.region_end [4, 9, 10, 11, 37] [] _ (st' := ⟨[(4, i64 x36), (9, lv T_api_Event.enc p0), (10, i64 ((p0).length : Int)), (11, i64 x36), (37, bo true)], []⟩) (tips := [(3, { orc := .val (.bool false) }), (8, { orc := .val (.bool true) })]) (by kernel_rfl) (allc (congrArg D.bool b63) (allc (congrArg D.bool b64) all0)) (fun a w hs => ⟨true, h, hs⟩)
          · replace h := cond_f b64 h
            rcases tf (decide (y54.N < 0)) with b65 | b65
            · replace h := cond_t b65 h
              refine At.region_end [4, 9, 10, 11, 37] [] _ (st' := ⟨[(4, i64 x36), (9, lv T_api_Event.enc p0), (10, i64 ((p0).length : Int)), (11, i64 x36), (37, bo true)], []⟩) (tips := [(3, { orc := .val (.bool false) }), (8, { orc := .val (.bool false) }), (13, { orc := .val (.bool true) })]) (by kernel_rfl) (allc (congrArg D.bool b63) (allc (congrArg D.bool b64) (allc (congrArg D.bool b65) all0))) (fun a w hs => ⟨true, h, hs⟩)
            · replace h := cond_f b65 h
              rcases tf (x36 == 0) with b66 | b66
              · replace h := cond_t b66 h
                refine At.region_end [4, 9, 10, 11, 37] [] _ (st' := ⟨[(4, i64 x36), (9, lv T_api_Event.enc p0), (10, i64 ((p0).length : Int)), (11, i64 x36), (37, bo (y54.Kind != 1))], []⟩) (tips := [(3, { orc := .val (.bool false) }), (8, { orc := .val (.bool false) }), (13, { orc := .val (.bool false) }), (16, { orc := .val (.bool true) })]) (by kernel_rfl) (allc (congrArg D.bool b63) (allc (congrArg D.bool b64) (allc (congrArg D.bool b65) (allc (congrArg D.bool b66) all0)))) (fun a w hs => ⟨(y54.Kind != 1), h, hs⟩)
              · replace h := cond_f b66 h
                refine At.region_end [4, 9, 10, 11, 37] [] _ (st' := ⟨[(4, i64 x36), (9, lv T_api_Event.enc p0), (10, i64 ((p0).length : Int)), (11, i64 x36), (37, bo false)], []⟩) (tips := [(3, { orc := .val (.bool false) }), (8, { orc := .val (.bool false) }), (13, { orc := .val (.bool false) }), (16, { orc := .val (.bool false) })]) (by kernel_rfl) (allc (congrArg D.bool b63) (allc (congrArg D.bool b64) (allc (congrArg D.bool b65) (allc (congrArg D.bool b66) all0)))) (fun a w hs => ⟨false, h, hs⟩)
      · intro x59 h
        replace h : F_event_Check_J1 x36 x59 = some oo37 := h
        rw [F_event_Check_J1] at h
        refine At.cond x59 (by kernel_rfl) (fun b60 => ?_) (fun b60 => ?_)
        · replace h := cond_t b60 h
          refine At.seq ?_
          refine At.region_end [2, 3] [] _ (st' := ⟨[(2, i64 x36), (3, i64 3)], []⟩) (tips := []) (by kernel_rfl) all0 (norm ?_)
          obtain ⟨r61, h, e62⟩ := map_inr h
          rw [f38 _ e62] at h
          obtain rfl := some_eq h
          exact At.ret fun a w hs => ret_ok hR (ρ := []) (gs := []) (by kernel_rfl) all0 (by kernel_rfl) rfl rfl a w hs _ (.inl rfl)
        · replace h := cond_f b60 h
          refine At.nar [9, 10, 11] [] (st' := ⟨[(9, lv T_api_Event.enc p0), (10, i64 ((p0).length : Int)), (11, i64 x36)], []⟩) (by kernel_rfl) ?_
          refine At.skip (norm ?_)
          refine At.region_end [9, 10, 11] [] _ (st' := ⟨[(9, lv T_api_Event.enc p0), (10, i64 ((p0).length : Int)), (11, i64 (w64 (x36 + 1)))], []⟩) (tips := []) (by kernel_rfl) all0 (fun a w hs => ⟨_, (some_eq h).symm, hs⟩)
    · replace h := cond_f b40 h
      refine At.nar [] [] (st' := ⟨[], []⟩) (by kernel_rfl) ?_
      obtain ⟨r67, h, e68⟩ := map_inr h
      rw [f38 _ e68] at h
      refine At.exit (norm ?_)
      refine At.seq ?_
      refine At.region_end [2, 3] [] _ (st' := ⟨[(2, i64 0), (3, i64 0)], []⟩) (tips := []) (by kernel_rfl) all0 (norm ?_)
      obtain rfl := some_eq h
      exact At.ret fun a w hs => ret_ok hR (ρ := []) (gs := []) (by kernel_rfl) all0 (by kernel_rfl) rfl rfl a w hs _ (.inl rfl)
set_option maxRecDepth 100000 in
theorem C_event_Get (p0 : ByteArray) (r : (List T_api_Event) × Int) (h : F_event_Get p0 = some r) : FnOK Try.prog 32 [sv p0] [] (.tup [lv T_api_Event.enc r.1, i64 r.2]) [] [] := by
  rw [F_event_Get] at h
  refine FnOK.intro Try.func32 rfl (by kernel_rfl) (by kernel_rfl) fun E gv R hR => ?_
  refine At.seq ?_
  refine At.region_end [0] [] _ (st' := ⟨[(0, sv p0)], []⟩) (tips := []) (by kernel_rfl) all0 (norm ?_)
  refine At.seq ?_
  obtain ⟨y2, hy2, h⟩ := bind_some h
  refine At.region_end [4] [0] _ (st' := ⟨[(4, .ptr 0 0)], [.blk 89 (T_wire_Reader.pvs y2)]⟩) (tips := [(1, { pc := some { ρ := [0], n0 := 0, res := .ptr 0 0, σ' := [.blk 89 (T_wire_Reader.pvs y2)], e := [] } })]) (by kernel_rfl) (allc (C_wire_Open p0 y2 hy2) all0) (norm ?_)
  refine At.seq ?_
  obtain ⟨y4, hy4, h⟩ := bind_some h
  refine At.region_end [4, 5] [0] _ (st' := ⟨[(4, .ptr 0 0), (5, i64 y4.1)], [.blk 89 (T_wire_Reader.pvs y4.2)]⟩) (tips := [(1, { pc := some { ρ := [0], n0 := 1, res := i64 y4.1, σ' := [.blk 89 (T_wire_Reader.pvs y4.2)], e := [1] } })]) (by kernel_rfl) (allc (C_wire_Reader_Upto 65536 y2 y4 hy4) all0) (norm ?_)
  refine At.seq ?_
  refine At.region_end [4, 5, 6] [0] _ (st' := ⟨[(4, .ptr 0 0), (5, i64 y4.1), (6, .d (.list true 0 []))], [.blk 89 (T_wire_Reader.pvs y4.2)]⟩) (tips := []) (by kernel_rfl) all0 (norm ?_)
  refine At.seq ?_
  refine At.block ?_
  refine At.edNar [.ownS 6 104 2] [4, 5, 6] [0, 1] (st' := ⟨[(4, .ptr 0 0), (5, i64 y4.1), (6, .row 1 ([] : List T_api_Event).length)], [.blk 89 (T_wire_Reader.pvs y4.2), .row 104 2 (encL T_api_Event.enc ([]))]⟩) (by kernel_rfl) ?_
  refine At.loop (fun s : (ByteArray × Int × (List T_api_Event)) => F_event_Get_L2 y4 s.1 s.2.1 s.2.2) (fun s : (ByteArray × Int × (List T_api_Event)) => ⟨[(4, .ptr 0 0), (5, i64 y4.1), (6, .row 1 (s.2.2).length)], [.blk 89 [sv s.1, i64 s.2.1], .row 104 2 (encL T_api_Event.enc s.2.2)]⟩) r (y4.2.s, y4.2.e, ([] : (List T_api_Event))) h ?_
  rintro ⟨x29, x30, x31⟩ oo32 h f33
  replace h : F_event_Get_L2 y4 x29 x30 x31 = some oo32 := h
  rw [F_event_Get_L2] at h
  refine At.seq ?_
  refine At.seqJ (S := Bool) (fun s => ⟨[(4, .ptr 0 0), (5, i64 y4.1), (6, .row 1 (x31).length), (23, bo s)], [.blk 89 [sv x29, i64 x30], .row 104 2 (encL T_api_Event.enc x31)]⟩) (fun s => F_event_Get_J1 x29 x30 x31 s = some oo32) ?_ ?_
  · rcases tf (decide (((x31).length : Int) < y4.1)) with b63 | b63
    · replace h := cond_t b63 h
      obtain ⟨y64, hy64, h⟩ := bind_some h
      refine At.region_end [4, 5, 6, 23] [0, 1] _ (st' := ⟨[(4, .ptr 0 0), (5, i64 y4.1), (6, .row 1 (x31).length), (23, bo (y64 == 0))], [.blk 89 [sv x29, i64 x30], .row 104 2 (encL T_api_Event.enc x31)]⟩) (tips := [(4, { orc := .val (.bool true) }), (6, { pc := some { ρ := [0], n0 := 1, res := i64 y64, σ' := [.blk 89 [sv x29, i64 x30]], e := [1] } })]) (by kernel_rfl) (allc (congrArg D.bool b63) (allc (C_wire_Reader_Err (⟨x29, x30⟩ : T_wire_Reader) y64 hy64) all0)) (fun a w hs => ⟨(y64 == 0), h, hs⟩)
    · replace h := cond_f b63 h
      refine At.region_end [4, 5, 6, 23] [0, 1] _ (st' := ⟨[(4, .ptr 0 0), (5, i64 y4.1), (6, .row 1 (x31).length), (23, bo false)], [.blk 89 [sv x29, i64 x30], .row 104 2 (encL T_api_Event.enc x31)]⟩) (tips := [(4, { orc := .val (.bool false) })]) (by kernel_rfl) (allc (congrArg D.bool b63) all0) (fun a w hs => ⟨false, h, hs⟩)
  · intro x42 h
    replace h : F_event_Get_J1 x29 x30 x31 x42 = some oo32 := h
    rw [F_event_Get_J1] at h
    refine At.cond x42 (by kernel_rfl) (fun b43 => ?_) (fun b43 => ?_)
    · replace h := cond_t b43 h
      refine At.nar [4, 5, 6] [0, 1] (st' := ⟨[(4, .ptr 0 0), (5, i64 y4.1), (6, .row 1 (x31).length)], [.blk 89 [sv x29, i64 x30], .row 104 2 (encL T_api_Event.enc x31)]⟩) (by kernel_rfl) ?_
      refine At.skip (norm ?_)
      refine At.block ?_
      refine At.seq ?_
      obtain ⟨y45, hy45, h⟩ := bind_some h
      refine At.region_end [4, 5, 6, 7] [0, 1, 2] _ (st' := ⟨[(4, .ptr 0 0), (5, i64 y4.1), (6, .row 1 (x31).length), (7, .ptr 2 0)], [.blk 89 (T_wire_Reader.pvs y45.2), .row 104 2 (encL T_api_Event.enc x31), .blk 104 [i64 y45.1, i64 0]]⟩) (tips := [(1, { pc := some { ρ := [0], n0 := 1, res := i64 y45.1, σ' := [.blk 89 (T_wire_Reader.pvs y45.2)], e := [1] } })]) (by kernel_rfl) (allc (C_wire_Reader_Int (⟨x29, x30⟩ : T_wire_Reader) y45 hy45) all0) (norm ?_)
      refine At.seq ?_
      obtain ⟨y47, hy47, h⟩ := bind_some h
      refine At.region_end [4, 5, 6, 7] [0, 1, 2] _ (st' := ⟨[(4, .ptr 0 0), (5, i64 y4.1), (6, .row 1 (x31).length), (7, .ptr 2 0)], [.blk 89 (T_wire_Reader.pvs y47.2), .row 104 2 (encL T_api_Event.enc x31), .blk 104 [i64 y45.1, i64 y47.1]]⟩) (tips := [(1, { pc := some { ρ := [0], n0 := 1, res := i64 y47.1, σ' := [.blk 89 (T_wire_Reader.pvs y47.2)], e := [1] } })]) (by kernel_rfl) (allc (C_wire_Reader_Int y45.2 y47 hy47) all0) (norm ?_)
      obtain ⟨g48, h⟩ := grd_some h
      refine At.region_end [4, 5, 6] [0, 1] _ (st' := ⟨[(4, .ptr 0 0), (5, i64 y4.1), (6, .row 1 ((x31 ++ [(⟨y45.1, y47.1⟩ : T_api_Event)])).length)], [.blk 89 (T_wire_Reader.pvs y47.2), .row 104 2 (encL T_api_Event.enc (x31 ++ [(⟨y45.1, y47.1⟩ : T_api_Event)]))]⟩) (tips := [(3, { form := some ((x31 ++ [(⟨y45.1, y47.1⟩ : T_api_Event)]).length, encL T_api_Event.enc (x31 ++ [(⟨y45.1, y47.1⟩ : T_api_Event)])) })]) (by kernel_rfl) (allc (len_app x31 ([(⟨y45.1, y47.1⟩ : T_api_Event)])) (allc (encL_app T_api_Event.enc x31 ([(⟨y45.1, y47.1⟩ : T_api_Event)])) (allc (app_ok T_api_Event.enc_len (by decide) g48) (allc (encL_len T_api_Event.enc_len ([(⟨y45.1, y47.1⟩ : T_api_Event)])) all0)))) (fun a w hs => ⟨_, (some_eq h).symm, hs⟩)
    · replace h := cond_f b43 h
      refine At.nar [4, 6] [0, 1] (st' := ⟨[(4, .ptr 0 0), (6, .row 1 (x31).length)], [.blk 89 [sv x29, i64 x30], .row 104 2 (encL T_api_Event.enc x31)]⟩) (by kernel_rfl) ?_
      obtain ⟨r49, h, e50⟩ := map_inr h
      rw [f33 _ e50] at h
      refine At.exit (norm ?_)
      refine At.seq ?_
      refine At.seq ?_
      obtain ⟨y55, hy55, h⟩ := bind_some h
      refine At.region_end [6, 8] [1] _ (st' := ⟨[(6, .row 0 (x31).length), (8, i64 y55)], [.row 104 2 (encL T_api_Event.enc x31)]⟩) (tips := [(1, { pc := some { ρ := [0], n0 := 1, res := i64 y55, σ' := [.blk 89 [sv x29, i64 x30]], e := [1] } })]) (by kernel_rfl) (allc (C_wire_Reader_End (⟨x29, x30⟩ : T_wire_Reader) y55 hy55) all0) (norm ?_)
      refine At.seq ?_
      refine At.region_end [6, 8, 37] [0] _ (st' := ⟨[(6, .row 0 (x31).length), (8, i64 y55), (37, bo (y55 != 0))], [.row 104 2 (encL T_api_Event.enc x31)]⟩) (tips := []) (by kernel_rfl) all0 (norm ?_)
      refine At.cond (y55 != 0) (by kernel_rfl) (fun b56 => ?_) (fun b56 => ?_)
      · replace h := cond_t b56 h
        refine At.seq ?_
        refine At.region_end [2, 3] [] _ (st' := ⟨[(2, .d (.list true 0 [])), (3, i64 y55)], []⟩) (tips := []) (by kernel_rfl) all0 (norm ?_)
        refine At.edNar [.loS 2] [2, 3] [] (st' := ⟨[(2, lv T_api_Event.enc ([] : List T_api_Event)), (3, i64 y55)], []⟩) (by kernel_rfl) ?_
        obtain rfl := some_eq h
        exact At.ret fun a w hs => ret_ok hR (ρ := []) (gs := []) (by kernel_rfl) all0 (by kernel_rfl) rfl rfl a w hs _ (.inl rfl)
      · replace h := cond_f b56 h
        refine At.nar [6] [0] (st' := ⟨[(6, .row 0 (x31).length)], [.row 104 2 (encL T_api_Event.enc x31)]⟩) (by kernel_rfl) ?_
        refine At.skip (norm ?_)
        refine At.seq ?_
        refine At.seq ?_
        obtain ⟨y61, hy61, h⟩ := bind_some h
        refine At.region_end [6, 10] [] _ (st' := ⟨[(6, lv T_api_Event.enc x31), (10, i64 y61.2)], []⟩) (tips := [(1, { settle := [0], pc := some { ρ := [], n0 := 0, res := .tup [i64 y61.1, i64 y61.2], σ' := [], e := [] } })]) (by kernel_rfl) (allc (C_event_Check x31 y61 hy61) all0) (norm ?_)
        refine At.seq ?_
        refine At.region_end [6, 10, 45] [] _ (st' := ⟨[(6, lv T_api_Event.enc x31), (10, i64 y61.2), (45, bo (y61.2 != 0))], []⟩) (tips := []) (by kernel_rfl) all0 (norm ?_)
        refine At.cond (y61.2 != 0) (by kernel_rfl) (fun b62 => ?_) (fun b62 => ?_)
        · replace h := cond_t b62 h
          refine At.seq ?_
          refine At.region_end [2, 3] [] _ (st' := ⟨[(2, .d (.list true 0 [])), (3, i64 y61.2)], []⟩) (tips := []) (by kernel_rfl) all0 (norm ?_)
          refine At.edNar [.loS 2] [2, 3] [] (st' := ⟨[(2, lv T_api_Event.enc ([] : List T_api_Event)), (3, i64 y61.2)], []⟩) (by kernel_rfl) ?_
          obtain rfl := some_eq h
          exact At.ret fun a w hs => ret_ok hR (ρ := []) (gs := []) (by kernel_rfl) all0 (by kernel_rfl) rfl rfl a w hs _ (.inl rfl)
        · replace h := cond_f b62 h
          refine At.nar [6] [] (st' := ⟨[(6, lv T_api_Event.enc x31)], []⟩) (by kernel_rfl) ?_
          refine At.skip (norm ?_)
          refine At.seq ?_
          refine At.region_end [2, 3] [] _ (st' := ⟨[(2, lv T_api_Event.enc x31), (3, i64 0)], []⟩) (tips := []) (by kernel_rfl) all0 (norm ?_)
          obtain rfl := some_eq h
          exact At.ret fun a w hs => ret_ok hR (ρ := []) (gs := []) (by kernel_rfl) all0 (by kernel_rfl) rfl rfl a w hs _ (.inl rfl)
set_option maxRecDepth 100000 in
theorem C_event_begins (p0 : (List T_api_Event)) (r : (List T_api_Event)) (h : F_event_begins p0 = some r) : FnOK Try.prog 63 [lv T_api_Event.enc p0] [] (.fn (.func 78) [] [.ptr 0 0]) [.blk 48 [lv T_api_Event.enc r]] [] := by
  rw [F_event_begins] at h
  refine FnOK.intro Try.func63 rfl (by kernel_rfl) (by kernel_rfl) fun E gv R hR => ?_
  refine At.seq ?_
  refine At.region_end [1] [0] _ (st' := ⟨[(1, .ptr 0 0)], [.blk 48 [lv T_api_Event.enc p0]]⟩) (tips := []) (by kernel_rfl) all0 (norm ?_)
  refine At.seq ?_
  refine At.region_end [2] [0] _ (st' := ⟨[(2, .fn (.func 78) [] [.ptr 0 0])], [.blk 48 [lv T_api_Event.enc p0]]⟩) (tips := []) (by kernel_rfl) all0 (norm ?_)
  obtain rfl := some_eq h
  exact At.ret fun a w hs => ret_ok hR (ρ := [0]) (gs := []) (by kernel_rfl) all0 (by kernel_rfl) rfl rfl a w hs _ (.inl rfl)
set_option maxRecDepth 100000 in
theorem C_R_event_Begin_0 (p0 : Int) (o1_0 : Int) (o2_0 : Int) (r : (Int) ⊕ (Int)) (h : F_R_event_Begin_0 p0 o1_0 o2_0 = some r) : RdOK Try.prog 0 [i64 p0] [.loop #[10] as_event_Begin_0 bd_event_Begin_0 20 [3, 4] [.ptr 1 0, .ptr 2 0] .ready none, .blk 3 [i64 o1_0], .blk 3 [i64 o2_0]] ((Sum.elim (fun r => bo false) (fun r => bo true)) r) ((Sum.elim (fun r => [.loop #[10] as_event_Begin_0 bd_event_Begin_0 20 [3, 4] [.ptr 1 0, .ptr 2 0] .done (some .ret), .blk 3 [i64 o1_0], .blk 3 [i64 r]]) (fun r => [.loop #[10] as_event_Begin_0 bd_event_Begin_0 20 [3, 4] [.ptr 1 0, .ptr 2 0] .ready none, .blk 3 [i64 r], .blk 3 [i64 o2_0]])) r) [1, 3, 5] := by
  rw [F_R_event_Begin_0] at h
  refine RdOK.intro (i := 0) rfl (by kernel_rfl) fun E gv l R hR => ?_
  refine At.eqv (st2 := ⟨[(10, i64 p0), (3, .ptr 1 0), (4, .ptr 2 0)], [.loop #[10] as_event_Begin_0 bd_event_Begin_0 20 [3, 4] [.ptr 1 0, .ptr 2 0] .ready none, .blk 3 [i64 o1_0], .blk 3 [i64 o2_0], .ghost (gv 0) (.ptr 0 0), .ghost (gv 1) (.ptr 1 0), .ghost (gv 2) (.ptr 2 0), .ghost (yieldV l) (.yld 0)]⟩) rfl ?_
  refine At.region_end [3, 4, 5] [0, 1, 2, 3, 4, 5, 6] _ (st' := ⟨[(3, .ptr 1 0), (4, .ptr 2 0), (5, i64 p0)], [.loop #[10] as_event_Begin_0 bd_event_Begin_0 20 [3, 4] [.ptr 1 0, .ptr 2 0] .ready none, .blk 3 [i64 o1_0], .blk 3 [i64 o2_0], .ghost (gv 0) (.ptr 0 0), .ghost (gv 1) (.ptr 1 0), .ghost (gv 2) (.ptr 2 0), .ghost (yieldV l) (.yld 0)]⟩) (tips := []) (by kernel_rfl) all0 (begin_ok (i := 0) (k := 6) (st' := ⟨[(3, .ptr 1 0), (4, .ptr 2 0), (5, i64 p0)], [.loop #[10] as_event_Begin_0 bd_event_Begin_0 20 [3, 4] [.ptr 1 0, .ptr 2 0] .busy none, .blk 3 [i64 o1_0], .blk 3 [i64 o2_0], .ghost (gv 0) (.ptr 0 0), .ghost (gv 1) (.ptr 1 0), .ghost (gv 2) (.ptr 2 0), .ghost (yieldV l) (.yld 0)]⟩) (by kernel_rfl) rfl ?_)
  refine At.block ?_
  refine At.seq ?_
  refine At.seq ?_
  refine At.region_end [3, 4, 5, 12] [0, 1, 2, 3, 4, 5, 6] _ (st' := ⟨[(3, .ptr 1 0), (4, .ptr 2 0), (5, i64 p0), (12, bo (o1_0 == 0))], [.loop #[10] as_event_Begin_0 bd_event_Begin_0 20 [3, 4] [.ptr 1 0, .ptr 2 0] .busy none, .blk 3 [i64 o1_0], .blk 3 [i64 o2_0], .ghost (gv 0) (.ptr 0 0), .ghost (gv 1) (.ptr 1 0), .ghost (gv 2) (.ptr 2 0), .ghost (yieldV l) (.yld 0)]⟩) (tips := []) (by kernel_rfl) all0 (norm ?_)
  refine At.cond (o1_0 == 0) (by kernel_rfl) (fun b2 => ?_) (fun b2 => ?_)
  · replace h := cond_t b2 h
    refine At.seq ?_
    refine At.region_end [] [0, 1, 2, 3, 4, 5, 6] _ (st' := ⟨[], [.loop #[10] as_event_Begin_0 bd_event_Begin_0 20 [3, 4] [.ptr 1 0, .ptr 2 0] .busy none, .blk 3 [i64 o1_0], .blk 3 [i64 p0], .ghost (gv 0) (.ptr 0 0), .ghost (gv 1) (.ptr 1 0), .ghost (gv 2) (.ptr 2 0), .ghost (yieldV l) (.yld 0)]⟩) (tips := []) (by kernel_rfl) all0 (norm ?_)
    obtain rfl := some_eq h
    exact At.ret (round_fin hR (i := 0) (k := 6) (ρ := [0, 1, 2]) (jump := (some .ret)) (gs := [.ghost (gv 0) (.ptr 0 0), .ghost (gv 1) (.ptr 1 0), .ghost (gv 2) (.ptr 2 0)]) (by kernel_rfl) rfl (by kernel_rfl) rfl rfl rfl)
  · replace h := cond_f b2 h
    refine At.nar [3] [0, 1, 2, 3, 4, 5, 6] (st' := ⟨[(3, .ptr 1 0)], [.loop #[10] as_event_Begin_0 bd_event_Begin_0 20 [3, 4] [.ptr 1 0, .ptr 2 0] .busy none, .blk 3 [i64 o1_0], .blk 3 [i64 o2_0], .ghost (gv 0) (.ptr 0 0), .ghost (gv 1) (.ptr 1 0), .ghost (gv 2) (.ptr 2 0), .ghost (yieldV l) (.yld 0)]⟩) (by kernel_rfl) ?_
    refine At.skip (norm ?_)
    obtain rfl := some_eq h
    refine At.region_end [] [0, 1, 2, 3, 4, 5, 6] _ (st' := ⟨[], [.loop #[10] as_event_Begin_0 bd_event_Begin_0 20 [3, 4] [.ptr 1 0, .ptr 2 0] .busy none, .blk 3 [i64 (w64 (o1_0 - 1))], .blk 3 [i64 o2_0], .ghost (gv 0) (.ptr 0 0), .ghost (gv 1) (.ptr 1 0), .ghost (gv 2) (.ptr 2 0), .ghost (yieldV l) (.yld 0)]⟩) (tips := []) (by kernel_rfl) all0 (round_fin hR (i := 0) (k := 6) (ρ := [0, 1, 2]) (jump := none) (gs := [.ghost (gv 0) (.ptr 0 0), .ghost (gv 1) (.ptr 1 0), .ghost (gv 2) (.ptr 2 0)]) (by kernel_rfl) rfl (by kernel_rfl) rfl rfl rfl)
set_option maxRecDepth 100000 in
theorem C_event_begins_1 (o1_0 : Int) (o2_0 : Int) (o3_0 : (List T_api_Event)) (r : (Int × Int) ⊕ (Int)) (h : F_event_begins_1 o1_0 o2_0 o3_0 = some r) : FnOK Try.prog 78 [.yld 0, .ptr 3 0] [.loop #[10] as_event_Begin_0 bd_event_Begin_0 20 [3, 4] [.ptr 1 0, .ptr 2 0] .ready none, .blk 3 [i64 o1_0], .blk 3 [i64 o2_0], .blk 48 [lv T_api_Event.enc o3_0]] ((Sum.elim (fun r => .tup []) (fun r => .tup [])) r) ((Sum.elim (fun r => [.loop #[10] as_event_Begin_0 bd_event_Begin_0 20 [3, 4] [.ptr 1 0, .ptr 2 0] .done (some .ret), .blk 3 [i64 r.1], .blk 3 [i64 r.2], .blk 48 [lv T_api_Event.enc o3_0]]) (fun r => [.loop #[10] as_event_Begin_0 bd_event_Begin_0 20 [3, 4] [.ptr 1 0, .ptr 2 0] .ready none, .blk 3 [i64 r], .blk 3 [i64 o2_0], .blk 48 [lv T_api_Event.enc o3_0]])) r) [1, 3, 5, 7] := by
  rw [F_event_begins_1] at h
  refine FnOK.intro Try.func78 rfl (by kernel_rfl) (by kernel_rfl) fun E gv R hR => ?_
  refine At.seq ?_
  refine At.region_end [0, 5, 6, 7] [0, 1, 2, 3, 4, 5, 6, 7] _ (st' := ⟨[(0, .yld 0), (5, lv T_api_Event.enc o3_0), (6, i64 ((o3_0).length : Int)), (7, i64 0)], [.loop #[10] as_event_Begin_0 bd_event_Begin_0 20 [3, 4] [.ptr 1 0, .ptr 2 0] .ready none, .blk 3 [i64 o1_0], .blk 3 [i64 o2_0], .blk 48 [lv T_api_Event.enc o3_0], .ghost (gv 0) (.ptr 0 0), .ghost (gv 1) (.ptr 1 0), .ghost (gv 2) (.ptr 2 0), .ghost (gv 3) (.ptr 3 0)]⟩) (tips := []) (by kernel_rfl) all0 (norm ?_)
  refine At.block ?_
  refine At.loop (fun s : (Int × Int) => F_event_begins_1_L3 o2_0 o3_0 s.1 s.2) (fun s : (Int × Int) => ⟨[(0, .yld 0), (5, lv T_api_Event.enc o3_0), (6, i64 ((o3_0).length : Int)), (7, i64 s.1)], [.loop #[10] as_event_Begin_0 bd_event_Begin_0 20 [3, 4] [.ptr 1 0, .ptr 2 0] .ready none, .blk 3 [i64 s.2], .blk 3 [i64 o2_0], .blk 48 [lv T_api_Event.enc o3_0], .ghost (gv 0) (.ptr 0 0), .ghost (gv 1) (.ptr 1 0), .ghost (gv 2) (.ptr 2 0), .ghost (gv 3) (.ptr 3 0)]⟩) r (0, o1_0) h ?_
  rintro ⟨x1, x2⟩ oo3 h f4
  replace h : F_event_begins_1_L3 o2_0 o3_0 x1 x2 = some oo3 := h
  rw [F_event_begins_1_L3] at h
  refine At.seq ?_
  refine At.region_end [0, 5, 6, 7, 8] [0, 1, 2, 3, 4, 5, 6, 7] _ (st' := ⟨[(0, .yld 0), (5, lv T_api_Event.enc o3_0), (6, i64 ((o3_0).length : Int)), (7, i64 x1), (8, bo (decide (x1 < ((o3_0).length : Int))))], [.loop #[10] as_event_Begin_0 bd_event_Begin_0 20 [3, 4] [.ptr 1 0, .ptr 2 0] .ready none, .blk 3 [i64 x2], .blk 3 [i64 o2_0], .blk 48 [lv T_api_Event.enc o3_0], .ghost (gv 0) (.ptr 0 0), .ghost (gv 1) (.ptr 1 0), .ghost (gv 2) (.ptr 2 0), .ghost (gv 3) (.ptr 3 0)]⟩) (tips := []) (by kernel_rfl) all0 (norm ?_)
  refine At.seq ?_
  refine At.cond (decide (x1 < ((o3_0).length : Int))) (by kernel_rfl) (fun b6 => ?_) (fun b6 => ?_)
  · replace h := cond_t b6 h
    refine At.nar [0, 5, 6, 7] [0, 1, 2, 3, 4, 5, 6, 7] (st' := ⟨[(0, .yld 0), (5, lv T_api_Event.enc o3_0), (6, i64 ((o3_0).length : Int)), (7, i64 x1)], [.loop #[10] as_event_Begin_0 bd_event_Begin_0 20 [3, 4] [.ptr 1 0, .ptr 2 0] .ready none, .blk 3 [i64 x2], .blk 3 [i64 o2_0], .blk 48 [lv T_api_Event.enc o3_0], .ghost (gv 0) (.ptr 0 0), .ghost (gv 1) (.ptr 1 0), .ghost (gv 2) (.ptr 2 0), .ghost (gv 3) (.ptr 3 0)]⟩) (by kernel_rfl) ?_
    refine At.skip (norm ?_)
    refine At.seq ?_
    refine At.block ?_
    refine At.seq ?_
    obtain ⟨y20, hy20, h⟩ := bind_some h
    refine At.region_end [0, 3, 4, 5, 6, 7] [0, 1, 2, 3, 4, 5, 6, 7, 8] _ (st' := ⟨[(0, .yld 0), (3, i64 x1), (4, .ptr 8 0), (5, lv T_api_Event.enc o3_0), (6, i64 ((o3_0).length : Int)), (7, i64 x1)], [.loop #[10] as_event_Begin_0 bd_event_Begin_0 20 [3, 4] [.ptr 1 0, .ptr 2 0] .ready none, .blk 3 [i64 x2], .blk 3 [i64 o2_0], .blk 48 [lv T_api_Event.enc o3_0], .ghost (gv 0) (.ptr 0 0), .ghost (gv 1) (.ptr 1 0), .ghost (gv 2) (.ptr 2 0), .ghost (gv 3) (.ptr 3 0), .blk 104 (T_api_Event.pvs y20)]⟩) (tips := [(1, { orc := .cells (T_api_Event.enc y20) })]) (by kernel_rfl) (allc (elemAt_of T_api_Event.enc_len hy20) all0) (norm ?_)
    refine At.seqJ (S := (Int) ⊕ (Int)) (Sum.elim (fun s => ⟨[(0, .yld 0), (5, lv T_api_Event.enc o3_0), (6, i64 ((o3_0).length : Int)), (7, i64 x1), (20, bo true)], [.loop #[10] as_event_Begin_0 bd_event_Begin_0 20 [3, 4] [.ptr 1 0, .ptr 2 0] .done (some .ret), .blk 3 [i64 x2], .blk 3 [i64 s], .blk 48 [lv T_api_Event.enc o3_0], .ghost (gv 0) (.ptr 0 0), .ghost (gv 1) (.ptr 1 0), .ghost (gv 2) (.ptr 2 0), .ghost (gv 3) (.ptr 3 0)]⟩) (fun s => ⟨[(0, .yld 0), (5, lv T_api_Event.enc o3_0), (6, i64 ((o3_0).length : Int)), (7, i64 x1), (20, bo false)], [.loop #[10] as_event_Begin_0 bd_event_Begin_0 20 [3, 4] [.ptr 1 0, .ptr 2 0] .ready none, .blk 3 [i64 s], .blk 3 [i64 o2_0], .blk 48 [lv T_api_Event.enc o3_0], .ghost (gv 0) (.ptr 0 0), .ghost (gv 1) (.ptr 1 0), .ghost (gv 2) (.ptr 2 0), .ghost (gv 3) (.ptr 3 0)]⟩)) (Sum.elim (fun s => F_event_begins_1_J1 x2 s = some oo3) (fun s => F_event_begins_1_J2 x1 s = some oo3)) ?_ ?_
    · rcases tf (y20.Kind == 1) with b29 | b29
      · replace h := cond_t b29 h
        obtain ⟨y30, hy30, h⟩ := bind_some h
        rcases y30 with y31 | y32
        · replace h := el_inl h
          refine At.region_end [0, 5, 6, 7, 20] [0, 1, 2, 3, 4, 5, 6, 7] _ (st' := ⟨[(0, .yld 0), (5, lv T_api_Event.enc o3_0), (6, i64 ((o3_0).length : Int)), (7, i64 x1), (20, bo true)], [.loop #[10] as_event_Begin_0 bd_event_Begin_0 20 [3, 4] [.ptr 1 0, .ptr 2 0] .done (some .ret), .blk 3 [i64 x2], .blk 3 [i64 y31], .blk 48 [lv T_api_Event.enc o3_0], .ghost (gv 0) (.ptr 0 0), .ghost (gv 1) (.ptr 1 0), .ghost (gv 2) (.ptr 2 0), .ghost (gv 3) (.ptr 3 0)]⟩) (tips := [(3, { orc := .val (.bool true) }), (6, { pc := some { ρ := [0, 1, 2], n0 := 3, res := bo false, σ' := [.loop #[10] as_event_Begin_0 bd_event_Begin_0 20 [3, 4] [.ptr 1 0, .ptr 2 0] .done (some .ret), .blk 3 [i64 x2], .blk 3 [i64 y31]], e := [1, 3, 5] } })]) (by kernel_rfl) (allc (congrArg D.bool b29) (allc (C_R_event_Begin_0 x1 x2 o2_0 (.inl y31) hy30) all0)) (fun a w hs => ⟨.inl y31, h, hs⟩)
        · replace h := el_inr h
          refine At.region_end [0, 5, 6, 7, 20] [0, 1, 2, 3, 4, 5, 6, 7] _ (st' := ⟨[(0, .yld 0), (5, lv T_api_Event.enc o3_0), (6, i64 ((o3_0).length : Int)), (7, i64 x1), (20, bo false)], [.loop #[10] as_event_Begin_0 bd_event_Begin_0 20 [3, 4] [.ptr 1 0, .ptr 2 0] .ready none, .blk 3 [i64 y32], .blk 3 [i64 o2_0], .blk 48 [lv T_api_Event.enc o3_0], .ghost (gv 0) (.ptr 0 0), .ghost (gv 1) (.ptr 1 0), .ghost (gv 2) (.ptr 2 0), .ghost (gv 3) (.ptr 3 0)]⟩) (tips := [(3, { orc := .val (.bool true) }), (6, { pc := some { ρ := [0, 1, 2], n0 := 3, res := bo true, σ' := [.loop #[10] as_event_Begin_0 bd_event_Begin_0 20 [3, 4] [.ptr 1 0, .ptr 2 0] .ready none, .blk 3 [i64 y32], .blk 3 [i64 o2_0]], e := [1, 3, 5] } })]) (by kernel_rfl) (allc (congrArg D.bool b29) (allc (C_R_event_Begin_0 x1 x2 o2_0 (.inr y32) hy30) all0)) (fun a w hs => ⟨.inr (y32), h, hs⟩)
      · replace h := cond_f b29 h
        refine At.region_end [0, 5, 6, 7, 20] [0, 1, 2, 3, 4, 5, 6, 7] _ (st' := ⟨[(0, .yld 0), (5, lv T_api_Event.enc o3_0), (6, i64 ((o3_0).length : Int)), (7, i64 x1), (20, bo false)], [.loop #[10] as_event_Begin_0 bd_event_Begin_0 20 [3, 4] [.ptr 1 0, .ptr 2 0] .ready none, .blk 3 [i64 x2], .blk 3 [i64 o2_0], .blk 48 [lv T_api_Event.enc o3_0], .ghost (gv 0) (.ptr 0 0), .ghost (gv 1) (.ptr 1 0), .ghost (gv 2) (.ptr 2 0), .ghost (gv 3) (.ptr 3 0)]⟩) (tips := [(3, { orc := .val (.bool false) })]) (by kernel_rfl) (allc (congrArg D.bool b29) all0) (fun a w hs => ⟨.inr (x2), h, hs⟩)
    · rintro (x25 | x28) h
      · replace h : F_event_begins_1_J1 x2 x25 = some oo3 := h
        rw [F_event_begins_1_J1] at h
        refine At.cond true (by kernel_rfl) (fun _ => ?_) (fun hb => by cases hb)
        obtain ⟨r26, h, e27⟩ := map_inr h
        rw [f4 _ e27] at h
        refine At.edNar [] [] [0, 1, 2, 3, 4, 5, 6, 7] (st' := ⟨[], [.loop #[10] as_event_Begin_0 bd_event_Begin_0 20 [3, 4] [.ptr 1 0, .ptr 2 0] .done (some .ret), .blk 3 [i64 x2], .blk 3 [i64 x25], .blk 48 [lv T_api_Event.enc o3_0], .ghost (gv 0) (.ptr 0 0), .ghost (gv 1) (.ptr 1 0), .ghost (gv 2) (.ptr 2 0), .ghost (gv 3) (.ptr 3 0)]⟩) (by kernel_rfl) ?_
        obtain rfl := some_eq h
        exact At.ret fun a w hs => ret_ok hR (ρ := [0, 1, 2, 3]) (gs := [.ghost (gv 0) (.ptr 0 0), .ghost (gv 1) (.ptr 1 0), .ghost (gv 2) (.ptr 2 0), .ghost (gv 3) (.ptr 3 0)]) (by kernel_rfl) all0 (by kernel_rfl) rfl rfl a w hs _ (.inl rfl)
      · replace h : F_event_begins_1_J2 x1 x28 = some oo3 := h
        rw [F_event_begins_1_J2] at h
        refine At.cond false (by kernel_rfl) (fun hb => by cases hb) (fun _ => ?_)
        refine At.nar [0, 5, 6, 7] [0, 1, 2, 3, 4, 5, 6, 7] (st' := ⟨[(0, .yld 0), (5, lv T_api_Event.enc o3_0), (6, i64 ((o3_0).length : Int)), (7, i64 x1)], [.loop #[10] as_event_Begin_0 bd_event_Begin_0 20 [3, 4] [.ptr 1 0, .ptr 2 0] .ready none, .blk 3 [i64 x28], .blk 3 [i64 o2_0], .blk 48 [lv T_api_Event.enc o3_0], .ghost (gv 0) (.ptr 0 0), .ghost (gv 1) (.ptr 1 0), .ghost (gv 2) (.ptr 2 0), .ghost (gv 3) (.ptr 3 0)]⟩) (by kernel_rfl) ?_
        refine At.skip (norm ?_)
        refine At.region_end [0, 5, 6, 7] [0, 1, 2, 3, 4, 5, 6, 7] _ (st' := ⟨[(0, .yld 0), (5, lv T_api_Event.enc o3_0), (6, i64 ((o3_0).length : Int)), (7, i64 (w64 (x1 + 1)))], [.loop #[10] as_event_Begin_0 bd_event_Begin_0 20 [3, 4] [.ptr 1 0, .ptr 2 0] .ready none, .blk 3 [i64 x28], .blk 3 [i64 o2_0], .blk 48 [lv T_api_Event.enc o3_0], .ghost (gv 0) (.ptr 0 0), .ghost (gv 1) (.ptr 1 0), .ghost (gv 2) (.ptr 2 0), .ghost (gv 3) (.ptr 3 0)]⟩) (tips := []) (by kernel_rfl) all0 (fun a w hs => ⟨_, (some_eq h).symm, hs⟩)
  · replace h := cond_f b6 h
    refine At.nar [] [0, 1, 2, 3, 4, 5, 6, 7] (st' := ⟨[], [.loop #[10] as_event_Begin_0 bd_event_Begin_0 20 [3, 4] [.ptr 1 0, .ptr 2 0] .ready none, .blk 3 [i64 x2], .blk 3 [i64 o2_0], .blk 48 [lv T_api_Event.enc o3_0], .ghost (gv 0) (.ptr 0 0), .ghost (gv 1) (.ptr 1 0), .ghost (gv 2) (.ptr 2 0), .ghost (gv 3) (.ptr 3 0)]⟩) (by kernel_rfl) ?_
    obtain ⟨r33, h, e34⟩ := map_inr h
    rw [f4 _ e34] at h
    obtain rfl := some_eq h
    refine At.exit (fun a w hs => ret_ok hR (ρ := [0, 1, 2, 3]) (gs := [.ghost (gv 0) (.ptr 0 0), .ghost (gv 1) (.ptr 1 0), .ghost (gv 2) (.ptr 2 0), .ghost (gv 3) (.ptr 3 0)]) (by kernel_rfl) all0 (by kernel_rfl) rfl rfl a w hs _ (.inr rfl))
set_option maxRecDepth 100000 in
theorem C_event_Begin (p0 : (List T_api_Event)) (p1 : Int) (r : Int) (h : F_event_Begin p0 p1 = some r) : FnOK Try.prog 30 [lv T_api_Event.enc p0, i64 p1] [] (i64 r) [] [] := by
  rw [F_event_Begin] at h
  refine FnOK.intro Try.func30 rfl (by kernel_rfl) (by kernel_rfl) fun E gv R hR => ?_
  refine At.seq ?_
  refine At.region_end [0, 3, 4] [0, 1] _ (st' := ⟨[(0, lv T_api_Event.enc p0), (3, .ptr 0 0), (4, .ptr 1 0)], [.blk 3 [i64 p1], .blk 3 [i64 0]]⟩) (tips := []) (by kernel_rfl) all0 (norm ?_)
  refine At.seq ?_
  refine At.seq ?_
  refine At.region_end [0, 3, 4, 7] [0, 1] _ (st' := ⟨[(0, lv T_api_Event.enc p0), (3, .ptr 0 0), (4, .ptr 1 0), (7, bo (decide (p1 < 0)))], [.blk 3 [i64 p1], .blk 3 [i64 0]]⟩) (tips := []) (by kernel_rfl) all0 (norm ?_)
  refine At.cond (decide (p1 < 0)) (by kernel_rfl) (fun b2 => ?_) (fun b2 => ?_)
  · replace h := cond_t b2 h
    refine At.seq ?_
    refine At.region_end [4] [1] _ (st' := ⟨[(4, .ptr 0 0)], [.blk 3 [i64 (-1)]]⟩) (tips := []) (by kernel_rfl) all0 (norm ?_)
    obtain rfl := some_eq h
    exact At.ret fun a w hs => ret_ok hR (ρ := []) (gs := []) (by kernel_rfl) all0 (by kernel_rfl) rfl rfl a w hs _ (.inl rfl)
  · replace h := cond_f b2 h
    refine At.nar [0, 3, 4] [0, 1] (st' := ⟨[(0, lv T_api_Event.enc p0), (3, .ptr 0 0), (4, .ptr 1 0)], [.blk 3 [i64 p1], .blk 3 [i64 0]]⟩) (by kernel_rfl) ?_
    refine At.skip (norm ?_)
    refine At.seq ?_
    refine At.seq ?_
    obtain ⟨y9, hy9, h⟩ := bind_some h
    refine At.region_end [0, 3, 4, 9] [0, 1, 2] _ (st' := ⟨[(0, lv T_api_Event.enc p0), (3, .ptr 0 0), (4, .ptr 1 0), (9, .fn (.func 78) [] [.ptr 2 0])], [.blk 3 [i64 p1], .blk 3 [i64 0], .blk 48 [lv T_api_Event.enc y9]]⟩) (tips := [(1, { pc := some { ρ := [2], n0 := 0, res := .fn (.func 78) [] [.ptr 0 0], σ' := [.blk 48 [lv T_api_Event.enc y9]], e := [] } })]) (by kernel_rfl) (allc (C_event_begins p0 y9 hy9) all0) (norm ?_)
    refine At.block ?_
    obtain ⟨y10, hy10, h⟩ := bind_some h
    rcases y10 with y11 | y12
    · replace h := el_inl h
      refine At.range (pc := { ρ := [4, 0, 1, 2], n0 := 4, res := .tup [], σ' := [.loop #[10] as_event_Begin_0 bd_event_Begin_0 20 [3, 4] [.ptr 1 0, .ptr 2 0] .done (some .ret), .blk 3 [i64 y11.1], .blk 3 [i64 y11.2], .blk 48 [lv T_api_Event.enc y9]], e := [1, 3, 5, 7] }) [3, 4] (st' := ⟨[(0, lv T_api_Event.enc p0), (3, .ptr 0 0), (4, .ptr 1 0), (9, .fn (.func 78) [] [.ptr 2 0])], [.blk 3 [i64 y11.1], .blk 3 [i64 y11.2], .blk 48 [lv T_api_Event.enc y9], .mark, .dead]⟩) (jump := (some .ret)) (by kernel_rfl) (allc (C_event_begins_1 p1 0 y9 (.inl y11) hy10) all0) ?_
      show At _ _ _ _ .ret _ _
      refine At.edNar [] [4] [3, 1] (st' := ⟨[(4, .ptr 1 0)], [.mark, .blk 3 [i64 y11.2]]⟩) (by kernel_rfl) ?_
      obtain rfl := some_eq h
      exact At.ret fun a w hs => ret_ok hR (ρ := []) (gs := []) (by kernel_rfl) all0 (by kernel_rfl) rfl rfl a w hs _ (.inl rfl)
    · replace h := el_inr h
      refine At.range (pc := { ρ := [4, 0, 1, 2], n0 := 4, res := .tup [], σ' := [.loop #[10] as_event_Begin_0 bd_event_Begin_0 20 [3, 4] [.ptr 1 0, .ptr 2 0] .ready none, .blk 3 [i64 y12], .blk 3 [i64 0], .blk 48 [lv T_api_Event.enc y9]], e := [1, 3, 5, 7] }) [3, 4] (st' := ⟨[(0, lv T_api_Event.enc p0), (3, .ptr 0 0), (4, .ptr 1 0), (9, .fn (.func 78) [] [.ptr 2 0])], [.blk 3 [i64 y12], .blk 3 [i64 0], .blk 48 [lv T_api_Event.enc y9], .mark, .dead]⟩) (jump := none) (by kernel_rfl) (allc (C_event_begins_1 p1 0 y9 (.inr y12) hy10) all0) (nark [0, 3, 4] [3, 0, 1] (st' := ⟨[(0, lv T_api_Event.enc p0), (3, .ptr 1 0), (4, .ptr 2 0)], [.mark, .blk 3 [i64 y12], .blk 3 [i64 0]]⟩) (by kernel_rfl) (norm ?_))
      refine At.seq ?_
      refine At.seq ?_
      refine At.region_end [0, 4, 17] [0, 2] _ (st' := ⟨[(0, lv T_api_Event.enc p0), (4, .ptr 1 0), (17, bo (y12 == 0))], [.mark, .blk 3 [i64 0]]⟩) (tips := []) (by kernel_rfl) all0 (norm ?_)
      refine At.cond (y12 == 0) (by kernel_rfl) (fun b14 => ?_) (fun b14 => ?_)
      · replace h := cond_t b14 h
        refine At.seq ?_
        refine At.region_end [4] [0, 1] _ (st' := ⟨[(4, .ptr 1 0)], [.mark, .blk 3 [i64 ((p0).length : Int)]]⟩) (tips := []) (by kernel_rfl) all0 (norm ?_)
        obtain rfl := some_eq h
        exact At.ret fun a w hs => ret_ok hR (ρ := []) (gs := []) (by kernel_rfl) all0 (by kernel_rfl) rfl rfl a w hs _ (.inl rfl)
      · replace h := cond_f b14 h
        refine At.nar [4] [0, 1] (st' := ⟨[(4, .ptr 1 0)], [.mark, .blk 3 [i64 0]]⟩) (by kernel_rfl) ?_
        refine At.skip (norm ?_)
        refine At.seq ?_
        refine At.region_end [4] [0, 1] _ (st' := ⟨[(4, .ptr 1 0)], [.mark, .blk 3 [i64 (-1)]]⟩) (tips := []) (by kernel_rfl) all0 (norm ?_)
        obtain rfl := some_eq h
        exact At.ret fun a w hs => ret_ok hR (ρ := []) (gs := []) (by kernel_rfl) all0 (by kernel_rfl) rfl rfl a w hs _ (.inl rfl)
set_option maxRecDepth 100000 in
theorem C_R_event_Steps_0 (p0 : Int) (o1_0 : Int) (r : Int) (h : F_R_event_Steps_0 p0 o1_0 = some r) : RdOK Try.prog 0 [i64 p0] [.loop #[6] as_event_Steps_0 bd_event_Steps_0 10 [3] [.ptr 1 0] .ready none, .blk 3 [i64 o1_0]] (bo true) [.loop #[6] as_event_Steps_0 bd_event_Steps_0 10 [3] [.ptr 1 0] .ready none, .blk 3 [i64 r]] [1, 3] := by
  rw [F_R_event_Steps_0] at h
  refine RdOK.intro (i := 0) rfl (by kernel_rfl) fun E gv l R hR => ?_
  refine At.eqv (st2 := ⟨[(6, i64 p0), (3, .ptr 1 0)], [.loop #[6] as_event_Steps_0 bd_event_Steps_0 10 [3] [.ptr 1 0] .ready none, .blk 3 [i64 o1_0], .ghost (gv 0) (.ptr 0 0), .ghost (gv 1) (.ptr 1 0), .ghost (yieldV l) (.yld 0)]⟩) rfl ?_
  refine At.nar [3] [0, 1, 2, 3, 4] (st' := ⟨[(3, .ptr 1 0)], [.loop #[6] as_event_Steps_0 bd_event_Steps_0 10 [3] [.ptr 1 0] .ready none, .blk 3 [i64 o1_0], .ghost (gv 0) (.ptr 0 0), .ghost (gv 1) (.ptr 1 0), .ghost (yieldV l) (.yld 0)]⟩) (by kernel_rfl) ?_
  refine At.skip (begin_ok (i := 0) (k := 4) (st' := ⟨[(3, .ptr 1 0)], [.loop #[6] as_event_Steps_0 bd_event_Steps_0 10 [3] [.ptr 1 0] .busy none, .blk 3 [i64 o1_0], .ghost (gv 0) (.ptr 0 0), .ghost (gv 1) (.ptr 1 0), .ghost (yieldV l) (.yld 0)]⟩) (by kernel_rfl) rfl ?_)
  refine At.block ?_
  obtain rfl := some_eq h
  refine At.region_end [] [0, 1, 2, 3, 4] _ (st' := ⟨[], [.loop #[6] as_event_Steps_0 bd_event_Steps_0 10 [3] [.ptr 1 0] .busy none, .blk 3 [i64 (w64 (o1_0 + 1))], .ghost (gv 0) (.ptr 0 0), .ghost (gv 1) (.ptr 1 0), .ghost (yieldV l) (.yld 0)]⟩) (tips := []) (by kernel_rfl) all0 (round_fin hR (i := 0) (k := 4) (ρ := [0, 1]) (jump := none) (gs := [.ghost (gv 0) (.ptr 0 0), .ghost (gv 1) (.ptr 1 0)]) (by kernel_rfl) rfl (by kernel_rfl) rfl rfl rfl)
set_option maxRecDepth 100000 in
theorem C_event_begins_1_v2 (o1_0 : Int) (o2_0 : (List T_api_Event)) (r : Int) (h : F_event_begins_1_v2 o1_0 o2_0 = some r) : FnOK Try.prog 78 [.yld 0, .ptr 2 0] [.loop #[6] as_event_Steps_0 bd_event_Steps_0 10 [3] [.ptr 1 0] .ready none, .blk 3 [i64 o1_0], .blk 48 [lv T_api_Event.enc o2_0]] (.tup []) [.loop #[6] as_event_Steps_0 bd_event_Steps_0 10 [3] [.ptr 1 0] .ready none, .blk 3 [i64 r], .blk 48 [lv T_api_Event.enc o2_0]] [1, 3, 5] := by
  rw [F_event_begins_1_v2] at h
  refine FnOK.intro Try.func78 rfl (by kernel_rfl) (by kernel_rfl) fun E gv R hR => ?_
  refine At.seq ?_
  refine At.region_end [0, 5, 6, 7] [0, 1, 2, 3, 4, 5] _ (st' := ⟨[(0, .yld 0), (5, lv T_api_Event.enc o2_0), (6, i64 ((o2_0).length : Int)), (7, i64 0)], [.loop #[6] as_event_Steps_0 bd_event_Steps_0 10 [3] [.ptr 1 0] .ready none, .blk 3 [i64 o1_0], .blk 48 [lv T_api_Event.enc o2_0], .ghost (gv 0) (.ptr 0 0), .ghost (gv 1) (.ptr 1 0), .ghost (gv 2) (.ptr 2 0)]⟩) (tips := []) (by kernel_rfl) all0 (norm ?_)
  refine At.block ?_
  refine At.loop (fun s : (Int × Int) => F_event_begins_1_v2_L2 o2_0 s.1 s.2) (fun s : (Int × Int) => ⟨[(0, .yld 0), (5, lv T_api_Event.enc o2_0), (6, i64 ((o2_0).length : Int)), (7, i64 s.1)], [.loop #[6] as_event_Steps_0 bd_event_Steps_0 10 [3] [.ptr 1 0] .ready none, .blk 3 [i64 s.2], .blk 48 [lv T_api_Event.enc o2_0], .ghost (gv 0) (.ptr 0 0), .ghost (gv 1) (.ptr 1 0), .ghost (gv 2) (.ptr 2 0)]⟩) r (0, o1_0) h ?_
  rintro ⟨x1, x2⟩ oo3 h f4
  replace h : F_event_begins_1_v2_L2 o2_0 x1 x2 = some oo3 := h
  rw [F_event_begins_1_v2_L2] at h
  refine At.seq ?_
  refine At.region_end [0, 5, 6, 7, 8] [0, 1, 2, 3, 4, 5] _ (st' := ⟨[(0, .yld 0), (5, lv T_api_Event.enc o2_0), (6, i64 ((o2_0).length : Int)), (7, i64 x1), (8, bo (decide (x1 < ((o2_0).length : Int))))], [.loop #[6] as_event_Steps_0 bd_event_Steps_0 10 [3] [.ptr 1 0] .ready none, .blk 3 [i64 x2], .blk 48 [lv T_api_Event.enc o2_0], .ghost (gv 0) (.ptr 0 0), .ghost (gv 1) (.ptr 1 0), .ghost (gv 2) (.ptr 2 0)]⟩) (tips := []) (by kernel_rfl) all0 (norm ?_)
  refine At.seq ?_
  refine At.cond (decide (x1 < ((o2_0).length : Int))) (by kernel_rfl) (fun b6 => ?_) (fun b6 => ?_)
  · replace h := cond_t b6 h
    refine At.nar [0, 5, 6, 7] [0, 1, 2, 3, 4, 5] (st' := ⟨[(0, .yld 0), (5, lv T_api_Event.enc o2_0), (6, i64 ((o2_0).length : Int)), (7, i64 x1)], [.loop #[6] as_event_Steps_0 bd_event_Steps_0 10 [3] [.ptr 1 0] .ready none, .blk 3 [i64 x2], .blk 48 [lv T_api_Event.enc o2_0], .ghost (gv 0) (.ptr 0 0), .ghost (gv 1) (.ptr 1 0), .ghost (gv 2) (.ptr 2 0)]⟩) (by kernel_rfl) ?_
    refine At.skip (norm ?_)
    refine At.seq ?_
    refine At.block ?_
    refine At.seq ?_
    obtain ⟨y15, hy15, h⟩ := bind_some h
    refine At.region_end [0, 3, 4, 5, 6, 7] [0, 1, 2, 3, 4, 5, 6] _ (st' := ⟨[(0, .yld 0), (3, i64 x1), (4, .ptr 6 0), (5, lv T_api_Event.enc o2_0), (6, i64 ((o2_0).length : Int)), (7, i64 x1)], [.loop #[6] as_event_Steps_0 bd_event_Steps_0 10 [3] [.ptr 1 0] .ready none, .blk 3 [i64 x2], .blk 48 [lv T_api_Event.enc o2_0], .ghost (gv 0) (.ptr 0 0), .ghost (gv 1) (.ptr 1 0), .ghost (gv 2) (.ptr 2 0), .blk 104 (T_api_Event.pvs y15)]⟩) (tips := [(1, { orc := .cells (T_api_Event.enc y15) })]) (by kernel_rfl) (allc (elemAt_of T_api_Event.enc_len hy15) all0) (norm ?_)
    refine At.seqJ (S := Int) (fun s => ⟨[(0, .yld 0), (5, lv T_api_Event.enc o2_0), (6, i64 ((o2_0).length : Int)), (7, i64 x1), (20, bo false)], [.loop #[6] as_event_Steps_0 bd_event_Steps_0 10 [3] [.ptr 1 0] .ready none, .blk 3 [i64 s], .blk 48 [lv T_api_Event.enc o2_0], .ghost (gv 0) (.ptr 0 0), .ghost (gv 1) (.ptr 1 0), .ghost (gv 2) (.ptr 2 0)]⟩) (fun s => F_event_begins_1_v2_J1 x1 s = some oo3) ?_ ?_
    · rcases tf (y15.Kind == 1) with b19 | b19
      · replace h := cond_t b19 h
        obtain ⟨y20, hy20, h⟩ := bind_some h
        refine At.region_end [0, 5, 6, 7, 20] [0, 1, 2, 3, 4, 5] _ (st' := ⟨[(0, .yld 0), (5, lv T_api_Event.enc o2_0), (6, i64 ((o2_0).length : Int)), (7, i64 x1), (20, bo false)], [.loop #[6] as_event_Steps_0 bd_event_Steps_0 10 [3] [.ptr 1 0] .ready none, .blk 3 [i64 y20], .blk 48 [lv T_api_Event.enc o2_0], .ghost (gv 0) (.ptr 0 0), .ghost (gv 1) (.ptr 1 0), .ghost (gv 2) (.ptr 2 0)]⟩) (tips := [(3, { orc := .val (.bool true) }), (6, { pc := some { ρ := [0, 1], n0 := 2, res := bo true, σ' := [.loop #[6] as_event_Steps_0 bd_event_Steps_0 10 [3] [.ptr 1 0] .ready none, .blk 3 [i64 y20]], e := [1, 3] } })]) (by kernel_rfl) (allc (congrArg D.bool b19) (allc (C_R_event_Steps_0 x1 x2 y20 hy20) all0)) (fun a w hs => ⟨y20, h, hs⟩)
      · replace h := cond_f b19 h
        refine At.region_end [0, 5, 6, 7, 20] [0, 1, 2, 3, 4, 5] _ (st' := ⟨[(0, .yld 0), (5, lv T_api_Event.enc o2_0), (6, i64 ((o2_0).length : Int)), (7, i64 x1), (20, bo false)], [.loop #[6] as_event_Steps_0 bd_event_Steps_0 10 [3] [.ptr 1 0] .ready none, .blk 3 [i64 x2], .blk 48 [lv T_api_Event.enc o2_0], .ghost (gv 0) (.ptr 0 0), .ghost (gv 1) (.ptr 1 0), .ghost (gv 2) (.ptr 2 0)]⟩) (tips := [(3, { orc := .val (.bool false) })]) (by kernel_rfl) (allc (congrArg D.bool b19) all0) (fun a w hs => ⟨x2, h, hs⟩)
    · intro x18 h
      replace h : F_event_begins_1_v2_J1 x1 x18 = some oo3 := h
      rw [F_event_begins_1_v2_J1] at h
      refine At.cond false (by kernel_rfl) (fun hb => by cases hb) (fun _ => ?_)
      refine At.nar [0, 5, 6, 7] [0, 1, 2, 3, 4, 5] (st' := ⟨[(0, .yld 0), (5, lv T_api_Event.enc o2_0), (6, i64 ((o2_0).length : Int)), (7, i64 x1)], [.loop #[6] as_event_Steps_0 bd_event_Steps_0 10 [3] [.ptr 1 0] .ready none, .blk 3 [i64 x18], .blk 48 [lv T_api_Event.enc o2_0], .ghost (gv 0) (.ptr 0 0), .ghost (gv 1) (.ptr 1 0), .ghost (gv 2) (.ptr 2 0)]⟩) (by kernel_rfl) ?_
      refine At.skip (norm ?_)
      refine At.region_end [0, 5, 6, 7] [0, 1, 2, 3, 4, 5] _ (st' := ⟨[(0, .yld 0), (5, lv T_api_Event.enc o2_0), (6, i64 ((o2_0).length : Int)), (7, i64 (w64 (x1 + 1)))], [.loop #[6] as_event_Steps_0 bd_event_Steps_0 10 [3] [.ptr 1 0] .ready none, .blk 3 [i64 x18], .blk 48 [lv T_api_Event.enc o2_0], .ghost (gv 0) (.ptr 0 0), .ghost (gv 1) (.ptr 1 0), .ghost (gv 2) (.ptr 2 0)]⟩) (tips := []) (by kernel_rfl) all0 (fun a w hs => ⟨_, (some_eq h).symm, hs⟩)
  · replace h := cond_f b6 h
    refine At.nar [] [0, 1, 2, 3, 4, 5] (st' := ⟨[], [.loop #[6] as_event_Steps_0 bd_event_Steps_0 10 [3] [.ptr 1 0] .ready none, .blk 3 [i64 x2], .blk 48 [lv T_api_Event.enc o2_0], .ghost (gv 0) (.ptr 0 0), .ghost (gv 1) (.ptr 1 0), .ghost (gv 2) (.ptr 2 0)]⟩) (by kernel_rfl) ?_
    obtain ⟨r21, h, e22⟩ := map_inr h
    rw [f4 _ e22] at h
    obtain rfl := some_eq h
    refine At.exit (fun a w hs => ret_ok hR (ρ := [0, 1, 2]) (gs := [.ghost (gv 0) (.ptr 0 0), .ghost (gv 1) (.ptr 1 0), .ghost (gv 2) (.ptr 2 0)]) (by kernel_rfl) all0 (by kernel_rfl) rfl rfl a w hs _ (.inr rfl))
set_option maxRecDepth 100000 in
theorem C_event_Steps (p0 : (List T_api_Event)) (r : Int) (h : F_event_Steps p0 = some r) : FnOK Try.prog 28 [lv T_api_Event.enc p0] [] (i64 r) [] [] := by
  rw [F_event_Steps] at h
  refine FnOK.intro Try.func28 rfl (by kernel_rfl) (by kernel_rfl) fun E gv R hR => ?_
  refine At.seq ?_
  refine At.region_end [0, 2] [] _ (st' := ⟨[(0, lv T_api_Event.enc p0), (2, i64 0)], []⟩) (tips := []) (by kernel_rfl) all0 (norm ?_)
  refine At.seq ?_
  refine At.region_end [0, 2, 3] [0] _ (st' := ⟨[(0, lv T_api_Event.enc p0), (2, i64 0), (3, .ptr 0 0)], [.blk 3 [i64 0]]⟩) (tips := []) (by kernel_rfl) all0 (norm ?_)
  refine At.seq ?_
  refine At.seq ?_
  obtain ⟨y5, hy5, h⟩ := bind_some h
  refine At.region_end [2, 3, 5] [0, 1] _ (st' := ⟨[(2, i64 0), (3, .ptr 0 0), (5, .fn (.func 78) [] [.ptr 1 0])], [.blk 3 [i64 0], .blk 48 [lv T_api_Event.enc y5]]⟩) (tips := [(1, { pc := some { ρ := [1], n0 := 0, res := .fn (.func 78) [] [.ptr 0 0], σ' := [.blk 48 [lv T_api_Event.enc y5]], e := [] } })]) (by kernel_rfl) (allc (C_event_begins p0 y5 hy5) all0) (norm ?_)
  refine At.block ?_
  obtain ⟨y6, hy6, h⟩ := bind_some h
  refine At.range (pc := { ρ := [3, 0, 1], n0 := 3, res := .tup [], σ' := [.loop #[6] as_event_Steps_0 bd_event_Steps_0 10 [3] [.ptr 1 0] .ready none, .blk 3 [i64 y6], .blk 48 [lv T_api_Event.enc y5]], e := [1, 3, 5] }) [3] (st' := ⟨[(2, i64 0), (3, .ptr 0 0), (5, .fn (.func 78) [] [.ptr 1 0])], [.blk 3 [i64 y6], .blk 48 [lv T_api_Event.enc y5], .mark, .dead]⟩) (jump := none) (by kernel_rfl) (allc (C_event_begins_1_v2 0 y5 y6 hy6) all0) (nark [3] [2, 0] (st' := ⟨[(3, .ptr 1 0)], [.mark, .blk 3 [i64 y6]]⟩) (by kernel_rfl) (norm ?_))
  refine At.seq ?_
  refine At.region_end [2] [0] _ (st' := ⟨[(2, i64 y6)], [.mark]⟩) (tips := []) (by kernel_rfl) all0 (norm ?_)
  obtain rfl := some_eq h
  exact At.ret fun a w hs => ret_ok hR (ρ := []) (gs := []) (by kernel_rfl) all0 (by kernel_rfl) rfl rfl a w hs _ (.inl rfl)
set_option maxRecDepth 100000 in
theorem C_retraceref27_Same (p0 : (List T_api_Event)) (p1 : (List T_api_Event)) (r : Bool) (h : F_retraceref27_Same p0 p1 = some r) : FnOK Try.prog 34 [lv T_api_Event.enc p0, lv T_api_Event.enc p1] [] (bo r) [] [] := by
  rw [F_retraceref27_Same] at h
  refine FnOK.intro Try.func34 rfl (by kernel_rfl) (by kernel_rfl) fun E gv R hR => ?_
  refine At.seq ?_
  refine At.region_end [0, 1] [] _ (st' := ⟨[(0, lv T_api_Event.enc p0), (1, lv T_api_Event.enc p1)], []⟩) (tips := []) (by kernel_rfl) all0 (norm ?_)
  refine At.seq ?_
  refine At.seq ?_
  refine At.region_end [0, 1, 10] [] _ (st' := ⟨[(0, lv T_api_Event.enc p0), (1, lv T_api_Event.enc p1), (10, bo (((p0).length : Int) != ((p1).length : Int)))], []⟩) (tips := []) (by kernel_rfl) all0 (norm ?_)
  refine At.cond (((p0).length : Int) != ((p1).length : Int)) (by kernel_rfl) (fun b2 => ?_) (fun b2 => ?_)
  · replace h := cond_t b2 h
    refine At.seq ?_
    refine At.region_end [4] [] _ (st' := ⟨[(4, bo false)], []⟩) (tips := []) (by kernel_rfl) all0 (norm ?_)
    obtain rfl := some_eq h
    exact At.ret fun a w hs => ret_ok hR (ρ := []) (gs := []) (by kernel_rfl) all0 (by kernel_rfl) rfl rfl a w hs _ (.inl rfl)
  · replace h := cond_f b2 h
    refine At.nar [0, 1] [] (st' := ⟨[(0, lv T_api_Event.enc p0), (1, lv T_api_Event.enc p1)], []⟩) (by kernel_rfl) ?_
    refine At.skip (norm ?_)
    refine At.seq ?_
    refine At.seq ?_
    refine At.region_end [0, 1, 5] [] _ (st' := ⟨[(0, lv T_api_Event.enc p0), (1, lv T_api_Event.enc p1), (5, i64 0)], []⟩) (tips := []) (by kernel_rfl) all0 (norm ?_)
    refine At.block ?_
    refine At.loop (fun s : (Int) => F_retraceref27_Same_L1 p0 p1 s) (fun s : (Int) => ⟨[(0, lv T_api_Event.enc p0), (1, lv T_api_Event.enc p1), (5, i64 s)], []⟩) r 0 h ?_
    intro x22 oo23 h f24
    replace h : F_retraceref27_Same_L1 p0 p1 x22 = some oo23 := h
    rw [F_retraceref27_Same_L1] at h
    refine At.seq ?_
    refine At.seq ?_
    refine At.region_end [0, 1, 5, 14] [] _ (st' := ⟨[(0, lv T_api_Event.enc p0), (1, lv T_api_Event.enc p1), (5, i64 x22), (14, bo (decide (x22 < ((p0).length : Int))))], []⟩) (tips := []) (by kernel_rfl) all0 (norm ?_)
    refine At.cond (decide (x22 < ((p0).length : Int))) (by kernel_rfl) (fun b26 => ?_) (fun b26 => ?_)
    · replace h := cond_t b26 h
      refine At.nar [0, 1, 5] [] (st' := ⟨[(0, lv T_api_Event.enc p0), (1, lv T_api_Event.enc p1), (5, i64 x22)], []⟩) (by kernel_rfl) ?_
      refine At.skip (norm ?_)
      refine At.seq ?_
      refine At.block ?_
      refine At.seq ?_
      obtain ⟨y34, hy34, h⟩ := bind_some h
      obtain ⟨y35, hy35, h⟩ := bind_some h
      refine At.draw_end mixedOrd 0 [0, 1, 5, 25] [] _ (st' := ⟨[(0, lv T_api_Event.enc p0), (1, lv T_api_Event.enc p1), (5, i64 x22), (25, bo (!((y34.Kind == y35.Kind) && ((y34.N == y35.N) && true))))], []⟩) (tips := [(2, { tip := { orc := .cells (T_api_Event.enc y34) } }), (6, { tip := { orc := .cells (T_api_Event.enc y35) } })]) (by kernel_rfl) (allc (elemAt_of T_api_Event.enc_len hy34) (allc (elemAt_of T_api_Event.enc_len hy35) all0)) (norm ?_)
      refine At.cond (!((y34.Kind == y35.Kind) && ((y34.N == y35.N) && true))) (by kernel_rfl) (fun b36 => ?_) (fun b36 => ?_)
      · replace h := cond_t b36 h
        refine At.seq ?_
        refine At.region_end [4] [] _ (st' := ⟨[(4, bo false)], []⟩) (tips := []) (by kernel_rfl) all0 (norm ?_)
        obtain ⟨r37, h, e38⟩ := map_inr h
        rw [f24 _ e38] at h
        obtain rfl := some_eq h
        exact At.ret fun a w hs => ret_ok hR (ρ := []) (gs := []) (by kernel_rfl) all0 (by kernel_rfl) rfl rfl a w hs _ (.inl rfl)
      · replace h := cond_f b36 h
        refine At.nar [0, 1, 5] [] (st' := ⟨[(0, lv T_api_Event.enc p0), (1, lv T_api_Event.enc p1), (5, i64 x22)], []⟩) (by kernel_rfl) ?_
        refine At.skip (norm ?_)
        refine At.region_end [0, 1, 5] [] _ (st' := ⟨[(0, lv T_api_Event.enc p0), (1, lv T_api_Event.enc p1), (5, i64 (w64 (x22 + 1)))], []⟩) (tips := []) (by kernel_rfl) all0 (fun a w hs => ⟨_, (some_eq h).symm, hs⟩)
    · replace h := cond_f b26 h
      refine At.nar [] [] (st' := ⟨[], []⟩) (by kernel_rfl) ?_
      obtain ⟨r39, h, e40⟩ := map_inr h
      rw [f24 _ e40] at h
      refine At.exit (norm ?_)
      refine At.seq ?_
      refine At.region_end [4] [] _ (st' := ⟨[(4, bo true)], []⟩) (tips := []) (by kernel_rfl) all0 (norm ?_)
      obtain rfl := some_eq h
      exact At.ret fun a w hs => ret_ok hR (ρ := []) (gs := []) (by kernel_rfl) all0 (by kernel_rfl) rfl rfl a w hs _ (.inl rfl)
set_option maxRecDepth 100000 in
theorem C_retracelaw31_live  (r : Bool) (h : F_retracelaw31_live  = some r) : FnOK Try.prog 25 [] [] (bo r) [] [] := by
  rw [F_retracelaw31_live] at h
  refine FnOK.intro Try.func25 rfl (by kernel_rfl) (by kernel_rfl) fun E gv R hR => ?_
  refine At.seq ?_
  refine At.region_end [] [] _ (st' := ⟨[], []⟩) (tips := []) (by kernel_rfl) all0 (norm ?_)
  refine At.seq ?_
  refine At.region_end [1] [0] _ (st' := ⟨[(1, .row 0 ([(⟨1, 0⟩ : T_api_Event), (⟨3, 2⟩ : T_api_Event), (⟨1, 1⟩ : T_api_Event)]).length)], [.row 104 2 (encL T_api_Event.enc ([(⟨1, 0⟩ : T_api_Event), (⟨3, 2⟩ : T_api_Event), (⟨1, 1⟩ : T_api_Event)]))]⟩) (tips := []) (by kernel_rfl) all0 (norm ?_)
  refine At.seq ?_
  obtain ⟨y3, hy3, h⟩ := bind_some h
  obtain ⟨y4, hy4, h⟩ := bind_some h
  refine At.region_end [1, 2, 3] [] _ (st' := ⟨[(1, lv T_api_Event.enc ([(⟨1, 0⟩ : T_api_Event), (⟨3, 2⟩ : T_api_Event), (⟨1, 1⟩ : T_api_Event)])), (2, lv T_api_Event.enc y4.1), (3, i64 y4.2)], []⟩) (tips := [(1, { settle := [0], pc := some { ρ := [], n0 := 0, res := sv y3, σ' := [], e := [] } }), (2, { pc := some { ρ := [], n0 := 0, res := .tup [lv T_api_Event.enc y4.1, i64 y4.2], σ' := [], e := [] } })]) (by kernel_rfl) (allc (C_event_Put ([(⟨1, 0⟩ : T_api_Event), (⟨3, 2⟩ : T_api_Event), (⟨1, 1⟩ : T_api_Event)]) y3 hy3) (allc (C_event_Get y3 y4 hy4) all0)) (norm ?_)
  refine At.seq ?_
  obtain ⟨y6, hy6, h⟩ := bind_some h
  refine At.region_end [1, 2, 3, 5] [] _ (st' := ⟨[(1, lv T_api_Event.enc ([(⟨1, 0⟩ : T_api_Event), (⟨3, 2⟩ : T_api_Event), (⟨1, 1⟩ : T_api_Event)])), (2, lv T_api_Event.enc y4.1), (3, i64 y4.2), (5, i64 y6.2)], []⟩) (tips := [(1, { pc := some { ρ := [], n0 := 0, res := .tup [i64 y6.1, i64 y6.2], σ' := [], e := [] } })]) (by kernel_rfl) (allc (C_event_Check ([(⟨1, 0⟩ : T_api_Event), (⟨3, 2⟩ : T_api_Event), (⟨1, 1⟩ : T_api_Event)]) y6 hy6) all0) (norm ?_)
  refine At.seqJ (S := Bool) (fun s => ⟨[(0, bo s)], []⟩) (fun s => F_retracelaw31_live_J1 s = some r) ?_ ?_
  · obtain ⟨y15, hy15, h⟩ := bind_some h
    rcases tf (y15 == 2) with b16 | b16
    · replace h := cond_t b16 h
      obtain ⟨y17, hy17, h⟩ := bind_some h
      rcases tf (y17 == 2) with b18 | b18
      · replace h := cond_t b18 h
        obtain ⟨y19, hy19, h⟩ := bind_some h
        rcases tf y19 with b20 | b20
        · replace h := cond_t b20 h
          rcases tf (y4.2 == 0) with b21 | b21
          · replace h := cond_t b21 h
            refine At.region_end [0] [] _ (st' := ⟨[(0, bo (y6.2 == 0))], []⟩) (tips := [(1, { pc := some { ρ := [], n0 := 0, res := i64 y15, σ' := [], e := [] } }), (3, { orc := .val (.bool true) }), (5, { pc := some { ρ := [], n0 := 0, res := i64 y17, σ' := [], e := [] } }), (8, { orc := .val (.bool true) }), (11, { pc := some { ρ := [], n0 := 0, res := bo y19, σ' := [], e := [] } }), (13, { orc := .val (.bool true) }), (17, { orc := .val (.bool true) })]) (by kernel_rfl) (allc (C_event_Begin ([(⟨1, 0⟩ : T_api_Event), (⟨3, 2⟩ : T_api_Event), (⟨1, 1⟩ : T_api_Event)]) 1 y15 hy15) (allc (congrArg D.bool b16) (allc (C_event_Steps ([(⟨1, 0⟩ : T_api_Event), (⟨3, 2⟩ : T_api_Event), (⟨1, 1⟩ : T_api_Event)]) y17 hy17) (allc (congrArg D.bool b18) (allc (C_retraceref27_Same y4.1 ([(⟨1, 0⟩ : T_api_Event), (⟨3, 2⟩ : T_api_Event), (⟨1, 1⟩ : T_api_Event)]) y19 hy19) (allc (congrArg D.bool b20) (allc (congrArg D.bool b21) all0))))))) (fun a w hs => ⟨(y6.2 == 0), h, hs⟩)
          · replace h := cond_f b21 h
            refine At.region_end [0] [] _ (st' := ⟨[(0, bo false)], []⟩) (tips := [(1, { pc := some { ρ := [], n0 := 0, res := i64 y15, σ' := [], e := [] } }), (3, { orc := .val (.bool true) }), (5, { pc := some { ρ := [], n0 := 0, res := i64 y17, σ' := [], e := [] } }), (8, { orc := .val (.bool true) }), (11, { pc := some { ρ := [], n0 := 0, res := bo y19, σ' := [], e := [] } }), (13, { orc := .val (.bool true) }), (17, { orc := .val (.bool false) })]) (by kernel_rfl) (allc (C_event_Begin ([(⟨1, 0⟩ : T_api_Event), (⟨3, 2⟩ : T_api_Event), (⟨1, 1⟩ : T_api_Event)]) 1 y15 hy15) (allc (congrArg D.bool b16) (allc (C_event_Steps ([(⟨1, 0⟩ : T_api_Event), (⟨3, 2⟩ : T_api_Event), (⟨1, 1⟩ : T_api_Event)]) y17 hy17) (allc (congrArg D.bool b18) (allc (C_retraceref27_Same y4.1 ([(⟨1, 0⟩ : T_api_Event), (⟨3, 2⟩ : T_api_Event), (⟨1, 1⟩ : T_api_Event)]) y19 hy19) (allc (congrArg D.bool b20) (allc (congrArg D.bool b21) all0))))))) (fun a w hs => ⟨false, h, hs⟩)
        · replace h := cond_f b20 h
          refine At.region_end [0] [] _ (st' := ⟨[(0, bo false)], []⟩) (tips := [(1, { pc := some { ρ := [], n0 := 0, res := i64 y15, σ' := [], e := [] } }), (3, { orc := .val (.bool true) }), (5, { pc := some { ρ := [], n0 := 0, res := i64 y17, σ' := [], e := [] } }), (8, { orc := .val (.bool true) }), (11, { pc := some { ρ := [], n0 := 0, res := bo y19, σ' := [], e := [] } }), (13, { orc := .val (.bool false) })]) (by kernel_rfl) (allc (C_event_Begin ([(⟨1, 0⟩ : T_api_Event), (⟨3, 2⟩ : T_api_Event), (⟨1, 1⟩ : T_api_Event)]) 1 y15 hy15) (allc (congrArg D.bool b16) (allc (C_event_Steps ([(⟨1, 0⟩ : T_api_Event), (⟨3, 2⟩ : T_api_Event), (⟨1, 1⟩ : T_api_Event)]) y17 hy17) (allc (congrArg D.bool b18) (allc (C_retraceref27_Same y4.1 ([(⟨1, 0⟩ : T_api_Event), (⟨3, 2⟩ : T_api_Event), (⟨1, 1⟩ : T_api_Event)]) y19 hy19) (allc (congrArg D.bool b20) all0)))))) (fun a w hs => ⟨false, h, hs⟩)
      · replace h := cond_f b18 h
        refine At.region_end [0] [] _ (st' := ⟨[(0, bo false)], []⟩) (tips := [(1, { pc := some { ρ := [], n0 := 0, res := i64 y15, σ' := [], e := [] } }), (3, { orc := .val (.bool true) }), (5, { pc := some { ρ := [], n0 := 0, res := i64 y17, σ' := [], e := [] } }), (8, { orc := .val (.bool false) })]) (by kernel_rfl) (allc (C_event_Begin ([(⟨1, 0⟩ : T_api_Event), (⟨3, 2⟩ : T_api_Event), (⟨1, 1⟩ : T_api_Event)]) 1 y15 hy15) (allc (congrArg D.bool b16) (allc (C_event_Steps ([(⟨1, 0⟩ : T_api_Event), (⟨3, 2⟩ : T_api_Event), (⟨1, 1⟩ : T_api_Event)]) y17 hy17) (allc (congrArg D.bool b18) all0)))) (fun a w hs => ⟨false, h, hs⟩)
    · replace h := cond_f b16 h
      refine At.region_end [0] [] _ (st' := ⟨[(0, bo false)], []⟩) (tips := [(1, { pc := some { ρ := [], n0 := 0, res := i64 y15, σ' := [], e := [] } }), (3, { orc := .val (.bool false) })]) (by kernel_rfl) (allc (C_event_Begin ([(⟨1, 0⟩ : T_api_Event), (⟨3, 2⟩ : T_api_Event), (⟨1, 1⟩ : T_api_Event)]) 1 y15 hy15) (allc (congrArg D.bool b16) all0)) (fun a w hs => ⟨false, h, hs⟩)
  · intro x14 h
    replace h : F_retracelaw31_live_J1 x14 = some r := h
    rw [F_retracelaw31_live_J1] at h
    obtain rfl := some_eq h
    exact At.ret fun a w hs => ret_ok hR (ρ := []) (gs := []) (by kernel_rfl) all0 (by kernel_rfl) rfl rfl a w hs _ (.inl rfl)
set_option maxRecDepth 100000 in
theorem C_event_Check_v2 (o0 : (List T_api_Event)) (r : Int × Int) (h : F_event_Check_v2 o0 = some r) : FnOK Try.prog 26 [.row 0 (o0).length] [.row 104 2 (encL T_api_Event.enc o0)] (.tup [i64 r.1, i64 r.2]) [.row 104 2 (encL T_api_Event.enc o0)] [0] := by
  rw [F_event_Check_v2] at h
  refine FnOK.intro Try.func26 rfl (by kernel_rfl) (by kernel_rfl) fun E gv R hR => ?_
  refine At.seq ?_
  refine At.region_end [0] [0, 1] _ (st' := ⟨[(0, .row 0 (o0).length)], [.row 104 2 (encL T_api_Event.enc o0), .ghost (gv 0) (.row 0 0)]⟩) (tips := []) (by kernel_rfl) all0 (norm ?_)
  refine At.seq ?_
  refine At.seq ?_
  refine At.region_end [0, 8] [0, 1] _ (st' := ⟨[(0, .row 0 (o0).length), (8, bo (decide (65536 < ((o0).length : Int))))], [.row 104 2 (encL T_api_Event.enc o0), .ghost (gv 0) (.row 0 0)]⟩) (tips := []) (by kernel_rfl) all0 (norm ?_)
  refine At.cond (decide (65536 < ((o0).length : Int))) (by kernel_rfl) (fun b2 => ?_) (fun b2 => ?_)
  · replace h := cond_t b2 h
    refine At.seq ?_
    refine At.region_end [2, 3] [0, 1] _ (st' := ⟨[(2, i64 65536), (3, i64 13)], [.row 104 2 (encL T_api_Event.enc o0), .ghost (gv 0) (.row 0 0)]⟩) (tips := []) (by kernel_rfl) all0 (norm ?_)
    obtain rfl := some_eq h
    exact At.ret fun a w hs => ret_ok hR (ρ := [0]) (gs := [.ghost (gv 0) (.row 0 0)]) (by kernel_rfl) all0 (by kernel_rfl) rfl rfl a w hs _ (.inl rfl)
  · replace h := cond_f b2 h
    refine At.nar [0] [0, 1] (st' := ⟨[(0, .row 0 (o0).length)], [.row 104 2 (encL T_api_Event.enc o0), .ghost (gv 0) (.row 0 0)]⟩) (by kernel_rfl) ?_
    refine At.skip (norm ?_)
    refine At.seq ?_
    refine At.seq ?_
    refine At.region_end [9, 10, 11] [0, 1] _ (st' := ⟨[(9, .row 0 (o0).length), (10, i64 ((o0).length : Int)), (11, i64 0)], [.row 104 2 (encL T_api_Event.enc o0), .ghost (gv 0) (.row 0 0)]⟩) (tips := []) (by kernel_rfl) all0 (norm ?_)
    refine At.block ?_
    refine At.loop (fun s : (Int) => F_event_Check_v2_L2 o0 s) (fun s : (Int) => ⟨[(9, .row 0 (o0).length), (10, i64 ((o0).length : Int)), (11, i64 s)], [.row 104 2 (encL T_api_Event.enc o0), .ghost (gv 0) (.row 0 0)]⟩) r 0 h ?_
    intro x36 oo37 h f38
    replace h : F_event_Check_v2_L2 o0 x36 = some oo37 := h
    rw [F_event_Check_v2_L2] at h
    refine At.seq ?_
    refine At.region_end [9, 10, 11, 12] [0, 1] _ (st' := ⟨[(9, .row 0 (o0).length), (10, i64 ((o0).length : Int)), (11, i64 x36), (12, bo (decide (x36 < ((o0).length : Int))))], [.row 104 2 (encL T_api_Event.enc o0), .ghost (gv 0) (.row 0 0)]⟩) (tips := []) (by kernel_rfl) all0 (norm ?_)
    refine At.seq ?_
    refine At.cond (decide (x36 < ((o0).length : Int))) (by kernel_rfl) (fun b40 => ?_) (fun b40 => ?_)
    · replace h := cond_t b40 h
      refine At.nar [9, 10, 11] [0, 1] (st' := ⟨[(9, .row 0 (o0).length), (10, i64 ((o0).length : Int)), (11, i64 x36)], [.row 104 2 (encL T_api_Event.enc o0), .ghost (gv 0) (.row 0 0)]⟩) (by kernel_rfl) ?_
      refine At.skip (norm ?_)
      refine At.seq ?_
      refine At.block ?_
      refine At.seq ?_
      obtain ⟨y54, hy54, h⟩ := bind_some h
      refine At.region_end [4, 5, 9, 10, 11] [0, 1, 2] _ (st' := ⟨[(4, i64 x36), (5, .ptr 2 0), (9, .row 0 (o0).length), (10, i64 ((o0).length : Int)), (11, i64 x36)], [.row 104 2 (encL T_api_Event.enc o0), .ghost (gv 0) (.row 0 0), .blk 104 (T_api_Event.pvs y54)]⟩) (tips := [(2, { orc := .cells [.int .i64 y54.Kind, .int .i64 y54.N] })]) (by kernel_rfl) (allc (rEl hy54) (allc (rElC T_api_Event.enc_len hy54 0 2 (by decide) (by rfl)) all0)) (norm ?_)
      refine At.seqJ (S := Bool) (fun s => ⟨[(4, i64 x36), (9, .row 0 (o0).length), (10, i64 ((o0).length : Int)), (11, i64 x36), (37, bo s)], [.row 104 2 (encL T_api_Event.enc o0), .ghost (gv 0) (.row 0 0)]⟩) (fun s => F_event_Check_v2_J1 x36 s = some oo37) ?_ ?_
      · rcases tf (decide (y54.Kind < 1)) with b63 | b63
        · replace h := cond_t b63 h
          refine At.region_end [4, 9, 10, 11, 37] [0, 1] _ (st' := ⟨[(4, i64 x36), (9, .row 0 (o0).length), (10, i64 ((o0).length : Int)), (11, i64 x36), (37, bo true)], [.row 104 2 (encL T_api_Event.enc o0), .ghost (gv 0) (.row 0 0)]⟩) (tips := [(3, { orc := .val (.bool true) })]) (by kernel_rfl) (allc (congrArg D.bool b63) all0) (fun a w hs => ⟨true, h, hs⟩)
        · replace h := cond_f b63 h
          rcases tf (decide (3 < y54.Kind)) with b64 | b64
          · replace h := cond_t b64 h
            refine At.region_end [4, 9, 10, 11, 37] [0, 1] _ (st' := ⟨[(4, i64 x36), (9, .row 0 (o0).length), (10, i64 ((o0).length : Int)), (11, i64 x36), (37, bo true)], [.row 104 2 (encL T_api_Event.enc o0), .ghost (gv 0) (.row 0 0)]⟩) (tips := [(3, { orc := .val (.bool false) }), (8, { orc := .val (.bool true) })]) (by kernel_rfl) (allc (congrArg D.bool b63) (allc (congrArg D.bool b64) all0)) (fun a w hs => ⟨true, h, hs⟩)
          · replace h := cond_f b64 h
            rcases tf (decide (y54.N < 0)) with b65 | b65
            · replace h := cond_t b65 h
              refine At.region_end [4, 9, 10, 11, 37] [0, 1] _ (st' := ⟨[(4, i64 x36), (9, .row 0 (o0).length), (10, i64 ((o0).length : Int)), (11, i64 x36), (37, bo true)], [.row 104 2 (encL T_api_Event.enc o0), .ghost (gv 0) (.row 0 0)]⟩) (tips := [(3, { orc := .val (.bool false) }), (8, { orc := .val (.bool false) }), (13, { orc := .val (.bool true) })]) (by kernel_rfl) (allc (congrArg D.bool b63) (allc (congrArg D.bool b64) (allc (congrArg D.bool b65) all0))) (fun a w hs => ⟨true, h, hs⟩)
            · replace h := cond_f b65 h
              rcases tf (x36 == 0) with b66 | b66
              · replace h := cond_t b66 h
                refine At.region_end [4, 9, 10, 11, 37] [0, 1] _ (st' := ⟨[(4, i64 x36), (9, .row 0 (o0).length), (10, i64 ((o0).length : Int)), (11, i64 x36), (37, bo (y54.Kind != 1))], [.row 104 2 (encL T_api_Event.enc o0), .ghost (gv 0) (.row 0 0)]⟩) (tips := [(3, { orc := .val (.bool false) }), (8, { orc := .val (.bool false) }), (13, { orc := .val (.bool false) }), (16, { orc := .val (.bool true) })]) (by kernel_rfl) (allc (congrArg D.bool b63) (allc (congrArg D.bool b64) (allc (congrArg D.bool b65) (allc (congrArg D.bool b66) all0)))) (fun a w hs => ⟨(y54.Kind != 1), h, hs⟩)
              · replace h := cond_f b66 h
                refine At.region_end [4, 9, 10, 11, 37] [0, 1] _ (st' := ⟨[(4, i64 x36), (9, .row 0 (o0).length), (10, i64 ((o0).length : Int)), (11, i64 x36), (37, bo false)], [.row 104 2 (encL T_api_Event.enc o0), .ghost (gv 0) (.row 0 0)]⟩) (tips := [(3, { orc := .val (.bool false) }), (8, { orc := .val (.bool false) }), (13, { orc := .val (.bool false) }), (16, { orc := .val (.bool false) })]) (by kernel_rfl) (allc (congrArg D.bool b63) (allc (congrArg D.bool b64) (allc (congrArg D.bool b65) (allc (congrArg D.bool b66) all0)))) (fun a w hs => ⟨false, h, hs⟩)
      · intro x59 h
        replace h : F_event_Check_v2_J1 x36 x59 = some oo37 := h
        rw [F_event_Check_v2_J1] at h
        refine At.cond x59 (by kernel_rfl) (fun b60 => ?_) (fun b60 => ?_)
        · replace h := cond_t b60 h
          refine At.seq ?_
          refine At.region_end [2, 3] [0, 1] _ (st' := ⟨[(2, i64 x36), (3, i64 3)], [.row 104 2 (encL T_api_Event.enc o0), .ghost (gv 0) (.row 0 0)]⟩) (tips := []) (by kernel_rfl) all0 (norm ?_)
          obtain ⟨r61, h, e62⟩ := map_inr h
          rw [f38 _ e62] at h
          obtain rfl := some_eq h
          exact At.ret fun a w hs => ret_ok hR (ρ := [0]) (gs := [.ghost (gv 0) (.row 0 0)]) (by kernel_rfl) all0 (by kernel_rfl) rfl rfl a w hs _ (.inl rfl)
        · replace h := cond_f b60 h
          refine At.nar [9, 10, 11] [0, 1] (st' := ⟨[(9, .row 0 (o0).length), (10, i64 ((o0).length : Int)), (11, i64 x36)], [.row 104 2 (encL T_api_Event.enc o0), .ghost (gv 0) (.row 0 0)]⟩) (by kernel_rfl) ?_
          refine At.skip (norm ?_)
          refine At.region_end [9, 10, 11] [0, 1] _ (st' := ⟨[(9, .row 0 (o0).length), (10, i64 ((o0).length : Int)), (11, i64 (w64 (x36 + 1)))], [.row 104 2 (encL T_api_Event.enc o0), .ghost (gv 0) (.row 0 0)]⟩) (tips := []) (by kernel_rfl) all0 (fun a w hs => ⟨_, (some_eq h).symm, hs⟩)
    · replace h := cond_f b40 h
      refine At.nar [] [0, 1] (st' := ⟨[], [.row 104 2 (encL T_api_Event.enc o0), .ghost (gv 0) (.row 0 0)]⟩) (by kernel_rfl) ?_
      obtain ⟨r67, h, e68⟩ := map_inr h
      rw [f38 _ e68] at h
      refine At.exit (norm ?_)
      refine At.seq ?_
      refine At.region_end [2, 3] [0, 1] _ (st' := ⟨[(2, i64 0), (3, i64 0)], [.row 104 2 (encL T_api_Event.enc o0), .ghost (gv 0) (.row 0 0)]⟩) (tips := []) (by kernel_rfl) all0 (norm ?_)
      obtain rfl := some_eq h
      exact At.ret fun a w hs => ret_ok hR (ρ := [0]) (gs := [.ghost (gv 0) (.row 0 0)]) (by kernel_rfl) all0 (by kernel_rfl) rfl rfl a w hs _ (.inl rfl)
set_option maxRecDepth 100000 in
theorem C_retraceref31_Check (p0 : (List T_api_Event)) (r : (List Int)) (h : F_retraceref31_Check p0 = some r) : FnOK Try.prog 27 [lv T_api_Event.enc p0] [] (.dagg (encL (eInt .i64) r)) [] [] := by
  rw [F_retraceref31_Check] at h
  refine FnOK.intro Try.func27 rfl (by kernel_rfl) (by kernel_rfl) fun E gv R hR => ?_
  refine At.seq ?_
  refine At.region_end [0, 2] [0] _ (st' := ⟨[(0, lv T_api_Event.enc p0), (2, .ptr 0 0)], [.dblk 51 (encL (eInt .i64) (List.replicate 2 (0 : Int)))]⟩) (tips := []) (by kernel_rfl) all0 (norm ?_)
  refine At.seq ?_
  refine At.seq ?_
  refine At.region_end [0, 2, 6] [0] _ (st' := ⟨[(0, lv T_api_Event.enc p0), (2, .ptr 0 0), (6, bo (decide (65536 < ((p0).length : Int))))], [.dblk 51 (encL (eInt .i64) (List.replicate 2 (0 : Int)))]⟩) (tips := []) (by kernel_rfl) all0 (norm ?_)
  refine At.cond (decide (65536 < ((p0).length : Int))) (by kernel_rfl) (fun b4 => ?_) (fun b4 => ?_)
  · replace h := cond_t b4 h
    refine At.seq ?_
    obtain ⟨g6, h⟩ := grd_some h
    refine At.region_end [2] [0] _ (st' := ⟨[(2, .ptr 0 0)], [.dblk 51 (encL (eInt .i64) ([65536, 13] : List Int))]⟩) (tips := []) (by kernel_rfl) (allc (lenN (he_int .i64) ([65536, 13] : List Int) g6.1) (allc (lenN (he_int .i64) (List.replicate 2 (0 : Int)) g6.2) all0)) (norm ?_)
    obtain ⟨g7, h⟩ := grd_some h
    obtain rfl := some_eq h
    exact At.ret fun a w hs => ret_ok hR (ρ := []) (gs := []) (by kernel_rfl) (allc (lenN (he_int .i64) ([65536, 13] : List Int) g7) all0) (by kernel_rfl) rfl rfl a w hs _ (.inl rfl)
  · replace h := cond_f b4 h
    refine At.nar [0, 2] [0] (st' := ⟨[(0, lv T_api_Event.enc p0), (2, .ptr 0 0)], [.dblk 51 (encL (eInt .i64) (List.replicate 2 (0 : Int)))]⟩) (by kernel_rfl) ?_
    refine At.skip (norm ?_)
    refine At.seq ?_
    refine At.seq ?_
    refine At.region_end [0, 2, 3] [0] _ (st' := ⟨[(0, lv T_api_Event.enc p0), (2, .ptr 0 0), (3, i64 0)], [.dblk 51 (encL (eInt .i64) (List.replicate 2 (0 : Int)))]⟩) (tips := []) (by kernel_rfl) all0 (norm ?_)
    refine At.block ?_
    refine At.loop (fun s : (Int) => F_retraceref31_Check_L2 p0 s) (fun s : (Int) => ⟨[(0, lv T_api_Event.enc p0), (2, .ptr 0 0), (3, i64 s)], [.dblk 51 (encL (eInt .i64) (List.replicate 2 (0 : Int)))]⟩) r 0 h ?_
    intro x57 oo58 h f59
    replace h : F_retraceref31_Check_L2 p0 x57 = some oo58 := h
    rw [F_retraceref31_Check_L2] at h
    refine At.seq ?_
    refine At.seq ?_
    refine At.region_end [0, 2, 3, 11] [0] _ (st' := ⟨[(0, lv T_api_Event.enc p0), (2, .ptr 0 0), (3, i64 x57), (11, bo (decide (x57 < ((p0).length : Int))))], [.dblk 51 (encL (eInt .i64) (List.replicate 2 (0 : Int)))]⟩) (tips := []) (by kernel_rfl) all0 (norm ?_)
    refine At.cond (decide (x57 < ((p0).length : Int))) (by kernel_rfl) (fun b61 => ?_) (fun b61 => ?_)
    · replace h := cond_t b61 h
      refine At.nar [0, 2, 3] [0] (st' := ⟨[(0, lv T_api_Event.enc p0), (2, .ptr 0 0), (3, i64 x57)], [.dblk 51 (encL (eInt .i64) (List.replicate 2 (0 : Int)))]⟩) (by kernel_rfl) ?_
      refine At.skip (norm ?_)
      refine At.seq ?_
      refine At.block ?_
      refine At.seqJ (S := Bool) (fun s => ⟨[(0, lv T_api_Event.enc p0), (2, .ptr 0 0), (3, i64 x57), (47, bo s)], [.dblk 51 (encL (eInt .i64) (List.replicate 2 (0 : Int)))]⟩) (fun s => F_retraceref31_Check_J1 x57 s = some oo58) ?_ ?_
      · obtain ⟨y97, hy97, h⟩ := bind_some h
        rcases tf (decide (y97.Kind < 1)) with b98 | b98
        · replace h := cond_t b98 h
          refine At.region_end [0, 2, 3, 47] [0] _ (st' := ⟨[(0, lv T_api_Event.enc p0), (2, .ptr 0 0), (3, i64 x57), (47, bo true)], [.dblk 51 (encL (eInt .i64) (List.replicate 2 (0 : Int)))]⟩) (tips := [(2, { orc := .cells (T_api_Event.enc y97) }), (6, { orc := .val (.bool true) })]) (by kernel_rfl) (allc (elemAt_of T_api_Event.enc_len hy97) (allc (congrArg D.bool b98) all0)) (fun a w hs => ⟨true, h, hs⟩)
        · replace h := cond_f b98 h
          obtain ⟨y99, hy99, h⟩ := bind_some h
          rcases tf (decide (3 < y99.Kind)) with b100 | b100
          · replace h := cond_t b100 h
            refine At.region_end [0, 2, 3, 47] [0] _ (st' := ⟨[(0, lv T_api_Event.enc p0), (2, .ptr 0 0), (3, i64 x57), (47, bo true)], [.dblk 51 (encL (eInt .i64) (List.replicate 2 (0 : Int)))]⟩) (tips := [(2, { orc := .cells (T_api_Event.enc y97) }), (6, { orc := .val (.bool false) }), (9, { orc := .cells (T_api_Event.enc y99) }), (14, { orc := .val (.bool true) })]) (by kernel_rfl) (allc (elemAt_of T_api_Event.enc_len hy97) (allc (congrArg D.bool b98) (allc (elemAt_of T_api_Event.enc_len hy99) (allc (congrArg D.bool b100) all0)))) (fun a w hs => ⟨true, h, hs⟩)
          · replace h := cond_f b100 h
            obtain ⟨y101, hy101, h⟩ := bind_some h
            rcases tf (decide (y101.N < 0)) with b102 | b102
            · replace h := cond_t b102 h
              refine At.region_end [0, 2, 3, 47] [0] _ (st' := ⟨[(0, lv T_api_Event.enc p0), (2, .ptr 0 0), (3, i64 x57), (47, bo true)], [.dblk 51 (encL (eInt .i64) (List.replicate 2 (0 : Int)))]⟩) (tips := [(2, { orc := .cells (T_api_Event.enc y97) }), (6, { orc := .val (.bool false) }), (9, { orc := .cells (T_api_Event.enc y99) }), (14, { orc := .val (.bool false) }), (17, { orc := .cells (T_api_Event.enc y101) }), (22, { orc := .val (.bool true) })]) (by kernel_rfl) (allc (elemAt_of T_api_Event.enc_len hy97) (allc (congrArg D.bool b98) (allc (elemAt_of T_api_Event.enc_len hy99) (allc (congrArg D.bool b100) (allc (elemAt_of T_api_Event.enc_len hy101) (allc (congrArg D.bool b102) all0)))))) (fun a w hs => ⟨true, h, hs⟩)
            · replace h := cond_f b102 h
              rcases tf (x57 == 0) with b103 | b103
              · replace h := cond_t b103 h
                obtain ⟨y104, hy104, h⟩ := bind_some h
                refine At.region_end [0, 2, 3, 47] [0] _ (st' := ⟨[(0, lv T_api_Event.enc p0), (2, .ptr 0 0), (3, i64 x57), (47, bo (y104.Kind != 1))], [.dblk 51 (encL (eInt .i64) (List.replicate 2 (0 : Int)))]⟩) (tips := [(2, { orc := .cells (T_api_Event.enc y97) }), (6, { orc := .val (.bool false) }), (9, { orc := .cells (T_api_Event.enc y99) }), (14, { orc := .val (.bool false) }), (17, { orc := .cells (T_api_Event.enc y101) }), (22, { orc := .val (.bool false) }), (25, { orc := .val (.bool true) }), (28, { orc := .cells (T_api_Event.enc y104) })]) (by kernel_rfl) (allc (elemAt_of T_api_Event.enc_len hy97) (allc (congrArg D.bool b98) (allc (elemAt_of T_api_Event.enc_len hy99) (allc (congrArg D.bool b100) (allc (elemAt_of T_api_Event.enc_len hy101) (allc (congrArg D.bool b102) (allc (congrArg D.bool b103) (allc (elemAt_of T_api_Event.enc_len hy104) all0)))))))) (fun a w hs => ⟨(y104.Kind != 1), h, hs⟩)
              · replace h := cond_f b103 h
                refine At.region_end [0, 2, 3, 47] [0] _ (st' := ⟨[(0, lv T_api_Event.enc p0), (2, .ptr 0 0), (3, i64 x57), (47, bo false)], [.dblk 51 (encL (eInt .i64) (List.replicate 2 (0 : Int)))]⟩) (tips := [(2, { orc := .cells (T_api_Event.enc y97) }), (6, { orc := .val (.bool false) }), (9, { orc := .cells (T_api_Event.enc y99) }), (14, { orc := .val (.bool false) }), (17, { orc := .cells (T_api_Event.enc y101) }), (22, { orc := .val (.bool false) }), (25, { orc := .val (.bool false) })]) (by kernel_rfl) (allc (elemAt_of T_api_Event.enc_len hy97) (allc (congrArg D.bool b98) (allc (elemAt_of T_api_Event.enc_len hy99) (allc (congrArg D.bool b100) (allc (elemAt_of T_api_Event.enc_len hy101) (allc (congrArg D.bool b102) (allc (congrArg D.bool b103) all0))))))) (fun a w hs => ⟨false, h, hs⟩)
      · intro x90 h
        replace h : F_retraceref31_Check_J1 x57 x90 = some oo58 := h
        rw [F_retraceref31_Check_J1] at h
        refine At.cond x90 (by kernel_rfl) (fun b91 => ?_) (fun b91 => ?_)
        · replace h := cond_t b91 h
          refine At.seq ?_
          obtain ⟨g93, h⟩ := grd_some h
          refine At.region_end [2] [0] _ (st' := ⟨[(2, .ptr 0 0)], [.dblk 51 (encL (eInt .i64) ([x57, 3] : List Int))]⟩) (tips := []) (by kernel_rfl) (allc (lenN (he_int .i64) ([x57, 3] : List Int) g93.1) (allc (lenN (he_int .i64) (List.replicate 2 (0 : Int)) g93.2) all0)) (norm ?_)
          obtain ⟨r94, h, e95⟩ := map_inr h
          rw [f59 _ e95] at h
          obtain ⟨g96, h⟩ := grd_some h
          obtain rfl := some_eq h
          exact At.ret fun a w hs => ret_ok hR (ρ := []) (gs := []) (by kernel_rfl) (allc (lenN (he_int .i64) ([x57, 3] : List Int) g96) all0) (by kernel_rfl) rfl rfl a w hs _ (.inl rfl)
        · replace h := cond_f b91 h
          refine At.nar [0, 2, 3] [0] (st' := ⟨[(0, lv T_api_Event.enc p0), (2, .ptr 0 0), (3, i64 x57)], [.dblk 51 (encL (eInt .i64) (List.replicate 2 (0 : Int)))]⟩) (by kernel_rfl) ?_
          refine At.skip (norm ?_)
          refine At.region_end [0, 2, 3] [0] _ (st' := ⟨[(0, lv T_api_Event.enc p0), (2, .ptr 0 0), (3, i64 (w64 (x57 + 1)))], [.dblk 51 (encL (eInt .i64) (List.replicate 2 (0 : Int)))]⟩) (tips := []) (by kernel_rfl) all0 (fun a w hs => ⟨_, (some_eq h).symm, hs⟩)
    · replace h := cond_f b61 h
      refine At.nar [2] [0] (st' := ⟨[(2, .ptr 0 0)], [.dblk 51 (encL (eInt .i64) (List.replicate 2 (0 : Int)))]⟩) (by kernel_rfl) ?_
      obtain ⟨r105, h, e106⟩ := map_inr h
      rw [f59 _ e106] at h
      refine At.exit (norm ?_)
      refine At.seq ?_
      obtain ⟨g108, h⟩ := grd_some h
      refine At.region_end [2] [0] _ (st' := ⟨[(2, .ptr 0 0)], [.dblk 51 (encL (eInt .i64) ([0, 0] : List Int))]⟩) (tips := []) (by kernel_rfl) (allc (lenN (he_int .i64) ([0, 0] : List Int) g108.1) (allc (lenN (he_int .i64) (List.replicate 2 (0 : Int)) g108.2) all0)) (norm ?_)
      obtain ⟨g109, h⟩ := grd_some h
      obtain rfl := some_eq h
      exact At.ret fun a w hs => ret_ok hR (ρ := []) (gs := []) (by kernel_rfl) (allc (lenN (he_int .i64) ([0, 0] : List Int) g109) all0) (by kernel_rfl) rfl rfl a w hs _ (.inl rfl)
set_option maxRecDepth 100000 in
theorem C_retracelaw31_EventChecks (p0 : (List T_api_Event)) (p1 : Int) (r : Bool) (h : F_retracelaw31_EventChecks p0 p1 = some r) : FnOK Try.prog 6 [lv T_api_Event.enc p0, u8 p1] [] (bo r) [] [] := by
  rw [F_retracelaw31_EventChecks] at h
  refine FnOK.intro Try.func6 rfl (by kernel_rfl) (by kernel_rfl) fun E gv R hR => ?_
  refine At.seq ?_
  refine At.region_end [0, 1] [] _ (st' := ⟨[(0, lv T_api_Event.enc p0), (1, u8 p1)], []⟩) (tips := []) (by kernel_rfl) all0 (norm ?_)
  refine At.seq ?_
  refine At.seq ?_
  refine At.region_end [0, 1, 11] [] _ (st' := ⟨[(0, lv T_api_Event.enc p0), (1, u8 p1), (11, bo (decide (300 < ((p0).length : Int))))], []⟩) (tips := []) (by kernel_rfl) all0 (norm ?_)
  refine At.cond (decide (300 < ((p0).length : Int))) (by kernel_rfl) (fun b4 => ?_) (fun b4 => ?_)
  · replace h := cond_t b4 h
    refine At.seq ?_
    obtain ⟨y6, hy6, h⟩ := bind_some h
    refine At.region_end [4] [] _ (st' := ⟨[(4, bo y6)], []⟩) (tips := [(0, { pc := some { ρ := [], n0 := 0, res := bo y6, σ' := [], e := [] } })]) (by kernel_rfl) (allc (C_retracelaw31_live y6 hy6) all0) (norm ?_)
    obtain rfl := some_eq h
    exact At.ret fun a w hs => ret_ok hR (ρ := []) (gs := []) (by kernel_rfl) all0 (by kernel_rfl) rfl rfl a w hs _ (.inl rfl)
  · replace h := cond_f b4 h
    refine At.nar [0, 1] [] (st' := ⟨[(0, lv T_api_Event.enc p0), (1, u8 p1)], []⟩) (by kernel_rfl) ?_
    refine At.skip (norm ?_)
    refine At.seq ?_
    obtain ⟨y8, hy8, h⟩ := bind_some h
    refine At.region_end [0, 1, 5, 6] [] _ (st' := ⟨[(0, lv T_api_Event.enc p0), (1, u8 p1), (5, i64 y8.1), (6, i64 y8.2)], []⟩) (tips := [(1, { pc := some { ρ := [], n0 := 0, res := .tup [i64 y8.1, i64 y8.2], σ' := [], e := [] } })]) (by kernel_rfl) (allc (C_event_Check p0 y8 hy8) all0) (norm ?_)
    refine At.seq ?_
    obtain ⟨g11, h⟩ := grd_some h
    obtain ⟨y12, hy12, h⟩ := bind_some h
    refine At.region_end [0, 5, 6, 7, 8] [] _ (st' := ⟨[(0, lv T_api_Event.enc p0), (5, i64 y8.1), (6, i64 y8.2), (7, i64 y12.1), (8, i64 y12.2)], []⟩) (tips := [(3, { form := some (((List.replicate (Int.toNat (w64 (65537 + (w64 p1)))) (⟨0, 0⟩ : T_api_Event))).length, encL T_api_Event.enc (List.replicate (Int.toNat (w64 (65537 + (w64 p1)))) (⟨0, 0⟩ : T_api_Event))) }), (4, { pc := some { ρ := [0], n0 := 1, res := .tup [i64 y12.1, i64 y12.2], σ' := [.row 104 2 (encL T_api_Event.enc (List.replicate (Int.toNat (w64 (65537 + (w64 p1)))) (⟨0, 0⟩ : T_api_Event)))], e := [0] } })]) (by kernel_rfl) (allc (len_rep (Int.toNat (w64 (65537 + (w64 p1)))) (⟨0, 0⟩ : T_api_Event)) (allc (encL_repM T_api_Event.enc (⟨0, 0⟩ : T_api_Event) rfl (Int.toNat (w64 (65537 + (w64 p1))))) (allc g11 (allc (C_event_Check_v2 (List.replicate (Int.toNat (w64 (65537 + (w64 p1)))) (⟨0, 0⟩ : T_api_Event)) y12 hy12) all0)))) (norm ?_)
    refine At.seqJ (S := Bool) (fun s => ⟨[(4, bo s)], []⟩) (fun s => F_retracelaw31_EventChecks_J1 s = some r) ?_ ?_
    · obtain ⟨y20, hy20, h⟩ := bind_some h
      obtain ⟨g21, h⟩ := grd_some h
      rcases tf (([y8.1, y8.2] : List Int) == y20) with b22 | b22
      · replace h := cond_t b22 h
        rcases tf (y12.1 == 65536) with b23 | b23
        · replace h := cond_t b23 h
          rcases tf (y12.2 == 13) with b24 | b24
          · replace h := cond_t b24 h
            obtain ⟨y25, hy25, h⟩ := bind_some h
            refine At.region_end [4] [] _ (st' := ⟨[(4, bo y25)], []⟩) (tips := [(4, { pc := some { ρ := [], n0 := 0, res := .dagg (encL (eInt .i64) y20), σ' := [], e := [] } }), (5, { orc := .val (.bool (([y8.1, y8.2] : List Int) == y20)) }), (6, { orc := .val (.bool true) }), (10, { orc := .val (.bool true) }), (14, { orc := .val (.bool true) }), (15, { pc := some { ρ := [], n0 := 0, res := bo y25, σ' := [], e := [] } })]) (by kernel_rfl) (allc (C_retraceref31_Check p0 y20 hy20) (allc (eqTwo_ok .i64 g21) (allc (twoOK .i64 g21) (allc (congrArg D.bool b22) (allc (congrArg D.bool b23) (allc (congrArg D.bool b24) (allc (C_retracelaw31_live y25 hy25) all0))))))) (fun a w hs => ⟨y25, h, hs⟩)
          · replace h := cond_f b24 h
            refine At.region_end [4] [] _ (st' := ⟨[(4, bo false)], []⟩) (tips := [(4, { pc := some { ρ := [], n0 := 0, res := .dagg (encL (eInt .i64) y20), σ' := [], e := [] } }), (5, { orc := .val (.bool (([y8.1, y8.2] : List Int) == y20)) }), (6, { orc := .val (.bool true) }), (10, { orc := .val (.bool true) }), (14, { orc := .val (.bool false) })]) (by kernel_rfl) (allc (C_retraceref31_Check p0 y20 hy20) (allc (eqTwo_ok .i64 g21) (allc (twoOK .i64 g21) (allc (congrArg D.bool b22) (allc (congrArg D.bool b23) (allc (congrArg D.bool b24) all0)))))) (fun a w hs => ⟨false, h, hs⟩)
        · replace h := cond_f b23 h
          refine At.region_end [4] [] _ (st' := ⟨[(4, bo false)], []⟩) (tips := [(4, { pc := some { ρ := [], n0 := 0, res := .dagg (encL (eInt .i64) y20), σ' := [], e := [] } }), (5, { orc := .val (.bool (([y8.1, y8.2] : List Int) == y20)) }), (6, { orc := .val (.bool true) }), (10, { orc := .val (.bool false) })]) (by kernel_rfl) (allc (C_retraceref31_Check p0 y20 hy20) (allc (eqTwo_ok .i64 g21) (allc (twoOK .i64 g21) (allc (congrArg D.bool b22) (allc (congrArg D.bool b23) all0))))) (fun a w hs => ⟨false, h, hs⟩)
      · replace h := cond_f b22 h
        refine At.region_end [4] [] _ (st' := ⟨[(4, bo false)], []⟩) (tips := [(4, { pc := some { ρ := [], n0 := 0, res := .dagg (encL (eInt .i64) y20), σ' := [], e := [] } }), (5, { orc := .val (.bool (([y8.1, y8.2] : List Int) == y20)) }), (6, { orc := .val (.bool false) })]) (by kernel_rfl) (allc (C_retraceref31_Check p0 y20 hy20) (allc (eqTwo_ok .i64 g21) (allc (twoOK .i64 g21) (allc (congrArg D.bool b22) all0)))) (fun a w hs => ⟨false, h, hs⟩)
    · intro x19 h
      replace h : F_retracelaw31_EventChecks_J1 x19 = some r := h
      rw [F_retracelaw31_EventChecks_J1] at h
      obtain rfl := some_eq h
      exact At.ret fun a w hs => ret_ok hR (ρ := []) (gs := []) (by kernel_rfl) all0 (by kernel_rfl) rfl rfl a w hs _ (.inl rfl)
set_option maxRecDepth 100000 in
theorem C_retraceref31_Begins (p0 : (List T_api_Event)) (r : (List Int)) (h : F_retraceref31_Begins p0 = some r) : FnOK Try.prog 64 [lv T_api_Event.enc p0] [] (.row 0 (r).length) [.row 3 1 (encL (eInt .i64) r)] [] := by
  rw [F_retraceref31_Begins] at h
  refine FnOK.intro Try.func64 rfl (by kernel_rfl) (by kernel_rfl) fun E gv R hR => ?_
  refine At.seq ?_
  refine At.region_end [0] [] _ (st' := ⟨[(0, lv T_api_Event.enc p0)], []⟩) (tips := []) (by kernel_rfl) all0 (norm ?_)
  refine At.seq ?_
  refine At.region_end [0, 3] [] _ (st' := ⟨[(0, lv T_api_Event.enc p0), (3, .d (.list true 0 []))], []⟩) (tips := []) (by kernel_rfl) all0 (norm ?_)
  refine At.seq ?_
  refine At.seq ?_
  refine At.region_end [0, 3, 4] [] _ (st' := ⟨[(0, lv T_api_Event.enc p0), (3, .d (.list true 0 [])), (4, i64 0)], []⟩) (tips := []) (by kernel_rfl) all0 (norm ?_)
  refine At.block ?_
  refine At.edNar [.ownS 3 3 1] [0, 3, 4] [0] (st' := ⟨[(0, lv T_api_Event.enc p0), (3, .row 0 ([] : List Int).length), (4, i64 0)], [.row 3 1 (encL (eInt .i64) ([]))]⟩) (by kernel_rfl) ?_
  refine At.loop (fun s : (Int × (List Int)) => F_retraceref31_Begins_L2 p0 s.1 s.2) (fun s : (Int × (List Int)) => ⟨[(0, lv T_api_Event.enc p0), (3, .row 0 (s.2).length), (4, i64 s.1)], [.row 3 1 (encL (eInt .i64) s.2)]⟩) r (0, ([] : (List Int))) h ?_
  rintro ⟨x18, x19⟩ oo20 h f21
  replace h : F_retraceref31_Begins_L2 p0 x18 x19 = some oo20 := h
  rw [F_retraceref31_Begins_L2] at h
  refine At.seq ?_
  refine At.seq ?_
  refine At.region_end [0, 3, 4, 8] [0] _ (st' := ⟨[(0, lv T_api_Event.enc p0), (3, .row 0 (x19).length), (4, i64 x18), (8, bo (decide (x18 < ((p0).length : Int))))], [.row 3 1 (encL (eInt .i64) x19)]⟩) (tips := []) (by kernel_rfl) all0 (norm ?_)
  refine At.cond (decide (x18 < ((p0).length : Int))) (by kernel_rfl) (fun b23 => ?_) (fun b23 => ?_)
  · replace h := cond_t b23 h
    refine At.nar [0, 3, 4] [0] (st' := ⟨[(0, lv T_api_Event.enc p0), (3, .row 0 (x19).length), (4, i64 x18)], [.row 3 1 (encL (eInt .i64) x19)]⟩) (by kernel_rfl) ?_
    refine At.skip (norm ?_)
    refine At.seqJ (S := (List Int)) (fun s => ⟨[(0, lv T_api_Event.enc p0), (3, .row 0 (s).length), (4, i64 x18)], [.row 3 1 (encL (eInt .i64) s)]⟩) (fun s => F_retraceref31_Begins_J1 x18 s = some oo20) ?_ ?_
    · refine At.block ?_
      refine At.seq ?_
      obtain ⟨y30, hy30, h⟩ := bind_some h
      refine At.region_end [0, 3, 4, 16] [0] _ (st' := ⟨[(0, lv T_api_Event.enc p0), (3, .row 0 (x19).length), (4, i64 x18), (16, bo (y30.Kind == 1))], [.row 3 1 (encL (eInt .i64) x19)]⟩) (tips := [(2, { orc := .cells (T_api_Event.enc y30) })]) (by kernel_rfl) (allc (elemAt_of T_api_Event.enc_len hy30) all0) (norm ?_)
      refine At.cond (y30.Kind == 1) (by kernel_rfl) (fun b31 => ?_) (fun b31 => ?_)
      · replace h := cond_t b31 h
        obtain ⟨g32, h⟩ := grd_some h
        refine At.region_end [0, 3, 4] [0] _ (st' := ⟨[(0, lv T_api_Event.enc p0), (3, .row 0 ((x19 ++ [x18])).length), (4, i64 x18)], [.row 3 1 (encL (eInt .i64) (x19 ++ [x18]))]⟩) (tips := [(3, { form := some ((x19 ++ [x18]).length, encL (eInt .i64) (x19 ++ [x18])) })]) (by kernel_rfl) (allc (len_app x19 ([x18])) (allc (encL_app (eInt .i64) x19 ([x18])) (allc (app_ok (he_int .i64) (by decide) g32) (allc (encL_len (he_int .i64) ([x18])) all0)))) (fun a w hs => ⟨(x19 ++ [x18]), h, hs⟩)
      · replace h := cond_f b31 h
        refine At.nar [0, 3, 4] [0] (st' := ⟨[(0, lv T_api_Event.enc p0), (3, .row 0 (x19).length), (4, i64 x18)], [.row 3 1 (encL (eInt .i64) x19)]⟩) (by kernel_rfl) ?_
        refine At.skip (fun a w hs => ⟨x19, h, hs⟩)
    · intro x28 h
      replace h : F_retraceref31_Begins_J1 x18 x28 = some oo20 := h
      rw [F_retraceref31_Begins_J1] at h
      refine At.region_end [0, 3, 4] [0] _ (st' := ⟨[(0, lv T_api_Event.enc p0), (3, .row 0 (x28).length), (4, i64 (w64 (x18 + 1)))], [.row 3 1 (encL (eInt .i64) x28)]⟩) (tips := []) (by kernel_rfl) all0 (fun a w hs => ⟨_, (some_eq h).symm, hs⟩)
  · replace h := cond_f b23 h
    refine At.nar [3] [0] (st' := ⟨[(3, .row 0 (x19).length)], [.row 3 1 (encL (eInt .i64) x19)]⟩) (by kernel_rfl) ?_
    obtain ⟨r33, h, e34⟩ := map_inr h
    rw [f21 _ e34] at h
    refine At.exit (norm ?_)
    refine At.seq ?_
    refine At.region_end [2] [0] _ (st' := ⟨[(2, .row 0 (x19).length)], [.row 3 1 (encL (eInt .i64) x19)]⟩) (tips := []) (by kernel_rfl) all0 (norm ?_)
    obtain rfl := some_eq h
    exact At.ret fun a w hs => ret_ok hR (ρ := [0]) (gs := []) (by kernel_rfl) all0 (by kernel_rfl) rfl rfl a w hs _ (.inl rfl)
set_option maxRecDepth 100000 in
theorem C_retraceref31_Steps (p0 : (List T_api_Event)) (r : Int) (h : F_retraceref31_Steps p0 = some r) : FnOK Try.prog 29 [lv T_api_Event.enc p0] [] (i64 r) [] [] := by
  rw [F_retraceref31_Steps] at h
  refine FnOK.intro Try.func29 rfl (by kernel_rfl) (by kernel_rfl) fun E gv R hR => ?_
  refine At.seq ?_
  refine At.region_end [0] [] _ (st' := ⟨[(0, lv T_api_Event.enc p0)], []⟩) (tips := []) (by kernel_rfl) all0 (norm ?_)
  refine At.seq ?_
  obtain ⟨y2, hy2, h⟩ := bind_some h
  refine At.region_end [2] [] _ (st' := ⟨[(2, i64 ((y2).length : Int))], []⟩) (tips := [(1, { pc := some { ρ := [0], n0 := 0, res := .row 0 (y2).length, σ' := [.row 3 1 (encL (eInt .i64) y2)], e := [] } })]) (by kernel_rfl) (allc (C_retraceref31_Begins p0 y2 hy2) all0) (norm ?_)
  obtain rfl := some_eq h
  exact At.ret fun a w hs => ret_ok hR (ρ := []) (gs := []) (by kernel_rfl) all0 (by kernel_rfl) rfl rfl a w hs _ (.inl rfl)
set_option maxRecDepth 100000 in
theorem C_retraceref31_Begin (p0 : (List T_api_Event)) (p1 : Int) (r : Int) (h : F_retraceref31_Begin p0 p1 = some r) : FnOK Try.prog 31 [lv T_api_Event.enc p0, i64 p1] [] (i64 r) [] [] := by
  rw [F_retraceref31_Begin] at h
  refine FnOK.intro Try.func31 rfl (by kernel_rfl) (by kernel_rfl) fun E gv R hR => ?_
  refine At.seq ?_
  refine At.region_end [0, 1] [] _ (st' := ⟨[(0, lv T_api_Event.enc p0), (1, i64 p1)], []⟩) (tips := []) (by kernel_rfl) all0 (norm ?_)
  refine At.seq ?_
  obtain ⟨y3, hy3, h⟩ := bind_some h
  obtain ⟨g4, h⟩ := grd_some h
  refine At.region_end [1, 5] [0] _ (st' := ⟨[(1, i64 p1), (5, .row 0 ((y3 ++ [((p0).length : Int)])).length)], [.row 3 1 (encL (eInt .i64) (y3 ++ [((p0).length : Int)]))]⟩) (tips := [(1, { pc := some { ρ := [0], n0 := 0, res := .row 0 (y3).length, σ' := [.row 3 1 (encL (eInt .i64) y3)], e := [] } }), (5, { form := some ((y3 ++ [((p0).length : Int)]).length, encL (eInt .i64) (y3 ++ [((p0).length : Int)])) })]) (by kernel_rfl) (allc (C_retraceref31_Begins p0 y3 hy3) (allc (len_app y3 ([((p0).length : Int)])) (allc (encL_app (eInt .i64) y3 ([((p0).length : Int)])) (allc (app_ok (he_int .i64) (by decide) g4) (allc (encL_len (he_int .i64) ([((p0).length : Int)])) all0))))) (norm ?_)
  refine At.seq ?_
  refine At.seqJ (S := Bool) (fun s => ⟨[(1, i64 p1), (5, .row 0 ((y3 ++ [((p0).length : Int)])).length), (19, bo s)], [.row 3 1 (encL (eInt .i64) (y3 ++ [((p0).length : Int)]))]⟩) (fun s => F_retraceref31_Begin_J1 p0 p1 y3 s = some r) ?_ ?_
  · rcases tf (decide (p1 < 0)) with b14 | b14
    · replace h := cond_t b14 h
      refine At.region_end [1, 5, 19] [0] _ (st' := ⟨[(1, i64 p1), (5, .row 0 ((y3 ++ [((p0).length : Int)])).length), (19, bo true)], [.row 3 1 (encL (eInt .i64) (y3 ++ [((p0).length : Int)]))]⟩) (tips := [(2, { orc := .val (.bool true) })]) (by kernel_rfl) (allc (congrArg D.bool b14) all0) (fun a w hs => ⟨true, h, hs⟩)
    · replace h := cond_f b14 h
      refine At.region_end [1, 5, 19] [0] _ (st' := ⟨[(1, i64 p1), (5, .row 0 ((y3 ++ [((p0).length : Int)])).length), (19, bo (decide ((((y3 ++ [((p0).length : Int)])).length : Int) ≤ p1)))], [.row 3 1 (encL (eInt .i64) (y3 ++ [((p0).length : Int)]))]⟩) (tips := [(2, { orc := .val (.bool false) })]) (by kernel_rfl) (allc (congrArg D.bool b14) all0) (fun a w hs => ⟨(decide ((((y3 ++ [((p0).length : Int)])).length : Int) ≤ p1)), h, hs⟩)
  · intro x10 h
    replace h : F_retraceref31_Begin_J1 p0 p1 y3 x10 = some r := h
    rw [F_retraceref31_Begin_J1] at h
    refine At.cond x10 (by kernel_rfl) (fun b11 => ?_) (fun b11 => ?_)
    · replace h := cond_t b11 h
      refine At.seq ?_
      refine At.region_end [4] [] _ (st' := ⟨[(4, i64 (-1))], []⟩) (tips := []) (by kernel_rfl) all0 (norm ?_)
      obtain rfl := some_eq h
      exact At.ret fun a w hs => ret_ok hR (ρ := []) (gs := []) (by kernel_rfl) all0 (by kernel_rfl) rfl rfl a w hs _ (.inl rfl)
    · replace h := cond_f b11 h
      refine At.nar [1, 5] [0] (st' := ⟨[(1, i64 p1), (5, .row 0 ((y3 ++ [((p0).length : Int)])).length)], [.row 3 1 (encL (eInt .i64) (y3 ++ [((p0).length : Int)]))]⟩) (by kernel_rfl) ?_
      refine At.skip (norm ?_)
      refine At.seq ?_
      obtain ⟨y13, hy13, h⟩ := bind_some h
      refine At.region_end [4] [] _ (st' := ⟨[(4, i64 y13)], []⟩) (tips := [(3, { orc := .val (.int .i64 y13) })]) (by kernel_rfl) (allc ((rAt_of (he_int .i64) (d := .int .i64 y13) hy13 rfl).1) (allc ((rAt_of (he_int .i64) (d := .int .i64 y13) hy13 rfl).2) all0)) (norm ?_)
      obtain rfl := some_eq h
      exact At.ret fun a w hs => ret_ok hR (ρ := []) (gs := []) (by kernel_rfl) all0 (by kernel_rfl) rfl rfl a w hs _ (.inl rfl)
set_option maxRecDepth 100000 in
theorem C_retracelaw31_EventPlaces (p0 : (List T_api_Event)) (p1 : Int) (r : Bool) (h : F_retracelaw31_EventPlaces p0 p1 = some r) : FnOK Try.prog 7 [lv T_api_Event.enc p0, i64 p1] [] (bo r) [] [] := by
  rw [F_retracelaw31_EventPlaces] at h
  refine FnOK.intro Try.func7 rfl (by kernel_rfl) (by kernel_rfl) fun E gv R hR => ?_
  refine At.seq ?_
  refine At.region_end [0, 1] [] _ (st' := ⟨[(0, lv T_api_Event.enc p0), (1, i64 p1)], []⟩) (tips := []) (by kernel_rfl) all0 (norm ?_)
  refine At.seq ?_
  refine At.seq ?_
  refine At.region_end [0, 1, 7] [] _ (st' := ⟨[(0, lv T_api_Event.enc p0), (1, i64 p1), (7, bo (decide (300 < ((p0).length : Int))))], []⟩) (tips := []) (by kernel_rfl) all0 (norm ?_)
  refine At.cond (decide (300 < ((p0).length : Int))) (by kernel_rfl) (fun b4 => ?_) (fun b4 => ?_)
  · replace h := cond_t b4 h
    refine At.seq ?_
    obtain ⟨y6, hy6, h⟩ := bind_some h
    refine At.region_end [4] [] _ (st' := ⟨[(4, bo y6)], []⟩) (tips := [(0, { pc := some { ρ := [], n0 := 0, res := bo y6, σ' := [], e := [] } })]) (by kernel_rfl) (allc (C_retracelaw31_live y6 hy6) all0) (norm ?_)
    obtain rfl := some_eq h
    exact At.ret fun a w hs => ret_ok hR (ρ := []) (gs := []) (by kernel_rfl) all0 (by kernel_rfl) rfl rfl a w hs _ (.inl rfl)
  · replace h := cond_f b4 h
    refine At.nar [0, 1] [] (st' := ⟨[(0, lv T_api_Event.enc p0), (1, i64 p1)], []⟩) (by kernel_rfl) ?_
    refine At.skip (norm ?_)
    refine At.seqJ (S := Bool) (fun s => ⟨[(4, bo s)], []⟩) (fun s => F_retracelaw31_EventPlaces_J1 s = some r) ?_ ?_
    · obtain ⟨y15, hy15, h⟩ := bind_some h
      obtain ⟨y16, hy16, h⟩ := bind_some h
      rcases tf (y15 == y16) with b17 | b17
      · replace h := cond_t b17 h
        obtain ⟨y18, hy18, h⟩ := bind_some h
        obtain ⟨y19, hy19, h⟩ := bind_some h
        rcases tf (y18 == y19) with b20 | b20
        · replace h := cond_t b20 h
          obtain ⟨y21, hy21, h⟩ := bind_some h
          refine At.region_end [4] [] _ (st' := ⟨[(4, bo y21)], []⟩) (tips := [(1, { pc := some { ρ := [], n0 := 0, res := i64 y15, σ' := [], e := [] } }), (3, { pc := some { ρ := [], n0 := 0, res := i64 y16, σ' := [], e := [] } }), (5, { orc := .val (.bool true) }), (8, { pc := some { ρ := [], n0 := 0, res := i64 y18, σ' := [], e := [] } }), (11, { pc := some { ρ := [], n0 := 0, res := i64 y19, σ' := [], e := [] } }), (14, { orc := .val (.bool true) }), (15, { pc := some { ρ := [], n0 := 0, res := bo y21, σ' := [], e := [] } })]) (by kernel_rfl) (allc (C_event_Steps p0 y15 hy15) (allc (C_retraceref31_Steps p0 y16 hy16) (allc (congrArg D.bool b17) (allc (C_event_Begin p0 p1 y18 hy18) (allc (C_retraceref31_Begin p0 p1 y19 hy19) (allc (congrArg D.bool b20) (allc (C_retracelaw31_live y21 hy21) all0))))))) (fun a w hs => ⟨y21, h, hs⟩)
        · replace h := cond_f b20 h
          refine At.region_end [4] [] _ (st' := ⟨[(4, bo false)], []⟩) (tips := [(1, { pc := some { ρ := [], n0 := 0, res := i64 y15, σ' := [], e := [] } }), (3, { pc := some { ρ := [], n0 := 0, res := i64 y16, σ' := [], e := [] } }), (5, { orc := .val (.bool true) }), (8, { pc := some { ρ := [], n0 := 0, res := i64 y18, σ' := [], e := [] } }), (11, { pc := some { ρ := [], n0 := 0, res := i64 y19, σ' := [], e := [] } }), (14, { orc := .val (.bool false) })]) (by kernel_rfl) (allc (C_event_Steps p0 y15 hy15) (allc (C_retraceref31_Steps p0 y16 hy16) (allc (congrArg D.bool b17) (allc (C_event_Begin p0 p1 y18 hy18) (allc (C_retraceref31_Begin p0 p1 y19 hy19) (allc (congrArg D.bool b20) all0)))))) (fun a w hs => ⟨false, h, hs⟩)
      · replace h := cond_f b17 h
        refine At.region_end [4] [] _ (st' := ⟨[(4, bo false)], []⟩) (tips := [(1, { pc := some { ρ := [], n0 := 0, res := i64 y15, σ' := [], e := [] } }), (3, { pc := some { ρ := [], n0 := 0, res := i64 y16, σ' := [], e := [] } }), (5, { orc := .val (.bool false) })]) (by kernel_rfl) (allc (C_event_Steps p0 y15 hy15) (allc (C_retraceref31_Steps p0 y16 hy16) (allc (congrArg D.bool b17) all0))) (fun a w hs => ⟨false, h, hs⟩)
    · intro x14 h
      replace h : F_retracelaw31_EventPlaces_J1 x14 = some r := h
      rw [F_retracelaw31_EventPlaces_J1] at h
      obtain rfl := some_eq h
      exact At.ret fun a w hs => ret_ok hR (ρ := []) (gs := []) (by kernel_rfl) all0 (by kernel_rfl) rfl rfl a w hs _ (.inl rfl)
set_option maxRecDepth 100000 in
theorem C_retraceref01_Get (p0 : ByteArray) (p1 : Int) (r : T_retraceref01_Got) (h : F_retraceref01_Get p0 p1 = some r) : FnOK Try.prog 85 [sv p0, i64 p1] [] (.agg (T_retraceref01_Got.pvs r)) [] [] := by
  rw [F_retraceref01_Get] at h
  refine FnOK.intro Try.func85 rfl (by kernel_rfl) (by kernel_rfl) fun E gv R hR => ?_
  refine At.seq ?_
  refine At.region_end [0, 1, 4] [0] _ (st' := ⟨[(0, sv p0), (1, i64 p1), (4, .ptr 0 0)], [.blk 127 [u64 0, i64 0, i64 0]]⟩) (tips := []) (by kernel_rfl) all0 (norm ?_)
  refine At.seq ?_
  refine At.seqJ (S := Bool) (fun s => ⟨[(0, sv p0), (1, i64 p1), (4, .ptr 0 0), (16, bo s)], [.blk 127 [u64 0, i64 0, i64 0]]⟩) (fun s => F_retraceref01_Get_J1 p0 p1 s = some r) ?_ ?_
  · rcases tf (decide (p1 < 0)) with b142 | b142
    · replace h := cond_t b142 h
      refine At.region_end [0, 1, 4, 16] [0] _ (st' := ⟨[(0, sv p0), (1, i64 p1), (4, .ptr 0 0), (16, bo true)], [.blk 127 [u64 0, i64 0, i64 0]]⟩) (tips := [(2, { orc := .val (.bool true) })]) (by kernel_rfl) (allc (congrArg D.bool b142) all0) (fun a w hs => ⟨true, h, hs⟩)
    · replace h := cond_f b142 h
      refine At.region_end [0, 1, 4, 16] [0] _ (st' := ⟨[(0, sv p0), (1, i64 p1), (4, .ptr 0 0), (16, bo (decide ((p0.size : Int) < p1)))], [.blk 127 [u64 0, i64 0, i64 0]]⟩) (tips := [(2, { orc := .val (.bool false) })]) (by kernel_rfl) (allc (congrArg D.bool b142) all0) (fun a w hs => ⟨(decide ((p0.size : Int) < p1)), h, hs⟩)
  · intro x6 h
    replace h : F_retraceref01_Get_J1 p0 p1 x6 = some r := h
    rw [F_retraceref01_Get_J1] at h
    refine At.cond x6 (by kernel_rfl) (fun b7 => ?_) (fun b7 => ?_)
    · replace h := cond_t b7 h
      refine At.seq ?_
      refine At.region_end [4] [0] _ (st' := ⟨[(4, .ptr 0 0)], [.blk 127 [u64 0, i64 0, i64 1]]⟩) (tips := []) (by kernel_rfl) all0 (norm ?_)
      obtain rfl := some_eq h
      exact At.ret fun a w hs => ret_ok hR (ρ := []) (gs := []) (by kernel_rfl) all0 (by kernel_rfl) rfl rfl a w hs _ (.inl rfl)
    · replace h := cond_f b7 h
      refine At.nar [0, 1, 4] [0] (st' := ⟨[(0, sv p0), (1, i64 p1), (4, .ptr 0 0)], [.blk 127 [u64 0, i64 0, i64 0]]⟩) (by kernel_rfl) ?_
      refine At.skip (norm ?_)
      refine At.seq ?_
      refine At.region_end [0, 1, 4, 5, 6] [0] _ (st' := ⟨[(0, sv p0), (1, i64 p1), (4, .ptr 0 0), (5, u64 0), (6, u64 1)], [.blk 127 [u64 0, i64 0, i64 0]]⟩) (tips := []) (by kernel_rfl) all0 (norm ?_)
      refine At.seq ?_
      refine At.seq ?_
      refine At.region_end [0, 1, 4, 5, 6, 7] [0] _ (st' := ⟨[(0, sv p0), (1, i64 p1), (4, .ptr 0 0), (5, u64 0), (6, u64 1), (7, i64 0)], [.blk 127 [u64 0, i64 0, i64 0]]⟩) (tips := []) (by kernel_rfl) all0 (norm ?_)
      refine At.block ?_
      refine At.loop (fun s : (Int × Int × Int) => F_retraceref01_Get_L3 p0 p1 s.1 s.2.1 s.2.2) (fun s : (Int × Int × Int) => ⟨[(0, sv p0), (1, i64 p1), (4, .ptr 0 0), (5, u64 s.1), (6, u64 s.2.1), (7, i64 s.2.2)], [.blk 127 [u64 0, i64 0, i64 0]]⟩) r (0, 1, 0) h ?_
      rintro ⟨x75, x76, x77⟩ oo78 h f79
      replace h : F_retraceref01_Get_L3 p0 p1 x75 x76 x77 = some oo78 := h
      rw [F_retraceref01_Get_L3] at h
      refine At.seq ?_
      refine At.seq ?_
      refine At.region_end [0, 1, 4, 5, 6, 7, 19] [0] _ (st' := ⟨[(0, sv p0), (1, i64 p1), (4, .ptr 0 0), (5, u64 x75), (6, u64 x76), (7, i64 x77), (19, bo (decide (x77 < 10)))], [.blk 127 [u64 0, i64 0, i64 0]]⟩) (tips := []) (by kernel_rfl) all0 (norm ?_)
      refine At.cond (decide (x77 < 10)) (by kernel_rfl) (fun b81 => ?_) (fun b81 => ?_)
      · replace h := cond_t b81 h
        refine At.nar [0, 1, 4, 5, 6, 7] [0] (st' := ⟨[(0, sv p0), (1, i64 p1), (4, .ptr 0 0), (5, u64 x75), (6, u64 x76), (7, i64 x77)], [.blk 127 [u64 0, i64 0, i64 0]]⟩) (by kernel_rfl) ?_
        refine At.skip (norm ?_)
        refine At.seq ?_
        refine At.block ?_
        refine At.seq ?_
        refine At.seq ?_
        refine At.region_end [0, 1, 4, 5, 6, 7, 27] [0] _ (st' := ⟨[(0, sv p0), (1, i64 p1), (4, .ptr 0 0), (5, u64 x75), (6, u64 x76), (7, i64 x77), (27, bo (decide ((p0.size : Int) ≤ (w64 (p1 + x77)))))], [.blk 127 [u64 0, i64 0, i64 0]]⟩) (tips := []) (by kernel_rfl) all0 (norm ?_)
        refine At.cond (decide ((p0.size : Int) ≤ (w64 (p1 + x77)))) (by kernel_rfl) (fun b109 => ?_) (fun b109 => ?_)
        · replace h := cond_t b109 h
          refine At.seq ?_
          refine At.region_end [4] [0] _ (st' := ⟨[(4, .ptr 0 0)], [.blk 127 [u64 0, i64 0, i64 2]]⟩) (tips := []) (by kernel_rfl) all0 (norm ?_)
          obtain ⟨r110, h, e111⟩ := map_inr h
          rw [f79 _ e111] at h
          obtain rfl := some_eq h
          exact At.ret fun a w hs => ret_ok hR (ρ := []) (gs := []) (by kernel_rfl) all0 (by kernel_rfl) rfl rfl a w hs _ (.inl rfl)
        · replace h := cond_f b109 h
          refine At.nar [0, 1, 4, 5, 6, 7] [0] (st' := ⟨[(0, sv p0), (1, i64 p1), (4, .ptr 0 0), (5, u64 x75), (6, u64 x76), (7, i64 x77)], [.blk 127 [u64 0, i64 0, i64 0]]⟩) (by kernel_rfl) ?_
          refine At.skip (norm ?_)
          refine At.seq ?_
          obtain ⟨y113, hy113, h⟩ := bind_some h
          refine At.region_end [0, 1, 4, 5, 6, 7, 8] [0] _ (st' := ⟨[(0, sv p0), (1, i64 p1), (4, .ptr 0 0), (5, u64 x75), (6, u64 x76), (7, i64 x77), (8, u8 y113)], [.blk 127 [u64 0, i64 0, i64 0]]⟩) (tips := [(4, { orc := .val (.int .u8 y113) })]) (by kernel_rfl) (allc hy113 all0) (norm ?_)
          refine At.seq ?_
          refine At.seqJ (S := Bool) (fun s => ⟨[(0, sv p0), (1, i64 p1), (4, .ptr 0 0), (5, u64 x75), (6, u64 x76), (7, i64 x77), (8, u8 y113), (47, bo s)], [.blk 127 [u64 0, i64 0, i64 0]]⟩) (fun s => F_retraceref01_Get_J2 p1 x75 x76 x77 y113 s = some oo78) ?_ ?_
          · rcases tf (x77 == 9) with b136 | b136
            · replace h := cond_t b136 h
              rcases tf (decide (1 < y113)) with b137 | b137
              · replace h := cond_t b137 h
                refine At.region_end [0, 1, 4, 5, 6, 7, 8, 47] [0] _ (st' := ⟨[(0, sv p0), (1, i64 p1), (4, .ptr 0 0), (5, u64 x75), (6, u64 x76), (7, i64 x77), (8, u8 y113), (47, bo true)], [.blk 127 [u64 0, i64 0, i64 0]]⟩) (tips := [(2, { orc := .val (.bool true) }), (6, { orc := .val (.bool true) })]) (by kernel_rfl) (allc (congrArg D.bool b136) (allc (congrArg D.bool b137) all0)) (fun a w hs => ⟨true, h, hs⟩)
              · replace h := cond_f b137 h
                rcases tf (y113 == 0) with b138 | b138
                · replace h := cond_t b138 h
                  refine At.region_end [0, 1, 4, 5, 6, 7, 8, 47] [0] _ (st' := ⟨[(0, sv p0), (1, i64 p1), (4, .ptr 0 0), (5, u64 x75), (6, u64 x76), (7, i64 x77), (8, u8 y113), (47, bo (decide (0 < x77)))], [.blk 127 [u64 0, i64 0, i64 0]]⟩) (tips := [(2, { orc := .val (.bool true) }), (6, { orc := .val (.bool false) }), (9, { orc := .val (.bool true) })]) (by kernel_rfl) (allc (congrArg D.bool b136) (allc (congrArg D.bool b137) (allc (congrArg D.bool b138) all0))) (fun a w hs => ⟨(decide (0 < x77)), h, hs⟩)
                · replace h := cond_f b138 h
                  refine At.region_end [0, 1, 4, 5, 6, 7, 8, 47] [0] _ (st' := ⟨[(0, sv p0), (1, i64 p1), (4, .ptr 0 0), (5, u64 x75), (6, u64 x76), (7, i64 x77), (8, u8 y113), (47, bo false)], [.blk 127 [u64 0, i64 0, i64 0]]⟩) (tips := [(2, { orc := .val (.bool true) }), (6, { orc := .val (.bool false) }), (9, { orc := .val (.bool false) })]) (by kernel_rfl) (allc (congrArg D.bool b136) (allc (congrArg D.bool b137) (allc (congrArg D.bool b138) all0))) (fun a w hs => ⟨false, h, hs⟩)
            · replace h := cond_f b136 h
              rcases tf (y113 == 0) with b139 | b139
              · replace h := cond_t b139 h
                refine At.region_end [0, 1, 4, 5, 6, 7, 8, 47] [0] _ (st' := ⟨[(0, sv p0), (1, i64 p1), (4, .ptr 0 0), (5, u64 x75), (6, u64 x76), (7, i64 x77), (8, u8 y113), (47, bo (decide (0 < x77)))], [.blk 127 [u64 0, i64 0, i64 0]]⟩) (tips := [(2, { orc := .val (.bool false) }), (9, { orc := .val (.bool true) })]) (by kernel_rfl) (allc (congrArg D.bool b136) (allc (congrArg D.bool b139) all0)) (fun a w hs => ⟨(decide (0 < x77)), h, hs⟩)
              · replace h := cond_f b139 h
                refine At.region_end [0, 1, 4, 5, 6, 7, 8, 47] [0] _ (st' := ⟨[(0, sv p0), (1, i64 p1), (4, .ptr 0 0), (5, u64 x75), (6, u64 x76), (7, i64 x77), (8, u8 y113), (47, bo false)], [.blk 127 [u64 0, i64 0, i64 0]]⟩) (tips := [(2, { orc := .val (.bool false) }), (9, { orc := .val (.bool false) })]) (by kernel_rfl) (allc (congrArg D.bool b136) (allc (congrArg D.bool b139) all0)) (fun a w hs => ⟨false, h, hs⟩)
          · intro x128 h
            replace h : F_retraceref01_Get_J2 p1 x75 x76 x77 y113 x128 = some oo78 := h
            rw [F_retraceref01_Get_J2] at h
            refine At.cond x128 (by kernel_rfl) (fun b129 => ?_) (fun b129 => ?_)
            · replace h := cond_t b129 h
              refine At.seq ?_
              refine At.region_end [4] [0] _ (st' := ⟨[(4, .ptr 0 0)], [.blk 127 [u64 0, i64 0, i64 3]]⟩) (tips := []) (by kernel_rfl) all0 (norm ?_)
              obtain ⟨r130, h, e131⟩ := map_inr h
              rw [f79 _ e131] at h
              obtain rfl := some_eq h
              exact At.ret fun a w hs => ret_ok hR (ρ := []) (gs := []) (by kernel_rfl) all0 (by kernel_rfl) rfl rfl a w hs _ (.inl rfl)
            · replace h := cond_f b129 h
              refine At.nar [0, 1, 4, 5, 6, 7, 8] [0] (st' := ⟨[(0, sv p0), (1, i64 p1), (4, .ptr 0 0), (5, u64 x75), (6, u64 x76), (7, i64 x77), (8, u8 y113)], [.blk 127 [u64 0, i64 0, i64 0]]⟩) (by kernel_rfl) ?_
              refine At.skip (norm ?_)
              refine At.seq ?_
              refine At.region_end [0, 1, 4, 5, 6, 7, 8] [0] _ (st' := ⟨[(0, sv p0), (1, i64 p1), (4, .ptr 0 0), (5, u64 (wu64 (x75 + (wu64 ((wu64 (Int.tmod y113 128)) * x76))))), (6, u64 x76), (7, i64 x77), (8, u8 y113)], [.blk 127 [u64 0, i64 0, i64 0]]⟩) (tips := []) (by kernel_rfl) (allc (by decide : 128 ≠ (0:Int)) all0) (norm ?_)
              refine At.seq ?_
              refine At.seq ?_
              refine At.region_end [0, 1, 4, 5, 6, 7, 57] [0] _ (st' := ⟨[(0, sv p0), (1, i64 p1), (4, .ptr 0 0), (5, u64 (wu64 (x75 + (wu64 ((wu64 (Int.tmod y113 128)) * x76))))), (6, u64 x76), (7, i64 x77), (57, bo (decide (y113 < 128)))], [.blk 127 [u64 0, i64 0, i64 0]]⟩) (tips := []) (by kernel_rfl) all0 (norm ?_)
              refine At.cond (decide (y113 < 128)) (by kernel_rfl) (fun b133 => ?_) (fun b133 => ?_)
              · replace h := cond_t b133 h
                refine At.seq ?_
                refine At.region_end [4] [0] _ (st' := ⟨[(4, .ptr 0 0)], [.blk 127 [u64 (wu64 (x75 + (wu64 ((wu64 (Int.tmod y113 128)) * x76)))), i64 (w64 ((w64 (p1 + x77)) + 1)), i64 0]]⟩) (tips := []) (by kernel_rfl) all0 (norm ?_)
                obtain ⟨r134, h, e135⟩ := map_inr h
                rw [f79 _ e135] at h
                obtain rfl := some_eq h
                exact At.ret fun a w hs => ret_ok hR (ρ := []) (gs := []) (by kernel_rfl) all0 (by kernel_rfl) rfl rfl a w hs _ (.inl rfl)
              · replace h := cond_f b133 h
                refine At.nar [0, 1, 4, 5, 6, 7] [0] (st' := ⟨[(0, sv p0), (1, i64 p1), (4, .ptr 0 0), (5, u64 (wu64 (x75 + (wu64 ((wu64 (Int.tmod y113 128)) * x76))))), (6, u64 x76), (7, i64 x77)], [.blk 127 [u64 0, i64 0, i64 0]]⟩) (by kernel_rfl) ?_
                refine At.skip (norm ?_)
                refine At.region_end [0, 1, 4, 5, 6, 7] [0] _ (st' := ⟨[(0, sv p0), (1, i64 p1), (4, .ptr 0 0), (5, u64 (wu64 (x75 + (wu64 ((wu64 (Int.tmod y113 128)) * x76))))), (6, u64 (wu64 (x76 * 128))), (7, i64 x77)], [.blk 127 [u64 0, i64 0, i64 0]]⟩) (tips := []) (by kernel_rfl) all0 (norm ?_)
                refine At.region_end [0, 1, 4, 5, 6, 7] [0] _ (st' := ⟨[(0, sv p0), (1, i64 p1), (4, .ptr 0 0), (5, u64 (wu64 (x75 + (wu64 ((wu64 (Int.tmod y113 128)) * x76))))), (6, u64 (wu64 (x76 * 128))), (7, i64 (w64 (x77 + 1)))], [.blk 127 [u64 0, i64 0, i64 0]]⟩) (tips := []) (by kernel_rfl) all0 (fun a w hs => ⟨_, (some_eq h).symm, hs⟩)
      · replace h := cond_f b81 h
        refine At.nar [4] [0] (st' := ⟨[(4, .ptr 0 0)], [.blk 127 [u64 0, i64 0, i64 0]]⟩) (by kernel_rfl) ?_
        obtain ⟨r140, h, e141⟩ := map_inr h
        rw [f79 _ e141] at h
        refine At.exit (norm ?_)
        refine At.seq ?_
        refine At.region_end [4] [0] _ (st' := ⟨[(4, .ptr 0 0)], [.blk 127 [u64 0, i64 0, i64 3]]⟩) (tips := []) (by kernel_rfl) all0 (norm ?_)
        obtain rfl := some_eq h
        exact At.ret fun a w hs => ret_ok hR (ρ := []) (gs := []) (by kernel_rfl) all0 (by kernel_rfl) rfl rfl a w hs _ (.inl rfl)
set_option maxRecDepth 100000 in
theorem C_retraceref03_Reader_fail (p1 : Int) (o0 : T_retraceref03_Reader) (r : T_retraceref03_Reader) (h : F_retraceref03_Reader_fail p1 o0 = some r) : FnOK Try.prog 54 [.ptr 0 0, i64 p1] [.blk 41 (T_retraceref03_Reader.pvs o0)] (.tup []) [.blk 41 (T_retraceref03_Reader.pvs r)] [1] := by
  rw [F_retraceref03_Reader_fail] at h
  refine FnOK.intro Try.func54 rfl (by kernel_rfl) (by kernel_rfl) fun E gv R hR => ?_
  refine At.seq ?_
  refine At.region_end [0, 1, 8] [0, 1] _ (st' := ⟨[(0, .ptr 0 0), (1, i64 p1), (8, bo (o0.Bad == 0))], [.blk 41 (T_retraceref03_Reader.pvs o0), .ghost (gv 0) (.ptr 0 0)]⟩) (tips := []) (by kernel_rfl) all0 (norm ?_)
  refine At.cond (o0.Bad == 0) (by kernel_rfl) (fun b1 => ?_) (fun b1 => ?_)
  · replace h := cond_t b1 h
    obtain rfl := some_eq h
    refine At.region_end [] [0, 1] _ (st' := ⟨[], [.blk 41 [sv o0.S, i64 p1], .ghost (gv 0) (.ptr 0 0)]⟩) (tips := []) (by kernel_rfl) all0 (fun a w hs => ret_ok hR (ρ := [0]) (gs := [.ghost (gv 0) (.ptr 0 0)]) (by kernel_rfl) all0 (by kernel_rfl) rfl rfl a w hs _ (.inr rfl))
  · replace h := cond_f b1 h
    refine At.nar [] [0, 1] (st' := ⟨[], [.blk 41 (T_retraceref03_Reader.pvs o0), .ghost (gv 0) (.ptr 0 0)]⟩) (by kernel_rfl) ?_
    obtain rfl := some_eq h
    refine At.skip (fun a w hs => ret_ok hR (ρ := [0]) (gs := [.ghost (gv 0) (.ptr 0 0)]) (by kernel_rfl) all0 (by kernel_rfl) rfl rfl a w hs _ (.inr rfl))
set_option maxRecDepth 100000 in
theorem C_retraceref03_Reader_Num (o0 : T_retraceref03_Reader) (r : Int × T_retraceref03_Reader) (h : F_retraceref03_Reader_Num o0 = some r) : FnOK Try.prog 77 [.ptr 0 0] [.blk 41 (T_retraceref03_Reader.pvs o0)] (u64 r.1) [.blk 41 (T_retraceref03_Reader.pvs r.2)] [1] := by
  rw [F_retraceref03_Reader_Num] at h
  refine FnOK.intro Try.func77 rfl (by kernel_rfl) (by kernel_rfl) fun E gv R hR => ?_
  refine At.seq ?_
  refine At.region_end [0] [0, 1] _ (st' := ⟨[(0, .ptr 0 0)], [.blk 41 (T_retraceref03_Reader.pvs o0), .ghost (gv 0) (.ptr 0 0)]⟩) (tips := []) (by kernel_rfl) all0 (norm ?_)
  refine At.seq ?_
  refine At.seq ?_
  refine At.region_end [0, 8] [0, 1] _ (st' := ⟨[(0, .ptr 0 0), (8, bo (o0.Bad != 0))], [.blk 41 (T_retraceref03_Reader.pvs o0), .ghost (gv 0) (.ptr 0 0)]⟩) (tips := []) (by kernel_rfl) all0 (norm ?_)
  refine At.cond (o0.Bad != 0) (by kernel_rfl) (fun b2 => ?_) (fun b2 => ?_)
  · replace h := cond_t b2 h
    refine At.seq ?_
    refine At.region_end [2] [0, 1] _ (st' := ⟨[(2, u64 0)], [.blk 41 (T_retraceref03_Reader.pvs o0), .ghost (gv 0) (.ptr 0 0)]⟩) (tips := []) (by kernel_rfl) all0 (norm ?_)
    obtain rfl := some_eq h
    exact At.ret fun a w hs => ret_ok hR (ρ := [0]) (gs := [.ghost (gv 0) (.ptr 0 0)]) (by kernel_rfl) all0 (by kernel_rfl) rfl rfl a w hs _ (.inl rfl)
  · replace h := cond_f b2 h
    refine At.nar [0] [0, 1] (st' := ⟨[(0, .ptr 0 0)], [.blk 41 (T_retraceref03_Reader.pvs o0), .ghost (gv 0) (.ptr 0 0)]⟩) (by kernel_rfl) ?_
    refine At.skip (norm ?_)
    refine At.seq ?_
    obtain ⟨y4, hy4, h⟩ := bind_some h
    refine At.region_end [0, 3] [0, 1, 2] _ (st' := ⟨[(0, .ptr 0 0), (3, .ptr 2 0)], [.blk 41 (T_retraceref03_Reader.pvs o0), .ghost (gv 0) (.ptr 0 0), .blk 127 (T_retraceref01_Got.pvs y4)]⟩) (tips := [(4, { pc := some { ρ := [], n0 := 0, res := .agg (T_retraceref01_Got.pvs y4), σ' := [], e := [] } })]) (by kernel_rfl) (allc (C_retraceref01_Get o0.S 0 y4 hy4) all0) (norm ?_)
    refine At.seq ?_
    refine At.seq ?_
    refine At.region_end [0, 3, 16] [0, 1, 2] _ (st' := ⟨[(0, .ptr 0 0), (3, .ptr 2 0), (16, bo (y4.E != 0))], [.blk 41 (T_retraceref03_Reader.pvs o0), .ghost (gv 0) (.ptr 0 0), .blk 127 (T_retraceref01_Got.pvs y4)]⟩) (tips := []) (by kernel_rfl) all0 (norm ?_)
    refine At.cond (y4.E != 0) (by kernel_rfl) (fun b8 => ?_) (fun b8 => ?_)
    · replace h := cond_t b8 h
      refine At.seq ?_
      obtain ⟨y10, hy10, h⟩ := bind_some h
      refine At.region_end [] [0, 1] _ (st' := ⟨[], [.blk 41 (T_retraceref03_Reader.pvs y10), .ghost (gv 0) (.ptr 0 0)]⟩) (tips := [(3, { pc := some { ρ := [0], n0 := 1, res := .tup [], σ' := [.blk 41 (T_retraceref03_Reader.pvs y10)], e := [1] } })]) (by kernel_rfl) (allc (C_retraceref03_Reader_fail y4.E o0 y10 hy10) all0) (norm ?_)
      refine At.seq ?_
      refine At.region_end [2] [0, 1] _ (st' := ⟨[(2, u64 0)], [.blk 41 (T_retraceref03_Reader.pvs y10), .ghost (gv 0) (.ptr 0 0)]⟩) (tips := []) (by kernel_rfl) all0 (norm ?_)
      obtain rfl := some_eq h
      exact At.ret fun a w hs => ret_ok hR (ρ := [0]) (gs := [.ghost (gv 0) (.ptr 0 0)]) (by kernel_rfl) all0 (by kernel_rfl) rfl rfl a w hs _ (.inl rfl)
    · replace h := cond_f b8 h
      refine At.nar [0, 3] [0, 1, 2] (st' := ⟨[(0, .ptr 0 0), (3, .ptr 2 0)], [.blk 41 (T_retraceref03_Reader.pvs o0), .ghost (gv 0) (.ptr 0 0), .blk 127 (T_retraceref01_Got.pvs y4)]⟩) (by kernel_rfl) ?_
      refine At.skip (norm ?_)
      refine At.seq ?_
      obtain ⟨g12, h⟩ := grd_some h
      refine At.draw_end mixedOrd 0 [3] [0, 1, 2] _ (st' := ⟨[(3, .ptr 2 0)], [.blk 41 [sv (o0.S.extract (Int.toNat y4.Next) (Int.toNat (o0.S.size : Int))), i64 o0.Bad], .ghost (gv 0) (.ptr 0 0), .blk 127 (T_retraceref01_Got.pvs y4)]⟩) (tips := [(0, { r := 3 }), (1, { r := 3 }), (2, { r := 3 }), (3, { r := 3 }), (4, { T := [0], r := 3 }), (5, { r := 3 }), (6, { T := [2], r := 3 }), (8, { r := 3 }), (9, { r := 3 }), (10, { T := [0], r := 3 })]) (by kernel_rfl) (allc g12 all0) (norm ?_)
      refine At.seq ?_
      refine At.region_end [2] [0, 1] _ (st' := ⟨[(2, u64 y4.U)], [.blk 41 [sv (o0.S.extract (Int.toNat y4.Next) (Int.toNat (o0.S.size : Int))), i64 o0.Bad], .ghost (gv 0) (.ptr 0 0)]⟩) (tips := []) (by kernel_rfl) all0 (norm ?_)
      obtain rfl := some_eq h
      exact At.ret fun a w hs => ret_ok hR (ρ := [0]) (gs := [.ghost (gv 0) (.ptr 0 0)]) (by kernel_rfl) all0 (by kernel_rfl) rfl rfl a w hs _ (.inl rfl)
set_option maxRecDepth 100000 in
theorem C_retraceref03_Reader_Upto (p1 : Int) (o0 : T_retraceref03_Reader) (r : Int × T_retraceref03_Reader) (h : F_retraceref03_Reader_Upto p1 o0 = some r) : FnOK Try.prog 61 [.ptr 0 0, i64 p1] [.blk 41 (T_retraceref03_Reader.pvs o0)] (i64 r.1) [.blk 41 (T_retraceref03_Reader.pvs r.2)] [1] := by
  rw [F_retraceref03_Reader_Upto] at h
  refine FnOK.intro Try.func61 rfl (by kernel_rfl) (by kernel_rfl) fun E gv R hR => ?_
  refine At.seq ?_
  refine At.region_end [0, 1] [0, 1] _ (st' := ⟨[(0, .ptr 0 0), (1, i64 p1)], [.blk 41 (T_retraceref03_Reader.pvs o0), .ghost (gv 0) (.ptr 0 0)]⟩) (tips := []) (by kernel_rfl) all0 (norm ?_)
  refine At.seq ?_
  refine At.region_end [0, 1, 5] [0, 1] _ (st' := ⟨[(0, .ptr 0 0), (1, i64 p1), (5, sv o0.S)], [.blk 41 (T_retraceref03_Reader.pvs o0), .ghost (gv 0) (.ptr 0 0)]⟩) (tips := []) (by kernel_rfl) all0 (norm ?_)
  refine At.seq ?_
  obtain ⟨y2, hy2, h⟩ := bind_some h
  refine At.region_end [0, 1, 5, 6] [0, 1] _ (st' := ⟨[(0, .ptr 0 0), (1, i64 p1), (5, sv o0.S), (6, u64 y2.1)], [.blk 41 (T_retraceref03_Reader.pvs y2.2), .ghost (gv 0) (.ptr 0 0)]⟩) (tips := [(1, { pc := some { ρ := [0], n0 := 1, res := u64 y2.1, σ' := [.blk 41 (T_retraceref03_Reader.pvs y2.2)], e := [1] } })]) (by kernel_rfl) (allc (C_retraceref03_Reader_Num o0 y2 hy2) all0) (norm ?_)
  refine At.seq ?_
  refine At.seqJ (S := Bool) (fun s => ⟨[(0, .ptr 0 0), (5, sv o0.S), (6, u64 y2.1), (27, bo s)], [.blk 41 (T_retraceref03_Reader.pvs y2.2), .ghost (gv 0) (.ptr 0 0)]⟩) (fun s => F_retraceref03_Reader_Upto_J1 o0 y2 s = some r) ?_ ?_
  · rcases tf (y2.2.Bad == 0) with b17 | b17
    · replace h := cond_t b17 h
      rcases tf (decide (p1 < 0)) with b18 | b18
      · replace h := cond_t b18 h
        refine At.region_end [0, 5, 6, 27] [0, 1] _ (st' := ⟨[(0, .ptr 0 0), (5, sv o0.S), (6, u64 y2.1), (27, bo true)], [.blk 41 (T_retraceref03_Reader.pvs y2.2), .ghost (gv 0) (.ptr 0 0)]⟩) (tips := [(5, { orc := .val (.bool true) }), (8, { orc := .val (.bool true) })]) (by kernel_rfl) (allc (congrArg D.bool b17) (allc (congrArg D.bool b18) all0)) (fun a w hs => ⟨true, h, hs⟩)
      · replace h := cond_f b18 h
        refine At.region_end [0, 5, 6, 27] [0, 1] _ (st' := ⟨[(0, .ptr 0 0), (5, sv o0.S), (6, u64 y2.1), (27, bo (decide ((wu64 p1) < y2.1)))], [.blk 41 (T_retraceref03_Reader.pvs y2.2), .ghost (gv 0) (.ptr 0 0)]⟩) (tips := [(5, { orc := .val (.bool true) }), (8, { orc := .val (.bool false) })]) (by kernel_rfl) (allc (congrArg D.bool b17) (allc (congrArg D.bool b18) all0)) (fun a w hs => ⟨(decide ((wu64 p1) < y2.1)), h, hs⟩)
    · replace h := cond_f b17 h
      refine At.region_end [0, 5, 6, 27] [0, 1] _ (st' := ⟨[(0, .ptr 0 0), (5, sv o0.S), (6, u64 y2.1), (27, bo false)], [.blk 41 (T_retraceref03_Reader.pvs y2.2), .ghost (gv 0) (.ptr 0 0)]⟩) (tips := [(5, { orc := .val (.bool false) })]) (by kernel_rfl) (allc (congrArg D.bool b17) all0) (fun a w hs => ⟨false, h, hs⟩)
  · intro x13 h
    replace h : F_retraceref03_Reader_Upto_J1 o0 y2 x13 = some r := h
    rw [F_retraceref03_Reader_Upto_J1] at h
    refine At.cond x13 (by kernel_rfl) (fun b14 => ?_) (fun b14 => ?_)
    · replace h := cond_t b14 h
      refine At.seq ?_
      refine At.region_end [0] [0, 1] _ (st' := ⟨[(0, .ptr 0 0)], [.blk 41 [sv o0.S, i64 y2.2.Bad], .ghost (gv 0) (.ptr 0 0)]⟩) (tips := []) (by kernel_rfl) all0 (norm ?_)
      refine At.seq ?_
      obtain ⟨y16, hy16, h⟩ := bind_some h
      refine At.region_end [] [0, 1] _ (st' := ⟨[], [.blk 41 (T_retraceref03_Reader.pvs y16), .ghost (gv 0) (.ptr 0 0)]⟩) (tips := [(1, { pc := some { ρ := [0], n0 := 1, res := .tup [], σ' := [.blk 41 (T_retraceref03_Reader.pvs y16)], e := [1] } })]) (by kernel_rfl) (allc (C_retraceref03_Reader_fail 6 (⟨o0.S, y2.2.Bad⟩ : T_retraceref03_Reader) y16 hy16) all0) (norm ?_)
      refine At.seq ?_
      refine At.region_end [4] [0, 1] _ (st' := ⟨[(4, i64 0)], [.blk 41 (T_retraceref03_Reader.pvs y16), .ghost (gv 0) (.ptr 0 0)]⟩) (tips := []) (by kernel_rfl) all0 (norm ?_)
      obtain rfl := some_eq h
      exact At.ret fun a w hs => ret_ok hR (ρ := [0]) (gs := [.ghost (gv 0) (.ptr 0 0)]) (by kernel_rfl) all0 (by kernel_rfl) rfl rfl a w hs _ (.inl rfl)
    · replace h := cond_f b14 h
      refine At.nar [6] [0, 1] (st' := ⟨[(6, u64 y2.1)], [.blk 41 (T_retraceref03_Reader.pvs y2.2), .ghost (gv 0) (.ptr 0 0)]⟩) (by kernel_rfl) ?_
      refine At.skip (norm ?_)
      refine At.seq ?_
      refine At.region_end [4] [0, 1] _ (st' := ⟨[(4, i64 (w64 y2.1))], [.blk 41 (T_retraceref03_Reader.pvs y2.2), .ghost (gv 0) (.ptr 0 0)]⟩) (tips := []) (by kernel_rfl) all0 (norm ?_)
      obtain rfl := some_eq h
      exact At.ret fun a w hs => ret_ok hR (ρ := [0]) (gs := [.ghost (gv 0) (.ptr 0 0)]) (by kernel_rfl) all0 (by kernel_rfl) rfl rfl a w hs _ (.inl rfl)
set_option maxRecDepth 100000 in
theorem C_retraceref01_Zag (p0 : Int) (r : Int) (h : F_retraceref01_Zag p0 = some r) : FnOK Try.prog 76 [u64 p0] [] (i64 r) [] [] := by
  rw [F_retraceref01_Zag] at h
  refine FnOK.intro Try.func76 rfl (by kernel_rfl) (by kernel_rfl) fun E gv R hR => ?_
  refine At.seq ?_
  refine At.region_end [0] [] _ (st' := ⟨[(0, u64 p0)], []⟩) (tips := []) (by kernel_rfl) all0 (norm ?_)
  refine At.seq ?_
  refine At.seq ?_
  refine At.region_end [0, 5] [] _ (st' := ⟨[(0, u64 p0), (5, bo ((Int.tmod p0 2) == 1))], []⟩) (tips := []) (by kernel_rfl) (allc (by decide : 2 ≠ (0:Int)) all0) (norm ?_)
  refine At.cond ((Int.tmod p0 2) == 1) (by kernel_rfl) (fun b2 => ?_) (fun b2 => ?_)
  · replace h := cond_t b2 h
    refine At.seq ?_
    refine At.region_end [2] [] _ (st' := ⟨[(2, i64 (w64 ((w64 (0 - (w64 (wu64 (Int.tdiv p0 2))))) - 1)))], []⟩) (tips := []) (by kernel_rfl) (allc (by decide : 2 ≠ (0:Int)) all0) (norm ?_)
    obtain rfl := some_eq h
    exact At.ret fun a w hs => ret_ok hR (ρ := []) (gs := []) (by kernel_rfl) all0 (by kernel_rfl) rfl rfl a w hs _ (.inl rfl)
  · replace h := cond_f b2 h
    refine At.nar [0] [] (st' := ⟨[(0, u64 p0)], []⟩) (by kernel_rfl) ?_
    refine At.skip (norm ?_)
    refine At.seq ?_
    refine At.region_end [2] [] _ (st' := ⟨[(2, i64 (w64 (wu64 (Int.tdiv p0 2))))], []⟩) (tips := []) (by kernel_rfl) (allc (by decide : 2 ≠ (0:Int)) all0) (norm ?_)
    obtain rfl := some_eq h
    exact At.ret fun a w hs => ret_ok hR (ρ := []) (gs := []) (by kernel_rfl) all0 (by kernel_rfl) rfl rfl a w hs _ (.inl rfl)
set_option maxRecDepth 100000 in
theorem C_retraceref03_Reader_Int (o0 : T_retraceref03_Reader) (r : Int × T_retraceref03_Reader) (h : F_retraceref03_Reader_Int o0 = some r) : FnOK Try.prog 60 [.ptr 0 0] [.blk 41 (T_retraceref03_Reader.pvs o0)] (i64 r.1) [.blk 41 (T_retraceref03_Reader.pvs r.2)] [1] := by
  rw [F_retraceref03_Reader_Int] at h
  refine FnOK.intro Try.func60 rfl (by kernel_rfl) (by kernel_rfl) fun E gv R hR => ?_
  refine At.seq ?_
  refine At.region_end [0] [0, 1] _ (st' := ⟨[(0, .ptr 0 0)], [.blk 41 (T_retraceref03_Reader.pvs o0), .ghost (gv 0) (.ptr 0 0)]⟩) (tips := []) (by kernel_rfl) all0 (norm ?_)
  refine At.seq ?_
  obtain ⟨y3, hy3, h⟩ := bind_some h
  obtain ⟨y4, hy4, h⟩ := bind_some h
  refine At.region_end [2] [0, 1] _ (st' := ⟨[(2, i64 y4)], [.blk 41 (T_retraceref03_Reader.pvs y3.2), .ghost (gv 0) (.ptr 0 0)]⟩) (tips := [(1, { pc := some { ρ := [0], n0 := 1, res := u64 y3.1, σ' := [.blk 41 (T_retraceref03_Reader.pvs y3.2)], e := [1] } }), (2, { pc := some { ρ := [], n0 := 0, res := i64 y4, σ' := [], e := [] } })]) (by kernel_rfl) (allc (C_retraceref03_Reader_Num o0 y3 hy3) (allc (C_retraceref01_Zag y3.1 y4 hy4) all0)) (norm ?_)
  obtain rfl := some_eq h
  exact At.ret fun a w hs => ret_ok hR (ρ := [0]) (gs := [.ghost (gv 0) (.ptr 0 0)]) (by kernel_rfl) all0 (by kernel_rfl) rfl rfl a w hs _ (.inl rfl)
set_option maxRecDepth 100000 in
theorem C_retraceref03_Reader_End (o0 : T_retraceref03_Reader) (r : Int) (h : F_retraceref03_Reader_End o0 = some r) : FnOK Try.prog 51 [.ptr 0 0] [.blk 41 (T_retraceref03_Reader.pvs o0)] (i64 r) [.blk 41 (T_retraceref03_Reader.pvs o0)] [1] := by
  rw [F_retraceref03_Reader_End] at h
  refine FnOK.intro Try.func51 rfl (by kernel_rfl) (by kernel_rfl) fun E gv R hR => ?_
  refine At.seq ?_
  refine At.region_end [0] [0, 1] _ (st' := ⟨[(0, .ptr 0 0)], [.blk 41 (T_retraceref03_Reader.pvs o0), .ghost (gv 0) (.ptr 0 0)]⟩) (tips := []) (by kernel_rfl) all0 (norm ?_)
  refine At.seq ?_
  refine At.seqJ (S := Bool) (fun s => ⟨[(0, .ptr 0 0), (15, bo s)], [.blk 41 (T_retraceref03_Reader.pvs o0), .ghost (gv 0) (.ptr 0 0)]⟩) (fun s => F_retraceref03_Reader_End_J1 o0 s = some r) ?_ ?_
  · rcases tf (o0.Bad == 0) with b8 | b8
    · replace h := cond_t b8 h
      refine At.region_end [0, 15] [0, 1] _ (st' := ⟨[(0, .ptr 0 0), (15, bo (decide (0 < (o0.S.size : Int))))], [.blk 41 (T_retraceref03_Reader.pvs o0), .ghost (gv 0) (.ptr 0 0)]⟩) (tips := [(5, { orc := .val (.bool true) })]) (by kernel_rfl) (allc (congrArg D.bool b8) all0) (fun a w hs => ⟨(decide (0 < (o0.S.size : Int))), h, hs⟩)
    · replace h := cond_f b8 h
      refine At.region_end [0, 15] [0, 1] _ (st' := ⟨[(0, .ptr 0 0), (15, bo false)], [.blk 41 (T_retraceref03_Reader.pvs o0), .ghost (gv 0) (.ptr 0 0)]⟩) (tips := [(5, { orc := .val (.bool false) })]) (by kernel_rfl) (allc (congrArg D.bool b8) all0) (fun a w hs => ⟨false, h, hs⟩)
  · intro x6 h
    replace h : F_retraceref03_Reader_End_J1 o0 x6 = some r := h
    rw [F_retraceref03_Reader_End_J1] at h
    refine At.cond x6 (by kernel_rfl) (fun b7 => ?_) (fun b7 => ?_)
    · replace h := cond_t b7 h
      refine At.seq ?_
      refine At.region_end [2] [0, 1] _ (st' := ⟨[(2, i64 3)], [.blk 41 (T_retraceref03_Reader.pvs o0), .ghost (gv 0) (.ptr 0 0)]⟩) (tips := []) (by kernel_rfl) all0 (norm ?_)
      obtain rfl := some_eq h
      exact At.ret fun a w hs => ret_ok hR (ρ := [0]) (gs := [.ghost (gv 0) (.ptr 0 0)]) (by kernel_rfl) all0 (by kernel_rfl) rfl rfl a w hs _ (.inl rfl)
    · replace h := cond_f b7 h
      refine At.nar [0] [0, 1] (st' := ⟨[(0, .ptr 0 0)], [.blk 41 (T_retraceref03_Reader.pvs o0), .ghost (gv 0) (.ptr 0 0)]⟩) (by kernel_rfl) ?_
      refine At.skip (norm ?_)
      refine At.seq ?_
      refine At.region_end [2] [0, 1] _ (st' := ⟨[(2, i64 o0.Bad)], [.blk 41 (T_retraceref03_Reader.pvs o0), .ghost (gv 0) (.ptr 0 0)]⟩) (tips := []) (by kernel_rfl) all0 (norm ?_)
      obtain rfl := some_eq h
      exact At.ret fun a w hs => ret_ok hR (ρ := [0]) (gs := [.ghost (gv 0) (.ptr 0 0)]) (by kernel_rfl) all0 (by kernel_rfl) rfl rfl a w hs _ (.inl rfl)
set_option maxRecDepth 100000 in
theorem C_retraceref31_Get (p0 : ByteArray) (r : T_retraceref31_Got) (h : F_retraceref31_Get p0 = some r) : FnOK Try.prog 33 [sv p0] [] (.agg (T_retraceref31_Got.pvs r)) [] [] := by
  rw [F_retraceref31_Get] at h
  refine FnOK.intro Try.func33 rfl (by kernel_rfl) (by kernel_rfl) fun E gv R hR => ?_
  refine At.seq ?_
  refine At.region_end [0, 2] [0] _ (st' := ⟨[(0, sv p0), (2, .ptr 0 0)], [.blk 60 [.d (.list true 0 []), i64 0]]⟩) (tips := []) (by kernel_rfl) all0 (norm ?_)
  refine At.seq ?_
  refine At.region_end [2, 3] [0, 1] _ (st' := ⟨[(2, .ptr 0 0), (3, .ptr 1 0)], [.blk 60 [.d (.list true 0 []), i64 0], .blk 41 [sv p0, i64 0]]⟩) (tips := []) (by kernel_rfl) all0 (norm ?_)
  refine At.seq ?_
  obtain ⟨y2, hy2, h⟩ := bind_some h
  refine At.region_end [2, 3, 4] [0, 1] _ (st' := ⟨[(2, .ptr 0 0), (3, .ptr 1 0), (4, i64 y2.1)], [.blk 60 [.d (.list true 0 []), i64 0], .blk 41 (T_retraceref03_Reader.pvs y2.2)]⟩) (tips := [(1, { pc := some { ρ := [1], n0 := 1, res := i64 y2.1, σ' := [.blk 41 (T_retraceref03_Reader.pvs y2.2)], e := [1] } })]) (by kernel_rfl) (allc (C_retraceref03_Reader_Upto 65536 (⟨p0, 0⟩ : T_retraceref03_Reader) y2 hy2) all0) (norm ?_)
  refine At.seq ?_
  refine At.region_end [2, 3, 4, 5] [0, 1] _ (st' := ⟨[(2, .ptr 0 0), (3, .ptr 1 0), (4, i64 y2.1), (5, .d (.list true 0 []))], [.blk 60 [.d (.list true 0 []), i64 0], .blk 41 (T_retraceref03_Reader.pvs y2.2)]⟩) (tips := []) (by kernel_rfl) all0 (norm ?_)
  refine At.seq ?_
  refine At.seq ?_
  refine At.region_end [2, 3, 4, 5, 6] [0, 1] _ (st' := ⟨[(2, .ptr 0 0), (3, .ptr 1 0), (4, i64 y2.1), (5, .d (.list true 0 [])), (6, i64 0)], [.blk 60 [.d (.list true 0 []), i64 0], .blk 41 (T_retraceref03_Reader.pvs y2.2)]⟩) (tips := []) (by kernel_rfl) all0 (norm ?_)
  refine At.block ?_
  refine At.edNar [.ownS 5 104 2] [2, 3, 4, 5, 6] [0, 1, 2] (st' := ⟨[(2, .ptr 0 0), (3, .ptr 1 0), (4, i64 y2.1), (5, .row 2 ([] : List T_api_Event).length), (6, i64 0)], [.blk 60 [.d (.list true 0 []), i64 0], .blk 41 (T_retraceref03_Reader.pvs y2.2), .row 104 2 (encL T_api_Event.enc ([]))]⟩) (by kernel_rfl) ?_
  refine At.loop (fun s : (Int × ByteArray × Int × (List T_api_Event)) => F_retraceref31_Get_L2 y2 s.1 s.2.1 s.2.2.1 s.2.2.2) (fun s : (Int × ByteArray × Int × (List T_api_Event)) => ⟨[(2, .ptr 0 0), (3, .ptr 1 0), (4, i64 y2.1), (5, .row 2 (s.2.2.2).length), (6, i64 s.1)], [.blk 60 [.d (.list true 0 []), i64 0], .blk 41 [sv s.2.1, i64 s.2.2.1], .row 104 2 (encL T_api_Event.enc s.2.2.2)]⟩) r (0, y2.2.S, y2.2.Bad, ([] : (List T_api_Event))) h ?_
  rintro ⟨x27, x28, x29, x30⟩ oo31 h f32
  replace h : F_retraceref31_Get_L2 y2 x27 x28 x29 x30 = some oo31 := h
  rw [F_retraceref31_Get_L2] at h
  refine At.seq ?_
  refine At.seqJ (S := Bool) (fun s => ⟨[(2, .ptr 0 0), (3, .ptr 1 0), (4, i64 y2.1), (5, .row 2 (x30).length), (6, i64 x27), (24, bo s)], [.blk 60 [.d (.list true 0 []), i64 0], .blk 41 [sv x28, i64 x29], .row 104 2 (encL T_api_Event.enc x30)]⟩) (fun s => F_retraceref31_Get_J1 x27 x28 x29 x30 s = some oo31) ?_ ?_
  · rcases tf (decide (x27 < y2.1)) with b74 | b74
    · replace h := cond_t b74 h
      refine At.region_end [2, 3, 4, 5, 6, 24] [0, 1, 2] _ (st' := ⟨[(2, .ptr 0 0), (3, .ptr 1 0), (4, i64 y2.1), (5, .row 2 (x30).length), (6, i64 x27), (24, bo (x29 == 0))], [.blk 60 [.d (.list true 0 []), i64 0], .blk 41 [sv x28, i64 x29], .row 104 2 (encL T_api_Event.enc x30)]⟩) (tips := [(3, { orc := .val (.bool true) })]) (by kernel_rfl) (allc (congrArg D.bool b74) all0) (fun a w hs => ⟨(x29 == 0), h, hs⟩)
    · replace h := cond_f b74 h
      refine At.region_end [2, 3, 4, 5, 6, 24] [0, 1, 2] _ (st' := ⟨[(2, .ptr 0 0), (3, .ptr 1 0), (4, i64 y2.1), (5, .row 2 (x30).length), (6, i64 x27), (24, bo false)], [.blk 60 [.d (.list true 0 []), i64 0], .blk 41 [sv x28, i64 x29], .row 104 2 (encL T_api_Event.enc x30)]⟩) (tips := [(3, { orc := .val (.bool false) })]) (by kernel_rfl) (allc (congrArg D.bool b74) all0) (fun a w hs => ⟨false, h, hs⟩)
  · intro x38 h
    replace h : F_retraceref31_Get_J1 x27 x28 x29 x30 x38 = some oo31 := h
    rw [F_retraceref31_Get_J1] at h
    refine At.cond x38 (by kernel_rfl) (fun b39 => ?_) (fun b39 => ?_)
    · replace h := cond_t b39 h
      refine At.nar [2, 3, 4, 5, 6] [0, 1, 2] (st' := ⟨[(2, .ptr 0 0), (3, .ptr 1 0), (4, i64 y2.1), (5, .row 2 (x30).length), (6, i64 x27)], [.blk 60 [.d (.list true 0 []), i64 0], .blk 41 [sv x28, i64 x29], .row 104 2 (encL T_api_Event.enc x30)]⟩) (by kernel_rfl) ?_
      refine At.skip (norm ?_)
      refine At.seq ?_
      refine At.block ?_
      refine At.seq ?_
      obtain ⟨y45, hy45, h⟩ := bind_some h
      refine At.region_end [2, 3, 4, 5, 6, 7] [0, 1, 2] _ (st' := ⟨[(2, .ptr 0 0), (3, .ptr 1 0), (4, i64 y2.1), (5, .row 2 (x30).length), (6, i64 x27), (7, i64 y45.1)], [.blk 60 [.d (.list true 0 []), i64 0], .blk 41 (T_retraceref03_Reader.pvs y45.2), .row 104 2 (encL T_api_Event.enc x30)]⟩) (tips := [(1, { pc := some { ρ := [1], n0 := 1, res := i64 y45.1, σ' := [.blk 41 (T_retraceref03_Reader.pvs y45.2)], e := [1] } })]) (by kernel_rfl) (allc (C_retraceref03_Reader_Int (⟨x28, x29⟩ : T_retraceref03_Reader) y45 hy45) all0) (norm ?_)
      obtain ⟨y46, hy46, h⟩ := bind_some h
      obtain ⟨g47, h⟩ := grd_some h
      refine At.region_end [2, 3, 4, 5, 6] [0, 1, 2] _ (st' := ⟨[(2, .ptr 0 0), (3, .ptr 1 0), (4, i64 y2.1), (5, .row 2 ((x30 ++ [(⟨y45.1, y46.1⟩ : T_api_Event)])).length), (6, i64 x27)], [.blk 60 [.d (.list true 0 []), i64 0], .blk 41 (T_retraceref03_Reader.pvs y46.2), .row 104 2 (encL T_api_Event.enc (x30 ++ [(⟨y45.1, y46.1⟩ : T_api_Event)]))]⟩) (tips := [(3, { pc := some { ρ := [1], n0 := 1, res := i64 y46.1, σ' := [.blk 41 (T_retraceref03_Reader.pvs y46.2)], e := [1] } }), (6, { form := some ((x30 ++ [(⟨y45.1, y46.1⟩ : T_api_Event)]).length, encL T_api_Event.enc (x30 ++ [(⟨y45.1, y46.1⟩ : T_api_Event)])) })]) (by kernel_rfl) (allc (C_retraceref03_Reader_Int y45.2 y46 hy46) (allc (len_app x30 ([(⟨y45.1, y46.1⟩ : T_api_Event)])) (allc (encL_app T_api_Event.enc x30 ([(⟨y45.1, y46.1⟩ : T_api_Event)])) (allc (app_ok T_api_Event.enc_len (by decide) g47) (allc (encL_len T_api_Event.enc_len ([(⟨y45.1, y46.1⟩ : T_api_Event)])) all0))))) (norm ?_)
      refine At.region_end [2, 3, 4, 5, 6] [0, 1, 2] _ (st' := ⟨[(2, .ptr 0 0), (3, .ptr 1 0), (4, i64 y2.1), (5, .row 2 ((x30 ++ [(⟨y45.1, y46.1⟩ : T_api_Event)])).length), (6, i64 (w64 (x27 + 1)))], [.blk 60 [.d (.list true 0 []), i64 0], .blk 41 (T_retraceref03_Reader.pvs y46.2), .row 104 2 (encL T_api_Event.enc (x30 ++ [(⟨y45.1, y46.1⟩ : T_api_Event)]))]⟩) (tips := []) (by kernel_rfl) all0 (fun a w hs => ⟨_, (some_eq h).symm, hs⟩)
    · replace h := cond_f b39 h
      refine At.nar [2, 3, 5] [0, 1, 2] (st' := ⟨[(2, .ptr 0 0), (3, .ptr 1 0), (5, .row 2 (x30).length)], [.blk 60 [.d (.list true 0 []), i64 0], .blk 41 [sv x28, i64 x29], .row 104 2 (encL T_api_Event.enc x30)]⟩) (by kernel_rfl) ?_
      obtain ⟨r48, h, e49⟩ := map_inr h
      rw [f32 _ e49] at h
      refine At.exit (norm ?_)
      refine At.seq ?_
      refine At.seq ?_
      obtain ⟨y54, hy54, h⟩ := bind_some h
      refine At.region_end [2, 5, 8] [0, 2] _ (st' := ⟨[(2, .ptr 0 0), (5, .row 1 (x30).length), (8, i64 y54)], [.blk 60 [.d (.list true 0 []), i64 0], .row 104 2 (encL T_api_Event.enc x30)]⟩) (tips := [(1, { pc := some { ρ := [1], n0 := 1, res := i64 y54, σ' := [.blk 41 [sv x28, i64 x29]], e := [1] } })]) (by kernel_rfl) (allc (C_retraceref03_Reader_End (⟨x28, x29⟩ : T_retraceref03_Reader) y54 hy54) all0) (norm ?_)
      refine At.seq ?_
      refine At.region_end [2, 5, 8, 39] [0, 1] _ (st' := ⟨[(2, .ptr 0 0), (5, .row 1 (x30).length), (8, i64 y54), (39, bo (y54 != 0))], [.blk 60 [.d (.list true 0 []), i64 0], .row 104 2 (encL T_api_Event.enc x30)]⟩) (tips := []) (by kernel_rfl) all0 (norm ?_)
      refine At.cond (y54 != 0) (by kernel_rfl) (fun b55 => ?_) (fun b55 => ?_)
      · replace h := cond_t b55 h
        refine At.seq ?_
        refine At.region_end [2] [0] _ (st' := ⟨[(2, .ptr 0 0)], [.blk 60 [.d (.list true 0 []), i64 y54]]⟩) (tips := []) (by kernel_rfl) all0 (norm ?_)
        refine At.edNar [.loO 0] [2] [0] (st' := ⟨[(2, .ptr 0 0)], [.blk 60 [lv T_api_Event.enc ([] : List T_api_Event), i64 y54]]⟩) (by kernel_rfl) ?_
        obtain rfl := some_eq h
        exact At.ret fun a w hs => ret_ok hR (ρ := []) (gs := []) (by kernel_rfl) all0 (by kernel_rfl) rfl rfl a w hs _ (.inl rfl)
      · replace h := cond_f b55 h
        refine At.nar [2, 5] [0, 1] (st' := ⟨[(2, .ptr 0 0), (5, .row 1 (x30).length)], [.blk 60 [.d (.list true 0 []), i64 0], .row 104 2 (encL T_api_Event.enc x30)]⟩) (by kernel_rfl) ?_
        refine At.skip (norm ?_)
        refine At.seq ?_
        refine At.seq ?_
        obtain ⟨y67, hy67, h⟩ := bind_some h
        obtain ⟨g68, h⟩ := grd_some h
        refine At.region_end [2, 5, 9] [0, 2] _ (st' := ⟨[(2, .ptr 0 0), (5, lv T_api_Event.enc x30), (9, .ptr 1 0)], [.blk 60 [.d (.list true 0 []), i64 0], .dblk 51 (encL (eInt .i64) y67)]⟩) (tips := [(1, { settle := [1], pc := some { ρ := [], n0 := 0, res := .dagg (encL (eInt .i64) y67), σ' := [], e := [] } })]) (by kernel_rfl) (allc (C_retraceref31_Check x30 y67 hy67) (allc (lenN (he_int .i64) y67 g68.1) (allc (lenN (he_int .i64) (List.replicate 2 (0 : Int)) g68.2) all0))) (norm ?_)
        refine At.seq ?_
        obtain ⟨y70, hy70, h⟩ := bind_some h
        refine At.region_end [2, 5, 9, 46] [0, 1] _ (st' := ⟨[(2, .ptr 0 0), (5, lv T_api_Event.enc x30), (9, .ptr 1 0), (46, bo (y70 != 0))], [.blk 60 [.d (.list true 0 []), i64 0], .dblk 51 (encL (eInt .i64) y67)]⟩) (tips := [(1, { orc := .val (.int .i64 y70) })]) (by kernel_rfl) (allc ((aAt_of (he_int .i64) (d := .int .i64 y70) hy70 rfl).1) (allc ((aAt_of (he_int .i64) (d := .int .i64 y70) hy70 rfl).2) all0)) (norm ?_)
        refine At.cond (y70 != 0) (by kernel_rfl) (fun b71 => ?_) (fun b71 => ?_)
        · replace h := cond_t b71 h
          refine At.seq ?_
          obtain ⟨y73, hy73, h⟩ := bind_some h
          refine At.region_end [2] [0] _ (st' := ⟨[(2, .ptr 0 0)], [.blk 60 [.d (.list true 0 []), i64 y73]]⟩) (tips := [(1, { orc := .val (.int .i64 y73) })]) (by kernel_rfl) (allc ((aAt_of (he_int .i64) (d := .int .i64 y73) hy73 rfl).1) (allc ((aAt_of (he_int .i64) (d := .int .i64 y73) hy73 rfl).2) all0)) (norm ?_)
          refine At.edNar [.loO 0] [2] [0] (st' := ⟨[(2, .ptr 0 0)], [.blk 60 [lv T_api_Event.enc ([] : List T_api_Event), i64 y73]]⟩) (by kernel_rfl) ?_
          obtain rfl := some_eq h
          exact At.ret fun a w hs => ret_ok hR (ρ := []) (gs := []) (by kernel_rfl) all0 (by kernel_rfl) rfl rfl a w hs _ (.inl rfl)
        · replace h := cond_f b71 h
          refine At.nar [2, 5] [0] (st' := ⟨[(2, .ptr 0 0), (5, lv T_api_Event.enc x30)], [.blk 60 [.d (.list true 0 []), i64 0]]⟩) (by kernel_rfl) ?_
          refine At.skip (norm ?_)
          refine At.seq ?_
          refine At.region_end [2] [0] _ (st' := ⟨[(2, .ptr 0 0)], [.blk 60 [lv T_api_Event.enc x30, i64 0]]⟩) (tips := []) (by kernel_rfl) all0 (norm ?_)
          obtain rfl := some_eq h
          exact At.ret fun a w hs => ret_ok hR (ρ := []) (gs := []) (by kernel_rfl) all0 (by kernel_rfl) rfl rfl a w hs _ (.inl rfl)
set_option maxRecDepth 100000 in
theorem C_retracelaw31_EventGets (p0 : ByteArray) (r : Bool) (h : F_retracelaw31_EventGets p0 = some r) : FnOK Try.prog 8 [sv p0] [] (bo r) [] [] := by
  rw [F_retracelaw31_EventGets] at h
  refine FnOK.intro Try.func8 rfl (by kernel_rfl) (by kernel_rfl) fun E gv R hR => ?_
  refine At.seq ?_
  refine At.region_end [0] [] _ (st' := ⟨[(0, sv p0)], []⟩) (tips := []) (by kernel_rfl) all0 (norm ?_)
  refine At.seq ?_
  refine At.seq ?_
  refine At.region_end [0, 8] [] _ (st' := ⟨[(0, sv p0), (8, bo (decide (600 < (p0.size : Int))))], []⟩) (tips := []) (by kernel_rfl) all0 (norm ?_)
  refine At.cond (decide (600 < (p0.size : Int))) (by kernel_rfl) (fun b4 => ?_) (fun b4 => ?_)
  · replace h := cond_t b4 h
    refine At.seq ?_
    obtain ⟨y6, hy6, h⟩ := bind_some h
    refine At.region_end [2] [] _ (st' := ⟨[(2, bo y6)], []⟩) (tips := [(0, { pc := some { ρ := [], n0 := 0, res := bo y6, σ' := [], e := [] } })]) (by kernel_rfl) (allc (C_retracelaw31_live y6 hy6) all0) (norm ?_)
    obtain rfl := some_eq h
    exact At.ret fun a w hs => ret_ok hR (ρ := []) (gs := []) (by kernel_rfl) all0 (by kernel_rfl) rfl rfl a w hs _ (.inl rfl)
  · replace h := cond_f b4 h
    refine At.nar [0] [] (st' := ⟨[(0, sv p0)], []⟩) (by kernel_rfl) ?_
    refine At.skip (norm ?_)
    refine At.seq ?_
    obtain ⟨y8, hy8, h⟩ := bind_some h
    refine At.region_end [0, 3, 4] [] _ (st' := ⟨[(0, sv p0), (3, lv T_api_Event.enc y8.1), (4, i64 y8.2)], []⟩) (tips := [(1, { pc := some { ρ := [], n0 := 0, res := .tup [lv T_api_Event.enc y8.1, i64 y8.2], σ' := [], e := [] } })]) (by kernel_rfl) (allc (C_event_Get p0 y8 hy8) all0) (norm ?_)
    refine At.seq ?_
    obtain ⟨y10, hy10, h⟩ := bind_some h
    refine At.region_end [0, 3, 4, 5] [0] _ (st' := ⟨[(0, sv p0), (3, lv T_api_Event.enc y8.1), (4, i64 y8.2), (5, .ptr 0 0)], [.blk 60 (T_retraceref31_Got.pvs y10)]⟩) (tips := [(1, { pc := some { ρ := [], n0 := 0, res := .agg (T_retraceref31_Got.pvs y10), σ' := [], e := [] } })]) (by kernel_rfl) (allc (C_retraceref31_Get p0 y10 hy10) all0) (norm ?_)
    refine At.seq ?_
    refine At.seqJ (S := Bool) (fun s => ⟨[(0, sv p0), (3, lv T_api_Event.enc y8.1), (4, i64 y8.2), (27, bo s)], []⟩) (fun s => F_retracelaw31_EventGets_J1 p0 y8 s = some r) ?_ ?_
    · obtain ⟨y32, hy32, h⟩ := bind_some h
      rcases tf (!y32) with b33 | b33
      · replace h := cond_t b33 h
        refine At.region_end [0, 3, 4, 27] [] _ (st' := ⟨[(0, sv p0), (3, lv T_api_Event.enc y8.1), (4, i64 y8.2), (27, bo true)], []⟩) (tips := [(3, { pc := some { ρ := [], n0 := 0, res := bo y32, σ' := [], e := [] } }), (5, { orc := .val (.bool true) })]) (by kernel_rfl) (allc (C_retraceref27_Same y8.1 y10.L y32 hy32) (allc (congrArg D.bool b33) all0)) (fun a w hs => ⟨true, h, hs⟩)
      · replace h := cond_f b33 h
        refine At.region_end [0, 3, 4, 27] [] _ (st' := ⟨[(0, sv p0), (3, lv T_api_Event.enc y8.1), (4, i64 y8.2), (27, bo (y8.2 != y10.E))], []⟩) (tips := [(3, { pc := some { ρ := [], n0 := 0, res := bo y32, σ' := [], e := [] } }), (5, { orc := .val (.bool false) })]) (by kernel_rfl) (allc (C_retraceref27_Same y8.1 y10.L y32 hy32) (allc (congrArg D.bool b33) all0)) (fun a w hs => ⟨(y8.2 != y10.E), h, hs⟩)
    · intro x19 h
      replace h : F_retracelaw31_EventGets_J1 p0 y8 x19 = some r := h
      rw [F_retracelaw31_EventGets_J1] at h
      refine At.cond x19 (by kernel_rfl) (fun b20 => ?_) (fun b20 => ?_)
      · replace h := cond_t b20 h
        refine At.seq ?_
        refine At.region_end [2] [] _ (st' := ⟨[(2, bo false)], []⟩) (tips := []) (by kernel_rfl) all0 (norm ?_)
        obtain rfl := some_eq h
        exact At.ret fun a w hs => ret_ok hR (ρ := []) (gs := []) (by kernel_rfl) all0 (by kernel_rfl) rfl rfl a w hs _ (.inl rfl)
      · replace h := cond_f b20 h
        refine At.nar [0, 3, 4] [] (st' := ⟨[(0, sv p0), (3, lv T_api_Event.enc y8.1), (4, i64 y8.2)], []⟩) (by kernel_rfl) ?_
        refine At.skip (norm ?_)
        refine At.seqJ (S := Bool) (fun s => ⟨[(2, bo s)], []⟩) (fun s => F_retracelaw31_EventGets_J2 s = some r) ?_ ?_
        · rcases tf (y8.2 != 0) with b27 | b27
          · replace h := cond_t b27 h
            obtain ⟨y28, hy28, h⟩ := bind_some h
            refine At.region_end [2] [] _ (st' := ⟨[(2, bo y28)], []⟩) (tips := [(2, { orc := .val (.bool true) }), (9, { pc := some { ρ := [], n0 := 0, res := bo y28, σ' := [], e := [] } })]) (by kernel_rfl) (allc (congrArg D.bool b27) (allc (C_retracelaw31_live y28 hy28) all0)) (fun a w hs => ⟨y28, h, hs⟩)
          · replace h := cond_f b27 h
            obtain ⟨y29, hy29, h⟩ := bind_some h
            rcases tf (y29.toList == p0.toList) with b30 | b30
            · replace h := cond_t b30 h
              obtain ⟨y31, hy31, h⟩ := bind_some h
              refine At.region_end [2] [] _ (st' := ⟨[(2, bo y31)], []⟩) (tips := [(2, { orc := .val (.bool false) }), (4, { pc := some { ρ := [], n0 := 0, res := sv y29, σ' := [], e := [] } }), (8, { orc := .val (.bool true) }), (9, { pc := some { ρ := [], n0 := 0, res := bo y31, σ' := [], e := [] } })]) (by kernel_rfl) (allc (congrArg D.bool b27) (allc (C_event_Put y8.1 y29 hy29) (allc (congrArg D.bool b30) (allc (C_retracelaw31_live y31 hy31) all0)))) (fun a w hs => ⟨y31, h, hs⟩)
            · replace h := cond_f b30 h
              refine At.region_end [2] [] _ (st' := ⟨[(2, bo false)], []⟩) (tips := [(2, { orc := .val (.bool false) }), (4, { pc := some { ρ := [], n0 := 0, res := sv y29, σ' := [], e := [] } }), (8, { orc := .val (.bool false) })]) (by kernel_rfl) (allc (congrArg D.bool b27) (allc (C_event_Put y8.1 y29 hy29) (allc (congrArg D.bool b30) all0))) (fun a w hs => ⟨false, h, hs⟩)
        · intro x26 h
          replace h : F_retracelaw31_EventGets_J2 x26 = some r := h
          rw [F_retracelaw31_EventGets_J2] at h
          obtain rfl := some_eq h
          exact At.ret fun a w hs => ret_ok hR (ρ := []) (gs := []) (by kernel_rfl) all0 (by kernel_rfl) rfl rfl a w hs _ (.inl rfl)
set_option maxRecDepth 100000 in
theorem C_retraceref31_Right (p0 : (List T_api_Event)) (r : Bool) (h : F_retraceref31_Right p0 = some r) : FnOK Try.prog 36 [lv T_api_Event.enc p0] [] (bo r) [] [] := by
  rw [F_retraceref31_Right] at h
  refine FnOK.intro Try.func36 rfl (by kernel_rfl) (by kernel_rfl) fun E gv R hR => ?_
  refine At.seq ?_
  refine At.region_end [0] [] _ (st' := ⟨[(0, lv T_api_Event.enc p0)], []⟩) (tips := []) (by kernel_rfl) all0 (norm ?_)
  refine At.seq ?_
  obtain ⟨y3, hy3, h⟩ := bind_some h
  obtain ⟨g4, h⟩ := grd_some h
  refine At.region_end [2] [] _ (st' := ⟨[(2, bo (y3 == ([0, 0] : List Int)))], []⟩) (tips := [(1, { pc := some { ρ := [], n0 := 0, res := .dagg (encL (eInt .i64) y3), σ' := [], e := [] } }), (3, { orc := .val (.bool (y3 == ([0, 0] : List Int))) })]) (by kernel_rfl) (allc (C_retraceref31_Check p0 y3 hy3) (allc (eqTwo_ok .i64 g4) (allc (twoOK .i64 g4) all0))) (norm ?_)
  obtain rfl := some_eq h
  exact At.ret fun a w hs => ret_ok hR (ρ := []) (gs := []) (by kernel_rfl) all0 (by kernel_rfl) rfl rfl a w hs _ (.inl rfl)
set_option maxRecDepth 100000 in
theorem C_retraceref01_Num_B (self : Int → Option (ByteArray)) (hself : ∀ (p0 : Int) (r : ByteArray), self p0 = some r → FnOK Try.prog 46 [u64 p0] [] (sv r) [] []) (p0 : Int) (r : ByteArray) (h : F_retraceref01_Num_B self p0 = some r) : FnOK Try.prog 46 [u64 p0] [] (sv r) [] [] := by
  rw [F_retraceref01_Num_B] at h
  refine FnOK.intro Try.func46 rfl (by kernel_rfl) (by kernel_rfl) fun E gv R hR => ?_
  refine At.seq ?_
  refine At.region_end [0] [] _ (st' := ⟨[(0, u64 p0)], []⟩) (tips := []) (by kernel_rfl) all0 (norm ?_)
  refine At.seq ?_
  refine At.seq ?_
  refine At.region_end [0, 4] [] _ (st' := ⟨[(0, u64 p0), (4, bo (decide (p0 < 128)))], []⟩) (tips := []) (by kernel_rfl) all0 (norm ?_)
  refine At.cond (decide (p0 < 128)) (by kernel_rfl) (fun b2 => ?_) (fun b2 => ?_)
  · replace h := cond_t b2 h
    refine At.seq ?_
    refine At.region_end [2] [] _ (st' := ⟨[(2, sv (strOfNums ([(wu8 p0)])))], []⟩) (tips := [(3, { orc := .nums ([(wu8 p0)]) })]) (by kernel_rfl) (allc (encL_map .u8 ([(wu8 p0)])) (allc (rfl : (([(wu8 p0)])).length = (([(wu8 p0)])).length) all0)) (norm ?_)
    obtain rfl := some_eq h
    exact At.ret fun a w hs => ret_ok hR (ρ := []) (gs := []) (by kernel_rfl) all0 (by kernel_rfl) rfl rfl a w hs _ (.inl rfl)
  · replace h := cond_f b2 h
    refine At.nar [0] [] (st' := ⟨[(0, u64 p0)], []⟩) (by kernel_rfl) ?_
    refine At.skip (norm ?_)
    refine At.seq ?_
    obtain ⟨y5, hy5, h⟩ := bind_some h
    obtain ⟨g6, h⟩ := grd_some h
    refine At.draw_end mixedOrd 1 [2] [] _ (st' := ⟨[(2, sv ((strOfNums ([(wu8 ((wu8 (Int.tmod p0 128)) + 128))])) ++ y5))], []⟩) (tips := [(5, { tip := { orc := .nums ([(wu8 ((wu8 (Int.tmod p0 128)) + 128))]) }, T := [0], r := 1 }), (8, { tip := { pc := some { ρ := [], n0 := 0, res := sv y5, σ' := [], e := [] } }, r := 1 })]) (by kernel_rfl) (allc (by decide : 128 ≠ (0:Int)) (allc (encL_map .u8 ([(wu8 ((wu8 (Int.tmod p0 128)) + 128))])) (allc (rfl : (([(wu8 ((wu8 (Int.tmod p0 128)) + 128))])).length = (([(wu8 ((wu8 (Int.tmod p0 128)) + 128))])).length) (allc (by decide : 128 ≠ (0:Int)) (allc (hself (wu64 (Int.tdiv p0 128)) y5 hy5) (allc g6 all0)))))) (norm ?_)
    obtain rfl := some_eq h
    exact At.ret fun a w hs => ret_ok hR (ρ := []) (gs := []) (by kernel_rfl) all0 (by kernel_rfl) rfl rfl a w hs _ (.inl rfl)
theorem C_retraceref01_Num_N : ∀ (n : Nat) (p0 : Int) (r : ByteArray), F_retraceref01_Num_N n p0 = some r → FnOK Try.prog 46 [u64 p0] [] (sv r) [] []
  | 0, _, _, h => by simp [F_retraceref01_Num_N] at h
  | n + 1, p0, r, h => C_retraceref01_Num_B (F_retraceref01_Num_N n) (C_retraceref01_Num_N n) p0 r h
theorem C_retraceref01_Num (p0 : Int) (r : ByteArray) (h : F_retraceref01_Num p0 = some r) : FnOK Try.prog 46 [u64 p0] [] (sv r) [] [] := by
  obtain ⟨n, h⟩ := lim_some h
  exact C_retraceref01_Num_N n p0 r h
set_option maxRecDepth 100000 in
theorem C_retraceref01_Zig (p0 : Int) (r : Int) (h : F_retraceref01_Zig p0 = some r) : FnOK Try.prog 73 [i64 p0] [] (u64 r) [] [] := by
  rw [F_retraceref01_Zig] at h
  refine FnOK.intro Try.func73 rfl (by kernel_rfl) (by kernel_rfl) fun E gv R hR => ?_
  refine At.seq ?_
  refine At.region_end [0] [] _ (st' := ⟨[(0, i64 p0)], []⟩) (tips := []) (by kernel_rfl) all0 (norm ?_)
  refine At.seq ?_
  refine At.seq ?_
  refine At.region_end [0, 4] [] _ (st' := ⟨[(0, i64 p0), (4, bo (decide (p0 < 0)))], []⟩) (tips := []) (by kernel_rfl) all0 (norm ?_)
  refine At.cond (decide (p0 < 0)) (by kernel_rfl) (fun b2 => ?_) (fun b2 => ?_)
  · replace h := cond_t b2 h
    refine At.seq ?_
    refine At.region_end [2] [] _ (st' := ⟨[(2, u64 (wu64 ((wu64 ((wu64 (w64 (0 - (w64 (p0 + 1))))) * 2)) + 1)))], []⟩) (tips := []) (by kernel_rfl) all0 (norm ?_)
    obtain rfl := some_eq h
    exact At.ret fun a w hs => ret_ok hR (ρ := []) (gs := []) (by kernel_rfl) all0 (by kernel_rfl) rfl rfl a w hs _ (.inl rfl)
  · replace h := cond_f b2 h
    refine At.nar [0] [] (st' := ⟨[(0, i64 p0)], []⟩) (by kernel_rfl) ?_
    refine At.skip (norm ?_)
    refine At.seq ?_
    refine At.region_end [2] [] _ (st' := ⟨[(2, u64 (wu64 ((wu64 p0) * 2)))], []⟩) (tips := []) (by kernel_rfl) all0 (norm ?_)
    obtain rfl := some_eq h
    exact At.ret fun a w hs => ret_ok hR (ρ := []) (gs := []) (by kernel_rfl) all0 (by kernel_rfl) rfl rfl a w hs _ (.inl rfl)
set_option maxRecDepth 100000 in
theorem C_retraceref03_Int (p0 : Int) (r : ByteArray) (h : F_retraceref03_Int p0 = some r) : FnOK Try.prog 45 [i64 p0] [] (sv r) [] [] := by
  rw [F_retraceref03_Int] at h
  refine FnOK.intro Try.func45 rfl (by kernel_rfl) (by kernel_rfl) fun E gv R hR => ?_
  refine At.seq ?_
  refine At.region_end [0] [] _ (st' := ⟨[(0, i64 p0)], []⟩) (tips := []) (by kernel_rfl) all0 (norm ?_)
  refine At.seq ?_
  obtain ⟨y3, hy3, h⟩ := bind_some h
  obtain ⟨y4, hy4, h⟩ := bind_some h
  refine At.region_end [2] [] _ (st' := ⟨[(2, sv y4)], []⟩) (tips := [(1, { pc := some { ρ := [], n0 := 0, res := u64 y3, σ' := [], e := [] } }), (2, { pc := some { ρ := [], n0 := 0, res := sv y4, σ' := [], e := [] } })]) (by kernel_rfl) (allc (C_retraceref01_Zig p0 y3 hy3) (allc (C_retraceref01_Num y3 y4 hy4) all0)) (norm ?_)
  obtain rfl := some_eq h
  exact At.ret fun a w hs => ret_ok hR (ρ := []) (gs := []) (by kernel_rfl) all0 (by kernel_rfl) rfl rfl a w hs _ (.inl rfl)
set_option maxRecDepth 100000 in
theorem C_retraceref31_Put (p0 : (List T_api_Event)) (r : ByteArray) (h : F_retraceref31_Put p0 = some r) : FnOK Try.prog 37 [lv T_api_Event.enc p0] [] (sv r) [] [] := by
  rw [F_retraceref31_Put] at h
  refine FnOK.intro Try.func37 rfl (by kernel_rfl) (by kernel_rfl) fun E gv R hR => ?_
  refine At.seq ?_
  refine At.region_end [0] [] _ (st' := ⟨[(0, lv T_api_Event.enc p0)], []⟩) (tips := []) (by kernel_rfl) all0 (norm ?_)
  refine At.seq ?_
  obtain ⟨y2, hy2, h⟩ := bind_some h
  refine At.region_end [0, 3] [] _ (st' := ⟨[(0, lv T_api_Event.enc p0), (3, sv y2)], []⟩) (tips := [(3, { pc := some { ρ := [], n0 := 0, res := sv y2, σ' := [], e := [] } })]) (by kernel_rfl) (allc (C_retraceref01_Num (wu64 ((p0).length : Int)) y2 hy2) all0) (norm ?_)
  refine At.seq ?_
  refine At.seq ?_
  refine At.region_end [0, 3, 4] [] _ (st' := ⟨[(0, lv T_api_Event.enc p0), (3, sv y2), (4, i64 0)], []⟩) (tips := []) (by kernel_rfl) all0 (norm ?_)
  refine At.block ?_
  refine At.loop (fun s : (ByteArray × Int) => F_retraceref31_Put_L1 p0 s.1 s.2) (fun s : (ByteArray × Int) => ⟨[(0, lv T_api_Event.enc p0), (3, sv s.1), (4, i64 s.2)], []⟩) r (y2, 0) h ?_
  rintro ⟨x23, x24⟩ oo25 h f26
  replace h : F_retraceref31_Put_L1 p0 x23 x24 = some oo25 := h
  rw [F_retraceref31_Put_L1] at h
  refine At.seq ?_
  refine At.seq ?_
  refine At.region_end [0, 3, 4, 12] [] _ (st' := ⟨[(0, lv T_api_Event.enc p0), (3, sv x23), (4, i64 x24), (12, bo (decide (x24 < ((p0).length : Int))))], []⟩) (tips := []) (by kernel_rfl) all0 (norm ?_)
  refine At.cond (decide (x24 < ((p0).length : Int))) (by kernel_rfl) (fun b28 => ?_) (fun b28 => ?_)
  · replace h := cond_t b28 h
    refine At.nar [0, 3, 4] [] (st' := ⟨[(0, lv T_api_Event.enc p0), (3, sv x23), (4, i64 x24)], []⟩) (by kernel_rfl) ?_
    refine At.skip (norm ?_)
    refine At.seq ?_
    refine At.block ?_
    obtain ⟨y35, hy35, h⟩ := bind_some h
    obtain ⟨y36, hy36, h⟩ := bind_some h
    obtain ⟨g37, h⟩ := grd_some h
    obtain ⟨y38, hy38, h⟩ := bind_some h
    obtain ⟨y39, hy39, h⟩ := bind_some h
    obtain ⟨g40, h⟩ := grd_some h
    refine At.draw_end mixedOrd 0 [0, 3, 4] [] _ (st' := ⟨[(0, lv T_api_Event.enc p0), (3, sv ((x23 ++ y36) ++ y39)), (4, i64 x24)], []⟩) (tips := [(3, { tip := { orc := .cells (T_api_Event.enc y35) } }), (6, { tip := { pc := some { ρ := [], n0 := 0, res := sv y36, σ' := [], e := [] } } }), (10, { tip := { orc := .cells (T_api_Event.enc y38) } }), (13, { tip := { pc := some { ρ := [], n0 := 0, res := sv y39, σ' := [], e := [] } } })]) (by kernel_rfl) (allc (elemAt_of T_api_Event.enc_len hy35) (allc (C_retraceref03_Int y35.Kind y36 hy36) (allc g37 (allc (elemAt_of T_api_Event.enc_len hy38) (allc (C_retraceref03_Int y38.N y39 hy39) (allc g40 all0)))))) (norm ?_)
    refine At.region_end [0, 3, 4] [] _ (st' := ⟨[(0, lv T_api_Event.enc p0), (3, sv ((x23 ++ y36) ++ y39)), (4, i64 (w64 (x24 + 1)))], []⟩) (tips := []) (by kernel_rfl) all0 (fun a w hs => ⟨_, (some_eq h).symm, hs⟩)
  · replace h := cond_f b28 h
    refine At.nar [3] [] (st' := ⟨[(3, sv x23)], []⟩) (by kernel_rfl) ?_
    obtain ⟨r41, h, e42⟩ := map_inr h
    rw [f26 _ e42] at h
    refine At.exit (norm ?_)
    refine At.seq ?_
    refine At.region_end [2] [] _ (st' := ⟨[(2, sv x23)], []⟩) (tips := []) (by kernel_rfl) all0 (norm ?_)
    obtain rfl := some_eq h
    exact At.ret fun a w hs => ret_ok hR (ρ := []) (gs := []) (by kernel_rfl) all0 (by kernel_rfl) rfl rfl a w hs _ (.inl rfl)
set_option maxRecDepth 100000 in
theorem C_retracelaw31_EventBack (p0 : (List T_api_Event)) (r : Bool) (h : F_retracelaw31_EventBack p0 = some r) : FnOK Try.prog 9 [lv T_api_Event.enc p0] [] (bo r) [] [] := by
  rw [F_retracelaw31_EventBack] at h
  refine FnOK.intro Try.func9 rfl (by kernel_rfl) (by kernel_rfl) fun E gv R hR => ?_
  refine At.seq ?_
  refine At.region_end [0] [] _ (st' := ⟨[(0, lv T_api_Event.enc p0)], []⟩) (tips := []) (by kernel_rfl) all0 (norm ?_)
  refine At.seq ?_
  refine At.seq ?_
  refine At.region_end [0, 8] [] _ (st' := ⟨[(0, lv T_api_Event.enc p0), (8, bo (decide (300 < ((p0).length : Int))))], []⟩) (tips := []) (by kernel_rfl) all0 (norm ?_)
  refine At.cond (decide (300 < ((p0).length : Int))) (by kernel_rfl) (fun b4 => ?_) (fun b4 => ?_)
  · replace h := cond_t b4 h
    refine At.seq ?_
    obtain ⟨y6, hy6, h⟩ := bind_some h
    refine At.region_end [2] [] _ (st' := ⟨[(2, bo y6)], []⟩) (tips := [(0, { pc := some { ρ := [], n0 := 0, res := bo y6, σ' := [], e := [] } })]) (by kernel_rfl) (allc (C_retracelaw31_live y6 hy6) all0) (norm ?_)
    obtain rfl := some_eq h
    exact At.ret fun a w hs => ret_ok hR (ρ := []) (gs := []) (by kernel_rfl) all0 (by kernel_rfl) rfl rfl a w hs _ (.inl rfl)
  · replace h := cond_f b4 h
    refine At.nar [0] [] (st' := ⟨[(0, lv T_api_Event.enc p0)], []⟩) (by kernel_rfl) ?_
    refine At.skip (norm ?_)
    refine At.seq ?_
    obtain ⟨y8, hy8, h⟩ := bind_some h
    refine At.region_end [0, 3] [] _ (st' := ⟨[(0, lv T_api_Event.enc p0), (3, sv y8)], []⟩) (tips := [(1, { pc := some { ρ := [], n0 := 0, res := sv y8, σ' := [], e := [] } })]) (by kernel_rfl) (allc (C_event_Put p0 y8 hy8) all0) (norm ?_)
    refine At.seq ?_
    obtain ⟨y10, hy10, h⟩ := bind_some h
    refine At.region_end [0, 3, 4, 5] [] _ (st' := ⟨[(0, lv T_api_Event.enc p0), (3, sv y8), (4, lv T_api_Event.enc y10.1), (5, i64 y10.2)], []⟩) (tips := [(1, { pc := some { ρ := [], n0 := 0, res := .tup [lv T_api_Event.enc y10.1, i64 y10.2], σ' := [], e := [] } })]) (by kernel_rfl) (allc (C_event_Get y8 y10 hy10) all0) (norm ?_)
    refine At.seq ?_
    refine At.seq ?_
    obtain ⟨y28, hy28, h⟩ := bind_some h
    refine At.region_end [0, 3, 4, 5, 18] [] _ (st' := ⟨[(0, lv T_api_Event.enc p0), (3, sv y8), (4, lv T_api_Event.enc y10.1), (5, i64 y10.2), (18, bo y28)], []⟩) (tips := [(1, { pc := some { ρ := [], n0 := 0, res := bo y28, σ' := [], e := [] } })]) (by kernel_rfl) (allc (C_retraceref31_Right p0 y28 hy28) all0) (norm ?_)
    refine At.cond y28 (by kernel_rfl) (fun b29 => ?_) (fun b29 => ?_)
    · replace h := cond_t b29 h
      refine At.seqJ (S := Bool) (fun s => ⟨[(2, bo s)], []⟩) (fun s => F_retracelaw31_EventBack_J1 s = some r) ?_ ?_
      · obtain ⟨y37, hy37, h⟩ := bind_some h
        rcases tf (y8.toList == y37.toList) with b38 | b38
        · replace h := cond_t b38 h
          obtain ⟨y39, hy39, h⟩ := bind_some h
          rcases tf y39 with b40 | b40
          · replace h := cond_t b40 h
            rcases tf (y10.2 == 0) with b41 | b41
            · replace h := cond_t b41 h
              obtain ⟨y42, hy42, h⟩ := bind_some h
              refine At.region_end [2] [] _ (st' := ⟨[(2, bo y42)], []⟩) (tips := [(2, { pc := some { ρ := [], n0 := 0, res := sv y37, σ' := [], e := [] } }), (4, { orc := .val (.bool true) }), (7, { pc := some { ρ := [], n0 := 0, res := bo y39, σ' := [], e := [] } }), (9, { orc := .val (.bool true) }), (13, { orc := .val (.bool true) }), (14, { pc := some { ρ := [], n0 := 0, res := bo y42, σ' := [], e := [] } })]) (by kernel_rfl) (allc (C_retraceref31_Put p0 y37 hy37) (allc (congrArg D.bool b38) (allc (C_retraceref27_Same y10.1 p0 y39 hy39) (allc (congrArg D.bool b40) (allc (congrArg D.bool b41) (allc (C_retracelaw31_live y42 hy42) all0)))))) (fun a w hs => ⟨y42, h, hs⟩)
            · replace h := cond_f b41 h
              refine At.region_end [2] [] _ (st' := ⟨[(2, bo false)], []⟩) (tips := [(2, { pc := some { ρ := [], n0 := 0, res := sv y37, σ' := [], e := [] } }), (4, { orc := .val (.bool true) }), (7, { pc := some { ρ := [], n0 := 0, res := bo y39, σ' := [], e := [] } }), (9, { orc := .val (.bool true) }), (13, { orc := .val (.bool false) })]) (by kernel_rfl) (allc (C_retraceref31_Put p0 y37 hy37) (allc (congrArg D.bool b38) (allc (C_retraceref27_Same y10.1 p0 y39 hy39) (allc (congrArg D.bool b40) (allc (congrArg D.bool b41) all0))))) (fun a w hs => ⟨false, h, hs⟩)
          · replace h := cond_f b40 h
            refine At.region_end [2] [] _ (st' := ⟨[(2, bo false)], []⟩) (tips := [(2, { pc := some { ρ := [], n0 := 0, res := sv y37, σ' := [], e := [] } }), (4, { orc := .val (.bool true) }), (7, { pc := some { ρ := [], n0 := 0, res := bo y39, σ' := [], e := [] } }), (9, { orc := .val (.bool false) })]) (by kernel_rfl) (allc (C_retraceref31_Put p0 y37 hy37) (allc (congrArg D.bool b38) (allc (C_retraceref27_Same y10.1 p0 y39 hy39) (allc (congrArg D.bool b40) all0)))) (fun a w hs => ⟨false, h, hs⟩)
        · replace h := cond_f b38 h
          refine At.region_end [2] [] _ (st' := ⟨[(2, bo false)], []⟩) (tips := [(2, { pc := some { ρ := [], n0 := 0, res := sv y37, σ' := [], e := [] } }), (4, { orc := .val (.bool false) })]) (by kernel_rfl) (allc (C_retraceref31_Put p0 y37 hy37) (allc (congrArg D.bool b38) all0)) (fun a w hs => ⟨false, h, hs⟩)
      · intro x36 h
        replace h : F_retracelaw31_EventBack_J1 x36 = some r := h
        rw [F_retracelaw31_EventBack_J1] at h
        obtain rfl := some_eq h
        exact At.ret fun a w hs => ret_ok hR (ρ := []) (gs := []) (by kernel_rfl) all0 (by kernel_rfl) rfl rfl a w hs _ (.inl rfl)
    · replace h := cond_f b29 h
      refine At.nar [0, 3, 4, 5] [] (st' := ⟨[(0, lv T_api_Event.enc p0), (3, sv y8), (4, lv T_api_Event.enc y10.1), (5, i64 y10.2)], []⟩) (by kernel_rfl) ?_
      refine At.skip (norm ?_)
      refine At.seqJ (S := Bool) (fun s => ⟨[(2, bo s)], []⟩) (fun s => F_retracelaw31_EventBack_J2 s = some r) ?_ ?_
      · obtain ⟨y49, hy49, h⟩ := bind_some h
        rcases tf (y8.toList == y49.toList) with b50 | b50
        · replace h := cond_t b50 h
          rcases tf (((y10.1).length : Int) == 0) with b51 | b51
          · replace h := cond_t b51 h
            rcases tf (y10.2 == 3) with b52 | b52
            · replace h := cond_t b52 h
              obtain ⟨y53, hy53, h⟩ := bind_some h
              refine At.region_end [2] [] _ (st' := ⟨[(2, bo y53)], []⟩) (tips := [(2, { pc := some { ρ := [], n0 := 0, res := sv y49, σ' := [], e := [] } }), (4, { orc := .val (.bool true) }), (9, { orc := .val (.bool true) }), (13, { orc := .val (.bool true) }), (14, { pc := some { ρ := [], n0 := 0, res := bo y53, σ' := [], e := [] } })]) (by kernel_rfl) (allc (C_retraceref31_Put p0 y49 hy49) (allc (congrArg D.bool b50) (allc (congrArg D.bool b51) (allc (congrArg D.bool b52) (allc (C_retracelaw31_live y53 hy53) all0))))) (fun a w hs => ⟨y53, h, hs⟩)
            · replace h := cond_f b52 h
              refine At.region_end [2] [] _ (st' := ⟨[(2, bo false)], []⟩) (tips := [(2, { pc := some { ρ := [], n0 := 0, res := sv y49, σ' := [], e := [] } }), (4, { orc := .val (.bool true) }), (9, { orc := .val (.bool true) }), (13, { orc := .val (.bool false) })]) (by kernel_rfl) (allc (C_retraceref31_Put p0 y49 hy49) (allc (congrArg D.bool b50) (allc (congrArg D.bool b51) (allc (congrArg D.bool b52) all0)))) (fun a w hs => ⟨false, h, hs⟩)
          · replace h := cond_f b51 h
            refine At.region_end [2] [] _ (st' := ⟨[(2, bo false)], []⟩) (tips := [(2, { pc := some { ρ := [], n0 := 0, res := sv y49, σ' := [], e := [] } }), (4, { orc := .val (.bool true) }), (9, { orc := .val (.bool false) })]) (by kernel_rfl) (allc (C_retraceref31_Put p0 y49 hy49) (allc (congrArg D.bool b50) (allc (congrArg D.bool b51) all0))) (fun a w hs => ⟨false, h, hs⟩)
        · replace h := cond_f b50 h
          refine At.region_end [2] [] _ (st' := ⟨[(2, bo false)], []⟩) (tips := [(2, { pc := some { ρ := [], n0 := 0, res := sv y49, σ' := [], e := [] } }), (4, { orc := .val (.bool false) })]) (by kernel_rfl) (allc (C_retraceref31_Put p0 y49 hy49) (allc (congrArg D.bool b50) all0)) (fun a w hs => ⟨false, h, hs⟩)
      · intro x48 h
        replace h : F_retracelaw31_EventBack_J2 x48 = some r := h
        rw [F_retracelaw31_EventBack_J2] at h
        obtain rfl := some_eq h
        exact At.ret fun a w hs => ret_ok hR (ρ := []) (gs := []) (by kernel_rfl) all0 (by kernel_rfl) rfl rfl a w hs _ (.inl rfl)
set_option maxRecDepth 100000 in
theorem C_event_Each (p0 : (List T_api_Event)) (r : (List T_api_Event)) (h : F_event_Each p0 = some r) : FnOK Try.prog 38 [lv T_api_Event.enc p0] [] (.fn (.func 68) [] [.ptr 0 0]) [.blk 48 [lv T_api_Event.enc r]] [] := by
  rw [F_event_Each] at h
  refine FnOK.intro Try.func38 rfl (by kernel_rfl) (by kernel_rfl) fun E gv R hR => ?_
  refine At.seq ?_
  refine At.region_end [1] [0] _ (st' := ⟨[(1, .ptr 0 0)], [.blk 48 [lv T_api_Event.enc p0]]⟩) (tips := []) (by kernel_rfl) all0 (norm ?_)
  refine At.seq ?_
  refine At.region_end [2] [0] _ (st' := ⟨[(2, .fn (.func 68) [] [.ptr 0 0])], [.blk 48 [lv T_api_Event.enc p0]]⟩) (tips := []) (by kernel_rfl) all0 (norm ?_)
  obtain rfl := some_eq h
  exact At.ret fun a w hs => ret_ok hR (ρ := [0]) (gs := []) (by kernel_rfl) all0 (by kernel_rfl) rfl rfl a w hs _ (.inl rfl)
end Go.Ab
