import Derived.Test.YtilfkpmojnammaaGSa
namespace Go.Ab
open Go.Proofs
set_option linter.unusedVariables false
set_option maxRecDepth 100000 in
theorem C_stack_New_int (p0 : Int) (r : T_stack_Stack_int_) (h : F_stack_New_int p0 = some r) : FnOK Try.prog 46 [i64 p0] [] (.ptr 0 0) [.blk 98 [.d (.list true 0 []), i64 r.most]] [] := by
  rw [F_stack_New_int] at h
  refine FnOK.intro Try.func46 rfl (by kernel_rfl) (by kernel_rfl) fun E gv R hR => ?_
  refine At.seq ?_
  refine At.region_end [0] [] _ (st' := ⟨[(0, i64 p0)], []⟩) (tips := []) (by kernel_rfl) all0 (norm ?_)
  refine At.seq ?_
  refine At.region_end [2] [0] _ (st' := ⟨[(2, .ptr 0 0)], [.blk 98 [.d (.list true 0 []), i64 (if 0 > p0 then 0 else p0)]]⟩) (tips := []) (by kernel_rfl) all0 (norm ?_)
  obtain rfl := some_eq h
  exact At.ret fun a w hs => ret_ok hR (ρ := [0]) (gs := []) (by kernel_rfl) all0 (by kernel_rfl) rfl rfl a w hs _ (.inl rfl)
set_option maxRecDepth 100000 in
theorem C_stack_Stack_int_Room (o0 : T_stack_Stack_int_) (r : Int) (h : F_stack_Stack_int_Room o0 = some r) : FnOK Try.prog 50 [.ptr 0 0] [.blk 98 [.row 1 (o0.l).length, i64 o0.most], .row 3 1 (encL (eInt .i64) o0.l)] (i64 r) [.blk 98 [.row 1 (o0.l).length, i64 o0.most], .row 3 1 (encL (eInt .i64) o0.l)] [1, 2] := by
  rw [F_stack_Stack_int_Room] at h
  refine FnOK.intro Try.func50 rfl (by kernel_rfl) (by kernel_rfl) fun E gv R hR => ?_
  refine At.seq ?_
  refine At.region_end [0] [0, 1, 2, 3] _ (st' := ⟨[(0, .ptr 0 0)], [.blk 98 [.row 1 (o0.l).length, i64 o0.most], .row 3 1 (encL (eInt .i64) o0.l), .ghost (gv 0) (.ptr 0 0), .ghost (gv 1) (.row 1 0)]⟩) (tips := []) (by kernel_rfl) all0 (norm ?_)
  refine At.seq ?_
  refine At.seq ?_
  refine At.region_end [0, 4] [0, 1, 2, 3] _ (st' := ⟨[(0, .ptr 0 0), (4, bo false)], [.blk 98 [.row 1 (o0.l).length, i64 o0.most], .row 3 1 (encL (eInt .i64) o0.l), .ghost (gv 0) (.ptr 0 0), .ghost (gv 1) (.row 1 0)]⟩) (tips := []) (by kernel_rfl) all0 (norm ?_)
  refine At.cond false (by kernel_rfl) (fun hb => by cases hb) (fun _ => ?_)
  refine At.nar [0] [0, 1, 2, 3] (st' := ⟨[(0, .ptr 0 0)], [.blk 98 [.row 1 (o0.l).length, i64 o0.most], .row 3 1 (encL (eInt .i64) o0.l), .ghost (gv 0) (.ptr 0 0), .ghost (gv 1) (.row 1 0)]⟩) (by kernel_rfl) ?_
  refine At.skip (norm ?_)
  refine At.seq ?_
  refine At.draw_end mixedOrd 0 [2] [0, 1, 2, 3] _ (st' := ⟨[(2, i64 (w64 (o0.most - ((o0.l).length : Int))))], [.blk 98 [.row 1 (o0.l).length, i64 o0.most], .row 3 1 (encL (eInt .i64) o0.l), .ghost (gv 0) (.ptr 0 0), .ghost (gv 1) (.row 1 0)]⟩) (tips := [(0, { r := 4 }), (1, { r := 4 }), (2, { r := 4 }), (3, { T := [0], r := 4 }), (4, { r := 4 }), (5, { r := 4 }), (6, { r := 4 }), (7, { T := [0], r := 4 }), (8, { r := 4 })]) (by kernel_rfl) all0 (norm ?_)
  obtain rfl := some_eq h
  exact At.ret fun a w hs => ret_ok hR (ρ := [0, 1]) (gs := [.ghost (gv 0) (.ptr 0 0), .ghost (gv 1) (.row 1 0)]) (by kernel_rfl) all0 (by kernel_rfl) rfl rfl a w hs _ (.inl rfl)
set_option maxRecDepth 100000 in
theorem C_stack_Stack_int_Push (p1 : Int) (o0 : T_stack_Stack_int_) (r : Bool × T_stack_Stack_int_) (h : F_stack_Stack_int_Push p1 o0 = some r) : FnOK Try.prog 47 [.ptr 0 0, i64 p1] [.blk 98 [.row 1 (o0.l).length, i64 o0.most], .row 3 1 (encL (eInt .i64) o0.l)] (bo r.1) [.blk 98 [.row 1 (r.2.l).length, i64 r.2.most], .row 3 1 (encL (eInt .i64) r.2.l)] [1, 2, 3] := by
  rw [F_stack_Stack_int_Push] at h
  refine FnOK.intro Try.func47 rfl (by kernel_rfl) (by kernel_rfl) fun E gv R hR => ?_
  refine At.seq ?_
  refine At.region_end [0, 1] [0, 1, 2, 3] _ (st' := ⟨[(0, .ptr 0 0), (1, i64 p1)], [.blk 98 [.row 1 (o0.l).length, i64 o0.most], .row 3 1 (encL (eInt .i64) o0.l), .ghost (gv 0) (.ptr 0 0), .ghost (gv 1) (.row 1 0)]⟩) (tips := []) (by kernel_rfl) all0 (norm ?_)
  refine At.seq ?_
  refine At.seq ?_
  obtain ⟨y5, hy5, h⟩ := bind_some h
  refine At.region_end [0, 1, 7] [0, 1, 2, 3] _ (st' := ⟨[(0, .ptr 0 0), (1, i64 p1), (7, bo (y5 == 0))], [.blk 98 [.row 1 (o0.l).length, i64 o0.most], .row 3 1 (encL (eInt .i64) o0.l), .ghost (gv 0) (.ptr 0 0), .ghost (gv 1) (.row 1 0)]⟩) (tips := [(1, { pc := some { ρ := [0, 1], n0 := 2, res := i64 y5, σ' := [.blk 98 [.row 1 (o0.l).length, i64 o0.most], .row 3 1 (encL (eInt .i64) o0.l)], e := [1, 2] } })]) (by kernel_rfl) (allc (C_stack_Stack_int_Room o0 y5 hy5) all0) (norm ?_)
  refine At.cond (y5 == 0) (by kernel_rfl) (fun b6 => ?_) (fun b6 => ?_)
  · replace h := cond_t b6 h
    refine At.seq ?_
    refine At.region_end [4] [0, 1, 2, 3] _ (st' := ⟨[(4, bo false)], [.blk 98 [.row 1 (o0.l).length, i64 o0.most], .row 3 1 (encL (eInt .i64) o0.l), .ghost (gv 0) (.ptr 0 0), .ghost (gv 1) (.row 1 0)]⟩) (tips := []) (by kernel_rfl) all0 (norm ?_)
    refine At.edNar [.hideG 3] [4] [0, 1, 2, 3] (st' := ⟨[(4, bo false)], [.blk 98 [.row 1 (o0.l).length, i64 o0.most], .row 3 1 (encL (eInt .i64) o0.l), .ghost (gv 0) (.ptr 0 0), .ghost (gv 1) (.undef)]⟩) (by kernel_rfl) ?_
    obtain rfl := some_eq h
    exact At.ret fun a w hs => ret_ok hR (ρ := [0, 1]) (gs := [.ghost (gv 0) (.ptr 0 0), .ghost (gv 1) (.undef)]) (by kernel_rfl) all0 (by kernel_rfl) rfl rfl a w hs _ (.inl rfl)
  · replace h := cond_f b6 h
    refine At.nar [0, 1] [0, 1, 2, 3] (st' := ⟨[(0, .ptr 0 0), (1, i64 p1)], [.blk 98 [.row 1 (o0.l).length, i64 o0.most], .row 3 1 (encL (eInt .i64) o0.l), .ghost (gv 0) (.ptr 0 0), .ghost (gv 1) (.row 1 0)]⟩) (by kernel_rfl) ?_
    refine At.skip (norm ?_)
    refine At.seq ?_
    obtain ⟨g8, h⟩ := grd_some h
    refine At.region_end [] [0, 1, 2, 3] _ (st' := ⟨[], [.blk 98 [.row 1 ((o0.l ++ [p1])).length, i64 o0.most], .row 3 1 (encL (eInt .i64) (o0.l ++ [p1])), .ghost (gv 0) (.ptr 0 0), .ghost (gv 1) (.undef)]⟩) (tips := [(7, { form := some ((o0.l ++ [p1]).length, encL (eInt .i64) (o0.l ++ [p1])) })]) (by kernel_rfl) (allc (len_app o0.l ([p1])) (allc (encL_app (eInt .i64) o0.l ([p1])) (allc (app_ok (he_int .i64) (by decide) g8) (allc (encL_len (he_int .i64) ([p1])) all0)))) (norm ?_)
    refine At.seq ?_
    refine At.region_end [4] [0, 1, 2, 3] _ (st' := ⟨[(4, bo true)], [.blk 98 [.row 1 ((o0.l ++ [p1])).length, i64 o0.most], .row 3 1 (encL (eInt .i64) (o0.l ++ [p1])), .ghost (gv 0) (.ptr 0 0), .ghost (gv 1) (.undef)]⟩) (tips := []) (by kernel_rfl) all0 (norm ?_)
    obtain rfl := some_eq h
    exact At.ret fun a w hs => ret_ok hR (ρ := [0, 1]) (gs := [.ghost (gv 0) (.ptr 0 0), .ghost (gv 1) (.undef)]) (by kernel_rfl) all0 (by kernel_rfl) rfl rfl a w hs _ (.inl rfl)
set_option maxRecDepth 100000 in
theorem C_stack_Stack_int_Len (o0 : T_stack_Stack_int_) (r : Int) (h : F_stack_Stack_int_Len o0 = some r) : FnOK Try.prog 49 [.ptr 0 0] [.blk 98 [.row 1 (o0.l).length, i64 o0.most], .row 3 1 (encL (eInt .i64) o0.l)] (i64 r) [.blk 98 [.row 1 (o0.l).length, i64 o0.most], .row 3 1 (encL (eInt .i64) o0.l)] [1, 2] := by
  rw [F_stack_Stack_int_Len] at h
  refine FnOK.intro Try.func49 rfl (by kernel_rfl) (by kernel_rfl) fun E gv R hR => ?_
  refine At.seq ?_
  refine At.region_end [0] [0, 1, 2, 3] _ (st' := ⟨[(0, .ptr 0 0)], [.blk 98 [.row 1 (o0.l).length, i64 o0.most], .row 3 1 (encL (eInt .i64) o0.l), .ghost (gv 0) (.ptr 0 0), .ghost (gv 1) (.row 1 0)]⟩) (tips := []) (by kernel_rfl) all0 (norm ?_)
  refine At.seq ?_
  refine At.seq ?_
  refine At.region_end [0, 4] [0, 1, 2, 3] _ (st' := ⟨[(0, .ptr 0 0), (4, bo false)], [.blk 98 [.row 1 (o0.l).length, i64 o0.most], .row 3 1 (encL (eInt .i64) o0.l), .ghost (gv 0) (.ptr 0 0), .ghost (gv 1) (.row 1 0)]⟩) (tips := []) (by kernel_rfl) all0 (norm ?_)
  refine At.cond false (by kernel_rfl) (fun hb => by cases hb) (fun _ => ?_)
  refine At.nar [0] [0, 1, 2, 3] (st' := ⟨[(0, .ptr 0 0)], [.blk 98 [.row 1 (o0.l).length, i64 o0.most], .row 3 1 (encL (eInt .i64) o0.l), .ghost (gv 0) (.ptr 0 0), .ghost (gv 1) (.row 1 0)]⟩) (by kernel_rfl) ?_
  refine At.skip (norm ?_)
  refine At.seq ?_
  refine At.region_end [2] [0, 1, 2, 3] _ (st' := ⟨[(2, i64 ((o0.l).length : Int))], [.blk 98 [.row 1 (o0.l).length, i64 o0.most], .row 3 1 (encL (eInt .i64) o0.l), .ghost (gv 0) (.ptr 0 0), .ghost (gv 1) (.row 1 0)]⟩) (tips := []) (by kernel_rfl) all0 (norm ?_)
  obtain rfl := some_eq h
  exact At.ret fun a w hs => ret_ok hR (ρ := [0, 1]) (gs := [.ghost (gv 0) (.ptr 0 0), .ghost (gv 1) (.row 1 0)]) (by kernel_rfl) all0 (by kernel_rfl) rfl rfl a w hs _ (.inl rfl)
set_option maxRecDepth 100000 in
theorem C_slices_Clone_int_int (p0 : (List Int)) (r : (List Int)) (h : F_slices_Clone_int_int p0 = some r) : FnOK Try.prog 54 [lv (eInt .i64) p0] [] (.row 0 (r).length) [.row 3 1 (encL (eInt .i64) r)] [] := by
  rw [F_slices_Clone_int_int] at h
  refine FnOK.intro Try.func54 rfl (by kernel_rfl) (by kernel_rfl) fun E gv R hR => ?_
  refine At.seq ?_
  refine At.region_end [0] [] _ (st' := ⟨[(0, lv (eInt .i64) p0)], []⟩) (tips := []) (by kernel_rfl) all0 (norm ?_)
  refine At.seq ?_
  refine At.seq ?_
  refine At.nilEq (t0 := 0) (t3 := 3) (t4 := 4) (e := 3) (tt := false) (k := (p0).length) (xs := encL (eInt .i64) p0) rfl rfl rfl rfl rfl rfl (by decide) (by decide) (by kernel_rfl) (by kernel_rfl) ?_
  rintro (_ | _) hk
  · refine norm ?_
    refine At.nar [0, 4] [] (st' := ⟨[(0, lv (eInt .i64) p0), (4, bo false)], []⟩) (by kernel_rfl) ?_
    refine At.cond false (by kernel_rfl) (fun hb => by cases hb) (fun _ => ?_)
    refine At.nar [0] [] (st' := ⟨[(0, lv (eInt .i64) p0)], []⟩) (by kernel_rfl) ?_
    refine At.skip (norm ?_)
    refine At.seq ?_
    obtain ⟨g2, h⟩ := grd_some h
    refine At.region_end [2] [0] _ (st' := ⟨[(2, .row 0 ((([] : List Int) ++ p0)).length)], [.row 3 1 (encL (eInt .i64) (([] : List Int) ++ p0))]⟩) (tips := [(2, { form := some ((([] : List Int) ++ p0).length, encL (eInt .i64) (([] : List Int) ++ p0)) })]) (by kernel_rfl) (allc (len_app ([] : List Int) p0) (allc (encL_app (eInt .i64) ([] : List Int) p0) (allc (app_ok (he_int .i64) (by decide) g2) (allc (encL_len (he_int .i64) p0) all0)))) (norm ?_)
    obtain rfl := some_eq h
    exact At.ret fun a w hs => ret_ok hR (ρ := [0]) (gs := []) (by kernel_rfl) all0 (by kernel_rfl) rfl rfl a w hs _ (.inl rfl)
  · obtain rfl := List.length_eq_zero_iff.1 (hk rfl)
    obtain ⟨_, h⟩ := grd_some h
    refine norm ?_
    refine At.nar [0, 4] [] (st' := ⟨[(0, lv (eInt .i64) ([] : List Int)), (4, bo true)], []⟩) (by kernel_rfl) ?_
    refine At.cond true (by kernel_rfl) (fun _ => ?_) (fun hb => by cases hb)
    refine At.seq ?_
    refine At.region_end [2] [] _ (st' := ⟨[(2, .d (.list true 0 []))], []⟩) (tips := []) (by kernel_rfl) all0 (norm ?_)
    refine At.edNar [.ownS 2 3 1] [2] [0] (st' := ⟨[(2, .row 0 ([] : List Int).length)], [.row 3 1 (encL (eInt .i64) ([]))]⟩) (by kernel_rfl) ?_
    obtain rfl := some_eq h
    exact At.ret fun a w hs => ret_ok hR (ρ := [0]) (gs := []) (by kernel_rfl) all0 (by kernel_rfl) rfl rfl a w hs _ (.inl rfl)
set_option maxRecDepth 100000 in
theorem C_stack_Stack_int_Take (p1 : Int) (o0 : T_stack_Stack_int_) (r : ((List Int) × Bool) ⊕ ((List Int) × Bool × T_stack_Stack_int_)) (h : F_stack_Stack_int_Take p1 o0 = some r) : FnOK Try.prog 48 [.ptr 0 0, i64 p1] [.blk 98 [.row 1 (o0.l).length, i64 o0.most], .row 3 1 (encL (eInt .i64) o0.l)] ((Sum.elim (fun r => .tup [.row 2 (r.1).length, bo r.2]) (fun r => .tup [.row 2 (r.1).length, bo r.2.1])) r) ((Sum.elim (fun r => [.blk 98 [.row 1 (o0.l).length, i64 o0.most], .row 3 1 (encL (eInt .i64) o0.l), .row 3 1 (encL (eInt .i64) r.1)]) (fun r => [.blk 98 [.d (.list true (r.2.2.l).length (encL (eInt .i64) r.2.2.l)), i64 r.2.2.most], .dead, .row 3 1 (encL (eInt .i64) r.1)])) r) [1, 2, 3] := by
  rw [F_stack_Stack_int_Take] at h
  refine FnOK.intro Try.func48 rfl (by kernel_rfl) (by kernel_rfl) fun E gv R hR => ?_
  refine At.seq ?_
  refine At.region_end [0, 1] [0, 1, 2, 3] _ (st' := ⟨[(0, .ptr 0 0), (1, i64 p1)], [.blk 98 [.row 1 (o0.l).length, i64 o0.most], .row 3 1 (encL (eInt .i64) o0.l), .ghost (gv 0) (.ptr 0 0), .ghost (gv 1) (.row 1 0)]⟩) (tips := []) (by kernel_rfl) all0 (norm ?_)
  refine At.seq ?_
  obtain ⟨y2, hy2, h⟩ := bind_some h
  refine At.region_end [0, 1, 6] [0, 1, 2, 3] _ (st' := ⟨[(0, .ptr 0 0), (1, i64 p1), (6, i64 (w64 (y2 - p1)))], [.blk 98 [.row 1 (o0.l).length, i64 o0.most], .row 3 1 (encL (eInt .i64) o0.l), .ghost (gv 0) (.ptr 0 0), .ghost (gv 1) (.row 1 0)]⟩) (tips := [(1, { pc := some { ρ := [0, 1], n0 := 2, res := i64 y2, σ' := [.blk 98 [.row 1 (o0.l).length, i64 o0.most], .row 3 1 (encL (eInt .i64) o0.l)], e := [1, 2] } })]) (by kernel_rfl) (allc (C_stack_Stack_int_Len o0 y2 hy2) all0) (norm ?_)
  refine At.seq ?_
  refine At.seqJ (S := Bool) (fun s => ⟨[(0, .ptr 0 0), (6, i64 (w64 (y2 - p1))), (21, bo s)], [.blk 98 [.row 1 (o0.l).length, i64 o0.most], .row 3 1 (encL (eInt .i64) o0.l), .ghost (gv 0) (.ptr 0 0), .ghost (gv 1) (.row 1 0)]⟩) (fun s => F_stack_Stack_int_Take_J1 p1 o0 y2 s = some r) ?_ ?_
  · rcases tf (decide (p1 < 0)) with b16 | b16
    · replace h := cond_t b16 h
      refine At.region_end [0, 6, 21] [0, 1, 2, 3] _ (st' := ⟨[(0, .ptr 0 0), (6, i64 (w64 (y2 - p1))), (21, bo true)], [.blk 98 [.row 1 (o0.l).length, i64 o0.most], .row 3 1 (encL (eInt .i64) o0.l), .ghost (gv 0) (.ptr 0 0), .ghost (gv 1) (.row 1 0)]⟩) (tips := [(6, { orc := .val (.bool true) })]) (by kernel_rfl) (allc (congrArg D.bool b16) all0) (fun a w hs => ⟨true, h, hs⟩)
    · replace h := cond_f b16 h
      refine At.region_end [0, 6, 21] [0, 1, 2, 3] _ (st' := ⟨[(0, .ptr 0 0), (6, i64 (w64 (y2 - p1))), (21, bo (decide ((w64 (y2 - p1)) < 0)))], [.blk 98 [.row 1 (o0.l).length, i64 o0.most], .row 3 1 (encL (eInt .i64) o0.l), .ghost (gv 0) (.ptr 0 0), .ghost (gv 1) (.row 1 0)]⟩) (tips := [(6, { orc := .val (.bool false) })]) (by kernel_rfl) (allc (congrArg D.bool b16) all0) (fun a w hs => ⟨(decide ((w64 (y2 - p1)) < 0)), h, hs⟩)
  · intro x8 h
    replace h : F_stack_Stack_int_Take_J1 p1 o0 y2 x8 = some r := h
    rw [F_stack_Stack_int_Take_J1] at h
    refine At.cond x8 (by kernel_rfl) (fun b9 => ?_) (fun b9 => ?_)
    · replace h := cond_t b9 h
      refine At.seq ?_
      refine At.region_end [4, 5] [0, 1, 2, 3] _ (st' := ⟨[(4, .d (.list true 0 [])), (5, bo false)], [.blk 98 [.row 1 (o0.l).length, i64 o0.most], .row 3 1 (encL (eInt .i64) o0.l), .ghost (gv 0) (.ptr 0 0), .ghost (gv 1) (.row 1 0)]⟩) (tips := []) (by kernel_rfl) all0 (norm ?_)
      refine At.edNar [.hideG 3, .ownS 4 3 1] [4, 5] [0, 1, 2, 3, 4] (st' := ⟨[(4, .row 4 ([] : List Int).length), (5, bo false)], [.blk 98 [.row 1 (o0.l).length, i64 o0.most], .row 3 1 (encL (eInt .i64) o0.l), .ghost (gv 0) (.ptr 0 0), .ghost (gv 1) (.undef), .row 3 1 (encL (eInt .i64) ([]))]⟩) (by kernel_rfl) ?_
      obtain rfl := some_eq h
      exact At.ret fun a w hs => ret_ok hR (ρ := [0, 1, 4]) (gs := [.ghost (gv 0) (.ptr 0 0), .ghost (gv 1) (.undef)]) (by kernel_rfl) all0 (by kernel_rfl) rfl rfl a w hs _ (.inl rfl)
    · replace h := cond_f b9 h
      refine At.nar [0, 6] [0, 1, 2, 3] (st' := ⟨[(0, .ptr 0 0), (6, i64 (w64 (y2 - p1)))], [.blk 98 [.row 1 (o0.l).length, i64 o0.most], .row 3 1 (encL (eInt .i64) o0.l), .ghost (gv 0) (.ptr 0 0), .ghost (gv 1) (.row 1 0)]⟩) (by kernel_rfl) ?_
      refine At.skip (norm ?_)
      refine At.seq ?_
      obtain ⟨g12, h⟩ := grd_some h
      obtain ⟨y13, hy13, h⟩ := bind_some h
      refine At.region_end [0, 6, 7] [0, 1, 2, 3, 4] _ (st' := ⟨[(0, .ptr 0 0), (6, i64 (w64 (y2 - p1))), (7, .row 4 (y13).length)], [.blk 98 (T_stack_Stack_int_.pvs o0), .dead, .ghost (gv 0) (.ptr 0 0), .ghost (gv 1) (.d (.list false 0 (encL (eInt .i64) o0.l))), .row 3 1 (encL (eInt .i64) y13)]⟩) (tips := [(5, { form := some ((lCut o0.l (w64 (y2 - p1)) ((o0.l).length : Int)).length, encL (eInt .i64) (lCut o0.l (w64 (y2 - p1)) ((o0.l).length : Int))) }), (6, { pc := some { ρ := [4], n0 := 0, res := .row 0 (y13).length, σ' := [.row 3 1 (encL (eInt .i64) y13)], e := [] } })]) (by kernel_rfl) (allc ((cut_ok (he_int .i64) g12).1) (allc ((cut_ok (he_int .i64) g12).2) (allc g12 (allc (C_slices_Clone_int_int (lCut o0.l (w64 (y2 - p1)) ((o0.l).length : Int)) y13 hy13) all0)))) (norm ?_)
      refine At.seq ?_
      obtain ⟨g15, h⟩ := grd_some h
      refine At.region_end [7] [0, 1, 2, 3, 4] _ (st' := ⟨[(7, .row 4 (y13).length)], [.blk 98 [.d (.list true ((lCut o0.l 0 (w64 (y2 - p1)))).length (encL (eInt .i64) (lCut o0.l 0 (w64 (y2 - p1))))), i64 o0.most], .dead, .ghost (gv 0) (.ptr 0 0), .ghost (gv 1) (.d (.list false 0 (encL (eInt .i64) o0.l))), .row 3 1 (encL (eInt .i64) y13)]⟩) (tips := [(7, { form := some ((lCut o0.l 0 (w64 (y2 - p1))).length, encL (eInt .i64) (lCut o0.l 0 (w64 (y2 - p1)))) })]) (by kernel_rfl) (allc ((cut_ok3 (he_int .i64) g15).1) (allc ((cut_ok3 (he_int .i64) g15).2) (allc g15 all0))) (norm ?_)
      refine At.seq ?_
      refine At.region_end [4, 5] [0, 1, 2, 3, 4] _ (st' := ⟨[(4, .row 4 (y13).length), (5, bo true)], [.blk 98 [.d (.list true ((lCut o0.l 0 (w64 (y2 - p1)))).length (encL (eInt .i64) (lCut o0.l 0 (w64 (y2 - p1))))), i64 o0.most], .dead, .ghost (gv 0) (.ptr 0 0), .ghost (gv 1) (.d (.list false 0 (encL (eInt .i64) o0.l))), .row 3 1 (encL (eInt .i64) y13)]⟩) (tips := []) (by kernel_rfl) all0 (norm ?_)
      refine At.edNar [.hideG 3] [4, 5] [0, 1, 2, 3, 4] (st' := ⟨[(4, .row 4 (y13).length), (5, bo true)], [.blk 98 [.d (.list true ((lCut o0.l 0 (w64 (y2 - p1)))).length (encL (eInt .i64) (lCut o0.l 0 (w64 (y2 - p1))))), i64 o0.most], .dead, .ghost (gv 0) (.ptr 0 0), .ghost (gv 1) (.undef), .row 3 1 (encL (eInt .i64) y13)]⟩) (by kernel_rfl) ?_
      obtain rfl := some_eq h
      exact At.ret fun a w hs => ret_ok hR (ρ := [0, 1, 4]) (gs := [.ghost (gv 0) (.ptr 0 0), .ghost (gv 1) (.undef)]) (by kernel_rfl) all0 (by kernel_rfl) rfl rfl a w hs _ (.inl rfl)
set_option maxRecDepth 100000 in
theorem C_stack_Stack_int_Len_v2 (o0 : T_stack_Stack_int_) (r : Int) (h : F_stack_Stack_int_Len_v2 o0 = some r) : FnOK Try.prog 49 [.ptr 0 0] [.blk 98 [.d (.list true (o0.l).length (encL (eInt .i64) o0.l)), i64 o0.most]] (i64 r) [.blk 98 [.d (.list true (o0.l).length (encL (eInt .i64) o0.l)), i64 o0.most]] [1] := by
  rw [F_stack_Stack_int_Len_v2] at h
  refine FnOK.intro Try.func49 rfl (by kernel_rfl) (by kernel_rfl) fun E gv R hR => ?_
  refine At.seq ?_
  refine At.region_end [0] [0, 1] _ (st' := ⟨[(0, .ptr 0 0)], [.blk 98 [.d (.list true (o0.l).length (encL (eInt .i64) o0.l)), i64 o0.most], .ghost (gv 0) (.ptr 0 0)]⟩) (tips := []) (by kernel_rfl) all0 (norm ?_)
  refine At.seq ?_
  refine At.seq ?_
  refine At.region_end [0, 4] [0, 1] _ (st' := ⟨[(0, .ptr 0 0), (4, bo false)], [.blk 98 [.d (.list true (o0.l).length (encL (eInt .i64) o0.l)), i64 o0.most], .ghost (gv 0) (.ptr 0 0)]⟩) (tips := []) (by kernel_rfl) all0 (norm ?_)
  refine At.cond false (by kernel_rfl) (fun hb => by cases hb) (fun _ => ?_)
  refine At.nar [0] [0, 1] (st' := ⟨[(0, .ptr 0 0)], [.blk 98 [.d (.list true (o0.l).length (encL (eInt .i64) o0.l)), i64 o0.most], .ghost (gv 0) (.ptr 0 0)]⟩) (by kernel_rfl) ?_
  refine At.skip (norm ?_)
  refine At.seq ?_
  refine At.region_end [2] [0, 1] _ (st' := ⟨[(2, i64 ((o0.l).length : Int))], [.blk 98 [.d (.list true (o0.l).length (encL (eInt .i64) o0.l)), i64 o0.most], .ghost (gv 0) (.ptr 0 0)]⟩) (tips := []) (by kernel_rfl) all0 (norm ?_)
  obtain rfl := some_eq h
  exact At.ret fun a w hs => ret_ok hR (ρ := [0]) (gs := [.ghost (gv 0) (.ptr 0 0)]) (by kernel_rfl) all0 (by kernel_rfl) rfl rfl a w hs _ (.inl rfl)
set_option maxRecDepth 100000 in
theorem C_stack_Stack_int_Room_v2 (o0 : T_stack_Stack_int_) (r : Int) (h : F_stack_Stack_int_Room_v2 o0 = some r) : FnOK Try.prog 50 [.ptr 0 0] [.blk 98 [.d (.list true (o0.l).length (encL (eInt .i64) o0.l)), i64 o0.most]] (i64 r) [.blk 98 [.d (.list true (o0.l).length (encL (eInt .i64) o0.l)), i64 o0.most]] [1] := by
  rw [F_stack_Stack_int_Room_v2] at h
  refine FnOK.intro Try.func50 rfl (by kernel_rfl) (by kernel_rfl) fun E gv R hR => ?_
  refine At.seq ?_
  refine At.region_end [0] [0, 1] _ (st' := ⟨[(0, .ptr 0 0)], [.blk 98 [.d (.list true (o0.l).length (encL (eInt .i64) o0.l)), i64 o0.most], .ghost (gv 0) (.ptr 0 0)]⟩) (tips := []) (by kernel_rfl) all0 (norm ?_)
  refine At.seq ?_
  refine At.seq ?_
  refine At.region_end [0, 4] [0, 1] _ (st' := ⟨[(0, .ptr 0 0), (4, bo false)], [.blk 98 [.d (.list true (o0.l).length (encL (eInt .i64) o0.l)), i64 o0.most], .ghost (gv 0) (.ptr 0 0)]⟩) (tips := []) (by kernel_rfl) all0 (norm ?_)
  refine At.cond false (by kernel_rfl) (fun hb => by cases hb) (fun _ => ?_)
  refine At.nar [0] [0, 1] (st' := ⟨[(0, .ptr 0 0)], [.blk 98 [.d (.list true (o0.l).length (encL (eInt .i64) o0.l)), i64 o0.most], .ghost (gv 0) (.ptr 0 0)]⟩) (by kernel_rfl) ?_
  refine At.skip (norm ?_)
  refine At.seq ?_
  refine At.draw_end mixedOrd 0 [2] [0, 1] _ (st' := ⟨[(2, i64 (w64 (o0.most - ((o0.l).length : Int))))], [.blk 98 [.d (.list true (o0.l).length (encL (eInt .i64) o0.l)), i64 o0.most], .ghost (gv 0) (.ptr 0 0)]⟩) (tips := [(0, { r := 2 }), (1, { r := 2 }), (2, { r := 2 }), (3, { T := [0], r := 2 }), (4, { r := 2 }), (5, { r := 2 }), (6, { r := 2 }), (7, { T := [0], r := 2 }), (8, { r := 2 })]) (by kernel_rfl) all0 (norm ?_)
  obtain rfl := some_eq h
  exact At.ret fun a w hs => ret_ok hR (ρ := [0]) (gs := [.ghost (gv 0) (.ptr 0 0)]) (by kernel_rfl) all0 (by kernel_rfl) rfl rfl a w hs _ (.inl rfl)
set_option maxRecDepth 100000 in
theorem C_retracelaw23_live  (r : Bool) (h : F_retracelaw23_live  = some r) : FnOK Try.prog 32 [] [] (bo r) [] [] := by
  rw [F_retracelaw23_live] at h
  refine FnOK.intro Try.func32 rfl (by kernel_rfl) (by kernel_rfl) fun E gv R hR => ?_
  refine At.seq ?_
  refine At.region_end [] [] _ (st' := ⟨[], []⟩) (tips := []) (by kernel_rfl) all0 (norm ?_)
  refine At.seq ?_
  obtain ⟨y2, hy2, h⟩ := bind_some h
  refine At.region_end [1] [0] _ (st' := ⟨[(1, .ptr 0 0)], [.blk 98 [.d (.list true 0 []), i64 y2.most]]⟩) (tips := [(0, { pc := some { ρ := [0], n0 := 0, res := .ptr 0 0, σ' := [.blk 98 [.d (.list true 0 []), i64 y2.most]], e := [] } })]) (by kernel_rfl) (allc (C_stack_New_int 2 y2 hy2) all0) (norm ?_)
  refine At.seq ?_
  refine At.eds [.ownO 0 0 3 1] (st' := ⟨[(1, .ptr 0 0)], [.blk 98 [.row 1 ([] : List Int).length, i64 y2.most], .row 3 1 (encL (eInt .i64) ([]))]⟩) (by kernel_rfl) ?_
  obtain ⟨y6, hy6, h⟩ := bind_some h
  obtain ⟨y7, hy7, h⟩ := bind_some h
  obtain ⟨y8, hy8, h⟩ := bind_some h
  refine At.region_end [1, 2, 3, 4] [0, 1] _ (st' := ⟨[(1, .ptr 0 0), (2, bo y6.1), (3, bo y7.1), (4, bo y8.1)], [.blk 98 [.row 1 (y8.2.l).length, i64 y8.2.most], .row 3 1 (encL (eInt .i64) y8.2.l)]⟩) (tips := [(1, { pc := some { ρ := [0, 1], n0 := 2, res := bo y6.1, σ' := [.blk 98 [.row 1 (y6.2.l).length, i64 y6.2.most], .row 3 1 (encL (eInt .i64) y6.2.l)], e := [1, 2, 3] } }), (3, { pc := some { ρ := [0, 1], n0 := 2, res := bo y7.1, σ' := [.blk 98 [.row 1 (y7.2.l).length, i64 y7.2.most], .row 3 1 (encL (eInt .i64) y7.2.l)], e := [1, 2, 3] } }), (5, { pc := some { ρ := [0, 1], n0 := 2, res := bo y8.1, σ' := [.blk 98 [.row 1 (y8.2.l).length, i64 y8.2.most], .row 3 1 (encL (eInt .i64) y8.2.l)], e := [1, 2, 3] } })]) (by kernel_rfl) (allc (C_stack_Stack_int_Push 1 (⟨([] : List Int), y2.most⟩ : T_stack_Stack_int_) y6 hy6) (allc (C_stack_Stack_int_Push 2 y6.2 y7 hy7) (allc (C_stack_Stack_int_Push 3 y7.2 y8 hy8) all0))) (norm ?_)
  refine At.seqJ (S := (Bool × (List Int)) ⊕ (Bool × (List Int) × Int × (List Int))) (Sum.elim (fun s => ⟨[(1, .ptr 0 0), (2, bo y6.1), (3, bo y7.1), (4, bo y8.1), (5, .row 2 (s.2).length), (6, bo s.1)], [.blk 98 [.row 1 (y8.2.l).length, i64 y8.2.most], .row 3 1 (encL (eInt .i64) y8.2.l), .row 3 1 (encL (eInt .i64) s.2)]⟩) (fun s => ⟨[(1, .ptr 0 0), (2, bo y6.1), (3, bo y7.1), (4, bo y8.1), (5, .row 1 (s.2.2.2).length), (6, bo s.1)], [.blk 98 [.d (.list true (s.2.1).length (encL (eInt .i64) s.2.1)), i64 s.2.2.1], .row 3 1 (encL (eInt .i64) s.2.2.2)]⟩)) (Sum.elim (fun s => F_retracelaw23_live_J1 y6 y7 y8 s.1 s.2 = some r) (fun s => F_retracelaw23_live_J3 y6 y7 y8 s.1 s.2.1 s.2.2.1 s.2.2.2 = some r)) ?_ ?_
  · obtain ⟨y60, hy60, h⟩ := bind_some h
    rcases y60 with y61 | y62
    · replace h := el_inl h
      refine At.region_end [1, 2, 3, 4, 5, 6] [0, 1, 2] _ (st' := ⟨[(1, .ptr 0 0), (2, bo y6.1), (3, bo y7.1), (4, bo y8.1), (5, .row 2 (y61.1).length), (6, bo y61.2)], [.blk 98 [.row 1 (y8.2.l).length, i64 y8.2.most], .row 3 1 (encL (eInt .i64) y8.2.l), .row 3 1 (encL (eInt .i64) y61.1)]⟩) (tips := [(1, { pc := some { ρ := [0, 1, 2], n0 := 2, res := .tup [.row 2 (y61.1).length, bo y61.2], σ' := [.blk 98 [.row 1 (y8.2.l).length, i64 y8.2.most], .row 3 1 (encL (eInt .i64) y8.2.l), .row 3 1 (encL (eInt .i64) y61.1)], e := [1, 2, 3] } })]) (by kernel_rfl) (allc (C_stack_Stack_int_Take 2 y8.2 (.inl y61) hy60) all0) (fun a w hs => ⟨.inl (y61.2, y61.1), h, hs⟩)
    · replace h := el_inr h
      refine At.region_end [1, 2, 3, 4, 5, 6] [0, 2] _ (st' := ⟨[(1, .ptr 0 0), (2, bo y6.1), (3, bo y7.1), (4, bo y8.1), (5, .row 1 (y62.1).length), (6, bo y62.2.1)], [.blk 98 [.d (.list true (y62.2.2.l).length (encL (eInt .i64) y62.2.2.l)), i64 y62.2.2.most], .row 3 1 (encL (eInt .i64) y62.1)]⟩) (tips := [(1, { pc := some { ρ := [0, 1, 2], n0 := 2, res := .tup [.row 2 (y62.1).length, bo y62.2.1], σ' := [.blk 98 [.d (.list true (y62.2.2.l).length (encL (eInt .i64) y62.2.2.l)), i64 y62.2.2.most], .dead, .row 3 1 (encL (eInt .i64) y62.1)], e := [1, 2, 3] } })]) (by kernel_rfl) (allc (C_stack_Stack_int_Take 2 y8.2 (.inr y62) hy60) all0) (fun a w hs => ⟨.inr ((y62.2.1, y62.2.2.l, y62.2.2.most, y62.1)), h, hs⟩)
  · rintro (⟨x12, x13⟩ | ⟨x35, x36, x37, x38⟩) h
    · replace h : F_retracelaw23_live_J1 y6 y7 y8 x12 x13 = some r := h
      rw [F_retracelaw23_live_J1] at h
      refine At.seqJ (S := Bool) (fun s => ⟨[(0, bo s)], []⟩) (fun s => F_retracelaw23_live_J2 s = some r) ?_ ?_
      · rcases tf y6.1 with b25 | b25
        · replace h := cond_t b25 h
          rcases tf y7.1 with b26 | b26
          · replace h := cond_t b26 h
            rcases tf (!y8.1) with b27 | b27
            · replace h := cond_t b27 h
              rcases tf x12 with b28 | b28
              · replace h := cond_t b28 h
                rcases tf (((x13).length : Int) == 2) with b29 | b29
                · replace h := cond_t b29 h
                  obtain ⟨y30, hy30, h⟩ := bind_some h
                  rcases tf (y30 == 1) with b31 | b31
                  · replace h := cond_t b31 h
                    obtain ⟨y32, hy32, h⟩ := bind_some h
                    rcases tf (y32 == 0) with b33 | b33
                    · replace h := cond_t b33 h
                      obtain ⟨y34, hy34, h⟩ := bind_some h
                      refine At.region_end [0] [] _ (st' := ⟨[(0, bo (y34 == 2))], []⟩) (tips := [(1, { orc := .val (.bool true) }), (4, { orc := .val (.bool true) }), (8, { orc := .val (.bool true) }), (11, { orc := .val (.bool true) }), (16, { orc := .val (.bool true) }), (19, { orc := .val (.int .i64 y30) }), (22, { orc := .val (.bool true) }), (24, { pc := some { ρ := [0, 1], n0 := 2, res := i64 y32, σ' := [.blk 98 [.row 1 (y8.2.l).length, i64 y8.2.most], .row 3 1 (encL (eInt .i64) y8.2.l)], e := [1, 2] } }), (27, { orc := .val (.bool true) }), (29, { pc := some { ρ := [0, 1], n0 := 2, res := i64 y34, σ' := [.blk 98 [.row 1 (y8.2.l).length, i64 y8.2.most], .row 3 1 (encL (eInt .i64) y8.2.l)], e := [1, 2] } })]) (by kernel_rfl) (allc (congrArg D.bool b25) (allc (congrArg D.bool b26) (allc (congrArg D.bool b27) (allc (congrArg D.bool b28) (allc (congrArg D.bool b29) (allc ((rAt_of (he_int .i64) (d := .int .i64 y30) hy30 rfl).1) (allc ((rAt_of (he_int .i64) (d := .int .i64 y30) hy30 rfl).2) (allc (congrArg D.bool b31) (allc (C_stack_Stack_int_Len y8.2 y32 hy32) (allc (congrArg D.bool b33) (allc (C_stack_Stack_int_Room y8.2 y34 hy34) all0))))))))))) (fun a w hs => ⟨(y34 == 2), h, hs⟩)
                    · replace h := cond_f b33 h
                      refine At.region_end [0] [] _ (st' := ⟨[(0, bo false)], []⟩) (tips := [(1, { orc := .val (.bool true) }), (4, { orc := .val (.bool true) }), (8, { orc := .val (.bool true) }), (11, { orc := .val (.bool true) }), (16, { orc := .val (.bool true) }), (19, { orc := .val (.int .i64 y30) }), (22, { orc := .val (.bool true) }), (24, { pc := some { ρ := [0, 1], n0 := 2, res := i64 y32, σ' := [.blk 98 [.row 1 (y8.2.l).length, i64 y8.2.most], .row 3 1 (encL (eInt .i64) y8.2.l)], e := [1, 2] } }), (27, { orc := .val (.bool false) })]) (by kernel_rfl) (allc (congrArg D.bool b25) (allc (congrArg D.bool b26) (allc (congrArg D.bool b27) (allc (congrArg D.bool b28) (allc (congrArg D.bool b29) (allc ((rAt_of (he_int .i64) (d := .int .i64 y30) hy30 rfl).1) (allc ((rAt_of (he_int .i64) (d := .int .i64 y30) hy30 rfl).2) (allc (congrArg D.bool b31) (allc (C_stack_Stack_int_Len y8.2 y32 hy32) (allc (congrArg D.bool b33) all0)))))))))) (fun a w hs => ⟨false, h, hs⟩)
                  · replace h := cond_f b31 h
                    refine At.region_end [0] [] _ (st' := ⟨[(0, bo false)], []⟩) (tips := [(1, { orc := .val (.bool true) }), (4, { orc := .val (.bool true) }), (8, { orc := .val (.bool true) }), (11, { orc := .val (.bool true) }), (16, { orc := .val (.bool true) }), (19, { orc := .val (.int .i64 y30) }), (22, { orc := .val (.bool false) })]) (by kernel_rfl) (allc (congrArg D.bool b25) (allc (congrArg D.bool b26) (allc (congrArg D.bool b27) (allc (congrArg D.bool b28) (allc (congrArg D.bool b29) (allc ((rAt_of (he_int .i64) (d := .int .i64 y30) hy30 rfl).1) (allc ((rAt_of (he_int .i64) (d := .int .i64 y30) hy30 rfl).2) (allc (congrArg D.bool b31) all0)))))))) (fun a w hs => ⟨false, h, hs⟩)
                · replace h := cond_f b29 h
                  refine At.region_end [0] [] _ (st' := ⟨[(0, bo false)], []⟩) (tips := [(1, { orc := .val (.bool true) }), (4, { orc := .val (.bool true) }), (8, { orc := .val (.bool true) }), (11, { orc := .val (.bool true) }), (16, { orc := .val (.bool false) })]) (by kernel_rfl) (allc (congrArg D.bool b25) (allc (congrArg D.bool b26) (allc (congrArg D.bool b27) (allc (congrArg D.bool b28) (allc (congrArg D.bool b29) all0))))) (fun a w hs => ⟨false, h, hs⟩)
              · replace h := cond_f b28 h
                refine At.region_end [0] [] _ (st' := ⟨[(0, bo false)], []⟩) (tips := [(1, { orc := .val (.bool true) }), (4, { orc := .val (.bool true) }), (8, { orc := .val (.bool true) }), (11, { orc := .val (.bool false) })]) (by kernel_rfl) (allc (congrArg D.bool b25) (allc (congrArg D.bool b26) (allc (congrArg D.bool b27) (allc (congrArg D.bool b28) all0)))) (fun a w hs => ⟨false, h, hs⟩)
            · replace h := cond_f b27 h
              refine At.region_end [0] [] _ (st' := ⟨[(0, bo false)], []⟩) (tips := [(1, { orc := .val (.bool true) }), (4, { orc := .val (.bool true) }), (8, { orc := .val (.bool false) })]) (by kernel_rfl) (allc (congrArg D.bool b25) (allc (congrArg D.bool b26) (allc (congrArg D.bool b27) all0))) (fun a w hs => ⟨false, h, hs⟩)
          · replace h := cond_f b26 h
            refine At.region_end [0] [] _ (st' := ⟨[(0, bo false)], []⟩) (tips := [(1, { orc := .val (.bool true) }), (4, { orc := .val (.bool false) })]) (by kernel_rfl) (allc (congrArg D.bool b25) (allc (congrArg D.bool b26) all0)) (fun a w hs => ⟨false, h, hs⟩)
        · replace h := cond_f b25 h
          refine At.region_end [0] [] _ (st' := ⟨[(0, bo false)], []⟩) (tips := [(1, { orc := .val (.bool false) })]) (by kernel_rfl) (allc (congrArg D.bool b25) all0) (fun a w hs => ⟨false, h, hs⟩)
      · intro x24 h
        replace h : F_retracelaw23_live_J2 x24 = some r := h
        rw [F_retracelaw23_live_J2] at h
        obtain rfl := some_eq h
        exact At.ret fun a w hs => ret_ok hR (ρ := []) (gs := []) (by kernel_rfl) all0 (by kernel_rfl) rfl rfl a w hs _ (.inl rfl)
    · replace h : F_retracelaw23_live_J3 y6 y7 y8 x35 x36 x37 x38 = some r := h
      rw [F_retracelaw23_live_J3] at h
      refine At.seqJ (S := Bool) (fun s => ⟨[(0, bo s)], []⟩) (fun s => F_retracelaw23_live_J4 s = some r) ?_ ?_
      · rcases tf y6.1 with b50 | b50
        · replace h := cond_t b50 h
          rcases tf y7.1 with b51 | b51
          · replace h := cond_t b51 h
            rcases tf (!y8.1) with b52 | b52
            · replace h := cond_t b52 h
              rcases tf x35 with b53 | b53
              · replace h := cond_t b53 h
                rcases tf (((x38).length : Int) == 2) with b54 | b54
                · replace h := cond_t b54 h
                  obtain ⟨y55, hy55, h⟩ := bind_some h
                  rcases tf (y55 == 1) with b56 | b56
                  · replace h := cond_t b56 h
                    obtain ⟨y57, hy57, h⟩ := bind_some h
                    rcases tf (y57 == 0) with b58 | b58
                    · replace h := cond_t b58 h
                      obtain ⟨y59, hy59, h⟩ := bind_some h
                      refine At.region_end [0] [] _ (st' := ⟨[(0, bo (y59 == 2))], []⟩) (tips := [(1, { orc := .val (.bool true) }), (4, { orc := .val (.bool true) }), (8, { orc := .val (.bool true) }), (11, { orc := .val (.bool true) }), (16, { orc := .val (.bool true) }), (19, { orc := .val (.int .i64 y55) }), (22, { orc := .val (.bool true) }), (24, { pc := some { ρ := [0], n0 := 1, loose := false, res := i64 y57, σ' := [.blk 98 [.d (.list true (x36).length (encL (eInt .i64) x36)), i64 x37]], e := [1] } }), (27, { orc := .val (.bool true) }), (29, { pc := some { ρ := [0], n0 := 1, loose := false, res := i64 y59, σ' := [.blk 98 [.d (.list true (x36).length (encL (eInt .i64) x36)), i64 x37]], e := [1] } })]) (by kernel_rfl) (allc (congrArg D.bool b50) (allc (congrArg D.bool b51) (allc (congrArg D.bool b52) (allc (congrArg D.bool b53) (allc (congrArg D.bool b54) (allc ((rAt_of (he_int .i64) (d := .int .i64 y55) hy55 rfl).1) (allc ((rAt_of (he_int .i64) (d := .int .i64 y55) hy55 rfl).2) (allc (congrArg D.bool b56) (allc (C_stack_Stack_int_Len_v2 (⟨x36, x37⟩ : T_stack_Stack_int_) y57 hy57) (allc (congrArg D.bool b58) (allc (C_stack_Stack_int_Room_v2 (⟨x36, x37⟩ : T_stack_Stack_int_) y59 hy59) all0))))))))))) (fun a w hs => ⟨(y59 == 2), h, hs⟩)
                    · replace h := cond_f b58 h
                      refine At.region_end [0] [] _ (st' := ⟨[(0, bo false)], []⟩) (tips := [(1, { orc := .val (.bool true) }), (4, { orc := .val (.bool true) }), (8, { orc := .val (.bool true) }), (11, { orc := .val (.bool true) }), (16, { orc := .val (.bool true) }), (19, { orc := .val (.int .i64 y55) }), (22, { orc := .val (.bool true) }), (24, { pc := some { ρ := [0], n0 := 1, loose := false, res := i64 y57, σ' := [.blk 98 [.d (.list true (x36).length (encL (eInt .i64) x36)), i64 x37]], e := [1] } }), (27, { orc := .val (.bool false) })]) (by kernel_rfl) (allc (congrArg D.bool b50) (allc (congrArg D.bool b51) (allc (congrArg D.bool b52) (allc (congrArg D.bool b53) (allc (congrArg D.bool b54) (allc ((rAt_of (he_int .i64) (d := .int .i64 y55) hy55 rfl).1) (allc ((rAt_of (he_int .i64) (d := .int .i64 y55) hy55 rfl).2) (allc (congrArg D.bool b56) (allc (C_stack_Stack_int_Len_v2 (⟨x36, x37⟩ : T_stack_Stack_int_) y57 hy57) (allc (congrArg D.bool b58) all0)))))))))) (fun a w hs => ⟨false, h, hs⟩)
                  · replace h := cond_f b56 h
                    refine At.region_end [0] [] _ (st' := ⟨[(0, bo false)], []⟩) (tips := [(1, { orc := .val (.bool true) }), (4, { orc := .val (.bool true) }), (8, { orc := .val (.bool true) }), (11, { orc := .val (.bool true) }), (16, { orc := .val (.bool true) }), (19, { orc := .val (.int .i64 y55) }), (22, { orc := .val (.bool false) })]) (by kernel_rfl) (allc (congrArg D.bool b50) (allc (congrArg D.bool b51) (allc (congrArg D.bool b52) (allc (congrArg D.bool b53) (allc (congrArg D.bool b54) (allc ((rAt_of (he_int .i64) (d := .int .i64 y55) hy55 rfl).1) (allc ((rAt_of (he_int .i64) (d := .int .i64 y55) hy55 rfl).2) (allc (congrArg D.bool b56) all0)))))))) (fun a w hs => ⟨false, h, hs⟩)
                · replace h := cond_f b54 h
                  refine At.region_end [0] [] _ (st' := ⟨[(0, bo false)], []⟩) (tips := [(1, { orc := .val (.bool true) }), (4, { orc := .val (.bool true) }), (8, { orc := .val (.bool true) }), (11, { orc := .val (.bool true) }), (16, { orc := .val (.bool false) })]) (by kernel_rfl) (allc (congrArg D.bool b50) (allc (congrArg D.bool b51) (allc (congrArg D.bool b52) (allc (congrArg D.bool b53) (allc (congrArg D.bool b54) all0))))) (fun a w hs => ⟨false, h, hs⟩)
              · replace h := cond_f b53 h
                refine At.region_end [0] [] _ (st' := ⟨[(0, bo false)], []⟩) (tips := [(1, { orc := .val (.bool true) }), (4, { orc := .val (.bool true) }), (8, { orc := .val (.bool true) }), (11, { orc := .val (.bool false) })]) (by kernel_rfl) (allc (congrArg D.bool b50) (allc (congrArg D.bool b51) (allc (congrArg D.bool b52) (allc (congrArg D.bool b53) all0)))) (fun a w hs => ⟨false, h, hs⟩)
            · replace h := cond_f b52 h
              refine At.region_end [0] [] _ (st' := ⟨[(0, bo false)], []⟩) (tips := [(1, { orc := .val (.bool true) }), (4, { orc := .val (.bool true) }), (8, { orc := .val (.bool false) })]) (by kernel_rfl) (allc (congrArg D.bool b50) (allc (congrArg D.bool b51) (allc (congrArg D.bool b52) all0))) (fun a w hs => ⟨false, h, hs⟩)
          · replace h := cond_f b51 h
            refine At.region_end [0] [] _ (st' := ⟨[(0, bo false)], []⟩) (tips := [(1, { orc := .val (.bool true) }), (4, { orc := .val (.bool false) })]) (by kernel_rfl) (allc (congrArg D.bool b50) (allc (congrArg D.bool b51) all0)) (fun a w hs => ⟨false, h, hs⟩)
        · replace h := cond_f b50 h
          refine At.region_end [0] [] _ (st' := ⟨[(0, bo false)], []⟩) (tips := [(1, { orc := .val (.bool false) })]) (by kernel_rfl) (allc (congrArg D.bool b50) all0) (fun a w hs => ⟨false, h, hs⟩)
      · intro x49 h
        replace h : F_retracelaw23_live_J4 x49 = some r := h
        rw [F_retracelaw23_live_J4] at h
        obtain rfl := some_eq h
        exact At.ret fun a w hs => ret_ok hR (ρ := []) (gs := []) (by kernel_rfl) all0 (by kernel_rfl) rfl rfl a w hs _ (.inl rfl)
set_option maxRecDepth 100000 in
theorem C_stack_New_string (p0 : Int) (r : T_stack_Stack_string_) (h : F_stack_New_string p0 = some r) : FnOK Try.prog 33 [i64 p0] [] (.ptr 0 0) [.blk 94 [.d (.list true 0 []), i64 r.most]] [] := by
  rw [F_stack_New_string] at h
  refine FnOK.intro Try.func33 rfl (by kernel_rfl) (by kernel_rfl) fun E gv R hR => ?_
  refine At.seq ?_
  refine At.region_end [0] [] _ (st' := ⟨[(0, i64 p0)], []⟩) (tips := []) (by kernel_rfl) all0 (norm ?_)
  refine At.seq ?_
  refine At.region_end [2] [0] _ (st' := ⟨[(2, .ptr 0 0)], [.blk 94 [.d (.list true 0 []), i64 (if 0 > p0 then 0 else p0)]]⟩) (tips := []) (by kernel_rfl) all0 (norm ?_)
  obtain rfl := some_eq h
  exact At.ret fun a w hs => ret_ok hR (ρ := [0]) (gs := []) (by kernel_rfl) all0 (by kernel_rfl) rfl rfl a w hs _ (.inl rfl)
set_option maxRecDepth 100000 in
theorem C_stack_Stack_string_Room (o0 : T_stack_Stack_string_) (r : Int) (h : F_stack_Stack_string_Room o0 = some r) : FnOK Try.prog 40 [.ptr 0 0] [.blk 94 [.row 1 (o0.l).length, i64 o0.most], .row 9 1 (encL eStr o0.l)] (i64 r) [.blk 94 [.row 1 (o0.l).length, i64 o0.most], .row 9 1 (encL eStr o0.l)] [1, 2] := by
  rw [F_stack_Stack_string_Room] at h
  refine FnOK.intro Try.func40 rfl (by kernel_rfl) (by kernel_rfl) fun E gv R hR => ?_
  refine At.seq ?_
  refine At.region_end [0] [0, 1, 2, 3] _ (st' := ⟨[(0, .ptr 0 0)], [.blk 94 [.row 1 (o0.l).length, i64 o0.most], .row 9 1 (encL eStr o0.l), .ghost (gv 0) (.ptr 0 0), .ghost (gv 1) (.row 1 0)]⟩) (tips := []) (by kernel_rfl) all0 (norm ?_)
  refine At.seq ?_
  refine At.seq ?_
  refine At.region_end [0, 4] [0, 1, 2, 3] _ (st' := ⟨[(0, .ptr 0 0), (4, bo false)], [.blk 94 [.row 1 (o0.l).length, i64 o0.most], .row 9 1 (encL eStr o0.l), .ghost (gv 0) (.ptr 0 0), .ghost (gv 1) (.row 1 0)]⟩) (tips := []) (by kernel_rfl) all0 (norm ?_)
  refine At.cond false (by kernel_rfl) (fun hb => by cases hb) (fun _ => ?_)
  refine At.nar [0] [0, 1, 2, 3] (st' := ⟨[(0, .ptr 0 0)], [.blk 94 [.row 1 (o0.l).length, i64 o0.most], .row 9 1 (encL eStr o0.l), .ghost (gv 0) (.ptr 0 0), .ghost (gv 1) (.row 1 0)]⟩) (by kernel_rfl) ?_
  refine At.skip (norm ?_)
  refine At.seq ?_
  refine At.draw_end mixedOrd 0 [2] [0, 1, 2, 3] _ (st' := ⟨[(2, i64 (w64 (o0.most - ((o0.l).length : Int))))], [.blk 94 [.row 1 (o0.l).length, i64 o0.most], .row 9 1 (encL eStr o0.l), .ghost (gv 0) (.ptr 0 0), .ghost (gv 1) (.row 1 0)]⟩) (tips := [(0, { r := 4 }), (1, { r := 4 }), (2, { r := 4 }), (3, { T := [0], r := 4 }), (4, { r := 4 }), (5, { r := 4 }), (6, { r := 4 }), (7, { T := [0], r := 4 }), (8, { r := 4 })]) (by kernel_rfl) all0 (norm ?_)
  obtain rfl := some_eq h
  exact At.ret fun a w hs => ret_ok hR (ρ := [0, 1]) (gs := [.ghost (gv 0) (.ptr 0 0), .ghost (gv 1) (.row 1 0)]) (by kernel_rfl) all0 (by kernel_rfl) rfl rfl a w hs _ (.inl rfl)
set_option maxRecDepth 100000 in
theorem C_stack_Stack_string_Push (p1 : ByteArray) (o0 : T_stack_Stack_string_) (r : Bool × T_stack_Stack_string_) (h : F_stack_Stack_string_Push p1 o0 = some r) : FnOK Try.prog 34 [.ptr 0 0, sv p1] [.blk 94 [.row 1 (o0.l).length, i64 o0.most], .row 9 1 (encL eStr o0.l)] (bo r.1) [.blk 94 [.row 1 (r.2.l).length, i64 r.2.most], .row 9 1 (encL eStr r.2.l)] [1, 2, 3] := by
  rw [F_stack_Stack_string_Push] at h
  refine FnOK.intro Try.func34 rfl (by kernel_rfl) (by kernel_rfl) fun E gv R hR => ?_
  refine At.seq ?_
  refine At.region_end [0, 1] [0, 1, 2, 3] _ (st' := ⟨[(0, .ptr 0 0), (1, sv p1)], [.blk 94 [.row 1 (o0.l).length, i64 o0.most], .row 9 1 (encL eStr o0.l), .ghost (gv 0) (.ptr 0 0), .ghost (gv 1) (.row 1 0)]⟩) (tips := []) (by kernel_rfl) all0 (norm ?_)
  refine At.seq ?_
  refine At.seq ?_
  obtain ⟨y5, hy5, h⟩ := bind_some h
  refine At.region_end [0, 1, 7] [0, 1, 2, 3] _ (st' := ⟨[(0, .ptr 0 0), (1, sv p1), (7, bo (y5 == 0))], [.blk 94 [.row 1 (o0.l).length, i64 o0.most], .row 9 1 (encL eStr o0.l), .ghost (gv 0) (.ptr 0 0), .ghost (gv 1) (.row 1 0)]⟩) (tips := [(1, { pc := some { ρ := [0, 1], n0 := 2, res := i64 y5, σ' := [.blk 94 [.row 1 (o0.l).length, i64 o0.most], .row 9 1 (encL eStr o0.l)], e := [1, 2] } })]) (by kernel_rfl) (allc (C_stack_Stack_string_Room o0 y5 hy5) all0) (norm ?_)
  refine At.cond (y5 == 0) (by kernel_rfl) (fun b6 => ?_) (fun b6 => ?_)
  · replace h := cond_t b6 h
    refine At.seq ?_
    refine At.region_end [4] [0, 1, 2, 3] _ (st' := ⟨[(4, bo false)], [.blk 94 [.row 1 (o0.l).length, i64 o0.most], .row 9 1 (encL eStr o0.l), .ghost (gv 0) (.ptr 0 0), .ghost (gv 1) (.row 1 0)]⟩) (tips := []) (by kernel_rfl) all0 (norm ?_)
    refine At.edNar [.hideG 3] [4] [0, 1, 2, 3] (st' := ⟨[(4, bo false)], [.blk 94 [.row 1 (o0.l).length, i64 o0.most], .row 9 1 (encL eStr o0.l), .ghost (gv 0) (.ptr 0 0), .ghost (gv 1) (.undef)]⟩) (by kernel_rfl) ?_
    obtain rfl := some_eq h
    exact At.ret fun a w hs => ret_ok hR (ρ := [0, 1]) (gs := [.ghost (gv 0) (.ptr 0 0), .ghost (gv 1) (.undef)]) (by kernel_rfl) all0 (by kernel_rfl) rfl rfl a w hs _ (.inl rfl)
  · replace h := cond_f b6 h
    refine At.nar [0, 1] [0, 1, 2, 3] (st' := ⟨[(0, .ptr 0 0), (1, sv p1)], [.blk 94 [.row 1 (o0.l).length, i64 o0.most], .row 9 1 (encL eStr o0.l), .ghost (gv 0) (.ptr 0 0), .ghost (gv 1) (.row 1 0)]⟩) (by kernel_rfl) ?_
    refine At.skip (norm ?_)
    refine At.seq ?_
    obtain ⟨g8, h⟩ := grd_some h
    refine At.region_end [] [0, 1, 2, 3] _ (st' := ⟨[], [.blk 94 [.row 1 ((o0.l ++ [p1])).length, i64 o0.most], .row 9 1 (encL eStr (o0.l ++ [p1])), .ghost (gv 0) (.ptr 0 0), .ghost (gv 1) (.undef)]⟩) (tips := [(7, { form := some ((o0.l ++ [p1]).length, encL eStr (o0.l ++ [p1])) })]) (by kernel_rfl) (allc (len_app o0.l ([p1])) (allc (encL_app eStr o0.l ([p1])) (allc (app_ok he_str (by decide) g8) (allc (encL_len he_str ([p1])) all0)))) (norm ?_)
    refine At.seq ?_
    refine At.region_end [4] [0, 1, 2, 3] _ (st' := ⟨[(4, bo true)], [.blk 94 [.row 1 ((o0.l ++ [p1])).length, i64 o0.most], .row 9 1 (encL eStr (o0.l ++ [p1])), .ghost (gv 0) (.ptr 0 0), .ghost (gv 1) (.undef)]⟩) (tips := []) (by kernel_rfl) all0 (norm ?_)
    obtain rfl := some_eq h
    exact At.ret fun a w hs => ret_ok hR (ρ := [0, 1]) (gs := [.ghost (gv 0) (.ptr 0 0), .ghost (gv 1) (.undef)]) (by kernel_rfl) all0 (by kernel_rfl) rfl rfl a w hs _ (.inl rfl)
set_option maxRecDepth 100000 in
theorem C_retraceref23_Cut (p0 : (List ByteArray)) (p1 : Int) (r : (List ByteArray) × (List ByteArray) × Bool) (h : F_retraceref23_Cut p0 p1 = some r) : FnOK Try.prog 35 [lv eStr p0, i64 p1] [] (.tup [lv eStr r.1, lv eStr r.2.1, bo r.2.2]) [] [] := by
  rw [F_retraceref23_Cut] at h
  refine FnOK.intro Try.func35 rfl (by kernel_rfl) (by kernel_rfl) fun E gv R hR => ?_
  refine At.seq ?_
  refine At.region_end [0, 1] [] _ (st' := ⟨[(0, lv eStr p0), (1, i64 p1)], []⟩) (tips := []) (by kernel_rfl) all0 (norm ?_)
  refine At.seq ?_
  refine At.seqJ (S := Bool) (fun s => ⟨[(0, lv eStr p0), (1, i64 p1), (14, bo s)], []⟩) (fun s => F_retraceref23_Cut_J1 p0 p1 s = some r) ?_ ?_
  · rcases tf (decide (p1 < 0)) with b12 | b12
    · replace h := cond_t b12 h
      refine At.region_end [0, 1, 14] [] _ (st' := ⟨[(0, lv eStr p0), (1, i64 p1), (14, bo true)], []⟩) (tips := [(2, { orc := .val (.bool true) })]) (by kernel_rfl) (allc (congrArg D.bool b12) all0) (fun a w hs => ⟨true, h, hs⟩)
    · replace h := cond_f b12 h
      refine At.region_end [0, 1, 14] [] _ (st' := ⟨[(0, lv eStr p0), (1, i64 p1), (14, bo (decide (((p0).length : Int) < p1)))], []⟩) (tips := [(2, { orc := .val (.bool false) })]) (by kernel_rfl) (allc (congrArg D.bool b12) all0) (fun a w hs => ⟨(decide (((p0).length : Int) < p1)), h, hs⟩)
  · intro x6 h
    replace h : F_retraceref23_Cut_J1 p0 p1 x6 = some r := h
    rw [F_retraceref23_Cut_J1] at h
    refine At.cond x6 (by kernel_rfl) (fun b7 => ?_) (fun b7 => ?_)
    · replace h := cond_t b7 h
      refine At.seq ?_
      refine At.region_end [4, 5, 6] [] _ (st' := ⟨[(4, lv eStr p0), (5, .d (.list true 0 [])), (6, bo false)], []⟩) (tips := []) (by kernel_rfl) all0 (norm ?_)
      refine At.edNar [.loS 5] [4, 5, 6] [] (st' := ⟨[(4, lv eStr p0), (5, lv eStr ([] : List ByteArray)), (6, bo false)], []⟩) (by kernel_rfl) ?_
      obtain rfl := some_eq h
      exact At.ret fun a w hs => ret_ok hR (ρ := []) (gs := []) (by kernel_rfl) all0 (by kernel_rfl) rfl rfl a w hs _ (.inl rfl)
    · replace h := cond_f b7 h
      refine At.nar [0, 1] [] (st' := ⟨[(0, lv eStr p0), (1, i64 p1)], []⟩) (by kernel_rfl) ?_
      refine At.skip (norm ?_)
      refine At.seq ?_
      obtain ⟨g10, h⟩ := grd_some h
      obtain ⟨g11, h⟩ := grd_some h
      refine At.draw_end mixedOrd 0 [4, 5, 6] [] _ (st' := ⟨[(4, lv eStr (lCut p0 0 (w64 (((p0).length : Int) - p1)))), (5, lv eStr (lCut p0 (w64 (((p0).length : Int) - p1)) ((p0).length : Int))), (6, bo true)], []⟩) (tips := [(5, { tip := { form := some ((lCut p0 0 (w64 (((p0).length : Int) - p1))).length, encL eStr (lCut p0 0 (w64 (((p0).length : Int) - p1)))) } }), (11, { tip := { form := some ((lCut p0 (w64 (((p0).length : Int) - p1)) ((p0).length : Int)).length, encL eStr (lCut p0 (w64 (((p0).length : Int) - p1)) ((p0).length : Int))) } })]) (by kernel_rfl) (allc ((cut_ok he_str g10).1) (allc ((cut_ok he_str g10).2) (allc g10 (allc ((cut_ok he_str g11).1) (allc ((cut_ok he_str g11).2) (allc g11 all0)))))) (norm ?_)
      obtain rfl := some_eq h
      exact At.ret fun a w hs => ret_ok hR (ρ := []) (gs := []) (by kernel_rfl) all0 (by kernel_rfl) rfl rfl a w hs _ (.inl rfl)
set_option maxRecDepth 100000 in
theorem C_stack_Stack_string_Len (o0 : T_stack_Stack_string_) (r : Int) (h : F_stack_Stack_string_Len o0 = some r) : FnOK Try.prog 39 [.ptr 0 0] [.blk 94 [.row 1 (o0.l).length, i64 o0.most], .row 9 1 (encL eStr o0.l)] (i64 r) [.blk 94 [.row 1 (o0.l).length, i64 o0.most], .row 9 1 (encL eStr o0.l)] [1, 2] := by
  rw [F_stack_Stack_string_Len] at h
  refine FnOK.intro Try.func39 rfl (by kernel_rfl) (by kernel_rfl) fun E gv R hR => ?_
  refine At.seq ?_
  refine At.region_end [0] [0, 1, 2, 3] _ (st' := ⟨[(0, .ptr 0 0)], [.blk 94 [.row 1 (o0.l).length, i64 o0.most], .row 9 1 (encL eStr o0.l), .ghost (gv 0) (.ptr 0 0), .ghost (gv 1) (.row 1 0)]⟩) (tips := []) (by kernel_rfl) all0 (norm ?_)
  refine At.seq ?_
  refine At.seq ?_
  refine At.region_end [0, 4] [0, 1, 2, 3] _ (st' := ⟨[(0, .ptr 0 0), (4, bo false)], [.blk 94 [.row 1 (o0.l).length, i64 o0.most], .row 9 1 (encL eStr o0.l), .ghost (gv 0) (.ptr 0 0), .ghost (gv 1) (.row 1 0)]⟩) (tips := []) (by kernel_rfl) all0 (norm ?_)
  refine At.cond false (by kernel_rfl) (fun hb => by cases hb) (fun _ => ?_)
  refine At.nar [0] [0, 1, 2, 3] (st' := ⟨[(0, .ptr 0 0)], [.blk 94 [.row 1 (o0.l).length, i64 o0.most], .row 9 1 (encL eStr o0.l), .ghost (gv 0) (.ptr 0 0), .ghost (gv 1) (.row 1 0)]⟩) (by kernel_rfl) ?_
  refine At.skip (norm ?_)
  refine At.seq ?_
  refine At.region_end [2] [0, 1, 2, 3] _ (st' := ⟨[(2, i64 ((o0.l).length : Int))], [.blk 94 [.row 1 (o0.l).length, i64 o0.most], .row 9 1 (encL eStr o0.l), .ghost (gv 0) (.ptr 0 0), .ghost (gv 1) (.row 1 0)]⟩) (tips := []) (by kernel_rfl) all0 (norm ?_)
  obtain rfl := some_eq h
  exact At.ret fun a w hs => ret_ok hR (ρ := [0, 1]) (gs := [.ghost (gv 0) (.ptr 0 0), .ghost (gv 1) (.row 1 0)]) (by kernel_rfl) all0 (by kernel_rfl) rfl rfl a w hs _ (.inl rfl)
set_option maxRecDepth 100000 in
theorem C_slices_Clone_string_string (p0 : (List ByteArray)) (r : (List ByteArray)) (h : F_slices_Clone_string_string p0 = some r) : FnOK Try.prog 51 [lv eStr p0] [] (.row 0 (r).length) [.row 9 1 (encL eStr r)] [] := by
  rw [F_slices_Clone_string_string] at h
  refine FnOK.intro Try.func51 rfl (by kernel_rfl) (by kernel_rfl) fun E gv R hR => ?_
  refine At.seq ?_
  refine At.region_end [0] [] _ (st' := ⟨[(0, lv eStr p0)], []⟩) (tips := []) (by kernel_rfl) all0 (norm ?_)
  refine At.seq ?_
  refine At.seq ?_
  refine At.nilEq (t0 := 0) (t3 := 3) (t4 := 4) (e := 9) (tt := false) (k := (p0).length) (xs := encL eStr p0) rfl rfl rfl rfl rfl rfl (by decide) (by decide) (by kernel_rfl) (by kernel_rfl) ?_
  rintro (_ | _) hk
  · refine norm ?_
    refine At.nar [0, 4] [] (st' := ⟨[(0, lv eStr p0), (4, bo false)], []⟩) (by kernel_rfl) ?_
    refine At.cond false (by kernel_rfl) (fun hb => by cases hb) (fun _ => ?_)
    refine At.nar [0] [] (st' := ⟨[(0, lv eStr p0)], []⟩) (by kernel_rfl) ?_
    refine At.skip (norm ?_)
    refine At.seq ?_
    obtain ⟨g2, h⟩ := grd_some h
    refine At.region_end [2] [0] _ (st' := ⟨[(2, .row 0 ((([] : List ByteArray) ++ p0)).length)], [.row 9 1 (encL eStr (([] : List ByteArray) ++ p0))]⟩) (tips := [(2, { form := some ((([] : List ByteArray) ++ p0).length, encL eStr (([] : List ByteArray) ++ p0)) })]) (by kernel_rfl) (allc (len_app ([] : List ByteArray) p0) (allc (encL_app eStr ([] : List ByteArray) p0) (allc (app_ok he_str (by decide) g2) (allc (encL_len he_str p0) all0)))) (norm ?_)
    obtain rfl := some_eq h
    exact At.ret fun a w hs => ret_ok hR (ρ := [0]) (gs := []) (by kernel_rfl) all0 (by kernel_rfl) rfl rfl a w hs _ (.inl rfl)
  · obtain rfl := List.length_eq_zero_iff.1 (hk rfl)
    obtain ⟨_, h⟩ := grd_some h
    refine norm ?_
    refine At.nar [0, 4] [] (st' := ⟨[(0, lv eStr ([] : List ByteArray)), (4, bo true)], []⟩) (by kernel_rfl) ?_
    refine At.cond true (by kernel_rfl) (fun _ => ?_) (fun hb => by cases hb)
    refine At.seq ?_
    refine At.region_end [2] [] _ (st' := ⟨[(2, .d (.list true 0 []))], []⟩) (tips := []) (by kernel_rfl) all0 (norm ?_)
    refine At.edNar [.ownS 2 9 1] [2] [0] (st' := ⟨[(2, .row 0 ([] : List ByteArray).length)], [.row 9 1 (encL eStr ([]))]⟩) (by kernel_rfl) ?_
    obtain rfl := some_eq h
    exact At.ret fun a w hs => ret_ok hR (ρ := [0]) (gs := []) (by kernel_rfl) all0 (by kernel_rfl) rfl rfl a w hs _ (.inl rfl)
set_option maxRecDepth 100000 in
theorem C_stack_Stack_string_Take (p1 : Int) (o0 : T_stack_Stack_string_) (r : ((List ByteArray) × Bool) ⊕ ((List ByteArray) × Bool × T_stack_Stack_string_)) (h : F_stack_Stack_string_Take p1 o0 = some r) : FnOK Try.prog 37 [.ptr 0 0, i64 p1] [.blk 94 [.row 1 (o0.l).length, i64 o0.most], .row 9 1 (encL eStr o0.l)] ((Sum.elim (fun r => .tup [.row 2 (r.1).length, bo r.2]) (fun r => .tup [.row 2 (r.1).length, bo r.2.1])) r) ((Sum.elim (fun r => [.blk 94 [.row 1 (o0.l).length, i64 o0.most], .row 9 1 (encL eStr o0.l), .row 9 1 (encL eStr r.1)]) (fun r => [.blk 94 [.d (.list true (r.2.2.l).length (encL eStr r.2.2.l)), i64 r.2.2.most], .dead, .row 9 1 (encL eStr r.1)])) r) [1, 2, 3] := by
  rw [F_stack_Stack_string_Take] at h
  refine FnOK.intro Try.func37 rfl (by kernel_rfl) (by kernel_rfl) fun E gv R hR => ?_
  refine At.seq ?_
  refine At.region_end [0, 1] [0, 1, 2, 3] _ (st' := ⟨[(0, .ptr 0 0), (1, i64 p1)], [.blk 94 [.row 1 (o0.l).length, i64 o0.most], .row 9 1 (encL eStr o0.l), .ghost (gv 0) (.ptr 0 0), .ghost (gv 1) (.row 1 0)]⟩) (tips := []) (by kernel_rfl) all0 (norm ?_)
  refine At.seq ?_
  obtain ⟨y2, hy2, h⟩ := bind_some h
  refine At.region_end [0, 1, 6] [0, 1, 2, 3] _ (st' := ⟨[(0, .ptr 0 0), (1, i64 p1), (6, i64 (w64 (y2 - p1)))], [.blk 94 [.row 1 (o0.l).length, i64 o0.most], .row 9 1 (encL eStr o0.l), .ghost (gv 0) (.ptr 0 0), .ghost (gv 1) (.row 1 0)]⟩) (tips := [(1, { pc := some { ρ := [0, 1], n0 := 2, res := i64 y2, σ' := [.blk 94 [.row 1 (o0.l).length, i64 o0.most], .row 9 1 (encL eStr o0.l)], e := [1, 2] } })]) (by kernel_rfl) (allc (C_stack_Stack_string_Len o0 y2 hy2) all0) (norm ?_)
  refine At.seq ?_
  refine At.seqJ (S := Bool) (fun s => ⟨[(0, .ptr 0 0), (6, i64 (w64 (y2 - p1))), (21, bo s)], [.blk 94 [.row 1 (o0.l).length, i64 o0.most], .row 9 1 (encL eStr o0.l), .ghost (gv 0) (.ptr 0 0), .ghost (gv 1) (.row 1 0)]⟩) (fun s => F_stack_Stack_string_Take_J1 p1 o0 y2 s = some r) ?_ ?_
  · rcases tf (decide (p1 < 0)) with b16 | b16
    · replace h := cond_t b16 h
      refine At.region_end [0, 6, 21] [0, 1, 2, 3] _ (st' := ⟨[(0, .ptr 0 0), (6, i64 (w64 (y2 - p1))), (21, bo true)], [.blk 94 [.row 1 (o0.l).length, i64 o0.most], .row 9 1 (encL eStr o0.l), .ghost (gv 0) (.ptr 0 0), .ghost (gv 1) (.row 1 0)]⟩) (tips := [(6, { orc := .val (.bool true) })]) (by kernel_rfl) (allc (congrArg D.bool b16) all0) (fun a w hs => ⟨true, h, hs⟩)
    · replace h := cond_f b16 h
      refine At.region_end [0, 6, 21] [0, 1, 2, 3] _ (st' := ⟨[(0, .ptr 0 0), (6, i64 (w64 (y2 - p1))), (21, bo (decide ((w64 (y2 - p1)) < 0)))], [.blk 94 [.row 1 (o0.l).length, i64 o0.most], .row 9 1 (encL eStr o0.l), .ghost (gv 0) (.ptr 0 0), .ghost (gv 1) (.row 1 0)]⟩) (tips := [(6, { orc := .val (.bool false) })]) (by kernel_rfl) (allc (congrArg D.bool b16) all0) (fun a w hs => ⟨(decide ((w64 (y2 - p1)) < 0)), h, hs⟩)
  · intro x8 h
    replace h : F_stack_Stack_string_Take_J1 p1 o0 y2 x8 = some r := h
    rw [F_stack_Stack_string_Take_J1] at h
    refine At.cond x8 (by kernel_rfl) (fun b9 => ?_) (fun b9 => ?_)
    · replace h := cond_t b9 h
      refine At.seq ?_
      refine At.region_end [4, 5] [0, 1, 2, 3] _ (st' := ⟨[(4, .d (.list true 0 [])), (5, bo false)], [.blk 94 [.row 1 (o0.l).length, i64 o0.most], .row 9 1 (encL eStr o0.l), .ghost (gv 0) (.ptr 0 0), .ghost (gv 1) (.row 1 0)]⟩) (tips := []) (by kernel_rfl) all0 (norm ?_)
      refine At.edNar [.hideG 3, .ownS 4 9 1] [4, 5] [0, 1, 2, 3, 4] (st' := ⟨[(4, .row 4 ([] : List ByteArray).length), (5, bo false)], [.blk 94 [.row 1 (o0.l).length, i64 o0.most], .row 9 1 (encL eStr o0.l), .ghost (gv 0) (.ptr 0 0), .ghost (gv 1) (.undef), .row 9 1 (encL eStr ([]))]⟩) (by kernel_rfl) ?_
      obtain rfl := some_eq h
      exact At.ret fun a w hs => ret_ok hR (ρ := [0, 1, 4]) (gs := [.ghost (gv 0) (.ptr 0 0), .ghost (gv 1) (.undef)]) (by kernel_rfl) all0 (by kernel_rfl) rfl rfl a w hs _ (.inl rfl)
    · replace h := cond_f b9 h
      refine At.nar [0, 6] [0, 1, 2, 3] (st' := ⟨[(0, .ptr 0 0), (6, i64 (w64 (y2 - p1)))], [.blk 94 [.row 1 (o0.l).length, i64 o0.most], .row 9 1 (encL eStr o0.l), .ghost (gv 0) (.ptr 0 0), .ghost (gv 1) (.row 1 0)]⟩) (by kernel_rfl) ?_
      refine At.skip (norm ?_)
      refine At.seq ?_
      obtain ⟨g12, h⟩ := grd_some h
      obtain ⟨y13, hy13, h⟩ := bind_some h
      refine At.region_end [0, 6, 7] [0, 1, 2, 3, 4] _ (st' := ⟨[(0, .ptr 0 0), (6, i64 (w64 (y2 - p1))), (7, .row 4 (y13).length)], [.blk 94 (T_stack_Stack_string_.pvs o0), .dead, .ghost (gv 0) (.ptr 0 0), .ghost (gv 1) (.d (.list false 0 (encL eStr o0.l))), .row 9 1 (encL eStr y13)]⟩) (tips := [(5, { form := some ((lCut o0.l (w64 (y2 - p1)) ((o0.l).length : Int)).length, encL eStr (lCut o0.l (w64 (y2 - p1)) ((o0.l).length : Int))) }), (6, { pc := some { ρ := [4], n0 := 0, res := .row 0 (y13).length, σ' := [.row 9 1 (encL eStr y13)], e := [] } })]) (by kernel_rfl) (allc ((cut_ok he_str g12).1) (allc ((cut_ok he_str g12).2) (allc g12 (allc (C_slices_Clone_string_string (lCut o0.l (w64 (y2 - p1)) ((o0.l).length : Int)) y13 hy13) all0)))) (norm ?_)
      refine At.seq ?_
      obtain ⟨g15, h⟩ := grd_some h
      refine At.region_end [7] [0, 1, 2, 3, 4] _ (st' := ⟨[(7, .row 4 (y13).length)], [.blk 94 [.d (.list true ((lCut o0.l 0 (w64 (y2 - p1)))).length (encL eStr (lCut o0.l 0 (w64 (y2 - p1))))), i64 o0.most], .dead, .ghost (gv 0) (.ptr 0 0), .ghost (gv 1) (.d (.list false 0 (encL eStr o0.l))), .row 9 1 (encL eStr y13)]⟩) (tips := [(7, { form := some ((lCut o0.l 0 (w64 (y2 - p1))).length, encL eStr (lCut o0.l 0 (w64 (y2 - p1)))) })]) (by kernel_rfl) (allc ((cut_ok3 he_str g15).1) (allc ((cut_ok3 he_str g15).2) (allc g15 all0))) (norm ?_)
      refine At.seq ?_
      refine At.region_end [4, 5] [0, 1, 2, 3, 4] _ (st' := ⟨[(4, .row 4 (y13).length), (5, bo true)], [.blk 94 [.d (.list true ((lCut o0.l 0 (w64 (y2 - p1)))).length (encL eStr (lCut o0.l 0 (w64 (y2 - p1))))), i64 o0.most], .dead, .ghost (gv 0) (.ptr 0 0), .ghost (gv 1) (.d (.list false 0 (encL eStr o0.l))), .row 9 1 (encL eStr y13)]⟩) (tips := []) (by kernel_rfl) all0 (norm ?_)
      refine At.edNar [.hideG 3] [4, 5] [0, 1, 2, 3, 4] (st' := ⟨[(4, .row 4 (y13).length), (5, bo true)], [.blk 94 [.d (.list true ((lCut o0.l 0 (w64 (y2 - p1)))).length (encL eStr (lCut o0.l 0 (w64 (y2 - p1))))), i64 o0.most], .dead, .ghost (gv 0) (.ptr 0 0), .ghost (gv 1) (.undef), .row 9 1 (encL eStr y13)]⟩) (by kernel_rfl) ?_
      obtain rfl := some_eq h
      exact At.ret fun a w hs => ret_ok hR (ρ := [0, 1, 4]) (gs := [.ghost (gv 0) (.ptr 0 0), .ghost (gv 1) (.undef)]) (by kernel_rfl) all0 (by kernel_rfl) rfl rfl a w hs _ (.inl rfl)
set_option maxRecDepth 100000 in
theorem C_stack_Stack_string_Pop (o0 : T_stack_Stack_string_) (r : (ByteArray × Bool) ⊕ (ByteArray × Bool × T_stack_Stack_string_)) (h : F_stack_Stack_string_Pop o0 = some r) : FnOK Try.prog 36 [.ptr 0 0] [.blk 94 [.row 1 (o0.l).length, i64 o0.most], .row 9 1 (encL eStr o0.l)] ((Sum.elim (fun r => .tup [sv r.1, bo r.2]) (fun r => .tup [sv r.1, bo r.2.1])) r) ((Sum.elim (fun r => [.blk 94 [.row 1 (o0.l).length, i64 o0.most], .row 9 1 (encL eStr o0.l)]) (fun r => [.blk 94 [.d (.list true (r.2.2.l).length (encL eStr r.2.2.l)), i64 r.2.2.most], .dead])) r) [1, 2, 3] := by
  rw [F_stack_Stack_string_Pop] at h
  refine FnOK.intro Try.func36 rfl (by kernel_rfl) (by kernel_rfl) fun E gv R hR => ?_
  refine At.seq ?_
  refine At.region_end [0] [0, 1, 2, 3] _ (st' := ⟨[(0, .ptr 0 0)], [.blk 94 [.row 1 (o0.l).length, i64 o0.most], .row 9 1 (encL eStr o0.l), .ghost (gv 0) (.ptr 0 0), .ghost (gv 1) (.row 1 0)]⟩) (tips := []) (by kernel_rfl) all0 (norm ?_)
  refine At.seqJ (S := (Bool × (List ByteArray)) ⊕ (Bool × (List ByteArray) × Int × (List ByteArray))) (Sum.elim (fun s => ⟨[(4, .row 4 (s.2).length), (5, bo s.1)], [.blk 94 [.row 1 (o0.l).length, i64 o0.most], .row 9 1 (encL eStr o0.l), .ghost (gv 0) (.ptr 0 0), .ghost (gv 1) (.undef), .row 9 1 (encL eStr s.2)]⟩) (fun s => ⟨[(4, .row 4 (s.2.2.2).length), (5, bo s.1)], [.blk 94 [.d (.list true (s.2.1).length (encL eStr s.2.1)), i64 s.2.2.1], .dead, .ghost (gv 0) (.ptr 0 0), .ghost (gv 1) (.undef), .row 9 1 (encL eStr s.2.2.2)]⟩)) (Sum.elim (fun s => F_stack_Stack_string_Pop_J1 s.1 s.2 = some r) (fun s => F_stack_Stack_string_Pop_J2 s.1 s.2.1 s.2.2.1 s.2.2.2 = some r)) ?_ ?_
  · obtain ⟨y18, hy18, h⟩ := bind_some h
    rcases y18 with y19 | y20
    · replace h := el_inl h
      refine At.region_end [4, 5] [0, 1, 2, 3, 4] _ (st' := ⟨[(4, .row 4 (y19.1).length), (5, bo y19.2)], [.blk 94 [.row 1 (o0.l).length, i64 o0.most], .row 9 1 (encL eStr o0.l), .ghost (gv 0) (.ptr 0 0), .ghost (gv 1) (.undef), .row 9 1 (encL eStr y19.1)]⟩) (tips := [(1, { pc := some { ρ := [0, 1, 4], n0 := 2, res := .tup [.row 2 (y19.1).length, bo y19.2], σ' := [.blk 94 [.row 1 (o0.l).length, i64 o0.most], .row 9 1 (encL eStr o0.l), .row 9 1 (encL eStr y19.1)], e := [1, 2, 3] } })]) (by kernel_rfl) (allc (C_stack_Stack_string_Take 1 o0 (.inl y19) hy18) all0) (fun a w hs => ⟨.inl (y19.2, y19.1), h, hs⟩)
    · replace h := el_inr h
      refine At.region_end [4, 5] [0, 1, 2, 3, 4] _ (st' := ⟨[(4, .row 4 (y20.1).length), (5, bo y20.2.1)], [.blk 94 [.d (.list true (y20.2.2.l).length (encL eStr y20.2.2.l)), i64 y20.2.2.most], .dead, .ghost (gv 0) (.ptr 0 0), .ghost (gv 1) (.undef), .row 9 1 (encL eStr y20.1)]⟩) (tips := [(1, { pc := some { ρ := [0, 1, 4], n0 := 2, res := .tup [.row 2 (y20.1).length, bo y20.2.1], σ' := [.blk 94 [.d (.list true (y20.2.2.l).length (encL eStr y20.2.2.l)), i64 y20.2.2.most], .dead, .row 9 1 (encL eStr y20.1)], e := [1, 2, 3] } })]) (by kernel_rfl) (allc (C_stack_Stack_string_Take 1 o0 (.inr y20) hy18) all0) (fun a w hs => ⟨.inr ((y20.2.1, y20.2.2.l, y20.2.2.most, y20.1)), h, hs⟩)
  · rintro (⟨x4, x5⟩ | ⟨x10, x11, x12, x13⟩) h
    · replace h : F_stack_Stack_string_Pop_J1 x4 x5 = some r := h
      rw [F_stack_Stack_string_Pop_J1] at h
      refine At.seq ?_
      refine At.seq ?_
      refine At.region_end [4, 13] [0, 1, 2, 3, 4] _ (st' := ⟨[(4, .row 4 (x5).length), (13, bo (!x4))], [.blk 94 [.row 1 (o0.l).length, i64 o0.most], .row 9 1 (encL eStr o0.l), .ghost (gv 0) (.ptr 0 0), .ghost (gv 1) (.undef), .row 9 1 (encL eStr x5)]⟩) (tips := []) (by kernel_rfl) all0 (norm ?_)
      refine At.cond (!x4) (by kernel_rfl) (fun b7 => ?_) (fun b7 => ?_)
      · replace h := cond_t b7 h
        refine At.seq ?_
        refine At.region_end [6] [0, 1, 2, 3] _ (st' := ⟨[(6, sv (⟨#[]⟩ : ByteArray))], [.blk 94 [.row 1 (o0.l).length, i64 o0.most], .row 9 1 (encL eStr o0.l), .ghost (gv 0) (.ptr 0 0), .ghost (gv 1) (.undef)]⟩) (tips := []) (by kernel_rfl) all0 (norm ?_)
        refine At.seq ?_
        refine At.region_end [2, 3] [0, 1, 2, 3] _ (st' := ⟨[(2, sv (⟨#[]⟩ : ByteArray)), (3, bo false)], [.blk 94 [.row 1 (o0.l).length, i64 o0.most], .row 9 1 (encL eStr o0.l), .ghost (gv 0) (.ptr 0 0), .ghost (gv 1) (.undef)]⟩) (tips := []) (by kernel_rfl) all0 (norm ?_)
        obtain rfl := some_eq h
        exact At.ret fun a w hs => ret_ok hR (ρ := [0, 1]) (gs := [.ghost (gv 0) (.ptr 0 0), .ghost (gv 1) (.undef)]) (by kernel_rfl) all0 (by kernel_rfl) rfl rfl a w hs _ (.inl rfl)
      · replace h := cond_f b7 h
        refine At.nar [4] [0, 1, 2, 3, 4] (st' := ⟨[(4, .row 4 (x5).length)], [.blk 94 [.row 1 (o0.l).length, i64 o0.most], .row 9 1 (encL eStr o0.l), .ghost (gv 0) (.ptr 0 0), .ghost (gv 1) (.undef), .row 9 1 (encL eStr x5)]⟩) (by kernel_rfl) ?_
        refine At.skip (norm ?_)
        refine At.seq ?_
        obtain ⟨y9, hy9, h⟩ := bind_some h
        refine At.region_end [2, 3] [0, 1, 2, 3] _ (st' := ⟨[(2, sv y9), (3, bo true)], [.blk 94 [.row 1 (o0.l).length, i64 o0.most], .row 9 1 (encL eStr o0.l), .ghost (gv 0) (.ptr 0 0), .ghost (gv 1) (.undef)]⟩) (tips := [(2, { orc := .val (.str y9) })]) (by kernel_rfl) (allc ((rAt_of he_str (d := .str y9) hy9 rfl).1) (allc ((rAt_of he_str (d := .str y9) hy9 rfl).2) all0)) (norm ?_)
        obtain rfl := some_eq h
        exact At.ret fun a w hs => ret_ok hR (ρ := [0, 1]) (gs := [.ghost (gv 0) (.ptr 0 0), .ghost (gv 1) (.undef)]) (by kernel_rfl) all0 (by kernel_rfl) rfl rfl a w hs _ (.inl rfl)
    · replace h : F_stack_Stack_string_Pop_J2 x10 x11 x12 x13 = some r := h
      rw [F_stack_Stack_string_Pop_J2] at h
      refine At.seq ?_
      refine At.seq ?_
      refine At.region_end [4, 13] [0, 1, 2, 3, 4] _ (st' := ⟨[(4, .row 4 (x13).length), (13, bo (!x10))], [.blk 94 [.d (.list true (x11).length (encL eStr x11)), i64 x12], .dead, .ghost (gv 0) (.ptr 0 0), .ghost (gv 1) (.undef), .row 9 1 (encL eStr x13)]⟩) (tips := []) (by kernel_rfl) all0 (norm ?_)
      refine At.cond (!x10) (by kernel_rfl) (fun b15 => ?_) (fun b15 => ?_)
      · replace h := cond_t b15 h
        refine At.seq ?_
        refine At.region_end [6] [0, 1, 2, 3] _ (st' := ⟨[(6, sv (⟨#[]⟩ : ByteArray))], [.blk 94 [.d (.list true (x11).length (encL eStr x11)), i64 x12], .dead, .ghost (gv 0) (.ptr 0 0), .ghost (gv 1) (.undef)]⟩) (tips := []) (by kernel_rfl) all0 (norm ?_)
        refine At.seq ?_
        refine At.region_end [2, 3] [0, 1, 2, 3] _ (st' := ⟨[(2, sv (⟨#[]⟩ : ByteArray)), (3, bo false)], [.blk 94 [.d (.list true (x11).length (encL eStr x11)), i64 x12], .dead, .ghost (gv 0) (.ptr 0 0), .ghost (gv 1) (.undef)]⟩) (tips := []) (by kernel_rfl) all0 (norm ?_)
        obtain rfl := some_eq h
        exact At.ret fun a w hs => ret_ok hR (ρ := [0, 1]) (gs := [.ghost (gv 0) (.ptr 0 0), .ghost (gv 1) (.undef)]) (by kernel_rfl) all0 (by kernel_rfl) rfl rfl a w hs _ (.inl rfl)
      · replace h := cond_f b15 h
        refine At.nar [4] [0, 1, 2, 3, 4] (st' := ⟨[(4, .row 4 (x13).length)], [.blk 94 [.d (.list true (x11).length (encL eStr x11)), i64 x12], .dead, .ghost (gv 0) (.ptr 0 0), .ghost (gv 1) (.undef), .row 9 1 (encL eStr x13)]⟩) (by kernel_rfl) ?_
        refine At.skip (norm ?_)
        refine At.seq ?_
        obtain ⟨y17, hy17, h⟩ := bind_some h
        refine At.region_end [2, 3] [0, 1, 2, 3] _ (st' := ⟨[(2, sv y17), (3, bo true)], [.blk 94 [.d (.list true (x11).length (encL eStr x11)), i64 x12], .dead, .ghost (gv 0) (.ptr 0 0), .ghost (gv 1) (.undef)]⟩) (tips := [(2, { orc := .val (.str y17) })]) (by kernel_rfl) (allc ((rAt_of he_str (d := .str y17) hy17 rfl).1) (allc ((rAt_of he_str (d := .str y17) hy17 rfl).2) all0)) (norm ?_)
        obtain rfl := some_eq h
        exact At.ret fun a w hs => ret_ok hR (ρ := [0, 1]) (gs := [.ghost (gv 0) (.ptr 0 0), .ghost (gv 1) (.undef)]) (by kernel_rfl) all0 (by kernel_rfl) rfl rfl a w hs _ (.inl rfl)
set_option maxRecDepth 100000 in
theorem C_retraceref23_Same (p0 : (List ByteArray)) (p1 : (List ByteArray)) (r : Bool) (h : F_retraceref23_Same p0 p1 = some r) : FnOK Try.prog 38 [lv eStr p0, lv eStr p1] [] (bo r) [] [] := by
  rw [F_retraceref23_Same] at h
  refine FnOK.intro Try.func38 rfl (by kernel_rfl) (by kernel_rfl) fun E gv R hR => ?_
  refine At.seq ?_
  refine At.region_end [0, 1] [] _ (st' := ⟨[(0, lv eStr p0), (1, lv eStr p1)], []⟩) (tips := []) (by kernel_rfl) all0 (norm ?_)
  refine At.seq ?_
  refine At.seq ?_
  refine At.region_end [0, 1, 10] [] _ (st' := ⟨[(0, lv eStr p0), (1, lv eStr p1), (10, bo (((p0).length : Int) != ((p1).length : Int)))], []⟩) (tips := []) (by kernel_rfl) all0 (norm ?_)
  refine At.cond (((p0).length : Int) != ((p1).length : Int)) (by kernel_rfl) (fun b2 => ?_) (fun b2 => ?_)
  · replace h := cond_t b2 h
    refine At.seq ?_
    refine At.region_end [4] [] _ (st' := ⟨[(4, bo false)], []⟩) (tips := []) (by kernel_rfl) all0 (norm ?_)
    obtain rfl := some_eq h
    exact At.ret fun a w hs => ret_ok hR (ρ := []) (gs := []) (by kernel_rfl) all0 (by kernel_rfl) rfl rfl a w hs _ (.inl rfl)
  · replace h := cond_f b2 h
    refine At.nar [0, 1] [] (st' := ⟨[(0, lv eStr p0), (1, lv eStr p1)], []⟩) (by kernel_rfl) ?_
    refine At.skip (norm ?_)
    refine At.seq ?_
    refine At.seq ?_
    refine At.region_end [0, 1, 5] [] _ (st' := ⟨[(0, lv eStr p0), (1, lv eStr p1), (5, i64 0)], []⟩) (tips := []) (by kernel_rfl) all0 (norm ?_)
    refine At.block ?_
    refine At.loop (fun s : (Int) => F_retraceref23_Same_L1 p0 p1 s) (fun s : (Int) => ⟨[(0, lv eStr p0), (1, lv eStr p1), (5, i64 s)], []⟩) r 0 h ?_
    intro x22 oo23 h f24
    replace h : F_retraceref23_Same_L1 p0 p1 x22 = some oo23 := h
    rw [F_retraceref23_Same_L1] at h
    refine At.seq ?_
    refine At.seq ?_
    refine At.region_end [0, 1, 5, 14] [] _ (st' := ⟨[(0, lv eStr p0), (1, lv eStr p1), (5, i64 x22), (14, bo (decide (x22 < ((p0).length : Int))))], []⟩) (tips := []) (by kernel_rfl) all0 (norm ?_)
    refine At.cond (decide (x22 < ((p0).length : Int))) (by kernel_rfl) (fun b26 => ?_) (fun b26 => ?_)
    · replace h := cond_t b26 h
      refine At.nar [0, 1, 5] [] (st' := ⟨[(0, lv eStr p0), (1, lv eStr p1), (5, i64 x22)], []⟩) (by kernel_rfl) ?_
      refine At.skip (norm ?_)
      refine At.seq ?_
      refine At.block ?_
      refine At.seq ?_
      obtain ⟨y34, hy34, h⟩ := bind_some h
      obtain ⟨y35, hy35, h⟩ := bind_some h
      refine At.draw_end mixedOrd 0 [0, 1, 5, 25] [] _ (st' := ⟨[(0, lv eStr p0), (1, lv eStr p1), (5, i64 x22), (25, bo (!(y34.toList == y35.toList)))], []⟩) (tips := [(2, { tip := { orc := .cells (eStr y34) } }), (6, { tip := { orc := .cells (eStr y35) } })]) (by kernel_rfl) (allc (elemAt_of he_str hy34) (allc (elemAt_of he_str hy35) all0)) (norm ?_)
      refine At.cond (!(y34.toList == y35.toList)) (by kernel_rfl) (fun b36 => ?_) (fun b36 => ?_)
      · replace h := cond_t b36 h
        refine At.seq ?_
        refine At.region_end [4] [] _ (st' := ⟨[(4, bo false)], []⟩) (tips := []) (by kernel_rfl) all0 (norm ?_)
        obtain ⟨r37, h, e38⟩ := map_inr h
        rw [f24 _ e38] at h
        obtain rfl := some_eq h
        exact At.ret fun a w hs => ret_ok hR (ρ := []) (gs := []) (by kernel_rfl) all0 (by kernel_rfl) rfl rfl a w hs _ (.inl rfl)
      · replace h := cond_f b36 h
        refine At.nar [0, 1, 5] [] (st' := ⟨[(0, lv eStr p0), (1, lv eStr p1), (5, i64 x22)], []⟩) (by kernel_rfl) ?_
        refine At.skip (norm ?_)
        refine At.region_end [0, 1, 5] [] _ (st' := ⟨[(0, lv eStr p0), (1, lv eStr p1), (5, i64 (w64 (x22 + 1)))], []⟩) (tips := []) (by kernel_rfl) all0 (fun a w hs => ⟨_, (some_eq h).symm, hs⟩)
    · replace h := cond_f b26 h
      refine At.nar [] [] (st' := ⟨[], []⟩) (by kernel_rfl) ?_
      obtain ⟨r39, h, e40⟩ := map_inr h
      rw [f24 _ e40] at h
      refine At.exit (norm ?_)
      refine At.seq ?_
      refine At.region_end [4] [] _ (st' := ⟨[(4, bo true)], []⟩) (tips := []) (by kernel_rfl) all0 (norm ?_)
      obtain rfl := some_eq h
      exact At.ret fun a w hs => ret_ok hR (ρ := []) (gs := []) (by kernel_rfl) all0 (by kernel_rfl) rfl rfl a w hs _ (.inl rfl)
set_option maxRecDepth 100000 in
theorem C_stack_Stack_string_Len_v2 (o0 : T_stack_Stack_string_) (r : Int) (h : F_stack_Stack_string_Len_v2 o0 = some r) : FnOK Try.prog 39 [.ptr 0 0] [.blk 94 [.d (.list true (o0.l).length (encL eStr o0.l)), i64 o0.most]] (i64 r) [.blk 94 [.d (.list true (o0.l).length (encL eStr o0.l)), i64 o0.most]] [1] := by
  rw [F_stack_Stack_string_Len_v2] at h
  refine FnOK.intro Try.func39 rfl (by kernel_rfl) (by kernel_rfl) fun E gv R hR => ?_
  refine At.seq ?_
  refine At.region_end [0] [0, 1] _ (st' := ⟨[(0, .ptr 0 0)], [.blk 94 [.d (.list true (o0.l).length (encL eStr o0.l)), i64 o0.most], .ghost (gv 0) (.ptr 0 0)]⟩) (tips := []) (by kernel_rfl) all0 (norm ?_)
  refine At.seq ?_
  refine At.seq ?_
  refine At.region_end [0, 4] [0, 1] _ (st' := ⟨[(0, .ptr 0 0), (4, bo false)], [.blk 94 [.d (.list true (o0.l).length (encL eStr o0.l)), i64 o0.most], .ghost (gv 0) (.ptr 0 0)]⟩) (tips := []) (by kernel_rfl) all0 (norm ?_)
  refine At.cond false (by kernel_rfl) (fun hb => by cases hb) (fun _ => ?_)
  refine At.nar [0] [0, 1] (st' := ⟨[(0, .ptr 0 0)], [.blk 94 [.d (.list true (o0.l).length (encL eStr o0.l)), i64 o0.most], .ghost (gv 0) (.ptr 0 0)]⟩) (by kernel_rfl) ?_
  refine At.skip (norm ?_)
  refine At.seq ?_
  refine At.region_end [2] [0, 1] _ (st' := ⟨[(2, i64 ((o0.l).length : Int))], [.blk 94 [.d (.list true (o0.l).length (encL eStr o0.l)), i64 o0.most], .ghost (gv 0) (.ptr 0 0)]⟩) (tips := []) (by kernel_rfl) all0 (norm ?_)
  obtain rfl := some_eq h
  exact At.ret fun a w hs => ret_ok hR (ρ := [0]) (gs := [.ghost (gv 0) (.ptr 0 0)]) (by kernel_rfl) all0 (by kernel_rfl) rfl rfl a w hs _ (.inl rfl)
set_option maxRecDepth 100000 in
theorem C_stack_Stack_string_Room_v2 (o0 : T_stack_Stack_string_) (r : Int) (h : F_stack_Stack_string_Room_v2 o0 = some r) : FnOK Try.prog 40 [.ptr 0 0] [.blk 94 [.d (.list true (o0.l).length (encL eStr o0.l)), i64 o0.most]] (i64 r) [.blk 94 [.d (.list true (o0.l).length (encL eStr o0.l)), i64 o0.most]] [1] := by
  rw [F_stack_Stack_string_Room_v2] at h
  refine FnOK.intro Try.func40 rfl (by kernel_rfl) (by kernel_rfl) fun E gv R hR => ?_
  refine At.seq ?_
  refine At.region_end [0] [0, 1] _ (st' := ⟨[(0, .ptr 0 0)], [.blk 94 [.d (.list true (o0.l).length (encL eStr o0.l)), i64 o0.most], .ghost (gv 0) (.ptr 0 0)]⟩) (tips := []) (by kernel_rfl) all0 (norm ?_)
  refine At.seq ?_
  refine At.seq ?_
  refine At.region_end [0, 4] [0, 1] _ (st' := ⟨[(0, .ptr 0 0), (4, bo false)], [.blk 94 [.d (.list true (o0.l).length (encL eStr o0.l)), i64 o0.most], .ghost (gv 0) (.ptr 0 0)]⟩) (tips := []) (by kernel_rfl) all0 (norm ?_)
  refine At.cond false (by kernel_rfl) (fun hb => by cases hb) (fun _ => ?_)
  refine At.nar [0] [0, 1] (st' := ⟨[(0, .ptr 0 0)], [.blk 94 [.d (.list true (o0.l).length (encL eStr o0.l)), i64 o0.most], .ghost (gv 0) (.ptr 0 0)]⟩) (by kernel_rfl) ?_
  refine At.skip (norm ?_)
  refine At.seq ?_
  refine At.draw_end mixedOrd 0 [2] [0, 1] _ (st' := ⟨[(2, i64 (w64 (o0.most - ((o0.l).length : Int))))], [.blk 94 [.d (.list true (o0.l).length (encL eStr o0.l)), i64 o0.most], .ghost (gv 0) (.ptr 0 0)]⟩) (tips := [(0, { r := 2 }), (1, { r := 2 }), (2, { r := 2 }), (3, { T := [0], r := 2 }), (4, { r := 2 }), (5, { r := 2 }), (6, { r := 2 }), (7, { T := [0], r := 2 }), (8, { r := 2 })]) (by kernel_rfl) all0 (norm ?_)
  obtain rfl := some_eq h
  exact At.ret fun a w hs => ret_ok hR (ρ := [0]) (gs := [.ghost (gv 0) (.ptr 0 0)]) (by kernel_rfl) all0 (by kernel_rfl) rfl rfl a w hs _ (.inl rfl)
set_option maxRecDepth 100000 in
theorem C_stack_Stack_string_Push_v2 (p1 : ByteArray) (o0 : T_stack_Stack_string_) (r : (Bool) ⊕ (Bool × T_stack_Stack_string_)) (h : F_stack_Stack_string_Push_v2 p1 o0 = some r) : FnOK Try.prog 34 [.ptr 0 0, sv p1] [.blk 94 [.d (.list true (o0.l).length (encL eStr o0.l)), i64 o0.most]] ((Sum.elim (fun r => bo r) (fun r => bo r.1)) r) ((Sum.elim (fun r => [.blk 94 [.d (.list true (o0.l).length (encL eStr o0.l)), i64 o0.most]]) (fun r => [.blk 94 [.row 1 (r.2.l).length, i64 r.2.most], .row 9 1 (encL eStr r.2.l)])) r) [1] := by
  rw [F_stack_Stack_string_Push_v2] at h
  refine FnOK.intro Try.func34 rfl (by kernel_rfl) (by kernel_rfl) fun E gv R hR => ?_
  refine At.seq ?_
  refine At.region_end [0, 1] [0, 1] _ (st' := ⟨[(0, .ptr 0 0), (1, sv p1)], [.blk 94 [.d (.list true (o0.l).length (encL eStr o0.l)), i64 o0.most], .ghost (gv 0) (.ptr 0 0)]⟩) (tips := []) (by kernel_rfl) all0 (norm ?_)
  refine At.seq ?_
  refine At.seq ?_
  obtain ⟨y5, hy5, h⟩ := bind_some h
  refine At.region_end [0, 1, 7] [0, 1] _ (st' := ⟨[(0, .ptr 0 0), (1, sv p1), (7, bo (y5 == 0))], [.blk 94 [.d (.list true (o0.l).length (encL eStr o0.l)), i64 o0.most], .ghost (gv 0) (.ptr 0 0)]⟩) (tips := [(1, { pc := some { ρ := [0], n0 := 1, loose := false, res := i64 y5, σ' := [.blk 94 [.d (.list true (o0.l).length (encL eStr o0.l)), i64 o0.most]], e := [1] } })]) (by kernel_rfl) (allc (C_stack_Stack_string_Room_v2 o0 y5 hy5) all0) (norm ?_)
  refine At.cond (y5 == 0) (by kernel_rfl) (fun b6 => ?_) (fun b6 => ?_)
  · replace h := cond_t b6 h
    refine At.seq ?_
    refine At.region_end [4] [0, 1] _ (st' := ⟨[(4, bo false)], [.blk 94 [.d (.list true (o0.l).length (encL eStr o0.l)), i64 o0.most], .ghost (gv 0) (.ptr 0 0)]⟩) (tips := []) (by kernel_rfl) all0 (norm ?_)
    obtain rfl := some_eq h
    exact At.ret fun a w hs => ret_ok hR (ρ := [0]) (gs := [.ghost (gv 0) (.ptr 0 0)]) (by kernel_rfl) all0 (by kernel_rfl) rfl rfl a w hs _ (.inl rfl)
  · replace h := cond_f b6 h
    refine At.nar [0, 1] [0, 1] (st' := ⟨[(0, .ptr 0 0), (1, sv p1)], [.blk 94 [.d (.list true (o0.l).length (encL eStr o0.l)), i64 o0.most], .ghost (gv 0) (.ptr 0 0)]⟩) (by kernel_rfl) ?_
    refine At.skip (norm ?_)
    refine At.seq ?_
    obtain ⟨g8, h⟩ := grd_some h
    refine At.region_end [] [0, 1, 3] _ (st' := ⟨[], [.blk 94 [.row 2 ((o0.l ++ [p1])).length, i64 o0.most], .ghost (gv 0) (.ptr 0 0), .row 9 1 (encL eStr (o0.l ++ [p1]))]⟩) (tips := [(7, { form := some ((o0.l ++ [p1]).length, encL eStr (o0.l ++ [p1])) })]) (by kernel_rfl) (allc (len_app o0.l ([p1])) (allc (encL_app eStr o0.l ([p1])) (allc (app_okT he_str (by decide) g8) (allc (encL_len he_str ([p1])) all0)))) (norm ?_)
    refine At.seq ?_
    refine At.region_end [4] [0, 1, 2] _ (st' := ⟨[(4, bo true)], [.blk 94 [.row 2 ((o0.l ++ [p1])).length, i64 o0.most], .ghost (gv 0) (.ptr 0 0), .row 9 1 (encL eStr (o0.l ++ [p1]))]⟩) (tips := []) (by kernel_rfl) all0 (norm ?_)
    obtain rfl := some_eq h
    exact At.ret fun a w hs => ret_ok hR (ρ := [0, 2]) (gs := [.ghost (gv 0) (.ptr 0 0)]) (by kernel_rfl) all0 (by kernel_rfl) rfl rfl a w hs _ (.inl rfl)
set_option maxRecDepth 100000 in
theorem C_stack_Stack_string_Take_v2 (p1 : Int) (o0 : T_stack_Stack_string_) (r : (List ByteArray) × Bool × T_stack_Stack_string_) (h : F_stack_Stack_string_Take_v2 p1 o0 = some r) : FnOK Try.prog 37 [.ptr 0 0, i64 p1] [.blk 94 [.d (.list true (o0.l).length (encL eStr o0.l)), i64 o0.most]] (.tup [.row 1 (r.1).length, bo r.2.1]) [.blk 94 [.d (.list true (r.2.2.l).length (encL eStr r.2.2.l)), i64 r.2.2.most], .row 9 1 (encL eStr r.1)] [1] := by
  rw [F_stack_Stack_string_Take_v2] at h
  refine FnOK.intro Try.func37 rfl (by kernel_rfl) (by kernel_rfl) fun E gv R hR => ?_
  refine At.seq ?_
  refine At.region_end [0, 1] [0, 1] _ (st' := ⟨[(0, .ptr 0 0), (1, i64 p1)], [.blk 94 [.d (.list true (o0.l).length (encL eStr o0.l)), i64 o0.most], .ghost (gv 0) (.ptr 0 0)]⟩) (tips := []) (by kernel_rfl) all0 (norm ?_)
  refine At.seq ?_
  obtain ⟨y2, hy2, h⟩ := bind_some h
  refine At.region_end [0, 1, 6] [0, 1] _ (st' := ⟨[(0, .ptr 0 0), (1, i64 p1), (6, i64 (w64 (y2 - p1)))], [.blk 94 [.d (.list true (o0.l).length (encL eStr o0.l)), i64 o0.most], .ghost (gv 0) (.ptr 0 0)]⟩) (tips := [(1, { pc := some { ρ := [0], n0 := 1, loose := false, res := i64 y2, σ' := [.blk 94 [.d (.list true (o0.l).length (encL eStr o0.l)), i64 o0.most]], e := [1] } })]) (by kernel_rfl) (allc (C_stack_Stack_string_Len_v2 o0 y2 hy2) all0) (norm ?_)
  refine At.seq ?_
  refine At.seqJ (S := Bool) (fun s => ⟨[(0, .ptr 0 0), (6, i64 (w64 (y2 - p1))), (21, bo s)], [.blk 94 [.d (.list true (o0.l).length (encL eStr o0.l)), i64 o0.most], .ghost (gv 0) (.ptr 0 0)]⟩) (fun s => F_stack_Stack_string_Take_v2_J1 p1 o0 y2 s = some r) ?_ ?_
  · rcases tf (decide (p1 < 0)) with b16 | b16
    · replace h := cond_t b16 h
      refine At.region_end [0, 6, 21] [0, 1] _ (st' := ⟨[(0, .ptr 0 0), (6, i64 (w64 (y2 - p1))), (21, bo true)], [.blk 94 [.d (.list true (o0.l).length (encL eStr o0.l)), i64 o0.most], .ghost (gv 0) (.ptr 0 0)]⟩) (tips := [(6, { orc := .val (.bool true) })]) (by kernel_rfl) (allc (congrArg D.bool b16) all0) (fun a w hs => ⟨true, h, hs⟩)
    · replace h := cond_f b16 h
      refine At.region_end [0, 6, 21] [0, 1] _ (st' := ⟨[(0, .ptr 0 0), (6, i64 (w64 (y2 - p1))), (21, bo (decide ((w64 (y2 - p1)) < 0)))], [.blk 94 [.d (.list true (o0.l).length (encL eStr o0.l)), i64 o0.most], .ghost (gv 0) (.ptr 0 0)]⟩) (tips := [(6, { orc := .val (.bool false) })]) (by kernel_rfl) (allc (congrArg D.bool b16) all0) (fun a w hs => ⟨(decide ((w64 (y2 - p1)) < 0)), h, hs⟩)
  · intro x8 h
    replace h : F_stack_Stack_string_Take_v2_J1 p1 o0 y2 x8 = some r := h
    rw [F_stack_Stack_string_Take_v2_J1] at h
    refine At.cond x8 (by kernel_rfl) (fun b9 => ?_) (fun b9 => ?_)
    · replace h := cond_t b9 h
      refine At.seq ?_
      refine At.region_end [4, 5] [0, 1] _ (st' := ⟨[(4, .d (.list true 0 [])), (5, bo false)], [.blk 94 [.d (.list true (o0.l).length (encL eStr o0.l)), i64 o0.most], .ghost (gv 0) (.ptr 0 0)]⟩) (tips := []) (by kernel_rfl) all0 (norm ?_)
      refine At.edNar [.ownS 4 9 1] [4, 5] [0, 1, 2] (st' := ⟨[(4, .row 2 ([] : List ByteArray).length), (5, bo false)], [.blk 94 [.d (.list true (o0.l).length (encL eStr o0.l)), i64 o0.most], .ghost (gv 0) (.ptr 0 0), .row 9 1 (encL eStr ([]))]⟩) (by kernel_rfl) ?_
      obtain rfl := some_eq h
      exact At.ret fun a w hs => ret_ok hR (ρ := [0, 2]) (gs := [.ghost (gv 0) (.ptr 0 0)]) (by kernel_rfl) all0 (by kernel_rfl) rfl rfl a w hs _ (.inl rfl)
    · replace h := cond_f b9 h
      refine At.nar [0, 6] [0, 1] (st' := ⟨[(0, .ptr 0 0), (6, i64 (w64 (y2 - p1)))], [.blk 94 [.d (.list true (o0.l).length (encL eStr o0.l)), i64 o0.most], .ghost (gv 0) (.ptr 0 0)]⟩) (by kernel_rfl) ?_
      refine At.skip (norm ?_)
      refine At.seq ?_
      obtain ⟨g12, h⟩ := grd_some h
      obtain ⟨y13, hy13, h⟩ := bind_some h
      refine At.region_end [0, 6, 7] [0, 1, 2] _ (st' := ⟨[(0, .ptr 0 0), (6, i64 (w64 (y2 - p1))), (7, .row 2 (y13).length)], [.blk 94 [.d (.list true (o0.l).length (encL eStr o0.l)), i64 o0.most], .ghost (gv 0) (.ptr 0 0), .row 9 1 (encL eStr y13)]⟩) (tips := [(5, { form := some ((lCut o0.l (w64 (y2 - p1)) ((o0.l).length : Int)).length, encL eStr (lCut o0.l (w64 (y2 - p1)) ((o0.l).length : Int))) }), (6, { pc := some { ρ := [2], n0 := 0, res := .row 0 (y13).length, σ' := [.row 9 1 (encL eStr y13)], e := [] } })]) (by kernel_rfl) (allc ((cut_ok he_str g12).1) (allc ((cut_ok he_str g12).2) (allc g12 (allc (C_slices_Clone_string_string (lCut o0.l (w64 (y2 - p1)) ((o0.l).length : Int)) y13 hy13) all0)))) (norm ?_)
      refine At.seq ?_
      obtain ⟨g15, h⟩ := grd_some h
      refine At.region_end [7] [0, 1, 2] _ (st' := ⟨[(7, .row 2 (y13).length)], [.blk 94 [.d (.list true ((lCut o0.l 0 (w64 (y2 - p1)))).length (encL eStr (lCut o0.l 0 (w64 (y2 - p1))))), i64 o0.most], .ghost (gv 0) (.ptr 0 0), .row 9 1 (encL eStr y13)]⟩) (tips := [(7, { form := some ((lCut o0.l 0 (w64 (y2 - p1))).length, encL eStr (lCut o0.l 0 (w64 (y2 - p1)))) })]) (by kernel_rfl) (allc ((cut_ok3 he_str g15).1) (allc ((cut_ok3 he_str g15).2) (allc g15 all0))) (norm ?_)
      refine At.seq ?_
      refine At.region_end [4, 5] [0, 1, 2] _ (st' := ⟨[(4, .row 2 (y13).length), (5, bo true)], [.blk 94 [.d (.list true ((lCut o0.l 0 (w64 (y2 - p1)))).length (encL eStr (lCut o0.l 0 (w64 (y2 - p1))))), i64 o0.most], .ghost (gv 0) (.ptr 0 0), .row 9 1 (encL eStr y13)]⟩) (tips := []) (by kernel_rfl) all0 (norm ?_)
      obtain rfl := some_eq h
      exact At.ret fun a w hs => ret_ok hR (ρ := [0, 2]) (gs := [.ghost (gv 0) (.ptr 0 0)]) (by kernel_rfl) all0 (by kernel_rfl) rfl rfl a w hs _ (.inl rfl)
set_option maxRecDepth 100000 in
theorem C_stack_Stack_string_Pop_v2 (o0 : T_stack_Stack_string_) (r : ByteArray × Bool × T_stack_Stack_string_) (h : F_stack_Stack_string_Pop_v2 o0 = some r) : FnOK Try.prog 36 [.ptr 0 0] [.blk 94 [.d (.list true (o0.l).length (encL eStr o0.l)), i64 o0.most]] (.tup [sv r.1, bo r.2.1]) [.blk 94 [.d (.list true (r.2.2.l).length (encL eStr r.2.2.l)), i64 r.2.2.most]] [1] := by
  rw [F_stack_Stack_string_Pop_v2] at h
  refine FnOK.intro Try.func36 rfl (by kernel_rfl) (by kernel_rfl) fun E gv R hR => ?_
  refine At.seq ?_
  refine At.region_end [0] [0, 1] _ (st' := ⟨[(0, .ptr 0 0)], [.blk 94 [.d (.list true (o0.l).length (encL eStr o0.l)), i64 o0.most], .ghost (gv 0) (.ptr 0 0)]⟩) (tips := []) (by kernel_rfl) all0 (norm ?_)
  refine At.seq ?_
  obtain ⟨y2, hy2, h⟩ := bind_some h
  refine At.region_end [4, 5] [0, 1, 2] _ (st' := ⟨[(4, .row 2 (y2.1).length), (5, bo y2.2.1)], [.blk 94 [.d (.list true (y2.2.2.l).length (encL eStr y2.2.2.l)), i64 y2.2.2.most], .ghost (gv 0) (.ptr 0 0), .row 9 1 (encL eStr y2.1)]⟩) (tips := [(1, { pc := some { ρ := [0, 2], n0 := 1, loose := false, res := .tup [.row 1 (y2.1).length, bo y2.2.1], σ' := [.blk 94 [.d (.list true (y2.2.2.l).length (encL eStr y2.2.2.l)), i64 y2.2.2.most], .row 9 1 (encL eStr y2.1)], e := [1] } })]) (by kernel_rfl) (allc (C_stack_Stack_string_Take_v2 1 o0 y2 hy2) all0) (norm ?_)
  refine At.seq ?_
  refine At.seq ?_
  refine At.region_end [4, 13] [0, 1, 2] _ (st' := ⟨[(4, .row 2 (y2.1).length), (13, bo (!y2.2.1))], [.blk 94 [.d (.list true (y2.2.2.l).length (encL eStr y2.2.2.l)), i64 y2.2.2.most], .ghost (gv 0) (.ptr 0 0), .row 9 1 (encL eStr y2.1)]⟩) (tips := []) (by kernel_rfl) all0 (norm ?_)
  refine At.cond (!y2.2.1) (by kernel_rfl) (fun b4 => ?_) (fun b4 => ?_)
  · replace h := cond_t b4 h
    refine At.seq ?_
    refine At.region_end [6] [0, 1] _ (st' := ⟨[(6, sv (⟨#[]⟩ : ByteArray))], [.blk 94 [.d (.list true (y2.2.2.l).length (encL eStr y2.2.2.l)), i64 y2.2.2.most], .ghost (gv 0) (.ptr 0 0)]⟩) (tips := []) (by kernel_rfl) all0 (norm ?_)
    refine At.seq ?_
    refine At.region_end [2, 3] [0, 1] _ (st' := ⟨[(2, sv (⟨#[]⟩ : ByteArray)), (3, bo false)], [.blk 94 [.d (.list true (y2.2.2.l).length (encL eStr y2.2.2.l)), i64 y2.2.2.most], .ghost (gv 0) (.ptr 0 0)]⟩) (tips := []) (by kernel_rfl) all0 (norm ?_)
    obtain rfl := some_eq h
    exact At.ret fun a w hs => ret_ok hR (ρ := [0]) (gs := [.ghost (gv 0) (.ptr 0 0)]) (by kernel_rfl) all0 (by kernel_rfl) rfl rfl a w hs _ (.inl rfl)
  · replace h := cond_f b4 h
    refine At.nar [4] [0, 1, 2] (st' := ⟨[(4, .row 2 (y2.1).length)], [.blk 94 [.d (.list true (y2.2.2.l).length (encL eStr y2.2.2.l)), i64 y2.2.2.most], .ghost (gv 0) (.ptr 0 0), .row 9 1 (encL eStr y2.1)]⟩) (by kernel_rfl) ?_
    refine At.skip (norm ?_)
    refine At.seq ?_
    obtain ⟨y6, hy6, h⟩ := bind_some h
    refine At.region_end [2, 3] [0, 1] _ (st' := ⟨[(2, sv y6), (3, bo true)], [.blk 94 [.d (.list true (y2.2.2.l).length (encL eStr y2.2.2.l)), i64 y2.2.2.most], .ghost (gv 0) (.ptr 0 0)]⟩) (tips := [(2, { orc := .val (.str y6) })]) (by kernel_rfl) (allc ((rAt_of he_str (d := .str y6) hy6 rfl).1) (allc ((rAt_of he_str (d := .str y6) hy6 rfl).2) all0)) (norm ?_)
    obtain rfl := some_eq h
    exact At.ret fun a w hs => ret_ok hR (ρ := [0]) (gs := [.ghost (gv 0) (.ptr 0 0)]) (by kernel_rfl) all0 (by kernel_rfl) rfl rfl a w hs _ (.inl rfl)
set_option maxRecDepth 100000 in
theorem C_retracelaw23_StackPlays (p0 : Int) (p1 : (List T_retracelaw23_Act)) (r : Bool) (h : F_retracelaw23_StackPlays p0 p1 = some r) : FnOK Try.prog 9 [i64 p0, lv T_retracelaw23_Act.enc p1] [] (bo r) [] [] := by
  rw [F_retracelaw23_StackPlays] at h
  refine FnOK.intro Try.func9 rfl (by kernel_rfl) (by kernel_rfl) fun E gv R hR => ?_
  refine At.seq ?_
  refine At.region_end [0, 1] [] _ (st' := ⟨[(0, i64 p0), (1, lv T_retracelaw23_Act.enc p1)], []⟩) (tips := []) (by kernel_rfl) all0 (norm ?_)
  refine At.seq ?_
  refine At.seqJ (S := Bool) (fun s => ⟨[(0, i64 p0), (1, lv T_retracelaw23_Act.enc p1), (26, bo s)], []⟩) (fun s => F_retracelaw23_StackPlays_J1 p0 p1 s = some r) ?_ ?_
  · rcases tf (decide (100 < ((p1).length : Int))) with b1819 | b1819
    · replace h := cond_t b1819 h
      refine At.region_end [0, 1, 26] [] _ (st' := ⟨[(0, i64 p0), (1, lv T_retracelaw23_Act.enc p1), (26, bo true)], []⟩) (tips := [(3, { orc := .val (.bool true) })]) (by kernel_rfl) (allc (congrArg D.bool b1819) all0) (fun a w hs => ⟨true, h, hs⟩)
    · replace h := cond_f b1819 h
      obtain ⟨y1820, hy1820, h⟩ := bind_some h
      refine At.region_end [0, 1, 26] [] _ (st' := ⟨[(0, i64 p0), (1, lv T_retracelaw23_Act.enc p1), (26, bo (!y1820))], []⟩) (tips := [(3, { orc := .val (.bool false) }), (4, { pc := some { ρ := [], n0 := 0, res := bo y1820, σ' := [], e := [] } })]) (by kernel_rfl) (allc (congrArg D.bool b1819) (allc (C_retracelaw23_live y1820 hy1820) all0)) (fun a w hs => ⟨(!y1820), h, hs⟩)
  · intro x11 h
    replace h : F_retracelaw23_StackPlays_J1 p0 p1 x11 = some r := h
    rw [F_retracelaw23_StackPlays_J1] at h
    refine At.cond x11 (by kernel_rfl) (fun b12 => ?_) (fun b12 => ?_)
    · replace h := cond_t b12 h
      refine At.seq ?_
      obtain ⟨y14, hy14, h⟩ := bind_some h
      refine At.region_end [4] [] _ (st' := ⟨[(4, bo y14)], []⟩) (tips := [(0, { pc := some { ρ := [], n0 := 0, res := bo y14, σ' := [], e := [] } })]) (by kernel_rfl) (allc (C_retracelaw23_live y14 hy14) all0) (norm ?_)
      obtain rfl := some_eq h
      exact At.ret fun a w hs => ret_ok hR (ρ := []) (gs := []) (by kernel_rfl) all0 (by kernel_rfl) rfl rfl a w hs _ (.inl rfl)
    · replace h := cond_f b12 h
      refine At.nar [0, 1] [] (st' := ⟨[(0, i64 p0), (1, lv T_retracelaw23_Act.enc p1)], []⟩) (by kernel_rfl) ?_
      refine At.skip (norm ?_)
      refine At.seq ?_
      obtain ⟨y16, hy16, h⟩ := bind_some h
      refine At.region_end [0, 1, 5] [0] _ (st' := ⟨[(0, i64 p0), (1, lv T_retracelaw23_Act.enc p1), (5, .ptr 0 0)], [.blk 94 [.d (.list true 0 []), i64 y16.most]]⟩) (tips := [(1, { pc := some { ρ := [0], n0 := 0, res := .ptr 0 0, σ' := [.blk 94 [.d (.list true 0 []), i64 y16.most]], e := [] } })]) (by kernel_rfl) (allc (C_stack_New_string p0 y16 hy16) all0) (norm ?_)
      refine At.seq ?_
      refine At.region_end [0, 1, 5, 6] [0] _ (st' := ⟨[(0, i64 p0), (1, lv T_retracelaw23_Act.enc p1), (5, .ptr 0 0), (6, .d (.list true 0 []))], [.blk 94 [.d (.list true 0 []), i64 y16.most]]⟩) (tips := []) (by kernel_rfl) all0 (norm ?_)
      refine At.seqJ (S := Unit) (fun s => ⟨[], []⟩) (fun s => F_retracelaw23_StackPlays_J2 = some r) ?_ ?_
      · refine At.seq ?_
        refine At.region_end [0, 1, 5, 6, 7] [0] _ (st' := ⟨[(0, i64 p0), (1, lv T_retracelaw23_Act.enc p1), (5, .ptr 0 0), (6, .d (.list true 0 [])), (7, i64 0)], [.blk 94 [.d (.list true 0 []), i64 y16.most]]⟩) (tips := []) (by kernel_rfl) all0 (norm ?_)
        refine At.block ?_
        refine At.edNar [.ownO 0 0 9 1, .loS 6] [0, 1, 5, 6, 7] [0, 1] (st' := ⟨[(0, i64 p0), (1, lv T_retracelaw23_Act.enc p1), (5, .ptr 0 0), (6, lv eStr ([] : List ByteArray)), (7, i64 0)], [.blk 94 [.row 1 ([] : List ByteArray).length, i64 y16.most], .row 9 1 (encL eStr ([]))]⟩) (by kernel_rfl) ?_
        refine At.loop (S := (((List ByteArray) × Int × Int × (List ByteArray)) ⊕ ((List ByteArray) × Int × (List ByteArray) × Int))) (Sum.elim (fun s : (List ByteArray) × Int × Int × (List ByteArray) => F_retracelaw23_StackPlays_L17 p0 p1 s.1 s.2.1 s.2.2.1 s.2.2.2) (fun s : (List ByteArray) × Int × (List ByteArray) × Int => F_retracelaw23_StackPlays_L28 p0 p1 s.1 s.2.1 s.2.2.1 s.2.2.2)) (Sum.elim (fun s : (List ByteArray) × Int × Int × (List ByteArray) => ⟨[(0, i64 p0), (1, lv T_retracelaw23_Act.enc p1), (5, .ptr 0 0), (6, lv eStr s.1), (7, i64 s.2.1)], [.blk 94 [.row 1 (s.2.2.2).length, i64 s.2.2.1], .row 9 1 (encL eStr s.2.2.2)]⟩) (fun s : (List ByteArray) × Int × (List ByteArray) × Int => ⟨[(0, i64 p0), (1, lv T_retracelaw23_Act.enc p1), (5, .ptr 0 0), (6, lv eStr s.1), (7, i64 s.2.1)], [.blk 94 [.d (.list true (s.2.2.1).length (encL eStr s.2.2.1)), i64 s.2.2.2]]⟩)) r (.inl (([] : List ByteArray), 0, y16.most, ([] : (List ByteArray)))) h ?_
        rintro (⟨x919, x920, x921, x922⟩ | ⟨x923, x924, x925, x926⟩) oo927 h f928
        · replace h : F_retracelaw23_StackPlays_L17 p0 p1 x919 x920 x921 x922 = some oo927 := h
          rw [F_retracelaw23_StackPlays_L17] at h
          refine At.seq ?_
          refine At.seq ?_
          refine At.region_end [0, 1, 5, 6, 7, 33] [0, 1] _ (st' := ⟨[(0, i64 p0), (1, lv T_retracelaw23_Act.enc p1), (5, .ptr 0 0), (6, lv eStr x919), (7, i64 x920), (33, bo (decide (x920 < ((p1).length : Int))))], [.blk 94 [.row 1 (x922).length, i64 x921], .row 9 1 (encL eStr x922)]⟩) (tips := []) (by kernel_rfl) all0 (norm ?_)
          refine At.cond (decide (x920 < ((p1).length : Int))) (by kernel_rfl) (fun b930 => ?_) (fun b930 => ?_)
          · replace h := cond_t b930 h
            refine At.nar [0, 1, 5, 6, 7] [0, 1] (st' := ⟨[(0, i64 p0), (1, lv T_retracelaw23_Act.enc p1), (5, .ptr 0 0), (6, lv eStr x919), (7, i64 x920)], [.blk 94 [.row 1 (x922).length, i64 x921], .row 9 1 (encL eStr x922)]⟩) (by kernel_rfl) ?_
            refine At.skip (norm ?_)
            refine At.seqJ (S := ((List ByteArray) × Int × (List ByteArray)) ⊕ ((List ByteArray) × (List ByteArray) × Int)) (Sum.elim (fun s => ⟨[(0, i64 p0), (1, lv T_retracelaw23_Act.enc p1), (5, .ptr 0 0), (6, lv eStr s.1), (7, i64 x920)], [.blk 94 [.row 1 (s.2.2).length, i64 s.2.1], .row 9 1 (encL eStr s.2.2)]⟩) (fun s => ⟨[(0, i64 p0), (1, lv T_retracelaw23_Act.enc p1), (5, .ptr 0 0), (6, lv eStr s.1), (7, i64 x920)], [.blk 94 [.d (.list true (s.2.1).length (encL eStr s.2.1)), i64 s.2.2]]⟩)) (Sum.elim (fun s => F_retracelaw23_StackPlays_J3 x920 s.1 s.2.1 s.2.2 = some oo927) (fun s => F_retracelaw23_StackPlays_J4 x920 s.1 s.2.1 s.2.2 = some oo927)) ?_ ?_
            · refine At.block ?_
              refine At.seq ?_
              obtain ⟨y1196, hy1196, h⟩ := bind_some h
              refine At.region_end [0, 1, 5, 6, 7, 8] [0, 1, 2] _ (st' := ⟨[(0, i64 p0), (1, lv T_retracelaw23_Act.enc p1), (5, .ptr 0 0), (6, lv eStr x919), (7, i64 x920), (8, .ptr 2 0)], [.blk 94 [.row 1 (x922).length, i64 x921], .row 9 1 (encL eStr x922), .blk 67 (T_retracelaw23_Act.pvs y1196)]⟩) (tips := [(2, { orc := .cells (T_retracelaw23_Act.enc y1196) })]) (by kernel_rfl) (allc (elemAt_of T_retracelaw23_Act.enc_len hy1196) all0) (norm ?_)
              refine At.seqJ (S := ((List ByteArray) × Int × (List ByteArray)) ⊕ ((List ByteArray) × (List ByteArray) × Int)) (Sum.elim (fun s => ⟨[(0, i64 p0), (1, lv T_retracelaw23_Act.enc p1), (5, .ptr 0 0), (6, lv eStr s.1), (7, i64 x920)], [.blk 94 [.row 1 (s.2.2).length, i64 s.2.1], .row 9 1 (encL eStr s.2.2)]⟩) (fun s => ⟨[(0, i64 p0), (1, lv T_retracelaw23_Act.enc p1), (5, .ptr 0 0), (6, lv eStr s.1), (7, i64 x920)], [.blk 94 [.d (.list true (s.2.1).length (encL eStr s.2.1)), i64 s.2.2]]⟩)) (Sum.elim (fun s => F_retracelaw23_StackPlays_J5 p0 x920 s.1 s.2.1 s.2.2 = some oo927) (fun s => F_retracelaw23_StackPlays_J7 p0 x920 s.1 s.2.1 s.2.2 = some oo927)) ?_ ?_
              · refine At.seq ?_
                refine At.region_end [0, 1, 5, 6, 7, 8, 41] [0, 1, 2] _ (st' := ⟨[(0, i64 p0), (1, lv T_retracelaw23_Act.enc p1), (5, .ptr 0 0), (6, lv eStr x919), (7, i64 x920), (8, .ptr 2 0), (41, i64 y1196.Kind)], [.blk 94 [.row 1 (x922).length, i64 x921], .row 9 1 (encL eStr x922), .blk 67 (T_retracelaw23_Act.pvs y1196)]⟩) (tips := []) (by kernel_rfl) all0 (norm ?_)
                refine At.block ?_
                refine At.seq ?_
                refine At.region_end [0, 1, 5, 6, 7, 8, 41, 67] [0, 1, 2] _ (st' := ⟨[(0, i64 p0), (1, lv T_retracelaw23_Act.enc p1), (5, .ptr 0 0), (6, lv eStr x919), (7, i64 x920), (8, .ptr 2 0), (41, i64 y1196.Kind), (67, bo (y1196.Kind == 0))], [.blk 94 [.row 1 (x922).length, i64 x921], .row 9 1 (encL eStr x922), .blk 67 (T_retracelaw23_Act.pvs y1196)]⟩) (tips := []) (by kernel_rfl) all0 (norm ?_)
                refine At.cond (y1196.Kind == 0) (by kernel_rfl) (fun b1340 => ?_) (fun b1340 => ?_)
                · replace h := cond_t b1340 h
                  refine At.seq ?_
                  obtain ⟨y1342, hy1342, h⟩ := bind_some h
                  refine At.region_end [0, 1, 5, 6, 7, 8, 9] [0, 1, 2] _ (st' := ⟨[(0, i64 p0), (1, lv T_retracelaw23_Act.enc p1), (5, .ptr 0 0), (6, lv eStr x919), (7, i64 x920), (8, .ptr 2 0), (9, bo y1342.1)], [.blk 94 [.row 1 (y1342.2.l).length, i64 y1342.2.most], .row 9 1 (encL eStr y1342.2.l), .blk 67 (T_retracelaw23_Act.pvs y1196)]⟩) (tips := [(3, { pc := some { ρ := [0, 1], n0 := 2, res := bo y1342.1, σ' := [.blk 94 [.row 1 (y1342.2.l).length, i64 y1342.2.most], .row 9 1 (encL eStr y1342.2.l)], e := [1, 2, 3] } })]) (by kernel_rfl) (allc (C_stack_Stack_string_Push y1196.X (⟨x922, x921⟩ : T_stack_Stack_string_) y1342 hy1342) all0) (norm ?_)
                  refine At.seq ?_
                  refine At.seq ?_
                  refine At.region_end [0, 1, 5, 6, 7, 8, 9, 78] [0, 1, 2] _ (st' := ⟨[(0, i64 p0), (1, lv T_retracelaw23_Act.enc p1), (5, .ptr 0 0), (6, lv eStr x919), (7, i64 x920), (8, .ptr 2 0), (9, bo y1342.1), (78, bo (!(y1342.1 == (decide (((x919).length : Int) < p0)))))], [.blk 94 [.row 1 (y1342.2.l).length, i64 y1342.2.most], .row 9 1 (encL eStr y1342.2.l), .blk 67 (T_retracelaw23_Act.pvs y1196)]⟩) (tips := []) (by kernel_rfl) all0 (norm ?_)
                  refine At.cond (!(y1342.1 == (decide (((x919).length : Int) < p0)))) (by kernel_rfl) (fun b1344 => ?_) (fun b1344 => ?_)
                  · replace h := cond_t b1344 h
                    refine At.seq ?_
                    refine At.region_end [4] [] _ (st' := ⟨[(4, bo false)], []⟩) (tips := []) (by kernel_rfl) all0 (norm ?_)
                    obtain ⟨r1345, h, e1346⟩ := map_inr h
                    rw [f928 _ e1346] at h
                    obtain rfl := some_eq h
                    exact At.ret fun a w hs => ret_ok hR (ρ := []) (gs := []) (by kernel_rfl) all0 (by kernel_rfl) rfl rfl a w hs _ (.inl rfl)
                  · replace h := cond_f b1344 h
                    refine At.nar [0, 1, 5, 6, 7, 8, 9] [0, 1, 2] (st' := ⟨[(0, i64 p0), (1, lv T_retracelaw23_Act.enc p1), (5, .ptr 0 0), (6, lv eStr x919), (7, i64 x920), (8, .ptr 2 0), (9, bo y1342.1)], [.blk 94 [.row 1 (y1342.2.l).length, i64 y1342.2.most], .row 9 1 (encL eStr y1342.2.l), .blk 67 (T_retracelaw23_Act.pvs y1196)]⟩) (by kernel_rfl) ?_
                    refine At.skip (norm ?_)
                    refine At.seq ?_
                    refine At.region_end [0, 1, 5, 6, 7, 8, 79] [0, 1, 2] _ (st' := ⟨[(0, i64 p0), (1, lv T_retracelaw23_Act.enc p1), (5, .ptr 0 0), (6, lv eStr x919), (7, i64 x920), (8, .ptr 2 0), (79, bo y1342.1)], [.blk 94 [.row 1 (y1342.2.l).length, i64 y1342.2.most], .row 9 1 (encL eStr y1342.2.l), .blk 67 (T_retracelaw23_Act.pvs y1196)]⟩) (tips := []) (by kernel_rfl) all0 (norm ?_)
                    refine At.cond y1342.1 (by kernel_rfl) (fun b1347 => ?_) (fun b1347 => ?_)
                    · replace h := cond_t b1347 h
                      obtain ⟨g1348, h⟩ := grd_some h
                      obtain ⟨g1349, h⟩ := grd_some h
                      refine At.draw_end mixedOrd 2 [0, 1, 5, 6, 7] [0, 1, 3] _ (st' := ⟨[(0, i64 p0), (1, lv T_retracelaw23_Act.enc p1), (5, .ptr 0 0), (6, .row 2 (((([] : List ByteArray) ++ x919) ++ [y1196.X])).length), (7, i64 x920)], [.blk 94 [.row 1 (y1342.2.l).length, i64 y1342.2.most], .row 9 1 (encL eStr y1342.2.l), .row 9 1 (encL eStr ((([] : List ByteArray) ++ x919) ++ [y1196.X]))]⟩) (tips := [(0, { r := 3 }), (2, { tip := { form := some ((([] : List ByteArray) ++ x919).length, encL eStr (([] : List ByteArray) ++ x919)) }, T := [3], r := 4 }), (3, { r := 4 }), (4, { T := [2], r := 4 }), (5, { r := 4 }), (6, { tip := { form := some (((([] : List ByteArray) ++ x919) ++ [y1196.X]).length, encL eStr ((([] : List ByteArray) ++ x919) ++ [y1196.X])) }, T := [3, 4], r := 5 }), (7, { r := 5 })]) (by kernel_rfl) (allc (len_app ([] : List ByteArray) x919) (allc (encL_app eStr ([] : List ByteArray) x919) (allc (app_ok he_str (by decide) g1348) (allc (encL_len he_str x919) (allc (len_app (([] : List ByteArray) ++ x919) ([y1196.X])) (allc (encL_app eStr (([] : List ByteArray) ++ x919) ([y1196.X])) (allc (app_ok he_str (by decide) g1349) (allc (encL_len he_str ([y1196.X])) all0)))))))) (edq (l := [.settle 2]) (ks := [0, 1, 5, 6, 7]) (ρ := [0, 1]) (st' := ⟨[(0, i64 p0), (1, lv T_retracelaw23_Act.enc p1), (5, .ptr 0 0), (6, lv eStr ((([] : List ByteArray) ++ x919) ++ [y1196.X])), (7, i64 x920)], [.blk 94 [.row 1 (y1342.2.l).length, i64 y1342.2.most], .row 9 1 (encL eStr y1342.2.l)]⟩) (by kernel_rfl) (fun a w hs => ⟨.inl (((([] : List ByteArray) ++ x919) ++ [y1196.X]), y1342.2.most, y1342.2.l), h, hs⟩))
                    · replace h := cond_f b1347 h
                      refine At.nar [0, 1, 5, 6, 7] [0, 1] (st' := ⟨[(0, i64 p0), (1, lv T_retracelaw23_Act.enc p1), (5, .ptr 0 0), (6, lv eStr x919), (7, i64 x920)], [.blk 94 [.row 1 (y1342.2.l).length, i64 y1342.2.most], .row 9 1 (encL eStr y1342.2.l)]⟩) (by kernel_rfl) ?_
                      refine At.skip (fun a w hs => ⟨.inl (x919, y1342.2.most, y1342.2.l), h, hs⟩)
                · replace h := cond_f b1340 h
                  refine At.seq ?_
                  refine At.region_end [0, 1, 5, 6, 7, 8, 87] [0, 1, 2] _ (st' := ⟨[(0, i64 p0), (1, lv T_retracelaw23_Act.enc p1), (5, .ptr 0 0), (6, lv eStr x919), (7, i64 x920), (8, .ptr 2 0), (87, bo (y1196.Kind == 1))], [.blk 94 [.row 1 (x922).length, i64 x921], .row 9 1 (encL eStr x922), .blk 67 (T_retracelaw23_Act.pvs y1196)]⟩) (tips := []) (by kernel_rfl) all0 (norm ?_)
                  refine At.cond (y1196.Kind == 1) (by kernel_rfl) (fun b1350 => ?_) (fun b1350 => ?_)
                  · replace h := cond_t b1350 h
                    refine At.seq ?_
                    obtain ⟨y1352, hy1352, h⟩ := bind_some h
                    refine At.region_end [0, 1, 5, 7, 10, 11, 12] [0, 1] _ (st' := ⟨[(0, i64 p0), (1, lv T_retracelaw23_Act.enc p1), (5, .ptr 0 0), (7, i64 x920), (10, lv eStr y1352.1), (11, lv eStr y1352.2.1), (12, bo y1352.2.2)], [.blk 94 [.row 1 (x922).length, i64 x921], .row 9 1 (encL eStr x922)]⟩) (tips := [(1, { pc := some { ρ := [], n0 := 0, res := .tup [lv eStr y1352.1, lv eStr y1352.2.1, bo y1352.2.2], σ' := [], e := [] } })]) (by kernel_rfl) (allc (C_retraceref23_Cut x919 1 y1352 hy1352) all0) (norm ?_)
                    refine At.seqJ (S := (ByteArray × Bool) ⊕ (ByteArray × Bool × (List ByteArray) × Int)) (Sum.elim (fun s => ⟨[(0, i64 p0), (1, lv T_retracelaw23_Act.enc p1), (5, .ptr 0 0), (7, i64 x920), (10, lv eStr y1352.1), (11, lv eStr y1352.2.1), (12, bo y1352.2.2), (13, sv s.1), (14, bo s.2)], [.blk 94 [.row 1 (x922).length, i64 x921], .row 9 1 (encL eStr x922)]⟩) (fun s => ⟨[(0, i64 p0), (1, lv T_retracelaw23_Act.enc p1), (5, .ptr 0 0), (7, i64 x920), (10, lv eStr y1352.1), (11, lv eStr y1352.2.1), (12, bo y1352.2.2), (13, sv s.1), (14, bo s.2.1)], [.blk 94 [.d (.list true (s.2.2.1).length (encL eStr s.2.2.1)), i64 s.2.2.2]]⟩)) (Sum.elim (fun s => F_retracelaw23_StackPlays_J9 p0 x920 x921 x922 y1352 s.1 s.2 = some oo927) (fun s => F_retracelaw23_StackPlays_J11 p0 x920 y1352 s.1 s.2.1 s.2.2.1 s.2.2.2 = some oo927)) ?_ ?_
                    · obtain ⟨y1422, hy1422, h⟩ := bind_some h
                      rcases y1422 with y1423 | y1424
                      · replace h := el_inl h
                        refine At.region_end [0, 1, 5, 7, 10, 11, 12, 13, 14] [0, 1] _ (st' := ⟨[(0, i64 p0), (1, lv T_retracelaw23_Act.enc p1), (5, .ptr 0 0), (7, i64 x920), (10, lv eStr y1352.1), (11, lv eStr y1352.2.1), (12, bo y1352.2.2), (13, sv y1423.1), (14, bo y1423.2)], [.blk 94 [.row 1 (x922).length, i64 x921], .row 9 1 (encL eStr x922)]⟩) (tips := [(1, { pc := some { ρ := [0, 1], n0 := 2, res := .tup [sv y1423.1, bo y1423.2], σ' := [.blk 94 [.row 1 (x922).length, i64 x921], .row 9 1 (encL eStr x922)], e := [1, 2, 3] } })]) (by kernel_rfl) (allc (C_stack_Stack_string_Pop (⟨x922, x921⟩ : T_stack_Stack_string_) (.inl y1423) hy1422) all0) (fun a w hs => ⟨.inl (y1423.1, y1423.2), h, hs⟩)
                      · replace h := el_inr h
                        refine At.region_end [0, 1, 5, 7, 10, 11, 12, 13, 14] [0] _ (st' := ⟨[(0, i64 p0), (1, lv T_retracelaw23_Act.enc p1), (5, .ptr 0 0), (7, i64 x920), (10, lv eStr y1352.1), (11, lv eStr y1352.2.1), (12, bo y1352.2.2), (13, sv y1424.1), (14, bo y1424.2.1)], [.blk 94 [.d (.list true (y1424.2.2.l).length (encL eStr y1424.2.2.l)), i64 y1424.2.2.most]]⟩) (tips := [(1, { pc := some { ρ := [0, 1], n0 := 2, res := .tup [sv y1424.1, bo y1424.2.1], σ' := [.blk 94 [.d (.list true (y1424.2.2.l).length (encL eStr y1424.2.2.l)), i64 y1424.2.2.most], .dead], e := [1, 2, 3] } })]) (by kernel_rfl) (allc (C_stack_Stack_string_Pop (⟨x922, x921⟩ : T_stack_Stack_string_) (.inr y1424) hy1422) all0) (fun a w hs => ⟨.inr ((y1424.1, y1424.2.1, y1424.2.2.l, y1424.2.2.most)), h, hs⟩)
                    · rintro (⟨x1356, x1357⟩ | ⟨x1388, x1389, x1390, x1391⟩) h
                      · replace h : F_retracelaw23_StackPlays_J9 p0 x920 x921 x922 y1352 x1356 x1357 = some oo927 := h
                        rw [F_retracelaw23_StackPlays_J9] at h
                        refine At.seq ?_
                        refine At.seqJ (S := Bool) (fun s => ⟨[(0, i64 p0), (1, lv T_retracelaw23_Act.enc p1), (5, .ptr 0 0), (7, i64 x920), (10, lv eStr y1352.1), (120, bo s)], [.blk 94 [.row 1 (x922).length, i64 x921], .row 9 1 (encL eStr x922)]⟩) (fun s => F_retracelaw23_StackPlays_J10 p0 x920 x921 x922 y1352 s = some oo927) ?_ ?_
                        · rcases tf (!(x1357 == y1352.2.2)) with b1382 | b1382
                          · replace h := cond_t b1382 h
                            refine At.region_end [0, 1, 5, 7, 10, 120] [0, 1] _ (st' := ⟨[(0, i64 p0), (1, lv T_retracelaw23_Act.enc p1), (5, .ptr 0 0), (7, i64 x920), (10, lv eStr y1352.1), (120, bo true)], [.blk 94 [.row 1 (x922).length, i64 x921], .row 9 1 (encL eStr x922)]⟩) (tips := [(3, { orc := .val (.bool true) })]) (by kernel_rfl) (allc (congrArg D.bool b1382) all0) (fun a w hs => ⟨true, h, hs⟩)
                          · replace h := cond_f b1382 h
                            rcases tf x1357 with b1383 | b1383
                            · replace h := cond_t b1383 h
                              obtain ⟨y1384, hy1384, h⟩ := bind_some h
                              rcases tf (!(x1356.toList == y1384.toList)) with b1385 | b1385
                              · replace h := cond_t b1385 h
                                refine At.region_end [0, 1, 5, 7, 10, 120] [0, 1] _ (st' := ⟨[(0, i64 p0), (1, lv T_retracelaw23_Act.enc p1), (5, .ptr 0 0), (7, i64 x920), (10, lv eStr y1352.1), (120, bo true)], [.blk 94 [.row 1 (x922).length, i64 x921], .row 9 1 (encL eStr x922)]⟩) (tips := [(3, { orc := .val (.bool false) }), (5, { orc := .val (.bool true) }), (8, { orc := .cells (eStr y1384) }), (13, { orc := .val (.bool true) })]) (by kernel_rfl) (allc (congrArg D.bool b1382) (allc (congrArg D.bool b1383) (allc (elemAt_of he_str hy1384) (allc (congrArg D.bool b1385) all0)))) (fun a w hs => ⟨true, h, hs⟩)
                              · replace h := cond_f b1385 h
                                rcases tf (!x1357) with b1386 | b1386
                                · replace h := cond_t b1386 h
                                  refine At.region_end [0, 1, 5, 7, 10, 120] [0, 1] _ (st' := ⟨[(0, i64 p0), (1, lv T_retracelaw23_Act.enc p1), (5, .ptr 0 0), (7, i64 x920), (10, lv eStr y1352.1), (120, bo (!(x1356.toList == (⟨#[]⟩ : ByteArray).toList)))], [.blk 94 [.row 1 (x922).length, i64 x921], .row 9 1 (encL eStr x922)]⟩) (tips := [(3, { orc := .val (.bool false) }), (5, { orc := .val (.bool true) }), (8, { orc := .cells (eStr y1384) }), (13, { orc := .val (.bool false) }), (16, { orc := .val (.bool true) })]) (by kernel_rfl) (allc (congrArg D.bool b1382) (allc (congrArg D.bool b1383) (allc (elemAt_of he_str hy1384) (allc (congrArg D.bool b1385) (allc (congrArg D.bool b1386) all0))))) (fun a w hs => ⟨(!(x1356.toList == (⟨#[]⟩ : ByteArray).toList)), h, hs⟩)
                                · replace h := cond_f b1386 h
                                  refine At.region_end [0, 1, 5, 7, 10, 120] [0, 1] _ (st' := ⟨[(0, i64 p0), (1, lv T_retracelaw23_Act.enc p1), (5, .ptr 0 0), (7, i64 x920), (10, lv eStr y1352.1), (120, bo false)], [.blk 94 [.row 1 (x922).length, i64 x921], .row 9 1 (encL eStr x922)]⟩) (tips := [(3, { orc := .val (.bool false) }), (5, { orc := .val (.bool true) }), (8, { orc := .cells (eStr y1384) }), (13, { orc := .val (.bool false) }), (16, { orc := .val (.bool false) })]) (by kernel_rfl) (allc (congrArg D.bool b1382) (allc (congrArg D.bool b1383) (allc (elemAt_of he_str hy1384) (allc (congrArg D.bool b1385) (allc (congrArg D.bool b1386) all0))))) (fun a w hs => ⟨false, h, hs⟩)
                            · replace h := cond_f b1383 h
                              rcases tf (!x1357) with b1387 | b1387
                              · replace h := cond_t b1387 h
                                refine At.region_end [0, 1, 5, 7, 10, 120] [0, 1] _ (st' := ⟨[(0, i64 p0), (1, lv T_retracelaw23_Act.enc p1), (5, .ptr 0 0), (7, i64 x920), (10, lv eStr y1352.1), (120, bo (!(x1356.toList == (⟨#[]⟩ : ByteArray).toList)))], [.blk 94 [.row 1 (x922).length, i64 x921], .row 9 1 (encL eStr x922)]⟩) (tips := [(3, { orc := .val (.bool false) }), (5, { orc := .val (.bool false) }), (16, { orc := .val (.bool true) })]) (by kernel_rfl) (allc (congrArg D.bool b1382) (allc (congrArg D.bool b1383) (allc (congrArg D.bool b1387) all0))) (fun a w hs => ⟨(!(x1356.toList == (⟨#[]⟩ : ByteArray).toList)), h, hs⟩)
                              · replace h := cond_f b1387 h
                                refine At.region_end [0, 1, 5, 7, 10, 120] [0, 1] _ (st' := ⟨[(0, i64 p0), (1, lv T_retracelaw23_Act.enc p1), (5, .ptr 0 0), (7, i64 x920), (10, lv eStr y1352.1), (120, bo false)], [.blk 94 [.row 1 (x922).length, i64 x921], .row 9 1 (encL eStr x922)]⟩) (tips := [(3, { orc := .val (.bool false) }), (5, { orc := .val (.bool false) }), (16, { orc := .val (.bool false) })]) (by kernel_rfl) (allc (congrArg D.bool b1382) (allc (congrArg D.bool b1383) (allc (congrArg D.bool b1387) all0))) (fun a w hs => ⟨false, h, hs⟩)
                        · intro x1378 h
                          replace h : F_retracelaw23_StackPlays_J10 p0 x920 x921 x922 y1352 x1378 = some oo927 := h
                          rw [F_retracelaw23_StackPlays_J10] at h
                          refine At.cond x1378 (by kernel_rfl) (fun b1379 => ?_) (fun b1379 => ?_)
                          · replace h := cond_t b1379 h
                            refine At.seq ?_
                            refine At.region_end [4] [] _ (st' := ⟨[(4, bo false)], []⟩) (tips := []) (by kernel_rfl) all0 (norm ?_)
                            obtain ⟨r1380, h, e1381⟩ := map_inr h
                            rw [f928 _ e1381] at h
                            obtain rfl := some_eq h
                            exact At.ret fun a w hs => ret_ok hR (ρ := []) (gs := []) (by kernel_rfl) all0 (by kernel_rfl) rfl rfl a w hs _ (.inl rfl)
                          · replace h := cond_f b1379 h
                            refine At.nar [0, 1, 5, 7, 10] [0, 1] (st' := ⟨[(0, i64 p0), (1, lv T_retracelaw23_Act.enc p1), (5, .ptr 0 0), (7, i64 x920), (10, lv eStr y1352.1)], [.blk 94 [.row 1 (x922).length, i64 x921], .row 9 1 (encL eStr x922)]⟩) (by kernel_rfl) ?_
                            refine At.skip (norm ?_)
                            refine At.region_end [0, 1, 5, 6, 7] [0, 1] _ (st' := ⟨[(0, i64 p0), (1, lv T_retracelaw23_Act.enc p1), (5, .ptr 0 0), (6, lv eStr y1352.1), (7, i64 x920)], [.blk 94 [.row 1 (x922).length, i64 x921], .row 9 1 (encL eStr x922)]⟩) (tips := []) (by kernel_rfl) all0 (fun a w hs => ⟨.inl (y1352.1, x921, x922), h, hs⟩)
                      · replace h : F_retracelaw23_StackPlays_J11 p0 x920 y1352 x1388 x1389 x1390 x1391 = some oo927 := h
                        rw [F_retracelaw23_StackPlays_J11] at h
                        refine At.seq ?_
                        refine At.seqJ (S := Bool) (fun s => ⟨[(0, i64 p0), (1, lv T_retracelaw23_Act.enc p1), (5, .ptr 0 0), (7, i64 x920), (10, lv eStr y1352.1), (120, bo s)], [.blk 94 [.d (.list true (x1390).length (encL eStr x1390)), i64 x1391]]⟩) (fun s => F_retracelaw23_StackPlays_J12 p0 x920 y1352 x1390 x1391 s = some oo927) ?_ ?_
                        · rcases tf (!(x1389 == y1352.2.2)) with b1416 | b1416
                          · replace h := cond_t b1416 h
                            refine At.region_end [0, 1, 5, 7, 10, 120] [0] _ (st' := ⟨[(0, i64 p0), (1, lv T_retracelaw23_Act.enc p1), (5, .ptr 0 0), (7, i64 x920), (10, lv eStr y1352.1), (120, bo true)], [.blk 94 [.d (.list true (x1390).length (encL eStr x1390)), i64 x1391]]⟩) (tips := [(3, { orc := .val (.bool true) })]) (by kernel_rfl) (allc (congrArg D.bool b1416) all0) (fun a w hs => ⟨true, h, hs⟩)
                          · replace h := cond_f b1416 h
                            rcases tf x1389 with b1417 | b1417
                            · replace h := cond_t b1417 h
                              obtain ⟨y1418, hy1418, h⟩ := bind_some h
                              rcases tf (!(x1388.toList == y1418.toList)) with b1419 | b1419
                              · replace h := cond_t b1419 h
                                refine At.region_end [0, 1, 5, 7, 10, 120] [0] _ (st' := ⟨[(0, i64 p0), (1, lv T_retracelaw23_Act.enc p1), (5, .ptr 0 0), (7, i64 x920), (10, lv eStr y1352.1), (120, bo true)], [.blk 94 [.d (.list true (x1390).length (encL eStr x1390)), i64 x1391]]⟩) (tips := [(3, { orc := .val (.bool false) }), (5, { orc := .val (.bool true) }), (8, { orc := .cells (eStr y1418) }), (13, { orc := .val (.bool true) })]) (by kernel_rfl) (allc (congrArg D.bool b1416) (allc (congrArg D.bool b1417) (allc (elemAt_of he_str hy1418) (allc (congrArg D.bool b1419) all0)))) (fun a w hs => ⟨true, h, hs⟩)
                              · replace h := cond_f b1419 h
                                rcases tf (!x1389) with b1420 | b1420
                                · replace h := cond_t b1420 h
                                  refine At.region_end [0, 1, 5, 7, 10, 120] [0] _ (st' := ⟨[(0, i64 p0), (1, lv T_retracelaw23_Act.enc p1), (5, .ptr 0 0), (7, i64 x920), (10, lv eStr y1352.1), (120, bo (!(x1388.toList == (⟨#[]⟩ : ByteArray).toList)))], [.blk 94 [.d (.list true (x1390).length (encL eStr x1390)), i64 x1391]]⟩) (tips := [(3, { orc := .val (.bool false) }), (5, { orc := .val (.bool true) }), (8, { orc := .cells (eStr y1418) }), (13, { orc := .val (.bool false) }), (16, { orc := .val (.bool true) })]) (by kernel_rfl) (allc (congrArg D.bool b1416) (allc (congrArg D.bool b1417) (allc (elemAt_of he_str hy1418) (allc (congrArg D.bool b1419) (allc (congrArg D.bool b1420) all0))))) (fun a w hs => ⟨(!(x1388.toList == (⟨#[]⟩ : ByteArray).toList)), h, hs⟩)
                                · replace h := cond_f b1420 h
                                  refine At.region_end [0, 1, 5, 7, 10, 120] [0] _ (st' := ⟨[(0, i64 p0), (1, lv T_retracelaw23_Act.enc p1), (5, .ptr 0 0), (7, i64 x920), (10, lv eStr y1352.1), (120, bo false)], [.blk 94 [.d (.list true (x1390).length (encL eStr x1390)), i64 x1391]]⟩) (tips := [(3, { orc := .val (.bool false) }), (5, { orc := .val (.bool true) }), (8, { orc := .cells (eStr y1418) }), (13, { orc := .val (.bool false) }), (16, { orc := .val (.bool false) })]) (by kernel_rfl) (allc (congrArg D.bool b1416) (allc (congrArg D.bool b1417) (allc (elemAt_of he_str hy1418) (allc (congrArg D.bool b1419) (allc (congrArg D.bool b1420) all0))))) (fun a w hs => ⟨false, h, hs⟩)
                            · replace h := cond_f b1417 h
                              rcases tf (!x1389) with b1421 | b1421
                              · replace h := cond_t b1421 h
                                refine At.region_end [0, 1, 5, 7, 10, 120] [0] _ (st' := ⟨[(0, i64 p0), (1, lv T_retracelaw23_Act.enc p1), (5, .ptr 0 0), (7, i64 x920), (10, lv eStr y1352.1), (120, bo (!(x1388.toList == (⟨#[]⟩ : ByteArray).toList)))], [.blk 94 [.d (.list true (x1390).length (encL eStr x1390)), i64 x1391]]⟩) (tips := [(3, { orc := .val (.bool false) }), (5, { orc := .val (.bool false) }), (16, { orc := .val (.bool true) })]) (by kernel_rfl) (allc (congrArg D.bool b1416) (allc (congrArg D.bool b1417) (allc (congrArg D.bool b1421) all0))) (fun a w hs => ⟨(!(x1388.toList == (⟨#[]⟩ : ByteArray).toList)), h, hs⟩)
                              · replace h := cond_f b1421 h
                                refine At.region_end [0, 1, 5, 7, 10, 120] [0] _ (st' := ⟨[(0, i64 p0), (1, lv T_retracelaw23_Act.enc p1), (5, .ptr 0 0), (7, i64 x920), (10, lv eStr y1352.1), (120, bo false)], [.blk 94 [.d (.list true (x1390).length (encL eStr x1390)), i64 x1391]]⟩) (tips := [(3, { orc := .val (.bool false) }), (5, { orc := .val (.bool false) }), (16, { orc := .val (.bool false) })]) (by kernel_rfl) (allc (congrArg D.bool b1416) (allc (congrArg D.bool b1417) (allc (congrArg D.bool b1421) all0))) (fun a w hs => ⟨false, h, hs⟩)
                        · intro x1412 h
                          replace h : F_retracelaw23_StackPlays_J12 p0 x920 y1352 x1390 x1391 x1412 = some oo927 := h
                          rw [F_retracelaw23_StackPlays_J12] at h
                          refine At.cond x1412 (by kernel_rfl) (fun b1413 => ?_) (fun b1413 => ?_)
                          · replace h := cond_t b1413 h
                            refine At.seq ?_
                            refine At.region_end [4] [] _ (st' := ⟨[(4, bo false)], []⟩) (tips := []) (by kernel_rfl) all0 (norm ?_)
                            obtain ⟨r1414, h, e1415⟩ := map_inr h
                            rw [f928 _ e1415] at h
                            obtain rfl := some_eq h
                            exact At.ret fun a w hs => ret_ok hR (ρ := []) (gs := []) (by kernel_rfl) all0 (by kernel_rfl) rfl rfl a w hs _ (.inl rfl)
                          · replace h := cond_f b1413 h
                            refine At.nar [0, 1, 5, 7, 10] [0] (st' := ⟨[(0, i64 p0), (1, lv T_retracelaw23_Act.enc p1), (5, .ptr 0 0), (7, i64 x920), (10, lv eStr y1352.1)], [.blk 94 [.d (.list true (x1390).length (encL eStr x1390)), i64 x1391]]⟩) (by kernel_rfl) ?_
                            refine At.skip (norm ?_)
                            refine At.region_end [0, 1, 5, 6, 7] [0] _ (st' := ⟨[(0, i64 p0), (1, lv T_retracelaw23_Act.enc p1), (5, .ptr 0 0), (6, lv eStr y1352.1), (7, i64 x920)], [.blk 94 [.d (.list true (x1390).length (encL eStr x1390)), i64 x1391]]⟩) (tips := []) (by kernel_rfl) all0 (fun a w hs => ⟨.inr ((y1352.1, x1390, x1391)), h, hs⟩)
                  · replace h := cond_f b1350 h
                    refine At.seq ?_
                    obtain ⟨y1426, hy1426, h⟩ := bind_some h
                    refine At.region_end [0, 1, 5, 7, 8, 15, 16, 17] [0, 1, 2] _ (st' := ⟨[(0, i64 p0), (1, lv T_retracelaw23_Act.enc p1), (5, .ptr 0 0), (7, i64 x920), (8, .ptr 2 0), (15, lv eStr y1426.1), (16, lv eStr y1426.2.1), (17, bo y1426.2.2)], [.blk 94 [.row 1 (x922).length, i64 x921], .row 9 1 (encL eStr x922), .blk 67 (T_retracelaw23_Act.pvs y1196)]⟩) (tips := [(3, { pc := some { ρ := [], n0 := 0, res := .tup [lv eStr y1426.1, lv eStr y1426.2.1, bo y1426.2.2], σ' := [], e := [] } })]) (by kernel_rfl) (allc (C_retraceref23_Cut x919 y1196.N y1426 hy1426) all0) (norm ?_)
                    refine At.seqJ (S := (Bool × (List ByteArray)) ⊕ (Bool × (List ByteArray) × Int × (List ByteArray))) (Sum.elim (fun s => ⟨[(0, i64 p0), (1, lv T_retracelaw23_Act.enc p1), (5, .ptr 0 0), (7, i64 x920), (15, lv eStr y1426.1), (16, lv eStr y1426.2.1), (17, bo y1426.2.2), (18, .row 2 (s.2).length), (19, bo s.1)], [.blk 94 [.row 1 (x922).length, i64 x921], .row 9 1 (encL eStr x922), .row 9 1 (encL eStr s.2)]⟩) (fun s => ⟨[(0, i64 p0), (1, lv T_retracelaw23_Act.enc p1), (5, .ptr 0 0), (7, i64 x920), (15, lv eStr y1426.1), (16, lv eStr y1426.2.1), (17, bo y1426.2.2), (18, .row 1 (s.2.2.2).length), (19, bo s.1)], [.blk 94 [.d (.list true (s.2.1).length (encL eStr s.2.1)), i64 s.2.2.1], .row 9 1 (encL eStr s.2.2.2)]⟩)) (Sum.elim (fun s => F_retracelaw23_StackPlays_J13 p0 x920 x921 x922 y1426 s.1 s.2 = some oo927) (fun s => F_retracelaw23_StackPlays_J15 p0 x920 y1426 s.1 s.2.1 s.2.2.1 s.2.2.2 = some oo927)) ?_ ?_
                    · obtain ⟨y1464, hy1464, h⟩ := bind_some h
                      rcases y1464 with y1465 | y1466
                      · replace h := el_inl h
                        refine At.region_end [0, 1, 5, 7, 15, 16, 17, 18, 19] [0, 1, 3] _ (st' := ⟨[(0, i64 p0), (1, lv T_retracelaw23_Act.enc p1), (5, .ptr 0 0), (7, i64 x920), (15, lv eStr y1426.1), (16, lv eStr y1426.2.1), (17, bo y1426.2.2), (18, .row 2 (y1465.1).length), (19, bo y1465.2)], [.blk 94 [.row 1 (x922).length, i64 x921], .row 9 1 (encL eStr x922), .row 9 1 (encL eStr y1465.1)]⟩) (tips := [(3, { pc := some { ρ := [0, 1, 3], n0 := 2, res := .tup [.row 2 (y1465.1).length, bo y1465.2], σ' := [.blk 94 [.row 1 (x922).length, i64 x921], .row 9 1 (encL eStr x922), .row 9 1 (encL eStr y1465.1)], e := [1, 2, 3] } })]) (by kernel_rfl) (allc (C_stack_Stack_string_Take y1196.N (⟨x922, x921⟩ : T_stack_Stack_string_) (.inl y1465) hy1464) all0) (fun a w hs => ⟨.inl (y1465.2, y1465.1), h, hs⟩)
                      · replace h := el_inr h
                        refine At.region_end [0, 1, 5, 7, 15, 16, 17, 18, 19] [0, 3] _ (st' := ⟨[(0, i64 p0), (1, lv T_retracelaw23_Act.enc p1), (5, .ptr 0 0), (7, i64 x920), (15, lv eStr y1426.1), (16, lv eStr y1426.2.1), (17, bo y1426.2.2), (18, .row 1 (y1466.1).length), (19, bo y1466.2.1)], [.blk 94 [.d (.list true (y1466.2.2.l).length (encL eStr y1466.2.2.l)), i64 y1466.2.2.most], .row 9 1 (encL eStr y1466.1)]⟩) (tips := [(3, { pc := some { ρ := [0, 1, 3], n0 := 2, res := .tup [.row 2 (y1466.1).length, bo y1466.2.1], σ' := [.blk 94 [.d (.list true (y1466.2.2.l).length (encL eStr y1466.2.2.l)), i64 y1466.2.2.most], .dead, .row 9 1 (encL eStr y1466.1)], e := [1, 2, 3] } })]) (by kernel_rfl) (allc (C_stack_Stack_string_Take y1196.N (⟨x922, x921⟩ : T_stack_Stack_string_) (.inr y1466) hy1464) all0) (fun a w hs => ⟨.inr ((y1466.2.1, y1466.2.2.l, y1466.2.2.most, y1466.1)), h, hs⟩)
                    · rintro (⟨x1430, x1431⟩ | ⟨x1446, x1447, x1448, x1449⟩) h
                      · replace h : F_retracelaw23_StackPlays_J13 p0 x920 x921 x922 y1426 x1430 x1431 = some oo927 := h
                        rw [F_retracelaw23_StackPlays_J13] at h
                        refine At.seq ?_
                        refine At.seqJ (S := Bool) (fun s => ⟨[(0, i64 p0), (1, lv T_retracelaw23_Act.enc p1), (5, .ptr 0 0), (7, i64 x920), (15, lv eStr y1426.1), (65, bo s)], [.blk 94 [.row 1 (x922).length, i64 x921], .row 9 1 (encL eStr x922)]⟩) (fun s => F_retracelaw23_StackPlays_J14 p0 x920 x921 x922 y1426 s = some oo927) ?_ ?_
                        · rcases tf (!(x1430 == y1426.2.2)) with b1444 | b1444
                          · replace h := cond_t b1444 h
                            refine At.region_end [0, 1, 5, 7, 15, 65] [0, 1] _ (st' := ⟨[(0, i64 p0), (1, lv T_retracelaw23_Act.enc p1), (5, .ptr 0 0), (7, i64 x920), (15, lv eStr y1426.1), (65, bo true)], [.blk 94 [.row 1 (x922).length, i64 x921], .row 9 1 (encL eStr x922)]⟩) (tips := [(3, { orc := .val (.bool true) })]) (by kernel_rfl) (allc (congrArg D.bool b1444) all0) (fun a w hs => ⟨true, h, hs⟩)
                          · replace h := cond_f b1444 h
                            obtain ⟨y1445, hy1445, h⟩ := bind_some h
                            refine At.region_end [0, 1, 5, 7, 15, 65] [0, 1] _ (st' := ⟨[(0, i64 p0), (1, lv T_retracelaw23_Act.enc p1), (5, .ptr 0 0), (7, i64 x920), (15, lv eStr y1426.1), (65, bo (!y1445))], [.blk 94 [.row 1 (x922).length, i64 x921], .row 9 1 (encL eStr x922)]⟩) (tips := [(3, { orc := .val (.bool false) }), (6, { settle := [2], pc := some { ρ := [], n0 := 0, res := bo y1445, σ' := [], e := [] } })]) (by kernel_rfl) (allc (congrArg D.bool b1444) (allc (C_retraceref23_Same x1431 y1426.2.1 y1445 hy1445) all0)) (fun a w hs => ⟨(!y1445), h, hs⟩)
                        · intro x1440 h
                          replace h : F_retracelaw23_StackPlays_J14 p0 x920 x921 x922 y1426 x1440 = some oo927 := h
                          rw [F_retracelaw23_StackPlays_J14] at h
                          refine At.cond x1440 (by kernel_rfl) (fun b1441 => ?_) (fun b1441 => ?_)
                          · replace h := cond_t b1441 h
                            refine At.seq ?_
                            refine At.region_end [4] [] _ (st' := ⟨[(4, bo false)], []⟩) (tips := []) (by kernel_rfl) all0 (norm ?_)
                            obtain ⟨r1442, h, e1443⟩ := map_inr h
                            rw [f928 _ e1443] at h
                            obtain rfl := some_eq h
                            exact At.ret fun a w hs => ret_ok hR (ρ := []) (gs := []) (by kernel_rfl) all0 (by kernel_rfl) rfl rfl a w hs _ (.inl rfl)
                          · replace h := cond_f b1441 h
                            refine At.nar [0, 1, 5, 7, 15] [0, 1] (st' := ⟨[(0, i64 p0), (1, lv T_retracelaw23_Act.enc p1), (5, .ptr 0 0), (7, i64 x920), (15, lv eStr y1426.1)], [.blk 94 [.row 1 (x922).length, i64 x921], .row 9 1 (encL eStr x922)]⟩) (by kernel_rfl) ?_
                            refine At.skip (norm ?_)
                            refine At.region_end [0, 1, 5, 6, 7] [0, 1] _ (st' := ⟨[(0, i64 p0), (1, lv T_retracelaw23_Act.enc p1), (5, .ptr 0 0), (6, lv eStr y1426.1), (7, i64 x920)], [.blk 94 [.row 1 (x922).length, i64 x921], .row 9 1 (encL eStr x922)]⟩) (tips := []) (by kernel_rfl) all0 (fun a w hs => ⟨.inl (y1426.1, x921, x922), h, hs⟩)
                      · replace h : F_retracelaw23_StackPlays_J15 p0 x920 y1426 x1446 x1447 x1448 x1449 = some oo927 := h
                        rw [F_retracelaw23_StackPlays_J15] at h
                        refine At.seq ?_
                        refine At.seqJ (S := Bool) (fun s => ⟨[(0, i64 p0), (1, lv T_retracelaw23_Act.enc p1), (5, .ptr 0 0), (7, i64 x920), (15, lv eStr y1426.1), (65, bo s)], [.blk 94 [.d (.list true (x1447).length (encL eStr x1447)), i64 x1448]]⟩) (fun s => F_retracelaw23_StackPlays_J16 p0 x920 y1426 x1447 x1448 s = some oo927) ?_ ?_
                        · rcases tf (!(x1446 == y1426.2.2)) with b1462 | b1462
                          · replace h := cond_t b1462 h
                            refine At.region_end [0, 1, 5, 7, 15, 65] [0] _ (st' := ⟨[(0, i64 p0), (1, lv T_retracelaw23_Act.enc p1), (5, .ptr 0 0), (7, i64 x920), (15, lv eStr y1426.1), (65, bo true)], [.blk 94 [.d (.list true (x1447).length (encL eStr x1447)), i64 x1448]]⟩) (tips := [(3, { orc := .val (.bool true) })]) (by kernel_rfl) (allc (congrArg D.bool b1462) all0) (fun a w hs => ⟨true, h, hs⟩)
                          · replace h := cond_f b1462 h
                            obtain ⟨y1463, hy1463, h⟩ := bind_some h
                            refine At.region_end [0, 1, 5, 7, 15, 65] [0] _ (st' := ⟨[(0, i64 p0), (1, lv T_retracelaw23_Act.enc p1), (5, .ptr 0 0), (7, i64 x920), (15, lv eStr y1426.1), (65, bo (!y1463))], [.blk 94 [.d (.list true (x1447).length (encL eStr x1447)), i64 x1448]]⟩) (tips := [(3, { orc := .val (.bool false) }), (6, { settle := [1], pc := some { ρ := [], n0 := 0, res := bo y1463, σ' := [], e := [] } })]) (by kernel_rfl) (allc (congrArg D.bool b1462) (allc (C_retraceref23_Same x1449 y1426.2.1 y1463 hy1463) all0)) (fun a w hs => ⟨(!y1463), h, hs⟩)
                        · intro x1458 h
                          replace h : F_retracelaw23_StackPlays_J16 p0 x920 y1426 x1447 x1448 x1458 = some oo927 := h
                          rw [F_retracelaw23_StackPlays_J16] at h
                          refine At.cond x1458 (by kernel_rfl) (fun b1459 => ?_) (fun b1459 => ?_)
                          · replace h := cond_t b1459 h
                            refine At.seq ?_
                            refine At.region_end [4] [] _ (st' := ⟨[(4, bo false)], []⟩) (tips := []) (by kernel_rfl) all0 (norm ?_)
                            obtain ⟨r1460, h, e1461⟩ := map_inr h
                            rw [f928 _ e1461] at h
                            obtain rfl := some_eq h
                            exact At.ret fun a w hs => ret_ok hR (ρ := []) (gs := []) (by kernel_rfl) all0 (by kernel_rfl) rfl rfl a w hs _ (.inl rfl)
                          · replace h := cond_f b1459 h
                            refine At.nar [0, 1, 5, 7, 15] [0] (st' := ⟨[(0, i64 p0), (1, lv T_retracelaw23_Act.enc p1), (5, .ptr 0 0), (7, i64 x920), (15, lv eStr y1426.1)], [.blk 94 [.d (.list true (x1447).length (encL eStr x1447)), i64 x1448]]⟩) (by kernel_rfl) ?_
                            refine At.skip (norm ?_)
                            refine At.region_end [0, 1, 5, 6, 7] [0] _ (st' := ⟨[(0, i64 p0), (1, lv T_retracelaw23_Act.enc p1), (5, .ptr 0 0), (6, lv eStr y1426.1), (7, i64 x920)], [.blk 94 [.d (.list true (x1447).length (encL eStr x1447)), i64 x1448]]⟩) (tips := []) (by kernel_rfl) all0 (fun a w hs => ⟨.inr ((y1426.1, x1447, x1448)), h, hs⟩)
              · rintro (⟨x1314, x1315, x1316⟩ | ⟨x1327, x1328, x1329⟩) h
                · replace h : F_retracelaw23_StackPlays_J5 p0 x920 x1314 x1315 x1316 = some oo927 := h
                  rw [F_retracelaw23_StackPlays_J5] at h
                  refine At.seqJ (S := Bool) (fun s => ⟨[(0, i64 p0), (1, lv T_retracelaw23_Act.enc p1), (5, .ptr 0 0), (6, lv eStr x1314), (7, i64 x920), (136, bo s)], [.blk 94 [.row 1 (x1316).length, i64 x1315], .row 9 1 (encL eStr x1316)]⟩) (fun s => F_retracelaw23_StackPlays_J6 x920 x1314 x1315 x1316 s = some oo927) ?_ ?_
                  · obtain ⟨y1324, hy1324, h⟩ := bind_some h
                    rcases tf (y1324 != ((x1314).length : Int)) with b1325 | b1325
                    · replace h := cond_t b1325 h
                      refine At.region_end [0, 1, 5, 6, 7, 136] [0, 1] _ (st' := ⟨[(0, i64 p0), (1, lv T_retracelaw23_Act.enc p1), (5, .ptr 0 0), (6, lv eStr x1314), (7, i64 x920), (136, bo true)], [.blk 94 [.row 1 (x1316).length, i64 x1315], .row 9 1 (encL eStr x1316)]⟩) (tips := [(1, { pc := some { ρ := [0, 1], n0 := 2, res := i64 y1324, σ' := [.blk 94 [.row 1 (x1316).length, i64 x1315], .row 9 1 (encL eStr x1316)], e := [1, 2] } }), (5, { orc := .val (.bool true) })]) (by kernel_rfl) (allc (C_stack_Stack_string_Len (⟨x1316, x1315⟩ : T_stack_Stack_string_) y1324 hy1324) (allc (congrArg D.bool b1325) all0)) (fun a w hs => ⟨true, h, hs⟩)
                    · replace h := cond_f b1325 h
                      obtain ⟨y1326, hy1326, h⟩ := bind_some h
                      refine At.region_end [0, 1, 5, 6, 7, 136] [0, 1] _ (st' := ⟨[(0, i64 p0), (1, lv T_retracelaw23_Act.enc p1), (5, .ptr 0 0), (6, lv eStr x1314), (7, i64 x920), (136, bo (y1326 != (w64 ((if 0 > p0 then 0 else p0) - ((x1314).length : Int)))))], [.blk 94 [.row 1 (x1316).length, i64 x1315], .row 9 1 (encL eStr x1316)]⟩) (tips := [(1, { pc := some { ρ := [0, 1], n0 := 2, res := i64 y1324, σ' := [.blk 94 [.row 1 (x1316).length, i64 x1315], .row 9 1 (encL eStr x1316)], e := [1, 2] } }), (5, { orc := .val (.bool false) }), (7, { pc := some { ρ := [0, 1], n0 := 2, res := i64 y1326, σ' := [.blk 94 [.row 1 (x1316).length, i64 x1315], .row 9 1 (encL eStr x1316)], e := [1, 2] } })]) (by kernel_rfl) (allc (C_stack_Stack_string_Len (⟨x1316, x1315⟩ : T_stack_Stack_string_) y1324 hy1324) (allc (congrArg D.bool b1325) (allc (C_stack_Stack_string_Room (⟨x1316, x1315⟩ : T_stack_Stack_string_) y1326 hy1326) all0))) (fun a w hs => ⟨(y1326 != (w64 ((if 0 > p0 then 0 else p0) - ((x1314).length : Int)))), h, hs⟩)
                  · intro x1320 h
                    replace h : F_retracelaw23_StackPlays_J6 x920 x1314 x1315 x1316 x1320 = some oo927 := h
                    rw [F_retracelaw23_StackPlays_J6] at h
                    refine At.cond x1320 (by kernel_rfl) (fun b1321 => ?_) (fun b1321 => ?_)
                    · replace h := cond_t b1321 h
                      refine At.seq ?_
                      refine At.region_end [4] [] _ (st' := ⟨[(4, bo false)], []⟩) (tips := []) (by kernel_rfl) all0 (norm ?_)
                      obtain ⟨r1322, h, e1323⟩ := map_inr h
                      rw [f928 _ e1323] at h
                      obtain rfl := some_eq h
                      exact At.ret fun a w hs => ret_ok hR (ρ := []) (gs := []) (by kernel_rfl) all0 (by kernel_rfl) rfl rfl a w hs _ (.inl rfl)
                    · replace h := cond_f b1321 h
                      refine At.nar [0, 1, 5, 6, 7] [0, 1] (st' := ⟨[(0, i64 p0), (1, lv T_retracelaw23_Act.enc p1), (5, .ptr 0 0), (6, lv eStr x1314), (7, i64 x920)], [.blk 94 [.row 1 (x1316).length, i64 x1315], .row 9 1 (encL eStr x1316)]⟩) (by kernel_rfl) ?_
                      refine At.skip (fun a w hs => ⟨.inl (x1314, x1315, x1316), h, hs⟩)
                · replace h : F_retracelaw23_StackPlays_J7 p0 x920 x1327 x1328 x1329 = some oo927 := h
                  rw [F_retracelaw23_StackPlays_J7] at h
                  refine At.seqJ (S := Bool) (fun s => ⟨[(0, i64 p0), (1, lv T_retracelaw23_Act.enc p1), (5, .ptr 0 0), (6, lv eStr x1327), (7, i64 x920), (136, bo s)], [.blk 94 [.d (.list true (x1328).length (encL eStr x1328)), i64 x1329]]⟩) (fun s => F_retracelaw23_StackPlays_J8 x920 x1327 x1328 x1329 s = some oo927) ?_ ?_
                  · obtain ⟨y1337, hy1337, h⟩ := bind_some h
                    rcases tf (y1337 != ((x1327).length : Int)) with b1338 | b1338
                    · replace h := cond_t b1338 h
                      refine At.region_end [0, 1, 5, 6, 7, 136] [0] _ (st' := ⟨[(0, i64 p0), (1, lv T_retracelaw23_Act.enc p1), (5, .ptr 0 0), (6, lv eStr x1327), (7, i64 x920), (136, bo true)], [.blk 94 [.d (.list true (x1328).length (encL eStr x1328)), i64 x1329]]⟩) (tips := [(1, { pc := some { ρ := [0], n0 := 1, loose := false, res := i64 y1337, σ' := [.blk 94 [.d (.list true (x1328).length (encL eStr x1328)), i64 x1329]], e := [1] } }), (5, { orc := .val (.bool true) })]) (by kernel_rfl) (allc (C_stack_Stack_string_Len_v2 (⟨x1328, x1329⟩ : T_stack_Stack_string_) y1337 hy1337) (allc (congrArg D.bool b1338) all0)) (fun a w hs => ⟨true, h, hs⟩)
                    · replace h := cond_f b1338 h
                      obtain ⟨y1339, hy1339, h⟩ := bind_some h
                      refine At.region_end [0, 1, 5, 6, 7, 136] [0] _ (st' := ⟨[(0, i64 p0), (1, lv T_retracelaw23_Act.enc p1), (5, .ptr 0 0), (6, lv eStr x1327), (7, i64 x920), (136, bo (y1339 != (w64 ((if 0 > p0 then 0 else p0) - ((x1327).length : Int)))))], [.blk 94 [.d (.list true (x1328).length (encL eStr x1328)), i64 x1329]]⟩) (tips := [(1, { pc := some { ρ := [0], n0 := 1, loose := false, res := i64 y1337, σ' := [.blk 94 [.d (.list true (x1328).length (encL eStr x1328)), i64 x1329]], e := [1] } }), (5, { orc := .val (.bool false) }), (7, { pc := some { ρ := [0], n0 := 1, loose := false, res := i64 y1339, σ' := [.blk 94 [.d (.list true (x1328).length (encL eStr x1328)), i64 x1329]], e := [1] } })]) (by kernel_rfl) (allc (C_stack_Stack_string_Len_v2 (⟨x1328, x1329⟩ : T_stack_Stack_string_) y1337 hy1337) (allc (congrArg D.bool b1338) (allc (C_stack_Stack_string_Room_v2 (⟨x1328, x1329⟩ : T_stack_Stack_string_) y1339 hy1339) all0))) (fun a w hs => ⟨(y1339 != (w64 ((if 0 > p0 then 0 else p0) - ((x1327).length : Int)))), h, hs⟩)
                  · intro x1333 h
                    replace h : F_retracelaw23_StackPlays_J8 x920 x1327 x1328 x1329 x1333 = some oo927 := h
                    rw [F_retracelaw23_StackPlays_J8] at h
                    refine At.cond x1333 (by kernel_rfl) (fun b1334 => ?_) (fun b1334 => ?_)
                    · replace h := cond_t b1334 h
                      refine At.seq ?_
                      refine At.region_end [4] [] _ (st' := ⟨[(4, bo false)], []⟩) (tips := []) (by kernel_rfl) all0 (norm ?_)
                      obtain ⟨r1335, h, e1336⟩ := map_inr h
                      rw [f928 _ e1336] at h
                      obtain rfl := some_eq h
                      exact At.ret fun a w hs => ret_ok hR (ρ := []) (gs := []) (by kernel_rfl) all0 (by kernel_rfl) rfl rfl a w hs _ (.inl rfl)
                    · replace h := cond_f b1334 h
                      refine At.nar [0, 1, 5, 6, 7] [0] (st' := ⟨[(0, i64 p0), (1, lv T_retracelaw23_Act.enc p1), (5, .ptr 0 0), (6, lv eStr x1327), (7, i64 x920)], [.blk 94 [.d (.list true (x1328).length (encL eStr x1328)), i64 x1329]]⟩) (by kernel_rfl) ?_
                      refine At.skip (fun a w hs => ⟨.inr ((x1327, x1328, x1329)), h, hs⟩)
            · rintro (⟨x1189, x1190, x1191⟩ | ⟨x1192, x1193, x1194⟩) h
              · replace h : F_retracelaw23_StackPlays_J3 x920 x1189 x1190 x1191 = some oo927 := h
                rw [F_retracelaw23_StackPlays_J3] at h
                refine At.region_end [0, 1, 5, 6, 7] [0, 1] _ (st' := ⟨[(0, i64 p0), (1, lv T_retracelaw23_Act.enc p1), (5, .ptr 0 0), (6, lv eStr x1189), (7, i64 (w64 (x920 + 1)))], [.blk 94 [.row 1 (x1191).length, i64 x1190], .row 9 1 (encL eStr x1191)]⟩) (tips := []) (by kernel_rfl) all0 (fun a w hs => ⟨_, (some_eq h).symm, hs⟩)
              · replace h : F_retracelaw23_StackPlays_J4 x920 x1192 x1193 x1194 = some oo927 := h
                rw [F_retracelaw23_StackPlays_J4] at h
                refine At.region_end [0, 1, 5, 6, 7] [0] _ (st' := ⟨[(0, i64 p0), (1, lv T_retracelaw23_Act.enc p1), (5, .ptr 0 0), (6, lv eStr x1192), (7, i64 (w64 (x920 + 1)))], [.blk 94 [.d (.list true (x1193).length (encL eStr x1193)), i64 x1194]]⟩) (tips := []) (by kernel_rfl) all0 (fun a w hs => ⟨_, (some_eq h).symm, hs⟩)
          · replace h := cond_f b930 h
            refine At.nar [] [] (st' := ⟨[], []⟩) (by kernel_rfl) ?_
            obtain ⟨r1467, h, e1468⟩ := map_inr h
            rw [f928 _ e1468] at h
            refine At.exit (fun a w hs => ⟨(), h, hs⟩)
        · replace h : F_retracelaw23_StackPlays_L28 p0 p1 x923 x924 x925 x926 = some oo927 := h
          rw [F_retracelaw23_StackPlays_L28] at h
          refine At.seq ?_
          refine At.seq ?_
          refine At.region_end [0, 1, 5, 6, 7, 33] [0] _ (st' := ⟨[(0, i64 p0), (1, lv T_retracelaw23_Act.enc p1), (5, .ptr 0 0), (6, lv eStr x923), (7, i64 x924), (33, bo (decide (x924 < ((p1).length : Int))))], [.blk 94 [.d (.list true (x925).length (encL eStr x925)), i64 x926]]⟩) (tips := []) (by kernel_rfl) all0 (norm ?_)
          refine At.cond (decide (x924 < ((p1).length : Int))) (by kernel_rfl) (fun b1470 => ?_) (fun b1470 => ?_)
          · replace h := cond_t b1470 h
            refine At.nar [0, 1, 5, 6, 7] [0] (st' := ⟨[(0, i64 p0), (1, lv T_retracelaw23_Act.enc p1), (5, .ptr 0 0), (6, lv eStr x923), (7, i64 x924)], [.blk 94 [.d (.list true (x925).length (encL eStr x925)), i64 x926]]⟩) (by kernel_rfl) ?_
            refine At.skip (norm ?_)
            refine At.seqJ (S := ((List ByteArray) × (List ByteArray) × Int) ⊕ ((List ByteArray) × Int × (List ByteArray))) (Sum.elim (fun s => ⟨[(0, i64 p0), (1, lv T_retracelaw23_Act.enc p1), (5, .ptr 0 0), (6, lv eStr s.1), (7, i64 x924)], [.blk 94 [.d (.list true (s.2.1).length (encL eStr s.2.1)), i64 s.2.2]]⟩) (fun s => ⟨[(0, i64 p0), (1, lv T_retracelaw23_Act.enc p1), (5, .ptr 0 0), (6, lv eStr s.1), (7, i64 x924)], [.blk 94 [.row 1 (s.2.2).length, i64 s.2.1], .row 9 1 (encL eStr s.2.2)]⟩)) (Sum.elim (fun s => F_retracelaw23_StackPlays_J18 x924 s.1 s.2.1 s.2.2 = some oo927) (fun s => F_retracelaw23_StackPlays_J19 x924 s.1 s.2.1 s.2.2 = some oo927)) ?_ ?_
            · refine At.block ?_
              refine At.seq ?_
              obtain ⟨y1642, hy1642, h⟩ := bind_some h
              refine At.region_end [0, 1, 5, 6, 7, 8] [0, 1] _ (st' := ⟨[(0, i64 p0), (1, lv T_retracelaw23_Act.enc p1), (5, .ptr 0 0), (6, lv eStr x923), (7, i64 x924), (8, .ptr 1 0)], [.blk 94 [.d (.list true (x925).length (encL eStr x925)), i64 x926], .blk 67 (T_retracelaw23_Act.pvs y1642)]⟩) (tips := [(2, { orc := .cells (T_retracelaw23_Act.enc y1642) })]) (by kernel_rfl) (allc (elemAt_of T_retracelaw23_Act.enc_len hy1642) all0) (norm ?_)
              refine At.seqJ (S := ((List ByteArray) × (List ByteArray) × Int) ⊕ ((List ByteArray) × Int × (List ByteArray))) (Sum.elim (fun s => ⟨[(0, i64 p0), (1, lv T_retracelaw23_Act.enc p1), (5, .ptr 0 0), (6, lv eStr s.1), (7, i64 x924)], [.blk 94 [.d (.list true (s.2.1).length (encL eStr s.2.1)), i64 s.2.2]]⟩) (fun s => ⟨[(0, i64 p0), (1, lv T_retracelaw23_Act.enc p1), (5, .ptr 0 0), (6, lv eStr s.1), (7, i64 x924)], [.blk 94 [.row 1 (s.2.2).length, i64 s.2.1], .row 9 1 (encL eStr s.2.2)]⟩)) (Sum.elim (fun s => F_retracelaw23_StackPlays_J20 p0 x924 s.1 s.2.1 s.2.2 = some oo927) (fun s => F_retracelaw23_StackPlays_J22 p0 x924 s.1 s.2.1 s.2.2 = some oo927)) ?_ ?_
              · refine At.seq ?_
                refine At.region_end [0, 1, 5, 6, 7, 8, 41] [0, 1] _ (st' := ⟨[(0, i64 p0), (1, lv T_retracelaw23_Act.enc p1), (5, .ptr 0 0), (6, lv eStr x923), (7, i64 x924), (8, .ptr 1 0), (41, i64 y1642.Kind)], [.blk 94 [.d (.list true (x925).length (encL eStr x925)), i64 x926], .blk 67 (T_retracelaw23_Act.pvs y1642)]⟩) (tips := []) (by kernel_rfl) all0 (norm ?_)
                refine At.block ?_
                refine At.seq ?_
                refine At.region_end [0, 1, 5, 6, 7, 8, 41, 67] [0, 1] _ (st' := ⟨[(0, i64 p0), (1, lv T_retracelaw23_Act.enc p1), (5, .ptr 0 0), (6, lv eStr x923), (7, i64 x924), (8, .ptr 1 0), (41, i64 y1642.Kind), (67, bo (y1642.Kind == 0))], [.blk 94 [.d (.list true (x925).length (encL eStr x925)), i64 x926], .blk 67 (T_retracelaw23_Act.pvs y1642)]⟩) (tips := []) (by kernel_rfl) all0 (norm ?_)
                refine At.cond (y1642.Kind == 0) (by kernel_rfl) (fun b1739 => ?_) (fun b1739 => ?_)
                · replace h := cond_t b1739 h
                  refine At.seqJ (S := (Bool) ⊕ (Bool × Int × (List ByteArray))) (Sum.elim (fun s => ⟨[(0, i64 p0), (1, lv T_retracelaw23_Act.enc p1), (5, .ptr 0 0), (6, lv eStr x923), (7, i64 x924), (8, .ptr 1 0), (9, bo s)], [.blk 94 [.d (.list true (x925).length (encL eStr x925)), i64 x926], .blk 67 (T_retracelaw23_Act.pvs y1642)]⟩) (fun s => ⟨[(0, i64 p0), (1, lv T_retracelaw23_Act.enc p1), (5, .ptr 0 0), (6, lv eStr x923), (7, i64 x924), (8, .ptr 2 0), (9, bo s.1)], [.blk 94 [.row 1 (s.2.2).length, i64 s.2.1], .row 9 1 (encL eStr s.2.2), .blk 67 (T_retracelaw23_Act.pvs y1642)]⟩)) (Sum.elim (fun s => F_retracelaw23_StackPlays_J24 p0 x923 x924 x925 x926 y1642 s = some oo927) (fun s => F_retracelaw23_StackPlays_J25 p0 x923 x924 y1642 s.1 s.2.1 s.2.2 = some oo927)) ?_ ?_
                  · obtain ⟨y1761, hy1761, h⟩ := bind_some h
                    rcases y1761 with y1762 | y1763
                    · replace h := el_inl h
                      refine At.region_end [0, 1, 5, 6, 7, 8, 9] [0, 1] _ (st' := ⟨[(0, i64 p0), (1, lv T_retracelaw23_Act.enc p1), (5, .ptr 0 0), (6, lv eStr x923), (7, i64 x924), (8, .ptr 1 0), (9, bo y1762)], [.blk 94 [.d (.list true (x925).length (encL eStr x925)), i64 x926], .blk 67 (T_retracelaw23_Act.pvs y1642)]⟩) (tips := [(3, { pc := some { ρ := [0], n0 := 1, loose := false, res := bo y1762, σ' := [.blk 94 [.d (.list true (x925).length (encL eStr x925)), i64 x926]], e := [1] } })]) (by kernel_rfl) (allc (C_stack_Stack_string_Push_v2 y1642.X (⟨x925, x926⟩ : T_stack_Stack_string_) (.inl y1762) hy1761) all0) (fun a w hs => ⟨.inl y1762, h, hs⟩)
                    · replace h := el_inr h
                      refine At.region_end [0, 1, 5, 6, 7, 8, 9] [0, 2, 1] _ (st' := ⟨[(0, i64 p0), (1, lv T_retracelaw23_Act.enc p1), (5, .ptr 0 0), (6, lv eStr x923), (7, i64 x924), (8, .ptr 2 0), (9, bo y1763.1)], [.blk 94 [.row 1 (y1763.2.l).length, i64 y1763.2.most], .row 9 1 (encL eStr y1763.2.l), .blk 67 (T_retracelaw23_Act.pvs y1642)]⟩) (tips := [(3, { pc := some { ρ := [0, 2], n0 := 1, loose := false, res := bo y1763.1, σ' := [.blk 94 [.row 1 (y1763.2.l).length, i64 y1763.2.most], .row 9 1 (encL eStr y1763.2.l)], e := [1] } })]) (by kernel_rfl) (allc (C_stack_Stack_string_Push_v2 y1642.X (⟨x925, x926⟩ : T_stack_Stack_string_) (.inr y1763) hy1761) all0) (fun a w hs => ⟨.inr ((y1763.1, y1763.2.most, y1763.2.l)), h, hs⟩)
                  · rintro (x1743 | ⟨x1751, x1752, x1753⟩) h
                    · replace h : F_retracelaw23_StackPlays_J24 p0 x923 x924 x925 x926 y1642 x1743 = some oo927 := h
                      rw [F_retracelaw23_StackPlays_J24] at h
                      refine At.seq ?_
                      refine At.seq ?_
                      refine At.region_end [0, 1, 5, 6, 7, 8, 9, 78] [0, 1] _ (st' := ⟨[(0, i64 p0), (1, lv T_retracelaw23_Act.enc p1), (5, .ptr 0 0), (6, lv eStr x923), (7, i64 x924), (8, .ptr 1 0), (9, bo x1743), (78, bo (!(x1743 == (decide (((x923).length : Int) < p0)))))], [.blk 94 [.d (.list true (x925).length (encL eStr x925)), i64 x926], .blk 67 (T_retracelaw23_Act.pvs y1642)]⟩) (tips := []) (by kernel_rfl) all0 (norm ?_)
                      refine At.cond (!(x1743 == (decide (((x923).length : Int) < p0)))) (by kernel_rfl) (fun b1745 => ?_) (fun b1745 => ?_)
                      · replace h := cond_t b1745 h
                        refine At.seq ?_
                        refine At.region_end [4] [] _ (st' := ⟨[(4, bo false)], []⟩) (tips := []) (by kernel_rfl) all0 (norm ?_)
                        obtain ⟨r1746, h, e1747⟩ := map_inr h
                        rw [f928 _ e1747] at h
                        obtain rfl := some_eq h
                        exact At.ret fun a w hs => ret_ok hR (ρ := []) (gs := []) (by kernel_rfl) all0 (by kernel_rfl) rfl rfl a w hs _ (.inl rfl)
                      · replace h := cond_f b1745 h
                        refine At.nar [0, 1, 5, 6, 7, 8, 9] [0, 1] (st' := ⟨[(0, i64 p0), (1, lv T_retracelaw23_Act.enc p1), (5, .ptr 0 0), (6, lv eStr x923), (7, i64 x924), (8, .ptr 1 0), (9, bo x1743)], [.blk 94 [.d (.list true (x925).length (encL eStr x925)), i64 x926], .blk 67 (T_retracelaw23_Act.pvs y1642)]⟩) (by kernel_rfl) ?_
                        refine At.skip (norm ?_)
                        refine At.seq ?_
                        refine At.region_end [0, 1, 5, 6, 7, 8, 79] [0, 1] _ (st' := ⟨[(0, i64 p0), (1, lv T_retracelaw23_Act.enc p1), (5, .ptr 0 0), (6, lv eStr x923), (7, i64 x924), (8, .ptr 1 0), (79, bo x1743)], [.blk 94 [.d (.list true (x925).length (encL eStr x925)), i64 x926], .blk 67 (T_retracelaw23_Act.pvs y1642)]⟩) (tips := []) (by kernel_rfl) all0 (norm ?_)
                        refine At.cond x1743 (by kernel_rfl) (fun b1748 => ?_) (fun b1748 => ?_)
                        · replace h := cond_t b1748 h
                          obtain ⟨g1749, h⟩ := grd_some h
                          obtain ⟨g1750, h⟩ := grd_some h
                          refine At.draw_end mixedOrd 2 [0, 1, 5, 6, 7] [0, 2] _ (st' := ⟨[(0, i64 p0), (1, lv T_retracelaw23_Act.enc p1), (5, .ptr 0 0), (6, .row 1 (((([] : List ByteArray) ++ x923) ++ [y1642.X])).length), (7, i64 x924)], [.blk 94 [.d (.list true (x925).length (encL eStr x925)), i64 x926], .row 9 1 (encL eStr ((([] : List ByteArray) ++ x923) ++ [y1642.X]))]⟩) (tips := [(0, { r := 2 }), (2, { tip := { form := some ((([] : List ByteArray) ++ x923).length, encL eStr (([] : List ByteArray) ++ x923)) }, T := [2], r := 3 }), (3, { r := 3 }), (4, { T := [1], r := 3 }), (5, { r := 3 }), (6, { tip := { form := some (((([] : List ByteArray) ++ x923) ++ [y1642.X]).length, encL eStr ((([] : List ByteArray) ++ x923) ++ [y1642.X])) }, T := [2, 3], r := 4 }), (7, { r := 4 })]) (by kernel_rfl) (allc (len_app ([] : List ByteArray) x923) (allc (encL_app eStr ([] : List ByteArray) x923) (allc (app_ok he_str (by decide) g1749) (allc (encL_len he_str x923) (allc (len_app (([] : List ByteArray) ++ x923) ([y1642.X])) (allc (encL_app eStr (([] : List ByteArray) ++ x923) ([y1642.X])) (allc (app_ok he_str (by decide) g1750) (allc (encL_len he_str ([y1642.X])) all0)))))))) (edq (l := [.settle 1]) (ks := [0, 1, 5, 6, 7]) (ρ := [0]) (st' := ⟨[(0, i64 p0), (1, lv T_retracelaw23_Act.enc p1), (5, .ptr 0 0), (6, lv eStr ((([] : List ByteArray) ++ x923) ++ [y1642.X])), (7, i64 x924)], [.blk 94 [.d (.list true (x925).length (encL eStr x925)), i64 x926]]⟩) (by kernel_rfl) (fun a w hs => ⟨.inl (((([] : List ByteArray) ++ x923) ++ [y1642.X]), x925, x926), h, hs⟩))
                        · replace h := cond_f b1748 h
                          refine At.nar [0, 1, 5, 6, 7] [0] (st' := ⟨[(0, i64 p0), (1, lv T_retracelaw23_Act.enc p1), (5, .ptr 0 0), (6, lv eStr x923), (7, i64 x924)], [.blk 94 [.d (.list true (x925).length (encL eStr x925)), i64 x926]]⟩) (by kernel_rfl) ?_
                          refine At.skip (fun a w hs => ⟨.inl (x923, x925, x926), h, hs⟩)
                    · replace h : F_retracelaw23_StackPlays_J25 p0 x923 x924 y1642 x1751 x1752 x1753 = some oo927 := h
                      rw [F_retracelaw23_StackPlays_J25] at h
                      refine At.seq ?_
                      refine At.seq ?_
                      refine At.region_end [0, 1, 5, 6, 7, 8, 9, 78] [0, 1, 2] _ (st' := ⟨[(0, i64 p0), (1, lv T_retracelaw23_Act.enc p1), (5, .ptr 0 0), (6, lv eStr x923), (7, i64 x924), (8, .ptr 2 0), (9, bo x1751), (78, bo (!(x1751 == (decide (((x923).length : Int) < p0)))))], [.blk 94 [.row 1 (x1753).length, i64 x1752], .row 9 1 (encL eStr x1753), .blk 67 (T_retracelaw23_Act.pvs y1642)]⟩) (tips := []) (by kernel_rfl) all0 (norm ?_)
                      refine At.cond (!(x1751 == (decide (((x923).length : Int) < p0)))) (by kernel_rfl) (fun b1755 => ?_) (fun b1755 => ?_)
                      · replace h := cond_t b1755 h
                        refine At.seq ?_
                        refine At.region_end [4] [] _ (st' := ⟨[(4, bo false)], []⟩) (tips := []) (by kernel_rfl) all0 (norm ?_)
                        obtain ⟨r1756, h, e1757⟩ := map_inr h
                        rw [f928 _ e1757] at h
                        obtain rfl := some_eq h
                        exact At.ret fun a w hs => ret_ok hR (ρ := []) (gs := []) (by kernel_rfl) all0 (by kernel_rfl) rfl rfl a w hs _ (.inl rfl)
                      · replace h := cond_f b1755 h
                        refine At.nar [0, 1, 5, 6, 7, 8, 9] [0, 1, 2] (st' := ⟨[(0, i64 p0), (1, lv T_retracelaw23_Act.enc p1), (5, .ptr 0 0), (6, lv eStr x923), (7, i64 x924), (8, .ptr 2 0), (9, bo x1751)], [.blk 94 [.row 1 (x1753).length, i64 x1752], .row 9 1 (encL eStr x1753), .blk 67 (T_retracelaw23_Act.pvs y1642)]⟩) (by kernel_rfl) ?_
                        refine At.skip (norm ?_)
                        refine At.seq ?_
                        refine At.region_end [0, 1, 5, 6, 7, 8, 79] [0, 1, 2] _ (st' := ⟨[(0, i64 p0), (1, lv T_retracelaw23_Act.enc p1), (5, .ptr 0 0), (6, lv eStr x923), (7, i64 x924), (8, .ptr 2 0), (79, bo x1751)], [.blk 94 [.row 1 (x1753).length, i64 x1752], .row 9 1 (encL eStr x1753), .blk 67 (T_retracelaw23_Act.pvs y1642)]⟩) (tips := []) (by kernel_rfl) all0 (norm ?_)
                        refine At.cond x1751 (by kernel_rfl) (fun b1758 => ?_) (fun b1758 => ?_)
                        · replace h := cond_t b1758 h
                          obtain ⟨g1759, h⟩ := grd_some h
                          obtain ⟨g1760, h⟩ := grd_some h
                          refine At.draw_end mixedOrd 2 [0, 1, 5, 6, 7] [0, 1, 3] _ (st' := ⟨[(0, i64 p0), (1, lv T_retracelaw23_Act.enc p1), (5, .ptr 0 0), (6, .row 2 (((([] : List ByteArray) ++ x923) ++ [y1642.X])).length), (7, i64 x924)], [.blk 94 [.row 1 (x1753).length, i64 x1752], .row 9 1 (encL eStr x1753), .row 9 1 (encL eStr ((([] : List ByteArray) ++ x923) ++ [y1642.X]))]⟩) (tips := [(0, { r := 3 }), (2, { tip := { form := some ((([] : List ByteArray) ++ x923).length, encL eStr (([] : List ByteArray) ++ x923)) }, T := [3], r := 4 }), (3, { r := 4 }), (4, { T := [2], r := 4 }), (5, { r := 4 }), (6, { tip := { form := some (((([] : List ByteArray) ++ x923) ++ [y1642.X]).length, encL eStr ((([] : List ByteArray) ++ x923) ++ [y1642.X])) }, T := [3, 4], r := 5 }), (7, { r := 5 })]) (by kernel_rfl) (allc (len_app ([] : List ByteArray) x923) (allc (encL_app eStr ([] : List ByteArray) x923) (allc (app_ok he_str (by decide) g1759) (allc (encL_len he_str x923) (allc (len_app (([] : List ByteArray) ++ x923) ([y1642.X])) (allc (encL_app eStr (([] : List ByteArray) ++ x923) ([y1642.X])) (allc (app_ok he_str (by decide) g1760) (allc (encL_len he_str ([y1642.X])) all0)))))))) (edq (l := [.settle 2]) (ks := [0, 1, 5, 6, 7]) (ρ := [0, 1]) (st' := ⟨[(0, i64 p0), (1, lv T_retracelaw23_Act.enc p1), (5, .ptr 0 0), (6, lv eStr ((([] : List ByteArray) ++ x923) ++ [y1642.X])), (7, i64 x924)], [.blk 94 [.row 1 (x1753).length, i64 x1752], .row 9 1 (encL eStr x1753)]⟩) (by kernel_rfl) (fun a w hs => ⟨.inr ((((([] : List ByteArray) ++ x923) ++ [y1642.X]), x1752, x1753)), h, hs⟩))
                        · replace h := cond_f b1758 h
                          refine At.nar [0, 1, 5, 6, 7] [0, 1] (st' := ⟨[(0, i64 p0), (1, lv T_retracelaw23_Act.enc p1), (5, .ptr 0 0), (6, lv eStr x923), (7, i64 x924)], [.blk 94 [.row 1 (x1753).length, i64 x1752], .row 9 1 (encL eStr x1753)]⟩) (by kernel_rfl) ?_
                          refine At.skip (fun a w hs => ⟨.inr ((x923, x1752, x1753)), h, hs⟩)
                · replace h := cond_f b1739 h
                  refine At.seq ?_
                  refine At.region_end [0, 1, 5, 6, 7, 8, 87] [0, 1] _ (st' := ⟨[(0, i64 p0), (1, lv T_retracelaw23_Act.enc p1), (5, .ptr 0 0), (6, lv eStr x923), (7, i64 x924), (8, .ptr 1 0), (87, bo (y1642.Kind == 1))], [.blk 94 [.d (.list true (x925).length (encL eStr x925)), i64 x926], .blk 67 (T_retracelaw23_Act.pvs y1642)]⟩) (tips := []) (by kernel_rfl) all0 (norm ?_)
                  refine At.cond (y1642.Kind == 1) (by kernel_rfl) (fun b1764 => ?_) (fun b1764 => ?_)
                  · replace h := cond_t b1764 h
                    refine At.seq ?_
                    obtain ⟨y1766, hy1766, h⟩ := bind_some h
                    refine At.region_end [0, 1, 5, 7, 10, 11, 12] [0] _ (st' := ⟨[(0, i64 p0), (1, lv T_retracelaw23_Act.enc p1), (5, .ptr 0 0), (7, i64 x924), (10, lv eStr y1766.1), (11, lv eStr y1766.2.1), (12, bo y1766.2.2)], [.blk 94 [.d (.list true (x925).length (encL eStr x925)), i64 x926]]⟩) (tips := [(1, { pc := some { ρ := [], n0 := 0, res := .tup [lv eStr y1766.1, lv eStr y1766.2.1, bo y1766.2.2], σ' := [], e := [] } })]) (by kernel_rfl) (allc (C_retraceref23_Cut x923 1 y1766 hy1766) all0) (norm ?_)
                    refine At.seq ?_
                    obtain ⟨y1768, hy1768, h⟩ := bind_some h
                    refine At.region_end [0, 1, 5, 7, 10, 11, 12, 13, 14] [0] _ (st' := ⟨[(0, i64 p0), (1, lv T_retracelaw23_Act.enc p1), (5, .ptr 0 0), (7, i64 x924), (10, lv eStr y1766.1), (11, lv eStr y1766.2.1), (12, bo y1766.2.2), (13, sv y1768.1), (14, bo y1768.2.1)], [.blk 94 [.d (.list true (y1768.2.2.l).length (encL eStr y1768.2.2.l)), i64 y1768.2.2.most]]⟩) (tips := [(1, { pc := some { ρ := [0], n0 := 1, loose := false, res := .tup [sv y1768.1, bo y1768.2.1], σ' := [.blk 94 [.d (.list true (y1768.2.2.l).length (encL eStr y1768.2.2.l)), i64 y1768.2.2.most]], e := [1] } })]) (by kernel_rfl) (allc (C_stack_Stack_string_Pop_v2 (⟨x925, x926⟩ : T_stack_Stack_string_) y1768 hy1768) all0) (norm ?_)
                    refine At.seq ?_
                    refine At.seqJ (S := Bool) (fun s => ⟨[(0, i64 p0), (1, lv T_retracelaw23_Act.enc p1), (5, .ptr 0 0), (7, i64 x924), (10, lv eStr y1766.1), (120, bo s)], [.blk 94 [.d (.list true (y1768.2.2.l).length (encL eStr y1768.2.2.l)), i64 y1768.2.2.most]]⟩) (fun s => F_retracelaw23_StackPlays_J26 p0 x924 y1766 y1768 s = some oo927) ?_ ?_
                    · rcases tf (!(y1768.2.1 == y1766.2.2)) with b1793 | b1793
                      · replace h := cond_t b1793 h
                        refine At.region_end [0, 1, 5, 7, 10, 120] [0] _ (st' := ⟨[(0, i64 p0), (1, lv T_retracelaw23_Act.enc p1), (5, .ptr 0 0), (7, i64 x924), (10, lv eStr y1766.1), (120, bo true)], [.blk 94 [.d (.list true (y1768.2.2.l).length (encL eStr y1768.2.2.l)), i64 y1768.2.2.most]]⟩) (tips := [(3, { orc := .val (.bool true) })]) (by kernel_rfl) (allc (congrArg D.bool b1793) all0) (fun a w hs => ⟨true, h, hs⟩)
                      · replace h := cond_f b1793 h
                        rcases tf y1768.2.1 with b1794 | b1794
                        · replace h := cond_t b1794 h
                          obtain ⟨y1795, hy1795, h⟩ := bind_some h
                          rcases tf (!(y1768.1.toList == y1795.toList)) with b1796 | b1796
                          · replace h := cond_t b1796 h
                            refine At.region_end [0, 1, 5, 7, 10, 120] [0] _ (st' := ⟨[(0, i64 p0), (1, lv T_retracelaw23_Act.enc p1), (5, .ptr 0 0), (7, i64 x924), (10, lv eStr y1766.1), (120, bo true)], [.blk 94 [.d (.list true (y1768.2.2.l).length (encL eStr y1768.2.2.l)), i64 y1768.2.2.most]]⟩) (tips := [(3, { orc := .val (.bool false) }), (5, { orc := .val (.bool true) }), (8, { orc := .cells (eStr y1795) }), (13, { orc := .val (.bool true) })]) (by kernel_rfl) (allc (congrArg D.bool b1793) (allc (congrArg D.bool b1794) (allc (elemAt_of he_str hy1795) (allc (congrArg D.bool b1796) all0)))) (fun a w hs => ⟨true, h, hs⟩)
                          · replace h := cond_f b1796 h
                            rcases tf (!y1768.2.1) with b1797 | b1797
                            · replace h := cond_t b1797 h
                              refine At.region_end [0, 1, 5, 7, 10, 120] [0] _ (st' := ⟨[(0, i64 p0), (1, lv T_retracelaw23_Act.enc p1), (5, .ptr 0 0), (7, i64 x924), (10, lv eStr y1766.1), (120, bo (!(y1768.1.toList == (⟨#[]⟩ : ByteArray).toList)))], [.blk 94 [.d (.list true (y1768.2.2.l).length (encL eStr y1768.2.2.l)), i64 y1768.2.2.most]]⟩) (tips := [(3, { orc := .val (.bool false) }), (5, { orc := .val (.bool true) }), (8, { orc := .cells (eStr y1795) }), (13, { orc := .val (.bool false) }), (16, { orc := .val (.bool true) })]) (by kernel_rfl) (allc (congrArg D.bool b1793) (allc (congrArg D.bool b1794) (allc (elemAt_of he_str hy1795) (allc (congrArg D.bool b1796) (allc (congrArg D.bool b1797) all0))))) (fun a w hs => ⟨(!(y1768.1.toList == (⟨#[]⟩ : ByteArray).toList)), h, hs⟩)
                            · replace h := cond_f b1797 h
                              refine At.region_end [0, 1, 5, 7, 10, 120] [0] _ (st' := ⟨[(0, i64 p0), (1, lv T_retracelaw23_Act.enc p1), (5, .ptr 0 0), (7, i64 x924), (10, lv eStr y1766.1), (120, bo false)], [.blk 94 [.d (.list true (y1768.2.2.l).length (encL eStr y1768.2.2.l)), i64 y1768.2.2.most]]⟩) (tips := [(3, { orc := .val (.bool false) }), (5, { orc := .val (.bool true) }), (8, { orc := .cells (eStr y1795) }), (13, { orc := .val (.bool false) }), (16, { orc := .val (.bool false) })]) (by kernel_rfl) (allc (congrArg D.bool b1793) (allc (congrArg D.bool b1794) (allc (elemAt_of he_str hy1795) (allc (congrArg D.bool b1796) (allc (congrArg D.bool b1797) all0))))) (fun a w hs => ⟨false, h, hs⟩)
                        · replace h := cond_f b1794 h
                          rcases tf (!y1768.2.1) with b1798 | b1798
                          · replace h := cond_t b1798 h
                            refine At.region_end [0, 1, 5, 7, 10, 120] [0] _ (st' := ⟨[(0, i64 p0), (1, lv T_retracelaw23_Act.enc p1), (5, .ptr 0 0), (7, i64 x924), (10, lv eStr y1766.1), (120, bo (!(y1768.1.toList == (⟨#[]⟩ : ByteArray).toList)))], [.blk 94 [.d (.list true (y1768.2.2.l).length (encL eStr y1768.2.2.l)), i64 y1768.2.2.most]]⟩) (tips := [(3, { orc := .val (.bool false) }), (5, { orc := .val (.bool false) }), (16, { orc := .val (.bool true) })]) (by kernel_rfl) (allc (congrArg D.bool b1793) (allc (congrArg D.bool b1794) (allc (congrArg D.bool b1798) all0))) (fun a w hs => ⟨(!(y1768.1.toList == (⟨#[]⟩ : ByteArray).toList)), h, hs⟩)
                          · replace h := cond_f b1798 h
                            refine At.region_end [0, 1, 5, 7, 10, 120] [0] _ (st' := ⟨[(0, i64 p0), (1, lv T_retracelaw23_Act.enc p1), (5, .ptr 0 0), (7, i64 x924), (10, lv eStr y1766.1), (120, bo false)], [.blk 94 [.d (.list true (y1768.2.2.l).length (encL eStr y1768.2.2.l)), i64 y1768.2.2.most]]⟩) (tips := [(3, { orc := .val (.bool false) }), (5, { orc := .val (.bool false) }), (16, { orc := .val (.bool false) })]) (by kernel_rfl) (allc (congrArg D.bool b1793) (allc (congrArg D.bool b1794) (allc (congrArg D.bool b1798) all0))) (fun a w hs => ⟨false, h, hs⟩)
                    · intro x1789 h
                      replace h : F_retracelaw23_StackPlays_J26 p0 x924 y1766 y1768 x1789 = some oo927 := h
                      rw [F_retracelaw23_StackPlays_J26] at h
                      refine At.cond x1789 (by kernel_rfl) (fun b1790 => ?_) (fun b1790 => ?_)
                      · replace h := cond_t b1790 h
                        refine At.seq ?_
                        refine At.region_end [4] [] _ (st' := ⟨[(4, bo false)], []⟩) (tips := []) (by kernel_rfl) all0 (norm ?_)
                        obtain ⟨r1791, h, e1792⟩ := map_inr h
                        rw [f928 _ e1792] at h
                        obtain rfl := some_eq h
                        exact At.ret fun a w hs => ret_ok hR (ρ := []) (gs := []) (by kernel_rfl) all0 (by kernel_rfl) rfl rfl a w hs _ (.inl rfl)
                      · replace h := cond_f b1790 h
                        refine At.nar [0, 1, 5, 7, 10] [0] (st' := ⟨[(0, i64 p0), (1, lv T_retracelaw23_Act.enc p1), (5, .ptr 0 0), (7, i64 x924), (10, lv eStr y1766.1)], [.blk 94 [.d (.list true (y1768.2.2.l).length (encL eStr y1768.2.2.l)), i64 y1768.2.2.most]]⟩) (by kernel_rfl) ?_
                        refine At.skip (norm ?_)
                        refine At.region_end [0, 1, 5, 6, 7] [0] _ (st' := ⟨[(0, i64 p0), (1, lv T_retracelaw23_Act.enc p1), (5, .ptr 0 0), (6, lv eStr y1766.1), (7, i64 x924)], [.blk 94 [.d (.list true (y1768.2.2.l).length (encL eStr y1768.2.2.l)), i64 y1768.2.2.most]]⟩) (tips := []) (by kernel_rfl) all0 (fun a w hs => ⟨.inl (y1766.1, y1768.2.2.l, y1768.2.2.most), h, hs⟩)
                  · replace h := cond_f b1764 h
                    refine At.seq ?_
                    obtain ⟨y1800, hy1800, h⟩ := bind_some h
                    refine At.region_end [0, 1, 5, 7, 8, 15, 16, 17] [0, 1] _ (st' := ⟨[(0, i64 p0), (1, lv T_retracelaw23_Act.enc p1), (5, .ptr 0 0), (7, i64 x924), (8, .ptr 1 0), (15, lv eStr y1800.1), (16, lv eStr y1800.2.1), (17, bo y1800.2.2)], [.blk 94 [.d (.list true (x925).length (encL eStr x925)), i64 x926], .blk 67 (T_retracelaw23_Act.pvs y1642)]⟩) (tips := [(3, { pc := some { ρ := [], n0 := 0, res := .tup [lv eStr y1800.1, lv eStr y1800.2.1, bo y1800.2.2], σ' := [], e := [] } })]) (by kernel_rfl) (allc (C_retraceref23_Cut x923 y1642.N y1800 hy1800) all0) (norm ?_)
                    refine At.seq ?_
                    obtain ⟨y1802, hy1802, h⟩ := bind_some h
                    refine At.region_end [0, 1, 5, 7, 15, 16, 17, 18, 19] [0, 2] _ (st' := ⟨[(0, i64 p0), (1, lv T_retracelaw23_Act.enc p1), (5, .ptr 0 0), (7, i64 x924), (15, lv eStr y1800.1), (16, lv eStr y1800.2.1), (17, bo y1800.2.2), (18, .row 1 (y1802.1).length), (19, bo y1802.2.1)], [.blk 94 [.d (.list true (y1802.2.2.l).length (encL eStr y1802.2.2.l)), i64 y1802.2.2.most], .row 9 1 (encL eStr y1802.1)]⟩) (tips := [(3, { pc := some { ρ := [0, 2], n0 := 1, loose := false, res := .tup [.row 1 (y1802.1).length, bo y1802.2.1], σ' := [.blk 94 [.d (.list true (y1802.2.2.l).length (encL eStr y1802.2.2.l)), i64 y1802.2.2.most], .row 9 1 (encL eStr y1802.1)], e := [1] } })]) (by kernel_rfl) (allc (C_stack_Stack_string_Take_v2 y1642.N (⟨x925, x926⟩ : T_stack_Stack_string_) y1802 hy1802) all0) (norm ?_)
                    refine At.seq ?_
                    refine At.seqJ (S := Bool) (fun s => ⟨[(0, i64 p0), (1, lv T_retracelaw23_Act.enc p1), (5, .ptr 0 0), (7, i64 x924), (15, lv eStr y1800.1), (65, bo s)], [.blk 94 [.d (.list true (y1802.2.2.l).length (encL eStr y1802.2.2.l)), i64 y1802.2.2.most]]⟩) (fun s => F_retracelaw23_StackPlays_J27 p0 x924 y1800 y1802 s = some oo927) ?_ ?_
                    · rcases tf (!(y1802.2.1 == y1800.2.2)) with b1815 | b1815
                      · replace h := cond_t b1815 h
                        refine At.region_end [0, 1, 5, 7, 15, 65] [0] _ (st' := ⟨[(0, i64 p0), (1, lv T_retracelaw23_Act.enc p1), (5, .ptr 0 0), (7, i64 x924), (15, lv eStr y1800.1), (65, bo true)], [.blk 94 [.d (.list true (y1802.2.2.l).length (encL eStr y1802.2.2.l)), i64 y1802.2.2.most]]⟩) (tips := [(3, { orc := .val (.bool true) })]) (by kernel_rfl) (allc (congrArg D.bool b1815) all0) (fun a w hs => ⟨true, h, hs⟩)
                      · replace h := cond_f b1815 h
                        obtain ⟨y1816, hy1816, h⟩ := bind_some h
                        refine At.region_end [0, 1, 5, 7, 15, 65] [0] _ (st' := ⟨[(0, i64 p0), (1, lv T_retracelaw23_Act.enc p1), (5, .ptr 0 0), (7, i64 x924), (15, lv eStr y1800.1), (65, bo (!y1816))], [.blk 94 [.d (.list true (y1802.2.2.l).length (encL eStr y1802.2.2.l)), i64 y1802.2.2.most]]⟩) (tips := [(3, { orc := .val (.bool false) }), (6, { settle := [1], pc := some { ρ := [], n0 := 0, res := bo y1816, σ' := [], e := [] } })]) (by kernel_rfl) (allc (congrArg D.bool b1815) (allc (C_retraceref23_Same y1802.1 y1800.2.1 y1816 hy1816) all0)) (fun a w hs => ⟨(!y1816), h, hs⟩)
                    · intro x1811 h
                      replace h : F_retracelaw23_StackPlays_J27 p0 x924 y1800 y1802 x1811 = some oo927 := h
                      rw [F_retracelaw23_StackPlays_J27] at h
                      refine At.cond x1811 (by kernel_rfl) (fun b1812 => ?_) (fun b1812 => ?_)
                      · replace h := cond_t b1812 h
                        refine At.seq ?_
                        refine At.region_end [4] [] _ (st' := ⟨[(4, bo false)], []⟩) (tips := []) (by kernel_rfl) all0 (norm ?_)
                        obtain ⟨r1813, h, e1814⟩ := map_inr h
                        rw [f928 _ e1814] at h
                        obtain rfl := some_eq h
                        exact At.ret fun a w hs => ret_ok hR (ρ := []) (gs := []) (by kernel_rfl) all0 (by kernel_rfl) rfl rfl a w hs _ (.inl rfl)
                      · replace h := cond_f b1812 h
                        refine At.nar [0, 1, 5, 7, 15] [0] (st' := ⟨[(0, i64 p0), (1, lv T_retracelaw23_Act.enc p1), (5, .ptr 0 0), (7, i64 x924), (15, lv eStr y1800.1)], [.blk 94 [.d (.list true (y1802.2.2.l).length (encL eStr y1802.2.2.l)), i64 y1802.2.2.most]]⟩) (by kernel_rfl) ?_
                        refine At.skip (norm ?_)
                        refine At.region_end [0, 1, 5, 6, 7] [0] _ (st' := ⟨[(0, i64 p0), (1, lv T_retracelaw23_Act.enc p1), (5, .ptr 0 0), (6, lv eStr y1800.1), (7, i64 x924)], [.blk 94 [.d (.list true (y1802.2.2.l).length (encL eStr y1802.2.2.l)), i64 y1802.2.2.most]]⟩) (tips := []) (by kernel_rfl) all0 (fun a w hs => ⟨.inl (y1800.1, y1802.2.2.l, y1802.2.2.most), h, hs⟩)
              · rintro (⟨x1713, x1714, x1715⟩ | ⟨x1726, x1727, x1728⟩) h
                · replace h : F_retracelaw23_StackPlays_J20 p0 x924 x1713 x1714 x1715 = some oo927 := h
                  rw [F_retracelaw23_StackPlays_J20] at h
                  refine At.seqJ (S := Bool) (fun s => ⟨[(0, i64 p0), (1, lv T_retracelaw23_Act.enc p1), (5, .ptr 0 0), (6, lv eStr x1713), (7, i64 x924), (136, bo s)], [.blk 94 [.d (.list true (x1714).length (encL eStr x1714)), i64 x1715]]⟩) (fun s => F_retracelaw23_StackPlays_J21 x924 x1713 x1714 x1715 s = some oo927) ?_ ?_
                  · obtain ⟨y1723, hy1723, h⟩ := bind_some h
                    rcases tf (y1723 != ((x1713).length : Int)) with b1724 | b1724
                    · replace h := cond_t b1724 h
                      refine At.region_end [0, 1, 5, 6, 7, 136] [0] _ (st' := ⟨[(0, i64 p0), (1, lv T_retracelaw23_Act.enc p1), (5, .ptr 0 0), (6, lv eStr x1713), (7, i64 x924), (136, bo true)], [.blk 94 [.d (.list true (x1714).length (encL eStr x1714)), i64 x1715]]⟩) (tips := [(1, { pc := some { ρ := [0], n0 := 1, loose := false, res := i64 y1723, σ' := [.blk 94 [.d (.list true (x1714).length (encL eStr x1714)), i64 x1715]], e := [1] } }), (5, { orc := .val (.bool true) })]) (by kernel_rfl) (allc (C_stack_Stack_string_Len_v2 (⟨x1714, x1715⟩ : T_stack_Stack_string_) y1723 hy1723) (allc (congrArg D.bool b1724) all0)) (fun a w hs => ⟨true, h, hs⟩)
                    · replace h := cond_f b1724 h
                      obtain ⟨y1725, hy1725, h⟩ := bind_some h
                      refine At.region_end [0, 1, 5, 6, 7, 136] [0] _ (st' := ⟨[(0, i64 p0), (1, lv T_retracelaw23_Act.enc p1), (5, .ptr 0 0), (6, lv eStr x1713), (7, i64 x924), (136, bo (y1725 != (w64 ((if 0 > p0 then 0 else p0) - ((x1713).length : Int)))))], [.blk 94 [.d (.list true (x1714).length (encL eStr x1714)), i64 x1715]]⟩) (tips := [(1, { pc := some { ρ := [0], n0 := 1, loose := false, res := i64 y1723, σ' := [.blk 94 [.d (.list true (x1714).length (encL eStr x1714)), i64 x1715]], e := [1] } }), (5, { orc := .val (.bool false) }), (7, { pc := some { ρ := [0], n0 := 1, loose := false, res := i64 y1725, σ' := [.blk 94 [.d (.list true (x1714).length (encL eStr x1714)), i64 x1715]], e := [1] } })]) (by kernel_rfl) (allc (C_stack_Stack_string_Len_v2 (⟨x1714, x1715⟩ : T_stack_Stack_string_) y1723 hy1723) (allc (congrArg D.bool b1724) (allc (C_stack_Stack_string_Room_v2 (⟨x1714, x1715⟩ : T_stack_Stack_string_) y1725 hy1725) all0))) (fun a w hs => ⟨(y1725 != (w64 ((if 0 > p0 then 0 else p0) - ((x1713).length : Int)))), h, hs⟩)
                  · intro x1719 h
                    replace h : F_retracelaw23_StackPlays_J21 x924 x1713 x1714 x1715 x1719 = some oo927 := h
                    rw [F_retracelaw23_StackPlays_J21] at h
                    refine At.cond x1719 (by kernel_rfl) (fun b1720 => ?_) (fun b1720 => ?_)
                    · replace h := cond_t b1720 h
                      refine At.seq ?_
                      refine At.region_end [4] [] _ (st' := ⟨[(4, bo false)], []⟩) (tips := []) (by kernel_rfl) all0 (norm ?_)
                      obtain ⟨r1721, h, e1722⟩ := map_inr h
                      rw [f928 _ e1722] at h
                      obtain rfl := some_eq h
                      exact At.ret fun a w hs => ret_ok hR (ρ := []) (gs := []) (by kernel_rfl) all0 (by kernel_rfl) rfl rfl a w hs _ (.inl rfl)
                    · replace h := cond_f b1720 h
                      refine At.nar [0, 1, 5, 6, 7] [0] (st' := ⟨[(0, i64 p0), (1, lv T_retracelaw23_Act.enc p1), (5, .ptr 0 0), (6, lv eStr x1713), (7, i64 x924)], [.blk 94 [.d (.list true (x1714).length (encL eStr x1714)), i64 x1715]]⟩) (by kernel_rfl) ?_
                      refine At.skip (fun a w hs => ⟨.inl (x1713, x1714, x1715), h, hs⟩)
                · replace h : F_retracelaw23_StackPlays_J22 p0 x924 x1726 x1727 x1728 = some oo927 := h
                  rw [F_retracelaw23_StackPlays_J22] at h
                  refine At.seqJ (S := Bool) (fun s => ⟨[(0, i64 p0), (1, lv T_retracelaw23_Act.enc p1), (5, .ptr 0 0), (6, lv eStr x1726), (7, i64 x924), (136, bo s)], [.blk 94 [.row 1 (x1728).length, i64 x1727], .row 9 1 (encL eStr x1728)]⟩) (fun s => F_retracelaw23_StackPlays_J23 x924 x1726 x1727 x1728 s = some oo927) ?_ ?_
                  · obtain ⟨y1736, hy1736, h⟩ := bind_some h
                    rcases tf (y1736 != ((x1726).length : Int)) with b1737 | b1737
                    · replace h := cond_t b1737 h
                      refine At.region_end [0, 1, 5, 6, 7, 136] [0, 1] _ (st' := ⟨[(0, i64 p0), (1, lv T_retracelaw23_Act.enc p1), (5, .ptr 0 0), (6, lv eStr x1726), (7, i64 x924), (136, bo true)], [.blk 94 [.row 1 (x1728).length, i64 x1727], .row 9 1 (encL eStr x1728)]⟩) (tips := [(1, { pc := some { ρ := [0, 1], n0 := 2, res := i64 y1736, σ' := [.blk 94 [.row 1 (x1728).length, i64 x1727], .row 9 1 (encL eStr x1728)], e := [1, 2] } }), (5, { orc := .val (.bool true) })]) (by kernel_rfl) (allc (C_stack_Stack_string_Len (⟨x1728, x1727⟩ : T_stack_Stack_string_) y1736 hy1736) (allc (congrArg D.bool b1737) all0)) (fun a w hs => ⟨true, h, hs⟩)
                    · replace h := cond_f b1737 h
                      obtain ⟨y1738, hy1738, h⟩ := bind_some h
                      refine At.region_end [0, 1, 5, 6, 7, 136] [0, 1] _ (st' := ⟨[(0, i64 p0), (1, lv T_retracelaw23_Act.enc p1), (5, .ptr 0 0), (6, lv eStr x1726), (7, i64 x924), (136, bo (y1738 != (w64 ((if 0 > p0 then 0 else p0) - ((x1726).length : Int)))))], [.blk 94 [.row 1 (x1728).length, i64 x1727], .row 9 1 (encL eStr x1728)]⟩) (tips := [(1, { pc := some { ρ := [0, 1], n0 := 2, res := i64 y1736, σ' := [.blk 94 [.row 1 (x1728).length, i64 x1727], .row 9 1 (encL eStr x1728)], e := [1, 2] } }), (5, { orc := .val (.bool false) }), (7, { pc := some { ρ := [0, 1], n0 := 2, res := i64 y1738, σ' := [.blk 94 [.row 1 (x1728).length, i64 x1727], .row 9 1 (encL eStr x1728)], e := [1, 2] } })]) (by kernel_rfl) (allc (C_stack_Stack_string_Len (⟨x1728, x1727⟩ : T_stack_Stack_string_) y1736 hy1736) (allc (congrArg D.bool b1737) (allc (C_stack_Stack_string_Room (⟨x1728, x1727⟩ : T_stack_Stack_string_) y1738 hy1738) all0))) (fun a w hs => ⟨(y1738 != (w64 ((if 0 > p0 then 0 else p0) - ((x1726).length : Int)))), h, hs⟩)
                  · intro x1732 h
                    replace h : F_retracelaw23_StackPlays_J23 x924 x1726 x1727 x1728 x1732 = some oo927 := h
                    rw [F_retracelaw23_StackPlays_J23] at h
                    refine At.cond x1732 (by kernel_rfl) (fun b1733 => ?_) (fun b1733 => ?_)
                    · replace h := cond_t b1733 h
                      refine At.seq ?_
                      refine At.region_end [4] [] _ (st' := ⟨[(4, bo false)], []⟩) (tips := []) (by kernel_rfl) all0 (norm ?_)
                      obtain ⟨r1734, h, e1735⟩ := map_inr h
                      rw [f928 _ e1735] at h
                      obtain rfl := some_eq h
                      exact At.ret fun a w hs => ret_ok hR (ρ := []) (gs := []) (by kernel_rfl) all0 (by kernel_rfl) rfl rfl a w hs _ (.inl rfl)
                    · replace h := cond_f b1733 h
                      refine At.nar [0, 1, 5, 6, 7] [0, 1] (st' := ⟨[(0, i64 p0), (1, lv T_retracelaw23_Act.enc p1), (5, .ptr 0 0), (6, lv eStr x1726), (7, i64 x924)], [.blk 94 [.row 1 (x1728).length, i64 x1727], .row 9 1 (encL eStr x1728)]⟩) (by kernel_rfl) ?_
                      refine At.skip (fun a w hs => ⟨.inr ((x1726, x1727, x1728)), h, hs⟩)
            · rintro (⟨x1635, x1636, x1637⟩ | ⟨x1638, x1639, x1640⟩) h
              · replace h : F_retracelaw23_StackPlays_J18 x924 x1635 x1636 x1637 = some oo927 := h
                rw [F_retracelaw23_StackPlays_J18] at h
                refine At.region_end [0, 1, 5, 6, 7] [0] _ (st' := ⟨[(0, i64 p0), (1, lv T_retracelaw23_Act.enc p1), (5, .ptr 0 0), (6, lv eStr x1635), (7, i64 (w64 (x924 + 1)))], [.blk 94 [.d (.list true (x1636).length (encL eStr x1636)), i64 x1637]]⟩) (tips := []) (by kernel_rfl) all0 (fun a w hs => ⟨_, (some_eq h).symm, hs⟩)
              · replace h : F_retracelaw23_StackPlays_J19 x924 x1638 x1639 x1640 = some oo927 := h
                rw [F_retracelaw23_StackPlays_J19] at h
                refine At.region_end [0, 1, 5, 6, 7] [0, 1] _ (st' := ⟨[(0, i64 p0), (1, lv T_retracelaw23_Act.enc p1), (5, .ptr 0 0), (6, lv eStr x1638), (7, i64 (w64 (x924 + 1)))], [.blk 94 [.row 1 (x1640).length, i64 x1639], .row 9 1 (encL eStr x1640)]⟩) (tips := []) (by kernel_rfl) all0 (fun a w hs => ⟨_, (some_eq h).symm, hs⟩)
          · replace h := cond_f b1470 h
            refine At.nar [] [] (st' := ⟨[], []⟩) (by kernel_rfl) ?_
            obtain ⟨r1817, h, e1818⟩ := map_inr h
            rw [f928 _ e1818] at h
            refine At.exit (fun a w hs => ⟨(), h, hs⟩)
      · intro _ h
        replace h : F_retracelaw23_StackPlays_J2 = some r := h
        rw [F_retracelaw23_StackPlays_J2] at h
        refine At.seq ?_
        obtain ⟨y918, hy918, h⟩ := bind_some h
        refine At.region_end [4] [] _ (st' := ⟨[(4, bo y918)], []⟩) (tips := [(0, { pc := some { ρ := [], n0 := 0, res := bo y918, σ' := [], e := [] } })]) (by kernel_rfl) (allc (C_retracelaw23_live y918 hy918) all0) (norm ?_)
        obtain rfl := some_eq h
        exact At.ret fun a w hs => ret_ok hR (ρ := []) (gs := []) (by kernel_rfl) all0 (by kernel_rfl) rfl rfl a w hs _ (.inl rfl)
end Go.Ab
