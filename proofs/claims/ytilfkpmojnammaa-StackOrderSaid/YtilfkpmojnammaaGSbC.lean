import Derived.Test.YtilfkpmojnammaaGSb
namespace Go.Ab
open Go.Proofs
set_option linter.unusedVariables false
set_option maxRecDepth 100000 in
theorem C_stack_New_int (p0 : Int) (r : T_stack_Stack_int_) (h : F_stack_New_int p0 = some r) : FnOK Try.prog 46 [i64 p0] [] (.ptr 0 0) [.blk 98 [.d (.list true 0 []), i64 r.most]] [] := by
  rw [F_stack_New_int] at h
  refine FnOK.intro Try.func46 rfl (by kernel_rfl) (by kernel_rfl) fun E gv R hR => ?_
  refine At.seq ?_
  refine At.region_end [0] [] _ (st' := ⟨[(0, i64 p0)], []⟩) (tips := []) (by kernel_rfl) all0 (norm ?_)
  refine At.seq ?_
  refine At.region_end [2] [0] _ (st' := ⟨[(2, .ptr 0 0)], [.blk 98 [.d (.list true 0 []), i64 (if 0 > p0 then 0 else p0)]]⟩) (tips := []) (by kernel_rfl) all0 (norm ?_)
  obtain rfl := some_eq h
  exact At.ret fun a w hs => ret_ok hR (ρ := [0]) (gs := []) (by kernel_rfl) all0 (by kernel_rfl) rfl rfl a w hs _ (.inl rfl)
set_option maxRecDepth 100000 in
theorem C_stack_Stack_int_Room (o0 : T_stack_Stack_int_) (r : Int) (h : F_stack_Stack_int_Room o0 = some r) : FnOK Try.prog 50 [.ptr 0 0] [.blk 98 [.row 1 (o0.l).length, i64 o0.most], .row 3 1 (encL (eInt .i64) o0.l)] (i64 r) [.blk 98 [.row 1 (o0.l).length, i64 o0.most], .row 3 1 (encL (eInt .i64) o0.l)] [1, 2] := by
  rw [F_stack_Stack_int_Room] at h
  refine FnOK.intro Try.func50 rfl (by kernel_rfl) (by kernel_rfl) fun E gv R hR => ?_
  refine At.seq ?_
  refine At.region_end [0] [0, 1, 2, 3] _ (st' := ⟨[(0, .ptr 0 0)], [.blk 98 [.row 1 (o0.l).length, i64 o0.most], .row 3 1 (encL (eInt .i64) o0.l), .ghost (gv 0) (.ptr 0 0), .ghost (gv 1) (.row 1 0)]⟩) (tips := []) (by kernel_rfl) all0 (norm ?_)
  refine At.seq ?_
  refine At.seq ?_
  refine At.region_end [0, 4] [0, 1, 2, 3] _ (st' := ⟨[(0, .ptr 0 0), (4, bo false)], [.blk 98 [.row 1 (o0.l).length, i64 o0.most], .row 3 1 (encL (eInt .i64) o0.l), .ghost (gv 0) (.ptr 0 0), .ghost (gv 1) (.row 1 0)]⟩) (tips := []) (by kernel_rfl) all0 (norm ?_)
  refine At.cond false (by kernel_rfl) (fun hb => by cases hb) (fun _ => ?_)
  refine At.nar [0] [0, 1, 2, 3] (st' := ⟨[(0, .ptr 0 0)], [.blk 98 [.row 1 (o0.l).length, i64 o0.most], .row 3 1 (encL (eInt .i64) o0.l), .ghost (gv 0) (.ptr 0 0), .ghost (gv 1) (.row 1 0)]⟩) (by kernel_rfl) ?_
  refine At.skip (norm ?_)
  refine At.seq ?_
  refine At.draw_end mixedOrd 0 [2] [0, 1, 2, 3] _ (st' := ⟨[(2, i64 (w64 (o0.most - ((o0.l).length : Int))))], [.blk 98 [.row 1 (o0.l).length, i64 o0.most], .row 3 1 (encL (eInt .i64) o0.l), .ghost (gv 0) (.ptr 0 0), .ghost (gv 1) (.row 1 0)]⟩) (tips := [(0, { r := 4 }), (1, { r := 4 }), (2, { r := 4 }), (3, { T := [0], r := 4 }), (4, { r := 4 }), (5, { r := 4 }), (6, { r := 4 }), (7, { T := [0], r := 4 }), (8, { r := 4 })]) (by kernel_rfl) all0 (norm ?_)
  obtain rfl := some_eq h
  exact At.ret fun a w hs => ret_ok hR (ρ := [0, 1]) (gs := [.ghost (gv 0) (.ptr 0 0), .ghost (gv 1) (.row 1 0)]) (by kernel_rfl) all0 (by kernel_rfl) rfl rfl a w hs _ (.inl rfl)
set_option maxRecDepth 100000 in
theorem C_stack_Stack_int_Push (p1 : Int) (o0 : T_stack_Stack_int_) (r : Bool × T_stack_Stack_int_) (h : F_stack_Stack_int_Push p1 o0 = some r) : FnOK Try.prog 47 [.ptr 0 0, i64 p1] [.blk 98 [.row 1 (o0.l).length, i64 o0.most], .row 3 1 (encL (eInt .i64) o0.l)] (bo r.1) [.blk 98 [.row 1 (r.2.l).length, i64 r.2.most], .row 3 1 (encL (eInt .i64) r.2.l)] [1, 2, 3] := by
  rw [F_stack_Stack_int_Push] at h
  refine FnOK.intro Try.func47 rfl (by kernel_rfl) (by kernel_rfl) fun E gv R hR => ?_
  refine At.seq ?_
  refine At.region_end [0, 1] [0, 1, 2, 3] _ (st' := ⟨[(0, .ptr 0 0), (1, i64 p1)], [.blk 98 [.row 1 (o0.l).length, i64 o0.most], .row 3 1 (encL (eInt .i64) o0.l), .ghost (gv 0) (.ptr 0 0), .ghost (gv 1) (.row 1 0)]⟩) (tips := []) (by kernel_rfl) all0 (norm ?_)
  refine At.seq ?_
  refine At.seq ?_
  obtain ⟨y5, hy5, h⟩ := bind_some h
  refine At.region_end [0, 1, 7] [0, 1, 2, 3] _ (st' := ⟨[(0, .ptr 0 0), (1, i64 p1), (7, bo (y5 == 0))], [.blk 98 [.row 1 (o0.l).length, i64 o0.most], .row 3 1 (encL (eInt .i64) o0.l), .ghost (gv 0) (.ptr 0 0), .ghost (gv 1) (.row 1 0)]⟩) (tips := [(1, { pc := some { ρ := [0, 1], n0 := 2, res := i64 y5, σ' := [.blk 98 [.row 1 (o0.l).length, i64 o0.most], .row 3 1 (encL (eInt .i64) o0.l)], e := [1, 2] } })]) (by kernel_rfl) (allc (C_stack_Stack_int_Room o0 y5 hy5) all0) (norm ?_)
  refine At.cond (y5 == 0) (by kernel_rfl) (fun b6 => ?_) (fun b6 => ?_)
  · replace h := cond_t b6 h
    refine At.seq ?_
    refine At.region_end [4] [0, 1, 2, 3] _ (st' := ⟨[(4, bo false)], [.blk 98 [.row 1 (o0.l).length, i64 o0.most], .row 3 1 (encL (eInt .i64) o0.l), .ghost (gv 0) (.ptr 0 0), .ghost (gv 1) (.row 1 0)]⟩) (tips := []) (by kernel_rfl) all0 (norm ?_)
    refine At.edNar [.hideG 3] [4] [0, 1, 2, 3] (st' := ⟨[(4, bo false)], [.blk 98 [.row 1 (o0.l).length, i64 o0.most], .row 3 1 (encL (eInt .i64) o0.l), .ghost (gv 0) (.ptr 0 0), .ghost (gv 1) (.undef)]⟩) (by kernel_rfl) ?_
    obtain rfl := some_eq h
    exact At.ret fun a w hs => ret_ok hR (ρ := [0, 1]) (gs := [.ghost (gv 0) (.ptr 0 0), .ghost (gv 1) (.undef)]) (by kernel_rfl) all0 (by kernel_rfl) rfl rfl a w hs _ (.inl rfl)
  · replace h := cond_f b6 h
    refine At.nar [0, 1] [0, 1, 2, 3] (st' := ⟨[(0, .ptr 0 0), (1, i64 p1)], [.blk 98 [.row 1 (o0.l).length, i64 o0.most], .row 3 1 (encL (eInt .i64) o0.l), .ghost (gv 0) (.ptr 0 0), .ghost (gv 1) (.row 1 0)]⟩) (by kernel_rfl) ?_
    refine At.skip (norm ?_)
    refine At.seq ?_
    obtain ⟨g8, h⟩ := grd_some h
    refine At.region_end [] [0, 1, 2, 3] _ (st' := ⟨[], [.blk 98 [.row 1 ((o0.l ++ [p1])).length, i64 o0.most], .row 3 1 (encL (eInt .i64) (o0.l ++ [p1])), .ghost (gv 0) (.ptr 0 0), .ghost (gv 1) (.undef)]⟩) (tips := [(7, { form := some ((o0.l ++ [p1]).length, encL (eInt .i64) (o0.l ++ [p1])) })]) (by kernel_rfl) (allc (len_app o0.l ([p1])) (allc (encL_app (eInt .i64) o0.l ([p1])) (allc (app_ok (he_int .i64) (by decide) g8) (allc (encL_len (he_int .i64) ([p1])) all0)))) (norm ?_)
    refine At.seq ?_
    refine At.region_end [4] [0, 1, 2, 3] _ (st' := ⟨[(4, bo true)], [.blk 98 [.row 1 ((o0.l ++ [p1])).length, i64 o0.most], .row 3 1 (encL (eInt .i64) (o0.l ++ [p1])), .ghost (gv 0) (.ptr 0 0), .ghost (gv 1) (.undef)]⟩) (tips := []) (by kernel_rfl) all0 (norm ?_)
    obtain rfl := some_eq h
    exact At.ret fun a w hs => ret_ok hR (ρ := [0, 1]) (gs := [.ghost (gv 0) (.ptr 0 0), .ghost (gv 1) (.undef)]) (by kernel_rfl) all0 (by kernel_rfl) rfl rfl a w hs _ (.inl rfl)
set_option maxRecDepth 100000 in
theorem C_stack_Stack_int_Len (o0 : T_stack_Stack_int_) (r : Int) (h : F_stack_Stack_int_Len o0 = some r) : FnOK Try.prog 49 [.ptr 0 0] [.blk 98 [.row 1 (o0.l).length, i64 o0.most], .row 3 1 (encL (eInt .i64) o0.l)] (i64 r) [.blk 98 [.row 1 (o0.l).length, i64 o0.most], .row 3 1 (encL (eInt .i64) o0.l)] [1, 2] := by
  rw [F_stack_Stack_int_Len] at h
  refine FnOK.intro Try.func49 rfl (by kernel_rfl) (by kernel_rfl) fun E gv R hR => ?_
  refine At.seq ?_
  refine At.region_end [0] [0, 1, 2, 3] _ (st' := ⟨[(0, .ptr 0 0)], [.blk 98 [.row 1 (o0.l).length, i64 o0.most], .row 3 1 (encL (eInt .i64) o0.l), .ghost (gv 0) (.ptr 0 0), .ghost (gv 1) (.row 1 0)]⟩) (tips := []) (by kernel_rfl) all0 (norm ?_)
  refine At.seq ?_
  refine At.seq ?_
  refine At.region_end [0, 4] [0, 1, 2, 3] _ (st' := ⟨[(0, .ptr 0 0), (4, bo false)], [.blk 98 [.row 1 (o0.l).length, i64 o0.most], .row 3 1 (encL (eInt .i64) o0.l), .ghost (gv 0) (.ptr 0 0), .ghost (gv 1) (.row 1 0)]⟩) (tips := []) (by kernel_rfl) all0 (norm ?_)
  refine At.cond false (by kernel_rfl) (fun hb => by cases hb) (fun _ => ?_)
  refine At.nar [0] [0, 1, 2, 3] (st' := ⟨[(0, .ptr 0 0)], [.blk 98 [.row 1 (o0.l).length, i64 o0.most], .row 3 1 (encL (eInt .i64) o0.l), .ghost (gv 0) (.ptr 0 0), .ghost (gv 1) (.row 1 0)]⟩) (by kernel_rfl) ?_
  refine At.skip (norm ?_)
  refine At.seq ?_
  refine At.region_end [2] [0, 1, 2, 3] _ (st' := ⟨[(2, i64 ((o0.l).length : Int))], [.blk 98 [.row 1 (o0.l).length, i64 o0.most], .row 3 1 (encL (eInt .i64) o0.l), .ghost (gv 0) (.ptr 0 0), .ghost (gv 1) (.row 1 0)]⟩) (tips := []) (by kernel_rfl) all0 (norm ?_)
  obtain rfl := some_eq h
  exact At.ret fun a w hs => ret_ok hR (ρ := [0, 1]) (gs := [.ghost (gv 0) (.ptr 0 0), .ghost (gv 1) (.row 1 0)]) (by kernel_rfl) all0 (by kernel_rfl) rfl rfl a w hs _ (.inl rfl)
set_option maxRecDepth 100000 in
theorem C_slices_Clone_int_int (p0 : (List Int)) (r : (List Int)) (h : F_slices_Clone_int_int p0 = some r) : FnOK Try.prog 54 [lv (eInt .i64) p0] [] (.row 0 (r).length) [.row 3 1 (encL (eInt .i64) r)] [] := by
  rw [F_slices_Clone_int_int] at h
  refine FnOK.intro Try.func54 rfl (by kernel_rfl) (by kernel_rfl) fun E gv R hR => ?_
  refine At.seq ?_
  refine At.region_end [0] [] _ (st' := ⟨[(0, lv (eInt .i64) p0)], []⟩) (tips := []) (by kernel_rfl) all0 (norm ?_)
  refine At.seq ?_
  refine At.seq ?_
  refine At.nilEq (t0 := 0) (t3 := 3) (t4 := 4) (e := 3) (tt := false) (k := (p0).length) (xs := encL (eInt .i64) p0) rfl rfl rfl rfl rfl rfl (by decide) (by decide) (by kernel_rfl) (by kernel_rfl) ?_
  rintro (_ | _) hk
  · refine norm ?_
    refine At.nar [0, 4] [] (st' := ⟨[(0, lv (eInt .i64) p0), (4, bo false)], []⟩) (by kernel_rfl) ?_
    refine At.cond false (by kernel_rfl) (fun hb => by cases hb) (fun _ => ?_)
    refine At.nar [0] [] (st' := ⟨[(0, lv (eInt .i64) p0)], []⟩) (by kernel_rfl) ?_
    refine At.skip (norm ?_)
    refine At.seq ?_
    obtain ⟨g2, h⟩ := grd_some h
    refine At.region_end [2] [0] _ (st' := ⟨[(2, .row 0 ((([] : List Int) ++ p0)).length)], [.row 3 1 (encL (eInt .i64) (([] : List Int) ++ p0))]⟩) (tips := [(2, { form := some ((([] : List Int) ++ p0).length, encL (eInt .i64) (([] : List Int) ++ p0)) })]) (by kernel_rfl) (allc (len_app ([] : List Int) p0) (allc (encL_app (eInt .i64) ([] : List Int) p0) (allc (app_ok (he_int .i64) (by decide) g2) (allc (encL_len (he_int .i64) p0) all0)))) (norm ?_)
    obtain rfl := some_eq h
    exact At.ret fun a w hs => ret_ok hR (ρ := [0]) (gs := []) (by kernel_rfl) all0 (by kernel_rfl) rfl rfl a w hs _ (.inl rfl)
  · obtain rfl := List.length_eq_zero_iff.1 (hk rfl)
    obtain ⟨_, h⟩ := grd_some h
    refine norm ?_
    refine At.nar [0, 4] [] (st' := ⟨[(0, lv (eInt .i64) ([] : List Int)), (4, bo true)], []⟩) (by kernel_rfl) ?_
    refine At.cond true (by kernel_rfl) (fun _ => ?_) (fun hb => by cases hb)
    refine At.seq ?_
    refine At.region_end [2] [] _ (st' := ⟨[(2, .d (.list true 0 []))], []⟩) (tips := []) (by kernel_rfl) all0 (norm ?_)
    refine At.edNar [.ownS 2 3 1] [2] [0] (st' := ⟨[(2, .row 0 ([] : List Int).length)], [.row 3 1 (encL (eInt .i64) ([]))]⟩) (by kernel_rfl) ?_
    obtain rfl := some_eq h
    exact At.ret fun a w hs => ret_ok hR (ρ := [0]) (gs := []) (by kernel_rfl) all0 (by kernel_rfl) rfl rfl a w hs _ (.inl rfl)
set_option maxRecDepth 100000 in
theorem C_stack_Stack_int_Take (p1 : Int) (o0 : T_stack_Stack_int_) (r : ((List Int) × Bool) ⊕ ((List Int) × Bool × T_stack_Stack_int_)) (h : F_stack_Stack_int_Take p1 o0 = some r) : FnOK Try.prog 48 [.ptr 0 0, i64 p1] [.blk 98 [.row 1 (o0.l).length, i64 o0.most], .row 3 1 (encL (eInt .i64) o0.l)] ((Sum.elim (fun r => .tup [.row 2 (r.1).length, bo r.2]) (fun r => .tup [.row 2 (r.1).length, bo r.2.1])) r) ((Sum.elim (fun r => [.blk 98 [.row 1 (o0.l).length, i64 o0.most], .row 3 1 (encL (eInt .i64) o0.l), .row 3 1 (encL (eInt .i64) r.1)]) (fun r => [.blk 98 [.d (.list true (r.2.2.l).length (encL (eInt .i64) r.2.2.l)), i64 r.2.2.most], .dead, .row 3 1 (encL (eInt .i64) r.1)])) r) [1, 2, 3] := by
  rw [F_stack_Stack_int_Take] at h
  refine FnOK.intro Try.func48 rfl (by kernel_rfl) (by kernel_rfl) fun E gv R hR => ?_
  refine At.seq ?_
  refine At.region_end [0, 1] [0, 1, 2, 3] _ (st' := ⟨[(0, .ptr 0 0), (1, i64 p1)], [.blk 98 [.row 1 (o0.l).length, i64 o0.most], .row 3 1 (encL (eInt .i64) o0.l), .ghost (gv 0) (.ptr 0 0), .ghost (gv 1) (.row 1 0)]⟩) (tips := []) (by kernel_rfl) all0 (norm ?_)
  refine At.seq ?_
  obtain ⟨y2, hy2, h⟩ := bind_some h
  refine At.region_end [0, 1, 6] [0, 1, 2, 3] _ (st' := ⟨[(0, .ptr 0 0), (1, i64 p1), (6, i64 (w64 (y2 - p1)))], [.blk 98 [.row 1 (o0.l).length, i64 o0.most], .row 3 1 (encL (eInt .i64) o0.l), .ghost (gv 0) (.ptr 0 0), .ghost (gv 1) (.row 1 0)]⟩) (tips := [(1, { pc := some { ρ := [0, 1], n0 := 2, res := i64 y2, σ' := [.blk 98 [.row 1 (o0.l).length, i64 o0.most], .row 3 1 (encL (eInt .i64) o0.l)], e := [1, 2] } })]) (by kernel_rfl) (allc (C_stack_Stack_int_Len o0 y2 hy2) all0) (norm ?_)
  refine At.seq ?_
  refine At.seqJ (S := Bool) (fun s => ⟨[(0, .ptr 0 0), (6, i64 (w64 (y2 - p1))), (21, bo s)], [.blk 98 [.row 1 (o0.l).length, i64 o0.most], .row 3 1 (encL (eInt .i64) o0.l), .ghost (gv 0) (.ptr 0 0), .ghost (gv 1) (.row 1 0)]⟩) (fun s => F_stack_Stack_int_Take_J1 p1 o0 y2 s = some r) ?_ ?_
  · rcases tf (decide (p1 < 0)) with b16 | b16
    · replace h := cond_t b16 h
      refine At.region_end [0, 6, 21] [0, 1, 2, 3] _ (st' := ⟨[(0, .ptr 0 0), (6, i64 (w64 (y2 - p1))), (21, bo true)], [.blk 98 [.row 1 (o0.l).length, i64 o0.most], .row 3 1 (encL (eInt .i64) o0.l), .ghost (gv 0) (.ptr 0 0), .ghost (gv 1) (.row 1 0)]⟩) (tips := [(6, { orc := .val (.bool true) })]) (by kernel_rfl) (allc (congrArg D.bool b16) all0) (fun a w hs => ⟨true, h, hs⟩)
    · replace h := cond_f b16 h
      refine At.region_end [0, 6, 21] [0, 1, 2, 3] _ (st' := ⟨[(0, .ptr 0 0), (6, i64 (w64 (y2 - p1))), (21, bo (decide ((w64 (y2 - p1)) < 0)))], [.blk 98 [.row 1 (o0.l).length, i64 o0.most], .row 3 1 (encL (eInt .i64) o0.l), .ghost (gv 0) (.ptr 0 0), .ghost (gv 1) (.row 1 0)]⟩) (tips := [(6, { orc := .val (.bool false) })]) (by kernel_rfl) (allc (congrArg D.bool b16) all0) (fun a w hs => ⟨(decide ((w64 (y2 - p1)) < 0)), h, hs⟩)
  · intro x8 h
    replace h : F_stack_Stack_int_Take_J1 p1 o0 y2 x8 = some r := h
    rw [F_stack_Stack_int_Take_J1] at h
    refine At.cond x8 (by kernel_rfl) (fun b9 => ?_) (fun b9 => ?_)
    · replace h := cond_t b9 h
      refine At.seq ?_
      refine At.region_end [4, 5] [0, 1, 2, 3] _ (st' := ⟨[(4, .d (.list true 0 [])), (5, bo false)], [.blk 98 [.row 1 (o0.l).length, i64 o0.most], .row 3 1 (encL (eInt .i64) o0.l), .ghost (gv 0) (.ptr 0 0), .ghost (gv 1) (.row 1 0)]⟩) (tips := []) (by kernel_rfl) all0 (norm ?_)
      refine At.edNar [.hideG 3, .ownS 4 3 1] [4, 5] [0, 1, 2, 3, 4] (st' := ⟨[(4, .row 4 ([] : List Int).length), (5, bo false)], [.blk 98 [.row 1 (o0.l).length, i64 o0.most], .row 3 1 (encL (eInt .i64) o0.l), .ghost (gv 0) (.ptr 0 0), .ghost (gv 1) (.undef), .row 3 1 (encL (eInt .i64) ([]))]⟩) (by kernel_rfl) ?_
      obtain rfl := some_eq h
      exact At.ret fun a w hs => ret_ok hR (ρ := [0, 1, 4]) (gs := [.ghost (gv 0) (.ptr 0 0), .ghost (gv 1) (.undef)]) (by kernel_rfl) all0 (by kernel_rfl) rfl rfl a w hs _ (.inl rfl)
    · replace h := cond_f b9 h
      refine At.nar [0, 6] [0, 1, 2, 3] (st' := ⟨[(0, .ptr 0 0), (6, i64 (w64 (y2 - p1)))], [.blk 98 [.row 1 (o0.l).length, i64 o0.most], .row 3 1 (encL (eInt .i64) o0.l), .ghost (gv 0) (.ptr 0 0), .ghost (gv 1) (.row 1 0)]⟩) (by kernel_rfl) ?_
      refine At.skip (norm ?_)
      refine At.seq ?_
      obtain ⟨g12, h⟩ := grd_some h
      obtain ⟨y13, hy13, h⟩ := bind_some h
      refine At.region_end [0, 6, 7] [0, 1, 2, 3, 4] _ (st' := ⟨[(0, .ptr 0 0), (6, i64 (w64 (y2 - p1))), (7, .row 4 (y13).length)], [.blk 98 (T_stack_Stack_int_.pvs o0), .dead, .ghost (gv 0) (.ptr 0 0), .ghost (gv 1) (.d (.list false 0 (encL (eInt .i64) o0.l))), .row 3 1 (encL (eInt .i64) y13)]⟩) (tips := [(5, { form := some ((lCut o0.l (w64 (y2 - p1)) ((o0.l).length : Int)).length, encL (eInt .i64) (lCut o0.l (w64 (y2 - p1)) ((o0.l).length : Int))) }), (6, { pc := some { ρ := [4], n0 := 0, res := .row 0 (y13).length, σ' := [.row 3 1 (encL (eInt .i64) y13)], e := [] } })]) (by kernel_rfl) (allc ((cut_ok (he_int .i64) g12).1) (allc ((cut_ok (he_int .i64) g12).2) (allc g12 (allc (C_slices_Clone_int_int (lCut o0.l (w64 (y2 - p1)) ((o0.l).length : Int)) y13 hy13) all0)))) (norm ?_)
      refine At.seq ?_
      obtain ⟨g15, h⟩ := grd_some h
      refine At.region_end [7] [0, 1, 2, 3, 4] _ (st' := ⟨[(7, .row 4 (y13).length)], [.blk 98 [.d (.list true ((lCut o0.l 0 (w64 (y2 - p1)))).length (encL (eInt .i64) (lCut o0.l 0 (w64 (y2 - p1))))), i64 o0.most], .dead, .ghost (gv 0) (.ptr 0 0), .ghost (gv 1) (.d (.list false 0 (encL (eInt .i64) o0.l))), .row 3 1 (encL (eInt .i64) y13)]⟩) (tips := [(7, { form := some ((lCut o0.l 0 (w64 (y2 - p1))).length, encL (eInt .i64) (lCut o0.l 0 (w64 (y2 - p1)))) })]) (by kernel_rfl) (allc ((cut_ok3 (he_int .i64) g15).1) (allc ((cut_ok3 (he_int .i64) g15).2) (allc g15 all0))) (norm ?_)
      refine At.seq ?_
      refine At.region_end [4, 5] [0, 1, 2, 3, 4] _ (st' := ⟨[(4, .row 4 (y13).length), (5, bo true)], [.blk 98 [.d (.list true ((lCut o0.l 0 (w64 (y2 - p1)))).length (encL (eInt .i64) (lCut o0.l 0 (w64 (y2 - p1))))), i64 o0.most], .dead, .ghost (gv 0) (.ptr 0 0), .ghost (gv 1) (.d (.list false 0 (encL (eInt .i64) o0.l))), .row 3 1 (encL (eInt .i64) y13)]⟩) (tips := []) (by kernel_rfl) all0 (norm ?_)
      refine At.edNar [.hideG 3] [4, 5] [0, 1, 2, 3, 4] (st' := ⟨[(4, .row 4 (y13).length), (5, bo true)], [.blk 98 [.d (.list true ((lCut o0.l 0 (w64 (y2 - p1)))).length (encL (eInt .i64) (lCut o0.l 0 (w64 (y2 - p1))))), i64 o0.most], .dead, .ghost (gv 0) (.ptr 0 0), .ghost (gv 1) (.undef), .row 3 1 (encL (eInt .i64) y13)]⟩) (by kernel_rfl) ?_
      obtain rfl := some_eq h
      exact At.ret fun a w hs => ret_ok hR (ρ := [0, 1, 4]) (gs := [.ghost (gv 0) (.ptr 0 0), .ghost (gv 1) (.undef)]) (by kernel_rfl) all0 (by kernel_rfl) rfl rfl a w hs _ (.inl rfl)
set_option maxRecDepth 100000 in
theorem C_stack_Stack_int_Len_v2 (o0 : T_stack_Stack_int_) (r : Int) (h : F_stack_Stack_int_Len_v2 o0 = some r) : FnOK Try.prog 49 [.ptr 0 0] [.blk 98 [.d (.list true (o0.l).length (encL (eInt .i64) o0.l)), i64 o0.most]] (i64 r) [.blk 98 [.d (.list true (o0.l).length (encL (eInt .i64) o0.l)), i64 o0.most]] [1] := by
  rw [F_stack_Stack_int_Len_v2] at h
  refine FnOK.intro Try.func49 rfl (by kernel_rfl) (by kernel_rfl) fun E gv R hR => ?_
  refine At.seq ?_
  refine At.region_end [0] [0, 1] _ (st' := ⟨[(0, .ptr 0 0)], [.blk 98 [.d (.list true (o0.l).length (encL (eInt .i64) o0.l)), i64 o0.most], .ghost (gv 0) (.ptr 0 0)]⟩) (tips := []) (by kernel_rfl) all0 (norm ?_)
  refine At.seq ?_
  refine At.seq ?_
  refine At.region_end [0, 4] [0, 1] _ (st' := ⟨[(0, .ptr 0 0), (4, bo false)], [.blk 98 [.d (.list true (o0.l).length (encL (eInt .i64) o0.l)), i64 o0.most], .ghost (gv 0) (.ptr 0 0)]⟩) (tips := []) (by kernel_rfl) all0 (norm ?_)
  refine At.cond false (by kernel_rfl) (fun hb => by cases hb) (fun _ => ?_)
  refine At.nar [0] [0, 1] (st' := ⟨[(0, .ptr 0 0)], [.blk 98 [.d (.list true (o0.l).length (encL (eInt .i64) o0.l)), i64 o0.most], .ghost (gv 0) (.ptr 0 0)]⟩) (by kernel_rfl) ?_
  refine At.skip (norm ?_)
  refine At.seq ?_
  refine At.region_end [2] [0, 1] _ (st' := ⟨[(2, i64 ((o0.l).length : Int))], [.blk 98 [.d (.list true (o0.l).length (encL (eInt .i64) o0.l)), i64 o0.most], .ghost (gv 0) (.ptr 0 0)]⟩) (tips := []) (by kernel_rfl) all0 (norm ?_)
  obtain rfl := some_eq h
  exact At.ret fun a w hs => ret_ok hR (ρ := [0]) (gs := [.ghost (gv 0) (.ptr 0 0)]) (by kernel_rfl) all0 (by kernel_rfl) rfl rfl a w hs _ (.inl rfl)
set_option maxRecDepth 100000 in
theorem C_stack_Stack_int_Room_v2 (o0 : T_stack_Stack_int_) (r : Int) (h : F_stack_Stack_int_Room_v2 o0 = some r) : FnOK Try.prog 50 [.ptr 0 0] [.blk 98 [.d (.list true (o0.l).length (encL (eInt .i64) o0.l)), i64 o0.most]] (i64 r) [.blk 98 [.d (.list true (o0.l).length (encL (eInt .i64) o0.l)), i64 o0.most]] [1] := by
  rw [F_stack_Stack_int_Room_v2] at h
  refine FnOK.intro Try.func50 rfl (by kernel_rfl) (by kernel_rfl) fun E gv R hR => ?_
  refine At.seq ?_
  refine At.region_end [0] [0, 1] _ (st' := ⟨[(0, .ptr 0 0)], [.blk 98 [.d (.list true (o0.l).length (encL (eInt .i64) o0.l)), i64 o0.most], .ghost (gv 0) (.ptr 0 0)]⟩) (tips := []) (by kernel_rfl) all0 (norm ?_)
  refine At.seq ?_
  refine At.seq ?_
  refine At.region_end [0, 4] [0, 1] _ (st' := ⟨[(0, .ptr 0 0), (4, bo false)], [.blk 98 [.d (.list true (o0.l).length (encL (eInt .i64) o0.l)), i64 o0.most], .ghost (gv 0) (.ptr 0 0)]⟩) (tips := []) (by kernel_rfl) all0 (norm ?_)
  refine At.cond false (by kernel_rfl) (fun hb => by cases hb) (fun _ => ?_)
  refine At.nar [0] [0, 1] (st' := ⟨[(0, .ptr 0 0)], [.blk 98 [.d (.list true (o0.l).length (encL (eInt .i64) o0.l)), i64 o0.most], .ghost (gv 0) (.ptr 0 0)]⟩) (by kernel_rfl) ?_
  refine At.skip (norm ?_)
  refine At.seq ?_
  refine At.draw_end mixedOrd 0 [2] [0, 1] _ (st' := ⟨[(2, i64 (w64 (o0.most - ((o0.l).length : Int))))], [.blk 98 [.d (.list true (o0.l).length (encL (eInt .i64) o0.l)), i64 o0.most], .ghost (gv 0) (.ptr 0 0)]⟩) (tips := [(0, { r := 2 }), (1, { r := 2 }), (2, { r := 2 }), (3, { T := [0], r := 2 }), (4, { r := 2 }), (5, { r := 2 }), (6, { r := 2 }), (7, { T := [0], r := 2 }), (8, { r := 2 })]) (by kernel_rfl) all0 (norm ?_)
  obtain rfl := some_eq h
  exact At.ret fun a w hs => ret_ok hR (ρ := [0]) (gs := [.ghost (gv 0) (.ptr 0 0)]) (by kernel_rfl) all0 (by kernel_rfl) rfl rfl a w hs _ (.inl rfl)
set_option maxRecDepth 100000 in
theorem C_retracelaw23_live  (r : Bool) (h : F_retracelaw23_live  = some r) : FnOK Try.prog 32 [] [] (bo r) [] [] := by
  rw [F_retracelaw23_live] at h
  refine FnOK.intro Try.func32 rfl (by kernel_rfl) (by kernel_rfl) fun E gv R hR => ?_
  refine At.seq ?_
  refine At.region_end [] [] _ (st' := ⟨[], []⟩) (tips := []) (by kernel_rfl) all0 (norm ?_)
  refine At.seq ?_
  obtain ⟨y2, hy2, h⟩ := bind_some h
  refine At.region_end [1] [0] _ (st' := ⟨[(1, .ptr 0 0)], [.blk 98 [.d (.list true 0 []), i64 y2.most]]⟩) (tips := [(0, { pc := some { ρ := [0], n0 := 0, res := .ptr 0 0, σ' := [.blk 98 [.d (.list true 0 []), i64 y2.most]], e := [] } })]) (by kernel_rfl) (allc (C_stack_New_int 2 y2 hy2) all0) (norm ?_)
  refine At.seq ?_
  refine At.eds [.ownO 0 0 3 1] (st' := ⟨[(1, .ptr 0 0)], [.blk 98 [.row 1 ([] : List Int).length, i64 y2.most], .row 3 1 (encL (eInt .i64) ([]))]⟩) (by kernel_rfl) ?_
  obtain ⟨y6, hy6, h⟩ := bind_some h
  obtain ⟨y7, hy7, h⟩ := bind_some h
  obtain ⟨y8, hy8, h⟩ := bind_some h
  refine At.region_end [1, 2, 3, 4] [0, 1] _ (st' := ⟨[(1, .ptr 0 0), (2, bo y6.1), (3, bo y7.1), (4, bo y8.1)], [.blk 98 [.row 1 (y8.2.l).length, i64 y8.2.most], .row 3 1 (encL (eInt .i64) y8.2.l)]⟩) (tips := [(1, { pc := some { ρ := [0, 1], n0 := 2, res := bo y6.1, σ' := [.blk 98 [.row 1 (y6.2.l).length, i64 y6.2.most], .row 3 1 (encL (eInt .i64) y6.2.l)], e := [1, 2, 3] } }), (3, { pc := some { ρ := [0, 1], n0 := 2, res := bo y7.1, σ' := [.blk 98 [.row 1 (y7.2.l).length, i64 y7.2.most], .row 3 1 (encL (eInt .i64) y7.2.l)], e := [1, 2, 3] } }), (5, { pc := some { ρ := [0, 1], n0 := 2, res := bo y8.1, σ' := [.blk 98 [.row 1 (y8.2.l).length, i64 y8.2.most], .row 3 1 (encL (eInt .i64) y8.2.l)], e := [1, 2, 3] } })]) (by kernel_rfl) (allc (C_stack_Stack_int_Push 1 (⟨([] : List Int), y2.most⟩ : T_stack_Stack_int_) y6 hy6) (allc (C_stack_Stack_int_Push 2 y6.2 y7 hy7) (allc (C_stack_Stack_int_Push 3 y7.2 y8 hy8) all0))) (norm ?_)
  refine At.seqJ (S := (Bool × (List Int)) ⊕ (Bool × (List Int) × Int × (List Int))) (Sum.elim (fun s => ⟨[(1, .ptr 0 0), (2, bo y6.1), (3, bo y7.1), (4, bo y8.1), (5, .row 2 (s.2).length), (6, bo s.1)], [.blk 98 [.row 1 (y8.2.l).length, i64 y8.2.most], .row 3 1 (encL (eInt .i64) y8.2.l), .row 3 1 (encL (eInt .i64) s.2)]⟩) (fun s => ⟨[(1, .ptr 0 0), (2, bo y6.1), (3, bo y7.1), (4, bo y8.1), (5, .row 1 (s.2.2.2).length), (6, bo s.1)], [.blk 98 [.d (.list true (s.2.1).length (encL (eInt .i64) s.2.1)), i64 s.2.2.1], .row 3 1 (encL (eInt .i64) s.2.2.2)]⟩)) (Sum.elim (fun s => F_retracelaw23_live_J1 y6 y7 y8 s.1 s.2 = some r) (fun s => F_retracelaw23_live_J3 y6 y7 y8 s.1 s.2.1 s.2.2.1 s.2.2.2 = some r)) ?_ ?_
  · obtain ⟨y60, hy60, h⟩ := bind_some h
    rcases y60 with y61 | y62
    · replace h := el_inl h
      refine At.region_end [1, 2, 3, 4, 5, 6] [0, 1, 2] _ (st' := ⟨[(1, .ptr 0 0), (2, bo y6.1), (3, bo y7.1), (4, bo y8.1), (5, .row 2 (y61.1).length), (6, bo y61.2)], [.blk 98 [.row 1 (y8.2.l).length, i64 y8.2.most], .row 3 1 (encL (eInt .i64) y8.2.l), .row 3 1 (encL (eInt .i64) y61.1)]⟩) (tips := [(1, { pc := some { ρ := [0, 1, 2], n0 := 2, res := .tup [.row 2 (y61.1).length, bo y61.2], σ' := [.blk 98 [.row 1 (y8.2.l).length, i64 y8.2.most], .row 3 1 (encL (eInt .i64) y8.2.l), .row 3 1 (encL (eInt .i64) y61.1)], e := [1, 2, 3] } })]) (by kernel_rfl) (allc (C_stack_Stack_int_Take 2 y8.2 (.inl y61) hy60) all0) (fun a w hs => ⟨.inl (y61.2, y61.1), h, hs⟩)
    · replace h := el_inr h
      refine At.region_end [1, 2, 3, 4, 5, 6] [0, 2] _ (st' := ⟨[(1, .ptr 0 0), (2, bo y6.1), (3, bo y7.1), (4, bo y8.1), (5, .row 1 (y62.1).length), (6, bo y62.2.1)], [.blk 98 [.d (.list true (y62.2.2.l).length (encL (eInt .i64) y62.2.2.l)), i64 y62.2.2.most], .row 3 1 (encL (eInt .i64) y62.1)]⟩) (tips := [(1, { pc := some { ρ := [0, 1, 2], n0 := 2, res := .tup [.row 2 (y62.1).length, bo y62.2.1], σ' := [.blk 98 [.d (.list true (y62.2.2.l).length (encL (eInt .i64) y62.2.2.l)), i64 y62.2.2.most], .dead, .row 3 1 (encL (eInt .i64) y62.1)], e := [1, 2, 3] } })]) (by kernel_rfl) (allc (C_stack_Stack_int_Take 2 y8.2 (.inr y62) hy60) all0) (fun a w hs => ⟨.inr ((y62.2.1, y62.2.2.l, y62.2.2.most, y62.1)), h, hs⟩)
  · rintro (⟨x12, x13⟩ | ⟨x35, x36, x37, x38⟩) h
    · replace h : F_retracelaw23_live_J1 y6 y7 y8 x12 x13 = some r := h
      rw [F_retracelaw23_live_J1] at h
      refine At.seqJ (S := Bool) (fun s => ⟨[(0, bo s)], []⟩) (fun s => F_retracelaw23_live_J2 s = some r) ?_ ?_
      · rcases tf y6.1 with b25 | b25
        · replace h := cond_t b25 h
          rcases tf y7.1 with b26 | b26
          · replace h := cond_t b26 h
            rcases tf (!y8.1) with b27 | b27
            · replace h := cond_t b27 h
              rcases tf x12 with b28 | b28
              · replace h := cond_t b28 h
                rcases tf (((x13).length : Int) == 2) with b29 | b29
                · replace h := cond_t b29 h
                  obtain ⟨y30, hy30, h⟩ := bind_some h
                  rcases tf (y30 == 1) with b31 | b31
                  · replace h := cond_t b31 h
                    obtain ⟨y32, hy32, h⟩ := bind_some h
                    rcases tf (y32 == 0) with b33 | b33
                    · replace h := cond_t b33 h
                      obtain ⟨y34, hy34, h⟩ := bind_some h
                      refine At.region_end [0] [] _ (st' := ⟨[(0, bo (y34 == 2))], []⟩) (tips := [(1, { orc := .val (.bool true) }), (4, { orc := .val (.bool true) }), (8, { orc := .val (.bool true) }), (11, { orc := .val (.bool true) }), (16, { orc := .val (.bool true) }), (19, { orc := .val (.int .i64 y30) }), (22, { orc := .val (.bool true) }), (24, { pc := some { ρ := [0, 1], n0 := 2, res := i64 y32, σ' := [.blk 98 [.row 1 (y8.2.l).length, i64 y8.2.most], .row 3 1 (encL (eInt .i64) y8.2.l)], e := [1, 2] } }), (27, { orc := .val (.bool true) }), (29, { pc := some { ρ := [0, 1], n0 := 2, res := i64 y34, σ' := [.blk 98 [.row 1 (y8.2.l).length, i64 y8.2.most], .row 3 1 (encL (eInt .i64) y8.2.l)], e := [1, 2] } })]) (by kernel_rfl) (allc (congrArg D.bool b25) (allc (congrArg D.bool b26) (allc (congrArg D.bool b27) (allc (congrArg D.bool b28) (allc (congrArg D.bool b29) (allc ((rAt_of (he_int .i64) (d := .int .i64 y30) hy30 rfl).1) (allc ((rAt_of (he_int .i64) (d := .int .i64 y30) hy30 rfl).2) (allc (congrArg D.bool b31) (allc (C_stack_Stack_int_Len y8.2 y32 hy32) (allc (congrArg D.bool b33) (allc (C_stack_Stack_int_Room y8.2 y34 hy34) all0))))))))))) (fun a w hs => ⟨(y34 == 2), h, hs⟩)
                    · replace h := cond_f b33 h
                      refine At.region_end [0] [] _ (st' := ⟨[(0, bo false)], []⟩) (tips := [(1, { orc := .val (.bool true) }), (4, { orc := .val (.bool true) }), (8, { orc := .val (.bool true) }), (11, { orc := .val (.bool true) }), (16, { orc := .val (.bool true) }), (19, { orc := .val (.int .i64 y30) }), (22, { orc := .val (.bool true) }), (24, { pc := some { ρ := [0, 1], n0 := 2, res := i64 y32, σ' := [.blk 98 [.row 1 (y8.2.l).length, i64 y8.2.most], .row 3 1 (encL (eInt .i64) y8.2.l)], e := [1, 2] } }), (27, { orc := .val (.bool false) })]) (by kernel_rfl) (allc (congrArg D.bool b25) (allc (congrArg D.bool b26) (allc (congrArg D.bool b27) (allc (congrArg D.bool b28) (allc (congrArg D.bool b29) (allc ((rAt_of (he_int .i64) (d := .int .i64 y30) hy30 rfl).1) (allc ((rAt_of (he_int .i64) (d := .int .i64 y30) hy30 rfl).2) (allc (congrArg D.bool b31) (allc (C_stack_Stack_int_Len y8.2 y32 hy32) (allc (congrArg D.bool b33) all0)))))))))) (fun a w hs => ⟨false, h, hs⟩)
                  · replace h := cond_f b31 h
                    refine At.region_end [0] [] _ (st' := ⟨[(0, bo false)], []⟩) (tips := [(1, { orc := .val (.bool true) }), (4, { orc := .val (.bool true) }), (8, { orc := .val (.bool true) }), (11, { orc := .val (.bool true) }), (16, { orc := .val (.bool true) }), (19, { orc := .val (.int .i64 y30) }), (22, { orc := .val (.bool false) })]) (by kernel_rfl) (allc (congrArg D.bool b25) (allc (congrArg D.bool b26) (allc (congrArg D.bool b27) (allc (congrArg D.bool b28) (allc (congrArg D.bool b29) (allc ((rAt_of (he_int .i64) (d := .int .i64 y30) hy30 rfl).1) (allc ((rAt_of (he_int .i64) (d := .int .i64 y30) hy30 rfl).2) (allc (congrArg D.bool b31) all0)))))))) (fun a w hs => ⟨false, h, hs⟩)
                · replace h := cond_f b29 h
                  refine At.region_end [0] [] _ (st' := ⟨[(0, bo false)], []⟩) (tips := [(1, { orc := .val (.bool true) }), (4, { orc := .val (.bool true) }), (8, { orc := .val (.bool true) }), (11, { orc := .val (.bool true) }), (16, { orc := .val (.bool false) })]) (by kernel_rfl) (allc (congrArg D.bool b25) (allc (congrArg D.bool b26) (allc (congrArg D.bool b27) (allc (congrArg D.bool b28) (allc (congrArg D.bool b29) all0))))) (fun a w hs => ⟨false, h, hs⟩)
              · replace h := cond_f b28 h
                refine At.region_end [0] [] _ (st' := ⟨[(0, bo false)], []⟩) (tips := [(1, { orc := .val (.bool true) }), (4, { orc := .val (.bool true) }), (8, { orc := .val (.bool true) }), (11, { orc := .val (.bool false) })]) (by kernel_rfl) (allc (congrArg D.bool b25) (allc (congrArg D.bool b26) (allc (congrArg D.bool b27) (allc (congrArg D.bool b28) all0)))) (fun a w hs => ⟨false, h, hs⟩)
            · replace h := cond_f b27 h
              refine At.region_end [0] [] _ (st' := ⟨[(0, bo false)], []⟩) (tips := [(1, { orc := .val (.bool true) }), (4, { orc := .val (.bool true) }), (8, { orc := .val (.bool false) })]) (by kernel_rfl) (allc (congrArg D.bool b25) (allc (congrArg D.bool b26) (allc (congrArg D.bool b27) all0))) (fun a w hs => ⟨false, h, hs⟩)
          · replace h := cond_f b26 h
            refine At.region_end [0] [] _ (st' := ⟨[(0, bo false)], []⟩) (tips := [(1, { orc := .val (.bool true) }), (4, { orc := .val (.bool false) })]) (by kernel_rfl) (allc (congrArg D.bool b25) (allc (congrArg D.bool b26) all0)) (fun a w hs => ⟨false, h, hs⟩)
        · replace h := cond_f b25 h
          refine At.region_end [0] [] _ (st' := ⟨[(0, bo false)], []⟩) (tips := [(1, { orc := .val (.bool false) })]) (by kernel_rfl) (allc (congrArg D.bool b25) all0) (fun a w hs => ⟨false, h, hs⟩)
      · intro x24 h
        replace h : F_retracelaw23_live_J2 x24 = some r := h
        rw [F_retracelaw23_live_J2] at h
        obtain rfl := some_eq h
        exact At.ret fun a w hs => ret_ok hR (ρ := []) (gs := []) (by kernel_rfl) all0 (by kernel_rfl) rfl rfl a w hs _ (.inl rfl)
    · replace h : F_retracelaw23_live_J3 y6 y7 y8 x35 x36 x37 x38 = some r := h
      rw [F_retracelaw23_live_J3] at h
      refine At.seqJ (S := Bool) (fun s => ⟨[(0, bo s)], []⟩) (fun s => F_retracelaw23_live_J4 s = some r) ?_ ?_
      · rcases tf y6.1 with b50 | b50
        · replace h := cond_t b50 h
          rcases tf y7.1 with b51 | b51
          · replace h := cond_t b51 h
            rcases tf (!y8.1) with b52 | b52
            · replace h := cond_t b52 h
              rcases tf x35 with b53 | b53
              · replace h := cond_t b53 h
                rcases tf (((x38).length : Int) == 2) with b54 | b54
                · replace h := cond_t b54 h
                  obtain ⟨y55, hy55, h⟩ := bind_some h
                  rcases tf (y55 == 1) with b56 | b56
                  · replace h := cond_t b56 h
                    obtain ⟨y57, hy57, h⟩ := bind_some h
                    rcases tf (y57 == 0) with b58 | b58
                    · replace h := cond_t b58 h
                      obtain ⟨y59, hy59, h⟩ := bind_some h
                      refine At.region_end [0] [] _ (st' := ⟨[(0, bo (y59 == 2))], []⟩) (tips := [(1, { orc := .val (.bool true) }), (4, { orc := .val (.bool true) }), (8, { orc := .val (.bool true) }), (11, { orc := .val (.bool true) }), (16, { orc := .val (.bool true) }), (19, { orc := .val (.int .i64 y55) }), (22, { orc := .val (.bool true) }), (24, { pc := some { ρ := [0], n0 := 1, loose := false, res := i64 y57, σ' := [.blk 98 [.d (.list true (x36).length (encL (eInt .i64) x36)), i64 x37]], e := [1] } }), (27, { orc := .val (.bool true) }), (29, { pc := some { ρ := [0], n0 := 1, loose := false, res := i64 y59, σ' := [.blk 98 [.d (.list true (x36).length (encL (eInt .i64) x36)), i64 x37]], e := [1] } })]) (by kernel_rfl) (allc (congrArg D.bool b50) (allc (congrArg D.bool b51) (allc (congrArg D.bool b52) (allc (congrArg D.bool b53) (allc (congrArg D.bool b54) (allc ((rAt_of (he_int .i64) (d := .int .i64 y55) hy55 rfl).1) (allc ((rAt_of (he_int .i64) (d := .int .i64 y55) hy55 rfl).2) (allc (congrArg D.bool b56) (allc (C_stack_Stack_int_Len_v2 (⟨x36, x37⟩ : T_stack_Stack_int_) y57 hy57) (allc (congrArg D.bool b58) (allc (C_stack_Stack_int_Room_v2 (⟨x36, x37⟩ : T_stack_Stack_int_) y59 hy59) all0))))))))))) (fun a w hs => ⟨(y59 == 2), h, hs⟩)
                    · replace h := cond_f b58 h
                      refine At.region_end [0] [] _ (st' := ⟨[(0, bo false)], []⟩) (tips := [(1, { orc := .val (.bool true) }), (4, { orc := .val (.bool true) }), (8, { orc := .val (.bool true) }), (11, { orc := .val (.bool true) }), (16, { orc := .val (.bool true) }), (19, { orc := .val (.int .i64 y55) }), (22, { orc := .val (.bool true) }), (24, { pc := some { ρ := [0], n0 := 1, loose := false, res := i64 y57, σ' := [.blk 98 [.d (.list true (x36).length (encL (eInt .i64) x36)), i64 x37]], e := [1] } }), (27, { orc := .val (.bool false) })]) (by kernel_rfl) (allc (congrArg D.bool b50) (allc (congrArg D.bool b51) (allc (congrArg D.bool b52) (allc (congrArg D.bool b53) (allc (congrArg D.bool b54) (allc ((rAt_of (he_int .i64) (d := .int .i64 y55) hy55 rfl).1) (allc ((rAt_of (he_int .i64) (d := .int .i64 y55) hy55 rfl).2) (allc (congrArg D.bool b56) (allc (C_stack_Stack_int_Len_v2 (⟨x36, x37⟩ : T_stack_Stack_int_) y57 hy57) (allc (congrArg D.bool b58) all0)))))))))) (fun a w hs => ⟨false, h, hs⟩)
                  · replace h := cond_f b56 h
                    refine At.region_end [0] [] _ (st' := ⟨[(0, bo false)], []⟩) (tips := [(1, { orc := .val (.bool true) }), (4, { orc := .val (.bool true) }), (8, { orc := .val (.bool true) }), (11, { orc := .val (.bool true) }), (16, { orc := .val (.bool true) }), (19, { orc := .val (.int .i64 y55) }), (22, { orc := .val (.bool false) })]) (by kernel_rfl) (allc (congrArg D.bool b50) (allc (congrArg D.bool b51) (allc (congrArg D.bool b52) (allc (congrArg D.bool b53) (allc (congrArg D.bool b54) (allc ((rAt_of (he_int .i64) (d := .int .i64 y55) hy55 rfl).1) (allc ((rAt_of (he_int .i64) (d := .int .i64 y55) hy55 rfl).2) (allc (congrArg D.bool b56) all0)))))))) (fun a w hs => ⟨false, h, hs⟩)
                · replace h := cond_f b54 h
                  refine At.region_end [0] [] _ (st' := ⟨[(0, bo false)], []⟩) (tips := [(1, { orc := .val (.bool true) }), (4, { orc := .val (.bool true) }), (8, { orc := .val (.bool true) }), (11, { orc := .val (.bool true) }), (16, { orc := .val (.bool false) })]) (by kernel_rfl) (allc (congrArg D.bool b50) (allc (congrArg D.bool b51) (allc (congrArg D.bool b52) (allc (congrArg D.bool b53) (allc (congrArg D.bool b54) all0))))) (fun a w hs => ⟨false, h, hs⟩)
              · replace h := cond_f b53 h
                refine At.region_end [0] [] _ (st' := ⟨[(0, bo false)], []⟩) (tips := [(1, { orc := .val (.bool true) }), (4, { orc := .val (.bool true) }), (8, { orc := .val (.bool true) }), (11, { orc := .val (.bool false) })]) (by kernel_rfl) (allc (congrArg D.bool b50) (allc (congrArg D.bool b51) (allc (congrArg D.bool b52) (allc (congrArg D.bool b53) all0)))) (fun a w hs => ⟨false, h, hs⟩)
            · replace h := cond_f b52 h
              refine At.region_end [0] [] _ (st' := ⟨[(0, bo false)], []⟩) (tips := [(1, { orc := .val (.bool true) }), (4, { orc := .val (.bool true) }), (8, { orc := .val (.bool false) })]) (by kernel_rfl) (allc (congrArg D.bool b50) (allc (congrArg D.bool b51) (allc (congrArg D.bool b52) all0))) (fun a w hs => ⟨false, h, hs⟩)
          · replace h := cond_f b51 h
            refine At.region_end [0] [] _ (st' := ⟨[(0, bo false)], []⟩) (tips := [(1, { orc := .val (.bool true) }), (4, { orc := .val (.bool false) })]) (by kernel_rfl) (allc (congrArg D.bool b50) (allc (congrArg D.bool b51) all0)) (fun a w hs => ⟨false, h, hs⟩)
        · replace h := cond_f b50 h
          refine At.region_end [0] [] _ (st' := ⟨[(0, bo false)], []⟩) (tips := [(1, { orc := .val (.bool false) })]) (by kernel_rfl) (allc (congrArg D.bool b50) all0) (fun a w hs => ⟨false, h, hs⟩)
      · intro x49 h
        replace h : F_retracelaw23_live_J4 x49 = some r := h
        rw [F_retracelaw23_live_J4] at h
        obtain rfl := some_eq h
        exact At.ret fun a w hs => ret_ok hR (ρ := []) (gs := []) (by kernel_rfl) all0 (by kernel_rfl) rfl rfl a w hs _ (.inl rfl)
set_option maxRecDepth 100000 in
theorem C_stack_New_string (p0 : Int) (r : T_stack_Stack_string_) (h : F_stack_New_string p0 = some r) : FnOK Try.prog 33 [i64 p0] [] (.ptr 0 0) [.blk 94 [.d (.list true 0 []), i64 r.most]] [] := by
  rw [F_stack_New_string] at h
  refine FnOK.intro Try.func33 rfl (by kernel_rfl) (by kernel_rfl) fun E gv R hR => ?_
  refine At.seq ?_
  refine At.region_end [0] [] _ (st' := ⟨[(0, i64 p0)], []⟩) (tips := []) (by kernel_rfl) all0 (norm ?_)
  refine At.seq ?_
  refine At.region_end [2] [0] _ (st' := ⟨[(2, .ptr 0 0)], [.blk 94 [.d (.list true 0 []), i64 (if 0 > p0 then 0 else p0)]]⟩) (tips := []) (by kernel_rfl) all0 (norm ?_)
  obtain rfl := some_eq h
  exact At.ret fun a w hs => ret_ok hR (ρ := [0]) (gs := []) (by kernel_rfl) all0 (by kernel_rfl) rfl rfl a w hs _ (.inl rfl)
set_option maxRecDepth 100000 in
theorem C_stack_Stack_string_Room (o0 : T_stack_Stack_string_) (r : Int) (h : F_stack_Stack_string_Room o0 = some r) : FnOK Try.prog 40 [.ptr 0 0] [.blk 94 [.row 1 (o0.l).length, i64 o0.most], .row 9 1 (encL eStr o0.l)] (i64 r) [.blk 94 [.row 1 (o0.l).length, i64 o0.most], .row 9 1 (encL eStr o0.l)] [1, 2] := by
  rw [F_stack_Stack_string_Room] at h
  refine FnOK.intro Try.func40 rfl (by kernel_rfl) (by kernel_rfl) fun E gv R hR => ?_
  refine At.seq ?_
  refine At.region_end [0] [0, 1, 2, 3] _ (st' := ⟨[(0, .ptr 0 0)], [.blk 94 [.row 1 (o0.l).length, i64 o0.most], .row 9 1 (encL eStr o0.l), .ghost (gv 0) (.ptr 0 0), .ghost (gv 1) (.row 1 0)]⟩) (tips := []) (by kernel_rfl) all0 (norm ?_)
  refine At.seq ?_
  refine At.seq ?_
  refine At.region_end [0, 4] [0, 1, 2, 3] _ (st' := ⟨[(0, .ptr 0 0), (4, bo false)], [.blk 94 [.row 1 (o0.l).length, i64 o0.most], .row 9 1 (encL eStr o0.l), .ghost (gv 0) (.ptr 0 0), .ghost (gv 1) (.row 1 0)]⟩) (tips := []) (by kernel_rfl) all0 (norm ?_)
  refine At.cond false (by kernel_rfl) (fun hb => by cases hb) (fun _ => ?_)
  refine At.nar [0] [0, 1, 2, 3] (st' := ⟨[(0, .ptr 0 0)], [.blk 94 [.row 1 (o0.l).length, i64 o0.most], .row 9 1 (encL eStr o0.l), .ghost (gv 0) (.ptr 0 0), .ghost (gv 1) (.row 1 0)]⟩) (by kernel_rfl) ?_
  refine At.skip (norm ?_)
  refine At.seq ?_
  refine At.draw_end mixedOrd 0 [2] [0, 1, 2, 3] _ (st' := ⟨[(2, i64 (w64 (o0.most - ((o0.l).length : Int))))], [.blk 94 [.row 1 (o0.l).length, i64 o0.most], .row 9 1 (encL eStr o0.l), .ghost (gv 0) (.ptr 0 0), .ghost (gv 1) (.row 1 0)]⟩) (tips := [(0, { r := 4 }), (1, { r := 4 }), (2, { r := 4 }), (3, { T := [0], r := 4 }), (4, { r := 4 }), (5, { r := 4 }), (6, { r := 4 }), (7, { T := [0], r := 4 }), (8, { r := 4 })]) (by kernel_rfl) all0 (norm ?_)
  obtain rfl := some_eq h
  exact At.ret fun a w hs => ret_ok hR (ρ := [0, 1]) (gs := [.ghost (gv 0) (.ptr 0 0), .ghost (gv 1) (.row 1 0)]) (by kernel_rfl) all0 (by kernel_rfl) rfl rfl a w hs _ (.inl rfl)
set_option maxRecDepth 100000 in
theorem C_stack_Stack_string_Push (p1 : ByteArray) (o0 : T_stack_Stack_string_) (r : Bool × T_stack_Stack_string_) (h : F_stack_Stack_string_Push p1 o0 = some r) : FnOK Try.prog 34 [.ptr 0 0, sv p1] [.blk 94 [.row 1 (o0.l).length, i64 o0.most], .row 9 1 (encL eStr o0.l)] (bo r.1) [.blk 94 [.row 1 (r.2.l).length, i64 r.2.most], .row 9 1 (encL eStr r.2.l)] [1, 2, 3] := by
  rw [F_stack_Stack_string_Push] at h
  refine FnOK.intro Try.func34 rfl (by kernel_rfl) (by kernel_rfl) fun E gv R hR => ?_
  refine At.seq ?_
  refine At.region_end [0, 1] [0, 1, 2, 3] _ (st' := ⟨[(0, .ptr 0 0), (1, sv p1)], [.blk 94 [.row 1 (o0.l).length, i64 o0.most], .row 9 1 (encL eStr o0.l), .ghost (gv 0) (.ptr 0 0), .ghost (gv 1) (.row 1 0)]⟩) (tips := []) (by kernel_rfl) all0 (norm ?_)
  refine At.seq ?_
  refine At.seq ?_
  obtain ⟨y5, hy5, h⟩ := bind_some h
  refine At.region_end [0, 1, 7] [0, 1, 2, 3] _ (st' := ⟨[(0, .ptr 0 0), (1, sv p1), (7, bo (y5 == 0))], [.blk 94 [.row 1 (o0.l).length, i64 o0.most], .row 9 1 (encL eStr o0.l), .ghost (gv 0) (.ptr 0 0), .ghost (gv 1) (.row 1 0)]⟩) (tips := [(1, { pc := some { ρ := [0, 1], n0 := 2, res := i64 y5, σ' := [.blk 94 [.row 1 (o0.l).length, i64 o0.most], .row 9 1 (encL eStr o0.l)], e := [1, 2] } })]) (by kernel_rfl) (allc (C_stack_Stack_string_Room o0 y5 hy5) all0) (norm ?_)
  refine At.cond (y5 == 0) (by kernel_rfl) (fun b6 => ?_) (fun b6 => ?_)
  · replace h := cond_t b6 h
    refine At.seq ?_
    refine At.region_end [4] [0, 1, 2, 3] _ (st' := ⟨[(4, bo false)], [.blk 94 [.row 1 (o0.l).length, i64 o0.most], .row 9 1 (encL eStr o0.l), .ghost (gv 0) (.ptr 0 0), .ghost (gv 1) (.row 1 0)]⟩) (tips := []) (by kernel_rfl) all0 (norm ?_)
    refine At.edNar [.hideG 3] [4] [0, 1, 2, 3] (st' := ⟨[(4, bo false)], [.blk 94 [.row 1 (o0.l).length, i64 o0.most], .row 9 1 (encL eStr o0.l), .ghost (gv 0) (.ptr 0 0), .ghost (gv 1) (.undef)]⟩) (by kernel_rfl) ?_
    obtain rfl := some_eq h
    exact At.ret fun a w hs => ret_ok hR (ρ := [0, 1]) (gs := [.ghost (gv 0) (.ptr 0 0), .ghost (gv 1) (.undef)]) (by kernel_rfl) all0 (by kernel_rfl) rfl rfl a w hs _ (.inl rfl)
  · replace h := cond_f b6 h
    refine At.nar [0, 1] [0, 1, 2, 3] (st' := ⟨[(0, .ptr 0 0), (1, sv p1)], [.blk 94 [.row 1 (o0.l).length, i64 o0.most], .row 9 1 (encL eStr o0.l), .ghost (gv 0) (.ptr 0 0), .ghost (gv 1) (.row 1 0)]⟩) (by kernel_rfl) ?_
    refine At.skip (norm ?_)
    refine At.seq ?_
    obtain ⟨g8, h⟩ := grd_some h
    refine At.region_end [] [0, 1, 2, 3] _ (st' := ⟨[], [.blk 94 [.row 1 ((o0.l ++ [p1])).length, i64 o0.most], .row 9 1 (encL eStr (o0.l ++ [p1])), .ghost (gv 0) (.ptr 0 0), .ghost (gv 1) (.undef)]⟩) (tips := [(7, { form := some ((o0.l ++ [p1]).length, encL eStr (o0.l ++ [p1])) })]) (by kernel_rfl) (allc (len_app o0.l ([p1])) (allc (encL_app eStr o0.l ([p1])) (allc (app_ok he_str (by decide) g8) (allc (encL_len he_str ([p1])) all0)))) (norm ?_)
    refine At.seq ?_
    refine At.region_end [4] [0, 1, 2, 3] _ (st' := ⟨[(4, bo true)], [.blk 94 [.row 1 ((o0.l ++ [p1])).length, i64 o0.most], .row 9 1 (encL eStr (o0.l ++ [p1])), .ghost (gv 0) (.ptr 0 0), .ghost (gv 1) (.undef)]⟩) (tips := []) (by kernel_rfl) all0 (norm ?_)
    obtain rfl := some_eq h
    exact At.ret fun a w hs => ret_ok hR (ρ := [0, 1]) (gs := [.ghost (gv 0) (.ptr 0 0), .ghost (gv 1) (.undef)]) (by kernel_rfl) all0 (by kernel_rfl) rfl rfl a w hs _ (.inl rfl)
set_option maxRecDepth 100000 in
theorem C_stack_Stack_string_Len (o0 : T_stack_Stack_string_) (r : Int) (h : F_stack_Stack_string_Len o0 = some r) : FnOK Try.prog 39 [.ptr 0 0] [.blk 94 [.row 1 (o0.l).length, i64 o0.most], .row 9 1 (encL eStr o0.l)] (i64 r) [.blk 94 [.row 1 (o0.l).length, i64 o0.most], .row 9 1 (encL eStr o0.l)] [1, 2] := by
  rw [F_stack_Stack_string_Len] at h
  refine FnOK.intro Try.func39 rfl (by kernel_rfl) (by kernel_rfl) fun E gv R hR => ?_
  refine At.seq ?_
  refine At.region_end [0] [0, 1, 2, 3] _ (st' := ⟨[(0, .ptr 0 0)], [.blk 94 [.row 1 (o0.l).length, i64 o0.most], .row 9 1 (encL eStr o0.l), .ghost (gv 0) (.ptr 0 0), .ghost (gv 1) (.row 1 0)]⟩) (tips := []) (by kernel_rfl) all0 (norm ?_)
  refine At.seq ?_
  refine At.seq ?_
  refine At.region_end [0, 4] [0, 1, 2, 3] _ (st' := ⟨[(0, .ptr 0 0), (4, bo false)], [.blk 94 [.row 1 (o0.l).length, i64 o0.most], .row 9 1 (encL eStr o0.l), .ghost (gv 0) (.ptr 0 0), .ghost (gv 1) (.row 1 0)]⟩) (tips := []) (by kernel_rfl) all0 (norm ?_)
  refine At.cond false (by kernel_rfl) (fun hb => by cases hb) (fun _ => ?_)
  refine At.nar [0] [0, 1, 2, 3] (st' := ⟨[(0, .ptr 0 0)], [.blk 94 [.row 1 (o0.l).length, i64 o0.most], .row 9 1 (encL eStr o0.l), .ghost (gv 0) (.ptr 0 0), .ghost (gv 1) (.row 1 0)]⟩) (by kernel_rfl) ?_
  refine At.skip (norm ?_)
  refine At.seq ?_
  refine At.region_end [2] [0, 1, 2, 3] _ (st' := ⟨[(2, i64 ((o0.l).length : Int))], [.blk 94 [.row 1 (o0.l).length, i64 o0.most], .row 9 1 (encL eStr o0.l), .ghost (gv 0) (.ptr 0 0), .ghost (gv 1) (.row 1 0)]⟩) (tips := []) (by kernel_rfl) all0 (norm ?_)
  obtain rfl := some_eq h
  exact At.ret fun a w hs => ret_ok hR (ρ := [0, 1]) (gs := [.ghost (gv 0) (.ptr 0 0), .ghost (gv 1) (.row 1 0)]) (by kernel_rfl) all0 (by kernel_rfl) rfl rfl a w hs _ (.inl rfl)
set_option maxRecDepth 100000 in
theorem C_slices_Clone_string_string (p0 : (List ByteArray)) (r : (List ByteArray)) (h : F_slices_Clone_string_string p0 = some r) : FnOK Try.prog 51 [lv eStr p0] [] (.row 0 (r).length) [.row 9 1 (encL eStr r)] [] := by
  rw [F_slices_Clone_string_string] at h
  refine FnOK.intro Try.func51 rfl (by kernel_rfl) (by kernel_rfl) fun E gv R hR => ?_
  refine At.seq ?_
  refine At.region_end [0] [] _ (st' := ⟨[(0, lv eStr p0)], []⟩) (tips := []) (by kernel_rfl) all0 (norm ?_)
  refine At.seq ?_
  refine At.seq ?_
  refine At.nilEq (t0 := 0) (t3 := 3) (t4 := 4) (e := 9) (tt := false) (k := (p0).length) (xs := encL eStr p0) rfl rfl rfl rfl rfl rfl (by decide) (by decide) (by kernel_rfl) (by kernel_rfl) ?_
  rintro (_ | _) hk
  · refine norm ?_
    refine At.nar [0, 4] [] (st' := ⟨[(0, lv eStr p0), (4, bo false)], []⟩) (by kernel_rfl) ?_
    refine At.cond false (by kernel_rfl) (fun hb => by cases hb) (fun _ => ?_)
    refine At.nar [0] [] (st' := ⟨[(0, lv eStr p0)], []⟩) (by kernel_rfl) ?_
    refine At.skip (norm ?_)
    refine At.seq ?_
    obtain ⟨g2, h⟩ := grd_some h
    refine At.region_end [2] [0] _ (st' := ⟨[(2, .row 0 ((([] : List ByteArray) ++ p0)).length)], [.row 9 1 (encL eStr (([] : List ByteArray) ++ p0))]⟩) (tips := [(2, { form := some ((([] : List ByteArray) ++ p0).length, encL eStr (([] : List ByteArray) ++ p0)) })]) (by kernel_rfl) (allc (len_app ([] : List ByteArray) p0) (allc (encL_app eStr ([] : List ByteArray) p0) (allc (app_ok he_str (by decide) g2) (allc (encL_len he_str p0) all0)))) (norm ?_)
    obtain rfl := some_eq h
    exact At.ret fun a w hs => ret_ok hR (ρ := [0]) (gs := []) (by kernel_rfl) all0 (by kernel_rfl) rfl rfl a w hs _ (.inl rfl)
  · obtain rfl := List.length_eq_zero_iff.1 (hk rfl)
    obtain ⟨_, h⟩ := grd_some h
    refine norm ?_
    refine At.nar [0, 4] [] (st' := ⟨[(0, lv eStr ([] : List ByteArray)), (4, bo true)], []⟩) (by kernel_rfl) ?_
    refine At.cond true (by kernel_rfl) (fun _ => ?_) (fun hb => by cases hb)
    refine At.seq ?_
    refine At.region_end [2] [] _ (st' := ⟨[(2, .d (.list true 0 []))], []⟩) (tips := []) (by kernel_rfl) all0 (norm ?_)
    refine At.edNar [.ownS 2 9 1] [2] [0] (st' := ⟨[(2, .row 0 ([] : List ByteArray).length)], [.row 9 1 (encL eStr ([]))]⟩) (by kernel_rfl) ?_
    obtain rfl := some_eq h
    exact At.ret fun a w hs => ret_ok hR (ρ := [0]) (gs := []) (by kernel_rfl) all0 (by kernel_rfl) rfl rfl a w hs _ (.inl rfl)
set_option maxRecDepth 100000 in
theorem C_stack_Stack_string_Take (p1 : Int) (o0 : T_stack_Stack_string_) (r : ((List ByteArray) × Bool) ⊕ ((List ByteArray) × Bool × T_stack_Stack_string_)) (h : F_stack_Stack_string_Take p1 o0 = some r) : FnOK Try.prog 37 [.ptr 0 0, i64 p1] [.blk 94 [.row 1 (o0.l).length, i64 o0.most], .row 9 1 (encL eStr o0.l)] ((Sum.elim (fun r => .tup [.row 2 (r.1).length, bo r.2]) (fun r => .tup [.row 2 (r.1).length, bo r.2.1])) r) ((Sum.elim (fun r => [.blk 94 [.row 1 (o0.l).length, i64 o0.most], .row 9 1 (encL eStr o0.l), .row 9 1 (encL eStr r.1)]) (fun r => [.blk 94 [.d (.list true (r.2.2.l).length (encL eStr r.2.2.l)), i64 r.2.2.most], .dead, .row 9 1 (encL eStr r.1)])) r) [1, 2, 3] := by
  rw [F_stack_Stack_string_Take] at h
  refine FnOK.intro Try.func37 rfl (by kernel_rfl) (by kernel_rfl) fun E gv R hR => ?_
  refine At.seq ?_
  refine At.region_end [0, 1] [0, 1, 2, 3] _ (st' := ⟨[(0, .ptr 0 0), (1, i64 p1)], [.blk 94 [.row 1 (o0.l).length, i64 o0.most], .row 9 1 (encL eStr o0.l), .ghost (gv 0) (.ptr 0 0), .ghost (gv 1) (.row 1 0)]⟩) (tips := []) (by kernel_rfl) all0 (norm ?_)
  refine At.seq ?_
  obtain ⟨y2, hy2, h⟩ := bind_some h
  refine At.region_end [0, 1, 6] [0, 1, 2, 3] _ (st' := ⟨[(0, .ptr 0 0), (1, i64 p1), (6, i64 (w64 (y2 - p1)))], [.blk 94 [.row 1 (o0.l).length, i64 o0.most], .row 9 1 (encL eStr o0.l), .ghost (gv 0) (.ptr 0 0), .ghost (gv 1) (.row 1 0)]⟩) (tips := [(1, { pc := some { ρ := [0, 1], n0 := 2, res := i64 y2, σ' := [.blk 94 [.row 1 (o0.l).length, i64 o0.most], .row 9 1 (encL eStr o0.l)], e := [1, 2] } })]) (by kernel_rfl) (allc (C_stack_Stack_string_Len o0 y2 hy2) all0) (norm ?_)
  refine At.seq ?_
  refine At.seqJ (S := Bool) (fun s => ⟨[(0, .ptr 0 0), (6, i64 (w64 (y2 - p1))), (21, bo s)], [.blk 94 [.row 1 (o0.l).length, i64 o0.most], .row 9 1 (encL eStr o0.l), .ghost (gv 0) (.ptr 0 0), .ghost (gv 1) (.row 1 0)]⟩) (fun s => F_stack_Stack_string_Take_J1 p1 o0 y2 s = some r) ?_ ?_
  · rcases tf (decide (p1 < 0)) with b16 | b16
    · replace h := cond_t b16 h
      refine At.region_end [0, 6, 21] [0, 1, 2, 3] _ (st' := ⟨[(0, .ptr 0 0), (6, i64 (w64 (y2 - p1))), (21, bo true)], [.blk 94 [.row 1 (o0.l).length, i64 o0.most], .row 9 1 (encL eStr o0.l), .ghost (gv 0) (.ptr 0 0), .ghost (gv 1) (.row 1 0)]⟩) (tips := [(6, { orc := .val (.bool true) })]) (by kernel_rfl) (allc (congrArg D.bool b16) all0) (fun a w hs => ⟨true, h, hs⟩)
    · replace h := cond_f b16 h
      refine At.region_end [0, 6, 21] [0, 1, 2, 3] _ (st' := ⟨[(0, .ptr 0 0), (6, i64 (w64 (y2 - p1))), (21, bo (decide ((w64 (y2 - p1)) < 0)))], [.blk 94 [.row 1 (o0.l).length, i64 o0.most], .row 9 1 (encL eStr o0.l), .ghost (gv 0) (.ptr 0 0), .ghost (gv 1) (.row 1 0)]⟩) (tips := [(6, { orc := .val (.bool false) })]) (by kernel_rfl) (allc (congrArg D.bool b16) all0) (fun a w hs => ⟨(decide ((w64 (y2 - p1)) < 0)), h, hs⟩)
  · intro x8 h
    replace h : F_stack_Stack_string_Take_J1 p1 o0 y2 x8 = some r := h
    rw [F_stack_Stack_string_Take_J1] at h
    refine At.cond x8 (by kernel_rfl) (fun b9 => ?_) (fun b9 => ?_)
    · replace h := cond_t b9 h
      refine At.seq ?_
      refine At.region_end [4, 5] [0, 1, 2, 3] _ (st' := ⟨[(4, .d (.list true 0 [])), (5, bo false)], [.blk 94 [.row 1 (o0.l).length, i64 o0.most], .row 9 1 (encL eStr o0.l), .ghost (gv 0) (.ptr 0 0), .ghost (gv 1) (.row 1 0)]⟩) (tips := []) (by kernel_rfl) all0 (norm ?_)
      refine At.edNar [.hideG 3, .ownS 4 9 1] [4, 5] [0, 1, 2, 3, 4] (st' := ⟨[(4, .row 4 ([] : List ByteArray).length), (5, bo false)], [.blk 94 [.row 1 (o0.l).length, i64 o0.most], .row 9 1 (encL eStr o0.l), .ghost (gv 0) (.ptr 0 0), .ghost (gv 1) (.undef), .row 9 1 (encL eStr ([]))]⟩) (by kernel_rfl) ?_
      obtain rfl := some_eq h
      exact At.ret fun a w hs => ret_ok hR (ρ := [0, 1, 4]) (gs := [.ghost (gv 0) (.ptr 0 0), .ghost (gv 1) (.undef)]) (by kernel_rfl) all0 (by kernel_rfl) rfl rfl a w hs _ (.inl rfl)
    · replace h := cond_f b9 h
      refine At.nar [0, 6] [0, 1, 2, 3] (st' := ⟨[(0, .ptr 0 0), (6, i64 (w64 (y2 - p1)))], [.blk 94 [.row 1 (o0.l).length, i64 o0.most], .row 9 1 (encL eStr o0.l), .ghost (gv 0) (.ptr 0 0), .ghost (gv 1) (.row 1 0)]⟩) (by kernel_rfl) ?_
      refine At.skip (norm ?_)
      refine At.seq ?_
      obtain ⟨g12, h⟩ := grd_some h
      obtain ⟨y13, hy13, h⟩ := bind_some h
      refine At.region_end [0, 6, 7] [0, 1, 2, 3, 4] _ (st' := ⟨[(0, .ptr 0 0), (6, i64 (w64 (y2 - p1))), (7, .row 4 (y13).length)], [.blk 94 (T_stack_Stack_string_.pvs o0), .dead, .ghost (gv 0) (.ptr 0 0), .ghost (gv 1) (.d (.list false 0 (encL eStr o0.l))), .row 9 1 (encL eStr y13)]⟩) (tips := [(5, { form := some ((lCut o0.l (w64 (y2 - p1)) ((o0.l).length : Int)).length, encL eStr (lCut o0.l (w64 (y2 - p1)) ((o0.l).length : Int))) }), (6, { pc := some { ρ := [4], n0 := 0, res := .row 0 (y13).length, σ' := [.row 9 1 (encL eStr y13)], e := [] } })]) (by kernel_rfl) (allc ((cut_ok he_str g12).1) (allc ((cut_ok he_str g12).2) (allc g12 (allc (C_slices_Clone_string_string (lCut o0.l (w64 (y2 - p1)) ((o0.l).length : Int)) y13 hy13) all0)))) (norm ?_)
      refine At.seq ?_
      obtain ⟨g15, h⟩ := grd_some h
      refine At.region_end [7] [0, 1, 2, 3, 4] _ (st' := ⟨[(7, .row 4 (y13).length)], [.blk 94 [.d (.list true ((lCut o0.l 0 (w64 (y2 - p1)))).length (encL eStr (lCut o0.l 0 (w64 (y2 - p1))))), i64 o0.most], .dead, .ghost (gv 0) (.ptr 0 0), .ghost (gv 1) (.d (.list false 0 (encL eStr o0.l))), .row 9 1 (encL eStr y13)]⟩) (tips := [(7, { form := some ((lCut o0.l 0 (w64 (y2 - p1))).length, encL eStr (lCut o0.l 0 (w64 (y2 - p1)))) })]) (by kernel_rfl) (allc ((cut_ok3 he_str g15).1) (allc ((cut_ok3 he_str g15).2) (allc g15 all0))) (norm ?_)
      refine At.seq ?_
      refine At.region_end [4, 5] [0, 1, 2, 3, 4] _ (st' := ⟨[(4, .row 4 (y13).length), (5, bo true)], [.blk 94 [.d (.list true ((lCut o0.l 0 (w64 (y2 - p1)))).length (encL eStr (lCut o0.l 0 (w64 (y2 - p1))))), i64 o0.most], .dead, .ghost (gv 0) (.ptr 0 0), .ghost (gv 1) (.d (.list false 0 (encL eStr o0.l))), .row 9 1 (encL eStr y13)]⟩) (tips := []) (by kernel_rfl) all0 (norm ?_)
      refine At.edNar [.hideG 3] [4, 5] [0, 1, 2, 3, 4] (st' := ⟨[(4, .row 4 (y13).length), (5, bo true)], [.blk 94 [.d (.list true ((lCut o0.l 0 (w64 (y2 - p1)))).length (encL eStr (lCut o0.l 0 (w64 (y2 - p1))))), i64 o0.most], .dead, .ghost (gv 0) (.ptr 0 0), .ghost (gv 1) (.undef), .row 9 1 (encL eStr y13)]⟩) (by kernel_rfl) ?_
      obtain rfl := some_eq h
      exact At.ret fun a w hs => ret_ok hR (ρ := [0, 1, 4]) (gs := [.ghost (gv 0) (.ptr 0 0), .ghost (gv 1) (.undef)]) (by kernel_rfl) all0 (by kernel_rfl) rfl rfl a w hs _ (.inl rfl)
set_option maxRecDepth 100000 in
theorem C_stack_Stack_string_Pop (o0 : T_stack_Stack_string_) (r : (ByteArray × Bool) ⊕ (ByteArray × Bool × T_stack_Stack_string_)) (h : F_stack_Stack_string_Pop o0 = some r) : FnOK Try.prog 36 [.ptr 0 0] [.blk 94 [.row 1 (o0.l).length, i64 o0.most], .row 9 1 (encL eStr o0.l)] ((Sum.elim (fun r => .tup [sv r.1, bo r.2]) (fun r => .tup [sv r.1, bo r.2.1])) r) ((Sum.elim (fun r => [.blk 94 [.row 1 (o0.l).length, i64 o0.most], .row 9 1 (encL eStr o0.l)]) (fun r => [.blk 94 [.d (.list true (r.2.2.l).length (encL eStr r.2.2.l)), i64 r.2.2.most], .dead])) r) [1, 2, 3] := by
  rw [F_stack_Stack_string_Pop] at h
  refine FnOK.intro Try.func36 rfl (by kernel_rfl) (by kernel_rfl) fun E gv R hR => ?_
  refine At.seq ?_
  refine At.region_end [0] [0, 1, 2, 3] _ (st' := ⟨[(0, .ptr 0 0)], [.blk 94 [.row 1 (o0.l).length, i64 o0.most], .row 9 1 (encL eStr o0.l), .ghost (gv 0) (.ptr 0 0), .ghost (gv 1) (.row 1 0)]⟩) (tips := []) (by kernel_rfl) all0 (norm ?_)
  refine At.seqJ (S := (Bool × (List ByteArray)) ⊕ (Bool × (List ByteArray) × Int × (List ByteArray))) (Sum.elim (fun s => ⟨[(4, .row 4 (s.2).length), (5, bo s.1)], [.blk 94 [.row 1 (o0.l).length, i64 o0.most], .row 9 1 (encL eStr o0.l), .ghost (gv 0) (.ptr 0 0), .ghost (gv 1) (.undef), .row 9 1 (encL eStr s.2)]⟩) (fun s => ⟨[(4, .row 4 (s.2.2.2).length), (5, bo s.1)], [.blk 94 [.d (.list true (s.2.1).length (encL eStr s.2.1)), i64 s.2.2.1], .dead, .ghost (gv 0) (.ptr 0 0), .ghost (gv 1) (.undef), .row 9 1 (encL eStr s.2.2.2)]⟩)) (Sum.elim (fun s => F_stack_Stack_string_Pop_J1 s.1 s.2 = some r) (fun s => F_stack_Stack_string_Pop_J2 s.1 s.2.1 s.2.2.1 s.2.2.2 = some r)) ?_ ?_
  · obtain ⟨y18, hy18, h⟩ := bind_some h
    rcases y18 with y19 | y20
    · replace h := el_inl h
      refine At.region_end [4, 5] [0, 1, 2, 3, 4] _ (st' := ⟨[(4, .row 4 (y19.1).length), (5, bo y19.2)], [.blk 94 [.row 1 (o0.l).length, i64 o0.most], .row 9 1 (encL eStr o0.l), .ghost (gv 0) (.ptr 0 0), .ghost (gv 1) (.undef), .row 9 1 (encL eStr y19.1)]⟩) (tips := [(1, { pc := some { ρ := [0, 1, 4], n0 := 2, res := .tup [.row 2 (y19.1).length, bo y19.2], σ' := [.blk 94 [.row 1 (o0.l).length, i64 o0.most], .row 9 1 (encL eStr o0.l), .row 9 1 (encL eStr y19.1)], e := [1, 2, 3] } })]) (by kernel_rfl) (allc (C_stack_Stack_string_Take 1 o0 (.inl y19) hy18) all0) (fun a w hs => ⟨.inl (y19.2, y19.1), h, hs⟩)
    · replace h := el_inr h
      refine At.region_end [4, 5] [0, 1, 2, 3, 4] _ (st' := ⟨[(4, .row 4 (y20.1).length), (5, bo y20.2.1)], [.blk 94 [.d (.list true (y20.2.2.l).length (encL eStr y20.2.2.l)), i64 y20.2.2.most], .dead, .ghost (gv 0) (.ptr 0 0), .ghost (gv 1) (.undef), .row 9 1 (encL eStr y20.1)]⟩) (tips := [(1, { pc := some { ρ := [0, 1, 4], n0 := 2, res := .tup [.row 2 (y20.1).length, bo y20.2.1], σ' := [.blk 94 [.d (.list true (y20.2.2.l).length (encL eStr y20.2.2.l)), i64 y20.2.2.most], .dead, .row 9 1 (encL eStr y20.1)], e := [1, 2, 3] } })]) (by kernel_rfl) (allc (C_stack_Stack_string_Take 1 o0 (.inr y20) hy18) all0) (fun a w hs => ⟨.inr ((y20.2.1, y20.2.2.l, y20.2.2.most, y20.1)), h, hs⟩)
  · rintro (⟨x4, x5⟩ | ⟨x10, x11, x12, x13⟩) h
    · replace h : F_stack_Stack_string_Pop_J1 x4 x5 = some r := h
      rw [F_stack_Stack_string_Pop_J1] at h
      refine At.seq ?_
      refine At.seq ?_
      refine At.region_end [4, 13] [0, 1, 2, 3, 4] _ (st' := ⟨[(4, .row 4 (x5).length), (13, bo (!x4))], [.blk 94 [.row 1 (o0.l).length, i64 o0.most], .row 9 1 (encL eStr o0.l), .ghost (gv 0) (.ptr 0 0), .ghost (gv 1) (.undef), .row 9 1 (encL eStr x5)]⟩) (tips := []) (by kernel_rfl) all0 (norm ?_)
      refine At.cond (!x4) (by kernel_rfl) (fun b7 => ?_) (fun b7 => ?_)
      · replace h := cond_t b7 h
        refine At.seq ?_
        refine At.region_end [6] [0, 1, 2, 3] _ (st' := ⟨[(6, sv (⟨#[]⟩ : ByteArray))], [.blk 94 [.row 1 (o0.l).length, i64 o0.most], .row 9 1 (encL eStr o0.l), .ghost (gv 0) (.ptr 0 0), .ghost (gv 1) (.undef)]⟩) (tips := []) (by kernel_rfl) all0 (norm ?_)
        refine At.seq ?_
        refine At.region_end [2, 3] [0, 1, 2, 3] _ (st' := ⟨[(2, sv (⟨#[]⟩ : ByteArray)), (3, bo false)], [.blk 94 [.row 1 (o0.l).length, i64 o0.most], .row 9 1 (encL eStr o0.l), .ghost (gv 0) (.ptr 0 0), .ghost (gv 1) (.undef)]⟩) (tips := []) (by kernel_rfl) all0 (norm ?_)
        obtain rfl := some_eq h
        exact At.ret fun a w hs => ret_ok hR (ρ := [0, 1]) (gs := [.ghost (gv 0) (.ptr 0 0), .ghost (gv 1) (.undef)]) (by kernel_rfl) all0 (by kernel_rfl) rfl rfl a w hs _ (.inl rfl)
      · replace h := cond_f b7 h
        refine At.nar [4] [0, 1, 2, 3, 4] (st' := ⟨[(4, .row 4 (x5).length)], [.blk 94 [.row 1 (o0.l).length, i64 o0.most], .row 9 1 (encL eStr o0.l), .ghost (gv 0) (.ptr 0 0), .ghost (gv 1) (.undef), .row 9 1 (encL eStr x5)]⟩) (by kernel_rfl) ?_
        refine At.skip (norm ?_)
        refine At.seq ?_
        obtain ⟨y9, hy9, h⟩ := bind_some h
        refine At.region_end [2, 3] [0, 1, 2, 3] _ (st' := ⟨[(2, sv y9), (3, bo true)], [.blk 94 [.row 1 (o0.l).length, i64 o0.most], .row 9 1 (encL eStr o0.l), .ghost (gv 0) (.ptr 0 0), .ghost (gv 1) (.undef)]⟩) (tips := [(2, { orc := .val (.str y9) })]) (by kernel_rfl) (allc ((rAt_of he_str (d := .str y9) hy9 rfl).1) (allc ((rAt_of he_str (d := .str y9) hy9 rfl).2) all0)) (norm ?_)
        obtain rfl := some_eq h
        exact At.ret fun a w hs => ret_ok hR (ρ := [0, 1]) (gs := [.ghost (gv 0) (.ptr 0 0), .ghost (gv 1) (.undef)]) (by kernel_rfl) all0 (by kernel_rfl) rfl rfl a w hs _ (.inl rfl)
    · replace h : F_stack_Stack_string_Pop_J2 x10 x11 x12 x13 = some r := h
      rw [F_stack_Stack_string_Pop_J2] at h
      refine At.seq ?_
      refine At.seq ?_
      refine At.region_end [4, 13] [0, 1, 2, 3, 4] _ (st' := ⟨[(4, .row 4 (x13).length), (13, bo (!x10))], [.blk 94 [.d (.list true (x11).length (encL eStr x11)), i64 x12], .dead, .ghost (gv 0) (.ptr 0 0), .ghost (gv 1) (.undef), .row 9 1 (encL eStr x13)]⟩) (tips := []) (by kernel_rfl) all0 (norm ?_)
      refine At.cond (!x10) (by kernel_rfl) (fun b15 => ?_) (fun b15 => ?_)
      · replace h := cond_t b15 h
        refine At.seq ?_
        refine At.region_end [6] [0, 1, 2, 3] _ (st' := ⟨[(6, sv (⟨#[]⟩ : ByteArray))], [.blk 94 [.d (.list true (x11).length (encL eStr x11)), i64 x12], .dead, .ghost (gv 0) (.ptr 0 0), .ghost (gv 1) (.undef)]⟩) (tips := []) (by kernel_rfl) all0 (norm ?_)
        refine At.seq ?_
        refine At.region_end [2, 3] [0, 1, 2, 3] _ (st' := ⟨[(2, sv (⟨#[]⟩ : ByteArray)), (3, bo false)], [.blk 94 [.d (.list true (x11).length (encL eStr x11)), i64 x12], .dead, .ghost (gv 0) (.ptr 0 0), .ghost (gv 1) (.undef)]⟩) (tips := []) (by kernel_rfl) all0 (norm ?_)
        obtain rfl := some_eq h
        exact At.ret fun a w hs => ret_ok hR (ρ := [0, 1]) (gs := [.ghost (gv 0) (.ptr 0 0), .ghost (gv 1) (.undef)]) (by kernel_rfl) all0 (by kernel_rfl) rfl rfl a w hs _ (.inl rfl)
      · replace h := cond_f b15 h
        refine At.nar [4] [0, 1, 2, 3, 4] (st' := ⟨[(4, .row 4 (x13).length)], [.blk 94 [.d (.list true (x11).length (encL eStr x11)), i64 x12], .dead, .ghost (gv 0) (.ptr 0 0), .ghost (gv 1) (.undef), .row 9 1 (encL eStr x13)]⟩) (by kernel_rfl) ?_
        refine At.skip (norm ?_)
        refine At.seq ?_
        obtain ⟨y17, hy17, h⟩ := bind_some h
        refine At.region_end [2, 3] [0, 1, 2, 3] _ (st' := ⟨[(2, sv y17), (3, bo true)], [.blk 94 [.d (.list true (x11).length (encL eStr x11)), i64 x12], .dead, .ghost (gv 0) (.ptr 0 0), .ghost (gv 1) (.undef)]⟩) (tips := [(2, { orc := .val (.str y17) })]) (by kernel_rfl) (allc ((rAt_of he_str (d := .str y17) hy17 rfl).1) (allc ((rAt_of he_str (d := .str y17) hy17 rfl).2) all0)) (norm ?_)
        obtain rfl := some_eq h
        exact At.ret fun a w hs => ret_ok hR (ρ := [0, 1]) (gs := [.ghost (gv 0) (.ptr 0 0), .ghost (gv 1) (.undef)]) (by kernel_rfl) all0 (by kernel_rfl) rfl rfl a w hs _ (.inl rfl)
set_option maxRecDepth 100000 in
theorem C_stack_Stack_string_Len_v2 (o0 : T_stack_Stack_string_) (r : Int) (h : F_stack_Stack_string_Len_v2 o0 = some r) : FnOK Try.prog 39 [.ptr 0 0] [.blk 94 [.d (.list true (o0.l).length (encL eStr o0.l)), i64 o0.most]] (i64 r) [.blk 94 [.d (.list true (o0.l).length (encL eStr o0.l)), i64 o0.most]] [1] := by
  rw [F_stack_Stack_string_Len_v2] at h
  refine FnOK.intro Try.func39 rfl (by kernel_rfl) (by kernel_rfl) fun E gv R hR => ?_
  refine At.seq ?_
  refine At.region_end [0] [0, 1] _ (st' := ⟨[(0, .ptr 0 0)], [.blk 94 [.d (.list true (o0.l).length (encL eStr o0.l)), i64 o0.most], .ghost (gv 0) (.ptr 0 0)]⟩) (tips := []) (by kernel_rfl) all0 (norm ?_)
  refine At.seq ?_
  refine At.seq ?_
  refine At.region_end [0, 4] [0, 1] _ (st' := ⟨[(0, .ptr 0 0), (4, bo false)], [.blk 94 [.d (.list true (o0.l).length (encL eStr o0.l)), i64 o0.most], .ghost (gv 0) (.ptr 0 0)]⟩) (tips := []) (by kernel_rfl) all0 (norm ?_)
  refine At.cond false (by kernel_rfl) (fun hb => by cases hb) (fun _ => ?_)
  refine At.nar [0] [0, 1] (st' := ⟨[(0, .ptr 0 0)], [.blk 94 [.d (.list true (o0.l).length (encL eStr o0.l)), i64 o0.most], .ghost (gv 0) (.ptr 0 0)]⟩) (by kernel_rfl) ?_
  refine At.skip (norm ?_)
  refine At.seq ?_
  refine At.region_end [2] [0, 1] _ (st' := ⟨[(2, i64 ((o0.l).length : Int))], [.blk 94 [.d (.list true (o0.l).length (encL eStr o0.l)), i64 o0.most], .ghost (gv 0) (.ptr 0 0)]⟩) (tips := []) (by kernel_rfl) all0 (norm ?_)
  obtain rfl := some_eq h
  exact At.ret fun a w hs => ret_ok hR (ρ := [0]) (gs := [.ghost (gv 0) (.ptr 0 0)]) (by kernel_rfl) all0 (by kernel_rfl) rfl rfl a w hs _ (.inl rfl)
set_option maxRecDepth 100000 in
theorem C_stack_Stack_string_Take_v2 (p1 : Int) (o0 : T_stack_Stack_string_) (r : (List ByteArray) × Bool × T_stack_Stack_string_) (h : F_stack_Stack_string_Take_v2 p1 o0 = some r) : FnOK Try.prog 37 [.ptr 0 0, i64 p1] [.blk 94 [.d (.list true (o0.l).length (encL eStr o0.l)), i64 o0.most]] (.tup [.row 1 (r.1).length, bo r.2.1]) [.blk 94 [.d (.list true (r.2.2.l).length (encL eStr r.2.2.l)), i64 r.2.2.most], .row 9 1 (encL eStr r.1)] [1] := by
  rw [F_stack_Stack_string_Take_v2] at h
  refine FnOK.intro Try.func37 rfl (by kernel_rfl) (by kernel_rfl) fun E gv R hR => ?_
  refine At.seq ?_
  refine At.region_end [0, 1] [0, 1] _ (st' := ⟨[(0, .ptr 0 0), (1, i64 p1)], [.blk 94 [.d (.list true (o0.l).length (encL eStr o0.l)), i64 o0.most], .ghost (gv 0) (.ptr 0 0)]⟩) (tips := []) (by kernel_rfl) all0 (norm ?_)
  refine At.seq ?_
  obtain ⟨y2, hy2, h⟩ := bind_some h
  refine At.region_end [0, 1, 6] [0, 1] _ (st' := ⟨[(0, .ptr 0 0), (1, i64 p1), (6, i64 (w64 (y2 - p1)))], [.blk 94 [.d (.list true (o0.l).length (encL eStr o0.l)), i64 o0.most], .ghost (gv 0) (.ptr 0 0)]⟩) (tips := [(1, { pc := some { ρ := [0], n0 := 1, loose := false, res := i64 y2, σ' := [.blk 94 [.d (.list true (o0.l).length (encL eStr o0.l)), i64 o0.most]], e := [1] } })]) (by kernel_rfl) (allc (C_stack_Stack_string_Len_v2 o0 y2 hy2) all0) (norm ?_)
  refine At.seq ?_
  refine At.seqJ (S := Bool) (fun s => ⟨[(0, .ptr 0 0), (6, i64 (w64 (y2 - p1))), (21, bo s)], [.blk 94 [.d (.list true (o0.l).length (encL eStr o0.l)), i64 o0.most], .ghost (gv 0) (.ptr 0 0)]⟩) (fun s => F_stack_Stack_string_Take_v2_J1 p1 o0 y2 s = some r) ?_ ?_
  · rcases tf (decide (p1 < 0)) with b16 | b16
    · replace h := cond_t b16 h
      refine At.region_end [0, 6, 21] [0, 1] _ (st' := ⟨[(0, .ptr 0 0), (6, i64 (w64 (y2 - p1))), (21, bo true)], [.blk 94 [.d (.list true (o0.l).length (encL eStr o0.l)), i64 o0.most], .ghost (gv 0) (.ptr 0 0)]⟩) (tips := [(6, { orc := .val (.bool true) })]) (by kernel_rfl) (allc (congrArg D.bool b16) all0) (fun a w hs => ⟨true, h, hs⟩)
    · replace h := cond_f b16 h
      refine At.region_end [0, 6, 21] [0, 1] _ (st' := ⟨[(0, .ptr 0 0), (6, i64 (w64 (y2 - p1))), (21, bo (decide ((w64 (y2 - p1)) < 0)))], [.blk 94 [.d (.list true (o0.l).length (encL eStr o0.l)), i64 o0.most], .ghost (gv 0) (.ptr 0 0)]⟩) (tips := [(6, { orc := .val (.bool false) })]) (by kernel_rfl) (allc (congrArg D.bool b16) all0) (fun a w hs => ⟨(decide ((w64 (y2 - p1)) < 0)), h, hs⟩)
  · intro x8 h
    replace h : F_stack_Stack_string_Take_v2_J1 p1 o0 y2 x8 = some r := h
    rw [F_stack_Stack_string_Take_v2_J1] at h
    refine At.cond x8 (by kernel_rfl) (fun b9 => ?_) (fun b9 => ?_)
    · replace h := cond_t b9 h
      refine At.seq ?_
      refine At.region_end [4, 5] [0, 1] _ (st' := ⟨[(4, .d (.list true 0 [])), (5, bo false)], [.blk 94 [.d (.list true (o0.l).length (encL eStr o0.l)), i64 o0.most], .ghost (gv 0) (.ptr 0 0)]⟩) (tips := []) (by kernel_rfl) all0 (norm ?_)
      refine At.edNar [.ownS 4 9 1] [4, 5] [0, 1, 2] (st' := ⟨[(4, .row 2 ([] : List ByteArray).length), (5, bo false)], [.blk 94 [.d (.list true (o0.l).length (encL eStr o0.l)), i64 o0.most], .ghost (gv 0) (.ptr 0 0), .row 9 1 (encL eStr ([]))]⟩) (by kernel_rfl) ?_
      obtain rfl := some_eq h
      exact At.ret fun a w hs => ret_ok hR (ρ := [0, 2]) (gs := [.ghost (gv 0) (.ptr 0 0)]) (by kernel_rfl) all0 (by kernel_rfl) rfl rfl a w hs _ (.inl rfl)
    · replace h := cond_f b9 h
      refine At.nar [0, 6] [0, 1] (st' := ⟨[(0, .ptr 0 0), (6, i64 (w64 (y2 - p1)))], [.blk 94 [.d (.list true (o0.l).length (encL eStr o0.l)), i64 o0.most], .ghost (gv 0) (.ptr 0 0)]⟩) (by kernel_rfl) ?_
      refine At.skip (norm ?_)
      refine At.seq ?_
      obtain ⟨g12, h⟩ := grd_some h
      obtain ⟨y13, hy13, h⟩ := bind_some h
      refine At.region_end [0, 6, 7] [0, 1, 2] _ (st' := ⟨[(0, .ptr 0 0), (6, i64 (w64 (y2 - p1))), (7, .row 2 (y13).length)], [.blk 94 [.d (.list true (o0.l).length (encL eStr o0.l)), i64 o0.most], .ghost (gv 0) (.ptr 0 0), .row 9 1 (encL eStr y13)]⟩) (tips := [(5, { form := some ((lCut o0.l (w64 (y2 - p1)) ((o0.l).length : Int)).length, encL eStr (lCut o0.l (w64 (y2 - p1)) ((o0.l).length : Int))) }), (6, { pc := some { ρ := [2], n0 := 0, res := .row 0 (y13).length, σ' := [.row 9 1 (encL eStr y13)], e := [] } })]) (by kernel_rfl) (allc ((cut_ok he_str g12).1) (allc ((cut_ok he_str g12).2) (allc g12 (allc (C_slices_Clone_string_string (lCut o0.l (w64 (y2 - p1)) ((o0.l).length : Int)) y13 hy13) all0)))) (norm ?_)
      refine At.seq ?_
      obtain ⟨g15, h⟩ := grd_some h
      refine At.region_end [7] [0, 1, 2] _ (st' := ⟨[(7, .row 2 (y13).length)], [.blk 94 [.d (.list true ((lCut o0.l 0 (w64 (y2 - p1)))).length (encL eStr (lCut o0.l 0 (w64 (y2 - p1))))), i64 o0.most], .ghost (gv 0) (.ptr 0 0), .row 9 1 (encL eStr y13)]⟩) (tips := [(7, { form := some ((lCut o0.l 0 (w64 (y2 - p1))).length, encL eStr (lCut o0.l 0 (w64 (y2 - p1)))) })]) (by kernel_rfl) (allc ((cut_ok3 he_str g15).1) (allc ((cut_ok3 he_str g15).2) (allc g15 all0))) (norm ?_)
      refine At.seq ?_
      refine At.region_end [4, 5] [0, 1, 2] _ (st' := ⟨[(4, .row 2 (y13).length), (5, bo true)], [.blk 94 [.d (.list true ((lCut o0.l 0 (w64 (y2 - p1)))).length (encL eStr (lCut o0.l 0 (w64 (y2 - p1))))), i64 o0.most], .ghost (gv 0) (.ptr 0 0), .row 9 1 (encL eStr y13)]⟩) (tips := []) (by kernel_rfl) all0 (norm ?_)
      obtain rfl := some_eq h
      exact At.ret fun a w hs => ret_ok hR (ρ := [0, 2]) (gs := [.ghost (gv 0) (.ptr 0 0)]) (by kernel_rfl) all0 (by kernel_rfl) rfl rfl a w hs _ (.inl rfl)
set_option maxRecDepth 100000 in
theorem C_stack_Stack_string_Pop_v2 (o0 : T_stack_Stack_string_) (r : ByteArray × Bool × T_stack_Stack_string_) (h : F_stack_Stack_string_Pop_v2 o0 = some r) : FnOK Try.prog 36 [.ptr 0 0] [.blk 94 [.d (.list true (o0.l).length (encL eStr o0.l)), i64 o0.most]] (.tup [sv r.1, bo r.2.1]) [.blk 94 [.d (.list true (r.2.2.l).length (encL eStr r.2.2.l)), i64 r.2.2.most]] [1] := by
  rw [F_stack_Stack_string_Pop_v2] at h
  refine FnOK.intro Try.func36 rfl (by kernel_rfl) (by kernel_rfl) fun E gv R hR => ?_
  refine At.seq ?_
  refine At.region_end [0] [0, 1] _ (st' := ⟨[(0, .ptr 0 0)], [.blk 94 [.d (.list true (o0.l).length (encL eStr o0.l)), i64 o0.most], .ghost (gv 0) (.ptr 0 0)]⟩) (tips := []) (by kernel_rfl) all0 (norm ?_)
  refine At.seq ?_
  obtain ⟨y2, hy2, h⟩ := bind_some h
  refine At.region_end [4, 5] [0, 1, 2] _ (st' := ⟨[(4, .row 2 (y2.1).length), (5, bo y2.2.1)], [.blk 94 [.d (.list true (y2.2.2.l).length (encL eStr y2.2.2.l)), i64 y2.2.2.most], .ghost (gv 0) (.ptr 0 0), .row 9 1 (encL eStr y2.1)]⟩) (tips := [(1, { pc := some { ρ := [0, 2], n0 := 1, loose := false, res := .tup [.row 1 (y2.1).length, bo y2.2.1], σ' := [.blk 94 [.d (.list true (y2.2.2.l).length (encL eStr y2.2.2.l)), i64 y2.2.2.most], .row 9 1 (encL eStr y2.1)], e := [1] } })]) (by kernel_rfl) (allc (C_stack_Stack_string_Take_v2 1 o0 y2 hy2) all0) (norm ?_)
  refine At.seq ?_
  refine At.seq ?_
  refine At.region_end [4, 13] [0, 1, 2] _ (st' := ⟨[(4, .row 2 (y2.1).length), (13, bo (!y2.2.1))], [.blk 94 [.d (.list true (y2.2.2.l).length (encL eStr y2.2.2.l)), i64 y2.2.2.most], .ghost (gv 0) (.ptr 0 0), .row 9 1 (encL eStr y2.1)]⟩) (tips := []) (by kernel_rfl) all0 (norm ?_)
  refine At.cond (!y2.2.1) (by kernel_rfl) (fun b4 => ?_) (fun b4 => ?_)
  · replace h := cond_t b4 h
    refine At.seq ?_
    refine At.region_end [6] [0, 1] _ (st' := ⟨[(6, sv (⟨#[]⟩ : ByteArray))], [.blk 94 [.d (.list true (y2.2.2.l).length (encL eStr y2.2.2.l)), i64 y2.2.2.most], .ghost (gv 0) (.ptr 0 0)]⟩) (tips := []) (by kernel_rfl) all0 (norm ?_)
    refine At.seq ?_
    refine At.region_end [2, 3] [0, 1] _ (st' := ⟨[(2, sv (⟨#[]⟩ : ByteArray)), (3, bo false)], [.blk 94 [.d (.list true (y2.2.2.l).length (encL eStr y2.2.2.l)), i64 y2.2.2.most], .ghost (gv 0) (.ptr 0 0)]⟩) (tips := []) (by kernel_rfl) all0 (norm ?_)
    obtain rfl := some_eq h
    exact At.ret fun a w hs => ret_ok hR (ρ := [0]) (gs := [.ghost (gv 0) (.ptr 0 0)]) (by kernel_rfl) all0 (by kernel_rfl) rfl rfl a w hs _ (.inl rfl)
  · replace h := cond_f b4 h
    refine At.nar [4] [0, 1, 2] (st' := ⟨[(4, .row 2 (y2.1).length)], [.blk 94 [.d (.list true (y2.2.2.l).length (encL eStr y2.2.2.l)), i64 y2.2.2.most], .ghost (gv 0) (.ptr 0 0), .row 9 1 (encL eStr y2.1)]⟩) (by kernel_rfl) ?_
    refine At.skip (norm ?_)
    refine At.seq ?_
    obtain ⟨y6, hy6, h⟩ := bind_some h
    refine At.region_end [2, 3] [0, 1] _ (st' := ⟨[(2, sv y6), (3, bo true)], [.blk 94 [.d (.list true (y2.2.2.l).length (encL eStr y2.2.2.l)), i64 y2.2.2.most], .ghost (gv 0) (.ptr 0 0)]⟩) (tips := [(2, { orc := .val (.str y6) })]) (by kernel_rfl) (allc ((rAt_of he_str (d := .str y6) hy6 rfl).1) (allc ((rAt_of he_str (d := .str y6) hy6 rfl).2) all0)) (norm ?_)
    obtain rfl := some_eq h
    exact At.ret fun a w hs => ret_ok hR (ρ := [0]) (gs := [.ghost (gv 0) (.ptr 0 0)]) (by kernel_rfl) all0 (by kernel_rfl) rfl rfl a w hs _ (.inl rfl)
set_option maxRecDepth 100000 in
theorem C_retraceref23_Same (p0 : (List ByteArray)) (p1 : (List ByteArray)) (r : Bool) (h : F_retraceref23_Same p0 p1 = some r) : FnOK Try.prog 38 [lv eStr p0, lv eStr p1] [] (bo r) [] [] := by
  rw [F_retraceref23_Same] at h
  refine FnOK.intro Try.func38 rfl (by kernel_rfl) (by kernel_rfl) fun E gv R hR => ?_
  refine At.seq ?_
  refine At.region_end [0, 1] [] _ (st' := ⟨[(0, lv eStr p0), (1, lv eStr p1)], []⟩) (tips := []) (by kernel_rfl) all0 (norm ?_)
  refine At.seq ?_
  refine At.seq ?_
  refine At.region_end [0, 1, 10] [] _ (st' := ⟨[(0, lv eStr p0), (1, lv eStr p1), (10, bo (((p0).length : Int) != ((p1).length : Int)))], []⟩) (tips := []) (by kernel_rfl) all0 (norm ?_)
  refine At.cond (((p0).length : Int) != ((p1).length : Int)) (by kernel_rfl) (fun b2 => ?_) (fun b2 => ?_)
  · replace h := cond_t b2 h
    refine At.seq ?_
    refine At.region_end [4] [] _ (st' := ⟨[(4, bo false)], []⟩) (tips := []) (by kernel_rfl) all0 (norm ?_)
    obtain rfl := some_eq h
    exact At.ret fun a w hs => ret_ok hR (ρ := []) (gs := []) (by kernel_rfl) all0 (by kernel_rfl) rfl rfl a w hs _ (.inl rfl)
  · replace h := cond_f b2 h
    refine At.nar [0, 1] [] (st' := ⟨[(0, lv eStr p0), (1, lv eStr p1)], []⟩) (by kernel_rfl) ?_
    refine At.skip (norm ?_)
    refine At.seq ?_
    refine At.seq ?_
    refine At.region_end [0, 1, 5] [] _ (st' := ⟨[(0, lv eStr p0), (1, lv eStr p1), (5, i64 0)], []⟩) (tips := []) (by kernel_rfl) all0 (norm ?_)
    refine At.block ?_
    refine At.loop (fun s : (Int) => F_retraceref23_Same_L1 p0 p1 s) (fun s : (Int) => ⟨[(0, lv eStr p0), (1, lv eStr p1), (5, i64 s)], []⟩) r 0 h ?_
    intro x22 oo23 h f24
    replace h : F_retraceref23_Same_L1 p0 p1 x22 = some oo23 := h
    rw [F_retraceref23_Same_L1] at h
    refine At.seq ?_
    refine At.seq ?_
    refine At.region_end [0, 1, 5, 14] [] _ (st' := ⟨[(0, lv eStr p0), (1, lv eStr p1), (5, i64 x22), (14, bo (decide (x22 < ((p0).length : Int))))], []⟩) (tips := []) (by kernel_rfl) all0 (norm ?_)
    refine At.cond (decide (x22 < ((p0).length : Int))) (by kernel_rfl) (fun b26 => ?_) (fun b26 => ?_)
    · replace h := cond_t b26 h
      refine At.nar [0, 1, 5] [] (st' := ⟨[(0, lv eStr p0), (1, lv eStr p1), (5, i64 x22)], []⟩) (by kernel_rfl) ?_
      refine At.skip (norm ?_)
      refine At.seq ?_
      refine At.block ?_
      refine At.seq ?_
      obtain ⟨y34, hy34, h⟩ := bind_some h
      obtain ⟨y35, hy35, h⟩ := bind_some h
      refine At.draw_end mixedOrd 0 [0, 1, 5, 25] [] _ (st' := ⟨[(0, lv eStr p0), (1, lv eStr p1), (5, i64 x22), (25, bo (!(y34.toList == y35.toList)))], []⟩) (tips := [(2, { tip := { orc := .cells (eStr y34) } }), (6, { tip := { orc := .cells (eStr y35) } })]) (by kernel_rfl) (allc (elemAt_of he_str hy34) (allc (elemAt_of he_str hy35) all0)) (norm ?_)
      refine At.cond (!(y34.toList == y35.toList)) (by kernel_rfl) (fun b36 => ?_) (fun b36 => ?_)
      · replace h := cond_t b36 h
        refine At.seq ?_
        refine At.region_end [4] [] _ (st' := ⟨[(4, bo false)], []⟩) (tips := []) (by kernel_rfl) all0 (norm ?_)
        obtain ⟨r37, h, e38⟩ := map_inr h
        rw [f24 _ e38] at h
        obtain rfl := some_eq h
        exact At.ret fun a w hs => ret_ok hR (ρ := []) (gs := []) (by kernel_rfl) all0 (by kernel_rfl) rfl rfl a w hs _ (.inl rfl)
      · replace h := cond_f b36 h
        refine At.nar [0, 1, 5] [] (st' := ⟨[(0, lv eStr p0), (1, lv eStr p1), (5, i64 x22)], []⟩) (by kernel_rfl) ?_
        refine At.skip (norm ?_)
        refine At.region_end [0, 1, 5] [] _ (st' := ⟨[(0, lv eStr p0), (1, lv eStr p1), (5, i64 (w64 (x22 + 1)))], []⟩) (tips := []) (by kernel_rfl) all0 (fun a w hs => ⟨_, (some_eq h).symm, hs⟩)
    · replace h := cond_f b26 h
      refine At.nar [] [] (st' := ⟨[], []⟩) (by kernel_rfl) ?_
      obtain ⟨r39, h, e40⟩ := map_inr h
      rw [f24 _ e40] at h
      refine At.exit (norm ?_)
      refine At.seq ?_
      refine At.region_end [4] [] _ (st' := ⟨[(4, bo true)], []⟩) (tips := []) (by kernel_rfl) all0 (norm ?_)
      obtain rfl := some_eq h
      exact At.ret fun a w hs => ret_ok hR (ρ := []) (gs := []) (by kernel_rfl) all0 (by kernel_rfl) rfl rfl a w hs _ (.inl rfl)
set_option maxRecDepth 100000 in
theorem C_stack_Stack_string_Room_v2 (o0 : T_stack_Stack_string_) (r : Int) (h : F_stack_Stack_string_Room_v2 o0 = some r) : FnOK Try.prog 40 [.ptr 0 0] [.blk 94 [.d (.list true (o0.l).length (encL eStr o0.l)), i64 o0.most]] (i64 r) [.blk 94 [.d (.list true (o0.l).length (encL eStr o0.l)), i64 o0.most]] [1] := by
  rw [F_stack_Stack_string_Room_v2] at h
  refine FnOK.intro Try.func40 rfl (by kernel_rfl) (by kernel_rfl) fun E gv R hR => ?_
  refine At.seq ?_
  refine At.region_end [0] [0, 1] _ (st' := ⟨[(0, .ptr 0 0)], [.blk 94 [.d (.list true (o0.l).length (encL eStr o0.l)), i64 o0.most], .ghost (gv 0) (.ptr 0 0)]⟩) (tips := []) (by kernel_rfl) all0 (norm ?_)
  refine At.seq ?_
  refine At.seq ?_
  refine At.region_end [0, 4] [0, 1] _ (st' := ⟨[(0, .ptr 0 0), (4, bo false)], [.blk 94 [.d (.list true (o0.l).length (encL eStr o0.l)), i64 o0.most], .ghost (gv 0) (.ptr 0 0)]⟩) (tips := []) (by kernel_rfl) all0 (norm ?_)
  refine At.cond false (by kernel_rfl) (fun hb => by cases hb) (fun _ => ?_)
  refine At.nar [0] [0, 1] (st' := ⟨[(0, .ptr 0 0)], [.blk 94 [.d (.list true (o0.l).length (encL eStr o0.l)), i64 o0.most], .ghost (gv 0) (.ptr 0 0)]⟩) (by kernel_rfl) ?_
  refine At.skip (norm ?_)
  refine At.seq ?_
  refine At.draw_end mixedOrd 0 [2] [0, 1] _ (st' := ⟨[(2, i64 (w64 (o0.most - ((o0.l).length : Int))))], [.blk 94 [.d (.list true (o0.l).length (encL eStr o0.l)), i64 o0.most], .ghost (gv 0) (.ptr 0 0)]⟩) (tips := [(0, { r := 2 }), (1, { r := 2 }), (2, { r := 2 }), (3, { T := [0], r := 2 }), (4, { r := 2 }), (5, { r := 2 }), (6, { r := 2 }), (7, { T := [0], r := 2 }), (8, { r := 2 })]) (by kernel_rfl) all0 (norm ?_)
  obtain rfl := some_eq h
  exact At.ret fun a w hs => ret_ok hR (ρ := [0]) (gs := [.ghost (gv 0) (.ptr 0 0)]) (by kernel_rfl) all0 (by kernel_rfl) rfl rfl a w hs _ (.inl rfl)
set_option maxRecDepth 100000 in
theorem C_stack_Stack_string_Push_v2 (p1 : ByteArray) (o0 : T_stack_Stack_string_) (r : (Bool) ⊕ (Bool × T_stack_Stack_string_)) (h : F_stack_Stack_string_Push_v2 p1 o0 = some r) : FnOK Try.prog 34 [.ptr 0 0, sv p1] [.blk 94 [.d (.list true (o0.l).length (encL eStr o0.l)), i64 o0.most]] ((Sum.elim (fun r => bo r) (fun r => bo r.1)) r) ((Sum.elim (fun r => [.blk 94 [.d (.list true (o0.l).length (encL eStr o0.l)), i64 o0.most]]) (fun r => [.blk 94 [.row 1 (r.2.l).length, i64 r.2.most], .row 9 1 (encL eStr r.2.l)])) r) [1] := by
  rw [F_stack_Stack_string_Push_v2] at h
  refine FnOK.intro Try.func34 rfl (by kernel_rfl) (by kernel_rfl) fun E gv R hR => ?_
  refine At.seq ?_
  refine At.region_end [0, 1] [0, 1] _ (st' := ⟨[(0, .ptr 0 0), (1, sv p1)], [.blk 94 [.d (.list true (o0.l).length (encL eStr o0.l)), i64 o0.most], .ghost (gv 0) (.ptr 0 0)]⟩) (tips := []) (by kernel_rfl) all0 (norm ?_)
  refine At.seq ?_
  refine At.seq ?_
  obtain ⟨y5, hy5, h⟩ := bind_some h
  refine At.region_end [0, 1, 7] [0, 1] _ (st' := ⟨[(0, .ptr 0 0), (1, sv p1), (7, bo (y5 == 0))], [.blk 94 [.d (.list true (o0.l).length (encL eStr o0.l)), i64 o0.most], .ghost (gv 0) (.ptr 0 0)]⟩) (tips := [(1, { pc := some { ρ := [0], n0 := 1, loose := false, res := i64 y5, σ' := [.blk 94 [.d (.list true (o0.l).length (encL eStr o0.l)), i64 o0.most]], e := [1] } })]) (by kernel_rfl) (allc (C_stack_Stack_string_Room_v2 o0 y5 hy5) all0) (norm ?_)
  refine At.cond (y5 == 0) (by kernel_rfl) (fun b6 => ?_) (fun b6 => ?_)
  · replace h := cond_t b6 h
    refine At.seq ?_
    refine At.region_end [4] [0, 1] _ (st' := ⟨[(4, bo false)], [.blk 94 [.d (.list true (o0.l).length (encL eStr o0.l)), i64 o0.most], .ghost (gv 0) (.ptr 0 0)]⟩) (tips := []) (by kernel_rfl) all0 (norm ?_)
    obtain rfl := some_eq h
    exact At.ret fun a w hs => ret_ok hR (ρ := [0]) (gs := [.ghost (gv 0) (.ptr 0 0)]) (by kernel_rfl) all0 (by kernel_rfl) rfl rfl a w hs _ (.inl rfl)
  · replace h := cond_f b6 h
    refine At.nar [0, 1] [0, 1] (st' := ⟨[(0, .ptr 0 0), (1, sv p1)], [.blk 94 [.d (.list true (o0.l).length (encL eStr o0.l)), i64 o0.most], .ghost (gv 0) (.ptr 0 0)]⟩) (by kernel_rfl) ?_
    refine At.skip (norm ?_)
    refine At.seq ?_
    obtain ⟨g8, h⟩ := grd_some h
    refine At.region_end [] [0, 1, 3] _ (st' := ⟨[], [.blk 94 [.row 2 ((o0.l ++ [p1])).length, i64 o0.most], .ghost (gv 0) (.ptr 0 0), .row 9 1 (encL eStr (o0.l ++ [p1]))]⟩) (tips := [(7, { form := some ((o0.l ++ [p1]).length, encL eStr (o0.l ++ [p1])) })]) (by kernel_rfl) (allc (len_app o0.l ([p1])) (allc (encL_app eStr o0.l ([p1])) (allc (app_okT he_str (by decide) g8) (allc (encL_len he_str ([p1])) all0)))) (norm ?_)
    refine At.seq ?_
    refine At.region_end [4] [0, 1, 2] _ (st' := ⟨[(4, bo true)], [.blk 94 [.row 2 ((o0.l ++ [p1])).length, i64 o0.most], .ghost (gv 0) (.ptr 0 0), .row 9 1 (encL eStr (o0.l ++ [p1]))]⟩) (tips := []) (by kernel_rfl) all0 (norm ?_)
    obtain rfl := some_eq h
    exact At.ret fun a w hs => ret_ok hR (ρ := [0, 2]) (gs := [.ghost (gv 0) (.ptr 0 0)]) (by kernel_rfl) all0 (by kernel_rfl) rfl rfl a w hs _ (.inl rfl)
set_option maxRecDepth 100000 in
theorem C_retracelaw23_StackOrder (p0 : (List ByteArray)) (p1 : ByteArray) (r : Bool) (h : F_retracelaw23_StackOrder p0 p1 = some r) : FnOK Try.prog 10 [lv eStr p0, sv p1] [] (bo r) [] [] := by
  rw [F_retracelaw23_StackOrder] at h
  refine FnOK.intro Try.func10 rfl (by kernel_rfl) (by kernel_rfl) fun E gv R hR => ?_
  refine At.seq ?_
  refine At.region_end [0, 1] [] _ (st' := ⟨[(0, lv eStr p0), (1, sv p1)], []⟩) (tips := []) (by kernel_rfl) all0 (norm ?_)
  refine At.seq ?_
  refine At.seqJ (S := Bool) (fun s => ⟨[(0, lv eStr p0), (1, sv p1), (19, bo s)], []⟩) (fun s => F_retracelaw23_StackOrder_J1 p0 p1 s = some r) ?_ ?_
  · rcases tf (decide (100 < ((p0).length : Int))) with b803 | b803
    · replace h := cond_t b803 h
      refine At.region_end [0, 1, 19] [] _ (st' := ⟨[(0, lv eStr p0), (1, sv p1), (19, bo true)], []⟩) (tips := [(3, { orc := .val (.bool true) })]) (by kernel_rfl) (allc (congrArg D.bool b803) all0) (fun a w hs => ⟨true, h, hs⟩)
    · replace h := cond_f b803 h
      obtain ⟨y804, hy804, h⟩ := bind_some h
      refine At.region_end [0, 1, 19] [] _ (st' := ⟨[(0, lv eStr p0), (1, sv p1), (19, bo (!y804))], []⟩) (tips := [(3, { orc := .val (.bool false) }), (4, { pc := some { ρ := [], n0 := 0, res := bo y804, σ' := [], e := [] } })]) (by kernel_rfl) (allc (congrArg D.bool b803) (allc (C_retracelaw23_live y804 hy804) all0)) (fun a w hs => ⟨(!y804), h, hs⟩)
  · intro x11 h
    replace h : F_retracelaw23_StackOrder_J1 p0 p1 x11 = some r := h
    rw [F_retracelaw23_StackOrder_J1] at h
    refine At.cond x11 (by kernel_rfl) (fun b12 => ?_) (fun b12 => ?_)
    · replace h := cond_t b12 h
      refine At.seq ?_
      obtain ⟨y14, hy14, h⟩ := bind_some h
      refine At.region_end [4] [] _ (st' := ⟨[(4, bo y14)], []⟩) (tips := [(0, { pc := some { ρ := [], n0 := 0, res := bo y14, σ' := [], e := [] } })]) (by kernel_rfl) (allc (C_retracelaw23_live y14 hy14) all0) (norm ?_)
      obtain rfl := some_eq h
      exact At.ret fun a w hs => ret_ok hR (ρ := []) (gs := []) (by kernel_rfl) all0 (by kernel_rfl) rfl rfl a w hs _ (.inl rfl)
    · replace h := cond_f b12 h
      refine At.nar [0, 1] [] (st' := ⟨[(0, lv eStr p0), (1, sv p1)], []⟩) (by kernel_rfl) ?_
      refine At.skip (norm ?_)
      refine At.seq ?_
      obtain ⟨y17, hy17, h⟩ := bind_some h
      obtain ⟨y18, hy18, h⟩ := bind_some h
      refine At.region_end [0, 1, 5, 6] [0, 1] _ (st' := ⟨[(0, lv eStr p0), (1, sv p1), (5, .ptr 0 0), (6, .ptr 1 0)], [.blk 94 [.d (.list true 0 []), i64 y17.most], .blk 94 [.d (.list true 0 []), i64 y18.most]]⟩) (tips := [(3, { pc := some { ρ := [0], n0 := 0, res := .ptr 0 0, σ' := [.blk 94 [.d (.list true 0 []), i64 y17.most]], e := [] } }), (6, { pc := some { ρ := [1], n0 := 0, res := .ptr 0 0, σ' := [.blk 94 [.d (.list true 0 []), i64 y18.most]], e := [] } })]) (by kernel_rfl) (allc (C_stack_New_string (w64 (((p0).length : Int) + 1)) y17 hy17) (allc (C_stack_New_string ((p0).length : Int) y18 hy18) all0)) (norm ?_)
      refine At.seq ?_
      refine At.seq ?_
      refine At.region_end [0, 1, 5, 6, 7] [0, 1] _ (st' := ⟨[(0, lv eStr p0), (1, sv p1), (5, .ptr 0 0), (6, .ptr 1 0), (7, i64 0)], [.blk 94 [.d (.list true 0 []), i64 y17.most], .blk 94 [.d (.list true 0 []), i64 y18.most]]⟩) (tips := []) (by kernel_rfl) all0 (norm ?_)
      refine At.block ?_
      refine At.edNar [.ownO 0 0 9 1, .ownO 1 0 9 1] [0, 1, 5, 6, 7] [0, 2, 1, 3] (st' := ⟨[(0, lv eStr p0), (1, sv p1), (5, .ptr 0 0), (6, .ptr 2 0), (7, i64 0)], [.blk 94 [.row 1 ([] : List ByteArray).length, i64 y17.most], .row 9 1 (encL eStr ([])), .blk 94 [.row 3 ([] : List ByteArray).length, i64 y18.most], .row 9 1 (encL eStr ([]))]⟩) (by kernel_rfl) ?_
      refine At.loop (fun s : (Int × Int × (List ByteArray) × Int × (List ByteArray)) => F_retracelaw23_StackOrder_L46 p0 p1 s.1 s.2.1 s.2.2.1 s.2.2.2.1 s.2.2.2.2) (fun s : (Int × Int × (List ByteArray) × Int × (List ByteArray)) => ⟨[(0, lv eStr p0), (1, sv p1), (5, .ptr 0 0), (6, .ptr 2 0), (7, i64 s.1)], [.blk 94 [.row 1 (s.2.2.1).length, i64 s.2.1], .row 9 1 (encL eStr s.2.2.1), .blk 94 [.row 3 (s.2.2.2.2).length, i64 s.2.2.2.1], .row 9 1 (encL eStr s.2.2.2.2)]⟩) r (0, y17.most, ([] : (List ByteArray)), y18.most, ([] : (List ByteArray))) h ?_
      rintro ⟨x64, x65, x66, x67, x68⟩ oo69 h f70
      replace h : F_retracelaw23_StackOrder_L46 p0 p1 x64 x65 x66 x67 x68 = some oo69 := h
      rw [F_retracelaw23_StackOrder_L46] at h
      refine At.seq ?_
      refine At.seq ?_
      refine At.region_end [0, 1, 5, 6, 7, 31] [0, 1, 2, 3] _ (st' := ⟨[(0, lv eStr p0), (1, sv p1), (5, .ptr 0 0), (6, .ptr 2 0), (7, i64 x64), (31, bo (decide (x64 < ((p0).length : Int))))], [.blk 94 [.row 1 (x66).length, i64 x65], .row 9 1 (encL eStr x66), .blk 94 [.row 3 (x68).length, i64 x67], .row 9 1 (encL eStr x68)]⟩) (tips := []) (by kernel_rfl) all0 (norm ?_)
      refine At.cond (decide (x64 < ((p0).length : Int))) (by kernel_rfl) (fun b72 => ?_) (fun b72 => ?_)
      · replace h := cond_t b72 h
        refine At.nar [0, 1, 5, 6, 7] [0, 1, 2, 3] (st' := ⟨[(0, lv eStr p0), (1, sv p1), (5, .ptr 0 0), (6, .ptr 2 0), (7, i64 x64)], [.blk 94 [.row 1 (x66).length, i64 x65], .row 9 1 (encL eStr x66), .blk 94 [.row 3 (x68).length, i64 x67], .row 9 1 (encL eStr x68)]⟩) (by kernel_rfl) ?_
        refine At.skip (norm ?_)
        refine At.seq ?_
        refine At.block ?_
        refine At.seqJ (S := Bool × Int × (List ByteArray) × Int × (List ByteArray)) (fun s => ⟨[(0, lv eStr p0), (1, sv p1), (5, .ptr 0 0), (6, .ptr 2 0), (7, i64 x64), (49, bo s.1)], [.blk 94 [.row 1 (s.2.2.1).length, i64 s.2.1], .row 9 1 (encL eStr s.2.2.1), .blk 94 [.row 3 (s.2.2.2.2).length, i64 s.2.2.2.1], .row 9 1 (encL eStr s.2.2.2.2)]⟩) (fun s => F_retracelaw23_StackOrder_J2 x64 s.1 s.2.1 s.2.2.1 s.2.2.2.1 s.2.2.2.2 = some oo69) ?_ ?_
        · obtain ⟨y102, hy102, h⟩ := bind_some h
          obtain ⟨y103, hy103, h⟩ := bind_some h
          rcases tf (!y103.1) with b104 | b104
          · replace h := cond_t b104 h
            refine At.region_end [0, 1, 5, 6, 7, 49] [0, 1, 2, 3] _ (st' := ⟨[(0, lv eStr p0), (1, sv p1), (5, .ptr 0 0), (6, .ptr 2 0), (7, i64 x64), (49, bo true)], [.blk 94 [.row 1 (y103.2.l).length, i64 y103.2.most], .row 9 1 (encL eStr y103.2.l), .blk 94 [.row 3 (x68).length, i64 x67], .row 9 1 (encL eStr x68)]⟩) (tips := [(3, { orc := .cells (eStr y102) }), (5, { pc := some { ρ := [0, 1], n0 := 2, res := bo y103.1, σ' := [.blk 94 [.row 1 (y103.2.l).length, i64 y103.2.most], .row 9 1 (encL eStr y103.2.l)], e := [1, 2, 3] } }), (7, { orc := .val (.bool true) })]) (by kernel_rfl) (allc (elemAt_of he_str hy102) (allc (C_stack_Stack_string_Push y102 (⟨x66, x65⟩ : T_stack_Stack_string_) y103 hy103) (allc (congrArg D.bool b104) all0))) (fun a w hs => ⟨(true, y103.2.most, y103.2.l, x67, x68), h, hs⟩)
          · replace h := cond_f b104 h
            obtain ⟨y105, hy105, h⟩ := bind_some h
            obtain ⟨y106, hy106, h⟩ := bind_some h
            refine At.region_end [0, 1, 5, 6, 7, 49] [0, 1, 2, 3] _ (st' := ⟨[(0, lv eStr p0), (1, sv p1), (5, .ptr 0 0), (6, .ptr 2 0), (7, i64 x64), (49, bo (!y106.1))], [.blk 94 [.row 1 (y103.2.l).length, i64 y103.2.most], .row 9 1 (encL eStr y103.2.l), .blk 94 [.row 3 (y106.2.l).length, i64 y106.2.most], .row 9 1 (encL eStr y106.2.l)]⟩) (tips := [(3, { orc := .cells (eStr y102) }), (5, { pc := some { ρ := [0, 1], n0 := 2, res := bo y103.1, σ' := [.blk 94 [.row 1 (y103.2.l).length, i64 y103.2.most], .row 9 1 (encL eStr y103.2.l)], e := [1, 2, 3] } }), (7, { orc := .val (.bool false) }), (11, { orc := .cells (eStr y105) }), (13, { pc := some { ρ := [2, 3], n0 := 2, res := bo y106.1, σ' := [.blk 94 [.row 1 (y106.2.l).length, i64 y106.2.most], .row 9 1 (encL eStr y106.2.l)], e := [1, 2, 3] } })]) (by kernel_rfl) (allc (elemAt_of he_str hy102) (allc (C_stack_Stack_string_Push y102 (⟨x66, x65⟩ : T_stack_Stack_string_) y103 hy103) (allc (congrArg D.bool b104) (allc (elemAt_of he_str hy105) (allc (C_stack_Stack_string_Push y105 (⟨x68, x67⟩ : T_stack_Stack_string_) y106 hy106) all0))))) (fun a w hs => ⟨((!y106.1), y103.2.most, y103.2.l, y106.2.most, y106.2.l), h, hs⟩)
        · rintro ⟨x94, x95, x96, x97, x98⟩ h
          replace h : F_retracelaw23_StackOrder_J2 x64 x94 x95 x96 x97 x98 = some oo69 := h
          rw [F_retracelaw23_StackOrder_J2] at h
          refine At.cond x94 (by kernel_rfl) (fun b99 => ?_) (fun b99 => ?_)
          · replace h := cond_t b99 h
            refine At.seq ?_
            refine At.region_end [4] [] _ (st' := ⟨[(4, bo false)], []⟩) (tips := []) (by kernel_rfl) all0 (norm ?_)
            obtain ⟨r100, h, e101⟩ := map_inr h
            rw [f70 _ e101] at h
            obtain rfl := some_eq h
            exact At.ret fun a w hs => ret_ok hR (ρ := []) (gs := []) (by kernel_rfl) all0 (by kernel_rfl) rfl rfl a w hs _ (.inl rfl)
          · replace h := cond_f b99 h
            refine At.nar [0, 1, 5, 6, 7] [0, 1, 2, 3] (st' := ⟨[(0, lv eStr p0), (1, sv p1), (5, .ptr 0 0), (6, .ptr 2 0), (7, i64 x64)], [.blk 94 [.row 1 (x96).length, i64 x95], .row 9 1 (encL eStr x96), .blk 94 [.row 3 (x98).length, i64 x97], .row 9 1 (encL eStr x98)]⟩) (by kernel_rfl) ?_
            refine At.skip (norm ?_)
            refine At.region_end [0, 1, 5, 6, 7] [0, 1, 2, 3] _ (st' := ⟨[(0, lv eStr p0), (1, sv p1), (5, .ptr 0 0), (6, .ptr 2 0), (7, i64 (w64 (x64 + 1)))], [.blk 94 [.row 1 (x96).length, i64 x95], .row 9 1 (encL eStr x96), .blk 94 [.row 3 (x98).length, i64 x97], .row 9 1 (encL eStr x98)]⟩) (tips := []) (by kernel_rfl) all0 (fun a w hs => ⟨_, (some_eq h).symm, hs⟩)
      · replace h := cond_f b72 h
        refine At.nar [0, 1, 5, 6] [0, 1, 2, 3] (st' := ⟨[(0, lv eStr p0), (1, sv p1), (5, .ptr 0 0), (6, .ptr 2 0)], [.blk 94 [.row 1 (x66).length, i64 x65], .row 9 1 (encL eStr x66), .blk 94 [.row 3 (x68).length, i64 x67], .row 9 1 (encL eStr x68)]⟩) (by kernel_rfl) ?_
        obtain ⟨r107, h, e108⟩ := map_inr h
        rw [f70 _ e108] at h
        refine At.exit (norm ?_)
        refine At.seqJ (S := (Bool × (List ByteArray)) ⊕ (Bool × (List ByteArray) × Int × (List ByteArray))) (Sum.elim (fun s => ⟨[(0, lv eStr p0), (1, sv p1), (5, .ptr 0 0), (6, .ptr 2 0), (8, .row 4 (s.2).length), (9, bo s.1)], [.blk 94 [.row 1 (x66).length, i64 x65], .row 9 1 (encL eStr x66), .blk 94 [.row 3 (x68).length, i64 x67], .row 9 1 (encL eStr x68), .row 9 1 (encL eStr s.2)]⟩) (fun s => ⟨[(0, lv eStr p0), (1, sv p1), (5, .ptr 0 0), (6, .ptr 1 0), (8, .row 3 (s.2.2.2).length), (9, bo s.1)], [.blk 94 [.d (.list true (s.2.1).length (encL eStr s.2.1)), i64 s.2.2.1], .blk 94 [.row 2 (x68).length, i64 x67], .row 9 1 (encL eStr x68), .row 9 1 (encL eStr s.2.2.2)]⟩)) (Sum.elim (fun s => F_retracelaw23_StackOrder_J3 p0 p1 x65 x66 x67 x68 s.1 s.2 = some r) (fun s => F_retracelaw23_StackOrder_J17 p0 p1 x67 x68 s.1 s.2.1 s.2.2.1 s.2.2.2 = some r)) ?_ ?_
        · obtain ⟨y800, hy800, h⟩ := bind_some h
          rcases y800 with y801 | y802
          · replace h := el_inl h
            refine At.region_end [0, 1, 5, 6, 8, 9] [0, 1, 2, 3, 4] _ (st' := ⟨[(0, lv eStr p0), (1, sv p1), (5, .ptr 0 0), (6, .ptr 2 0), (8, .row 4 (y801.1).length), (9, bo y801.2)], [.blk 94 [.row 1 (x66).length, i64 x65], .row 9 1 (encL eStr x66), .blk 94 [.row 3 (x68).length, i64 x67], .row 9 1 (encL eStr x68), .row 9 1 (encL eStr y801.1)]⟩) (tips := [(3, { pc := some { ρ := [0, 1, 4], n0 := 2, res := .tup [.row 2 (y801.1).length, bo y801.2], σ' := [.blk 94 [.row 1 (x66).length, i64 x65], .row 9 1 (encL eStr x66), .row 9 1 (encL eStr y801.1)], e := [1, 2, 3] } })]) (by kernel_rfl) (allc (C_stack_Stack_string_Take ((p0).length : Int) (⟨x66, x65⟩ : T_stack_Stack_string_) (.inl y801) hy800) all0) (fun a w hs => ⟨.inl (y801.2, y801.1), h, hs⟩)
          · replace h := el_inr h
            refine At.region_end [0, 1, 5, 6, 8, 9] [0, 2, 3, 4] _ (st' := ⟨[(0, lv eStr p0), (1, sv p1), (5, .ptr 0 0), (6, .ptr 1 0), (8, .row 3 (y802.1).length), (9, bo y802.2.1)], [.blk 94 [.d (.list true (y802.2.2.l).length (encL eStr y802.2.2.l)), i64 y802.2.2.most], .blk 94 [.row 2 (x68).length, i64 x67], .row 9 1 (encL eStr x68), .row 9 1 (encL eStr y802.1)]⟩) (tips := [(3, { pc := some { ρ := [0, 1, 4], n0 := 2, res := .tup [.row 2 (y802.1).length, bo y802.2.1], σ' := [.blk 94 [.d (.list true (y802.2.2.l).length (encL eStr y802.2.2.l)), i64 y802.2.2.most], .dead, .row 9 1 (encL eStr y802.1)], e := [1, 2, 3] } })]) (by kernel_rfl) (allc (C_stack_Stack_string_Take ((p0).length : Int) (⟨x66, x65⟩ : T_stack_Stack_string_) (.inr y802) hy800) all0) (fun a w hs => ⟨.inr ((y802.2.1, y802.2.2.l, y802.2.2.most, y802.1)), h, hs⟩)
        · rintro (⟨x112, x113⟩ | ⟨x340, x341, x342, x343⟩) h
          · replace h : F_retracelaw23_StackOrder_J3 p0 p1 x65 x66 x67 x68 x112 x113 = some r := h
            rw [F_retracelaw23_StackOrder_J3] at h
            refine At.seq ?_
            obtain ⟨y115, hy115, h⟩ := bind_some h
            refine At.region_end [0, 1, 5, 6, 8, 9] [0, 1, 2, 3, 4] _ (st' := ⟨[(0, lv eStr p0), (1, sv p1), (5, .ptr 0 0), (6, .ptr 2 0), (8, .row 4 (x113).length), (9, bo x112)], [.blk 94 [.row 1 (y115.2.l).length, i64 y115.2.most], .row 9 1 (encL eStr y115.2.l), .blk 94 [.row 3 (x68).length, i64 x67], .row 9 1 (encL eStr x68), .row 9 1 (encL eStr x113)]⟩) (tips := [(2, { pc := some { ρ := [0, 1], n0 := 2, res := bo y115.1, σ' := [.blk 94 [.row 1 (y115.2.l).length, i64 y115.2.most], .row 9 1 (encL eStr y115.2.l)], e := [1, 2, 3] } })]) (by kernel_rfl) (allc (C_stack_Stack_string_Push p1 (⟨x66, x65⟩ : T_stack_Stack_string_) y115 hy115) all0) (norm ?_)
            refine At.seqJ (S := (Unit) ⊕ ((List ByteArray) × Int)) (Sum.elim (fun s => ⟨[(0, lv eStr p0), (1, sv p1), (5, .ptr 0 0), (6, .ptr 2 0), (8, .row 4 (x113).length), (9, bo x112)], [.blk 94 [.row 1 (y115.2.l).length, i64 y115.2.most], .row 9 1 (encL eStr y115.2.l), .blk 94 [.row 3 (x68).length, i64 x67], .row 9 1 (encL eStr x68), .row 9 1 (encL eStr x113)]⟩) (fun s => ⟨[(0, lv eStr p0), (1, sv p1), (5, .ptr 0 0), (6, .ptr 2 0), (8, .row 3 (x113).length), (9, bo x112)], [.blk 94 [.row 1 (y115.2.l).length, i64 y115.2.most], .row 9 1 (encL eStr y115.2.l), .blk 94 [.d (.list true (s.1).length (encL eStr s.1)), i64 s.2], .row 9 1 (encL eStr x113)]⟩)) (Sum.elim (fun s => F_retracelaw23_StackOrder_J4 p0 p1 x67 x68 x112 x113 y115 = some r) (fun s => F_retracelaw23_StackOrder_J6 p0 p1 x112 x113 y115 s.1 s.2 = some r)) ?_ ?_
            · refine At.seq ?_
              refine At.region_end [0, 1, 5, 6, 8, 9, 10] [0, 1, 2, 3, 4] _ (st' := ⟨[(0, lv eStr p0), (1, sv p1), (5, .ptr 0 0), (6, .ptr 2 0), (8, .row 4 (x113).length), (9, bo x112), (10, i64 (w64 (((p0).length : Int) - 1)))], [.blk 94 [.row 1 (y115.2.l).length, i64 y115.2.most], .row 9 1 (encL eStr y115.2.l), .blk 94 [.row 3 (x68).length, i64 x67], .row 9 1 (encL eStr x68), .row 9 1 (encL eStr x113)]⟩) (tips := []) (by kernel_rfl) all0 (norm ?_)
              refine At.block ?_
              refine At.loop (S := ((Int) ⊕ (Int × (List ByteArray) × Int))) (Sum.elim (fun s : Int => F_retracelaw23_StackOrder_L14 p0 p1 x67 x68 x112 x113 y115 s) (fun s : Int × (List ByteArray) × Int => F_retracelaw23_StackOrder_L16 p0 p1 x112 x113 y115 s.1 s.2.1 s.2.2)) (Sum.elim (fun s : Int => ⟨[(0, lv eStr p0), (1, sv p1), (5, .ptr 0 0), (6, .ptr 2 0), (8, .row 4 (x113).length), (9, bo x112), (10, i64 s)], [.blk 94 [.row 1 (y115.2.l).length, i64 y115.2.most], .row 9 1 (encL eStr y115.2.l), .blk 94 [.row 3 (x68).length, i64 x67], .row 9 1 (encL eStr x68), .row 9 1 (encL eStr x113)]⟩) (fun s : Int × (List ByteArray) × Int => ⟨[(0, lv eStr p0), (1, sv p1), (5, .ptr 0 0), (6, .ptr 2 0), (8, .row 3 (x113).length), (9, bo x112), (10, i64 s.1)], [.blk 94 [.row 1 (y115.2.l).length, i64 y115.2.most], .row 9 1 (encL eStr y115.2.l), .blk 94 [.d (.list true (s.2.1).length (encL eStr s.2.1)), i64 s.2.2], .row 9 1 (encL eStr x113)]⟩)) r (.inl (w64 (((p0).length : Int) - 1))) h ?_
              rintro (x254 | ⟨x255, x256, x257⟩) oo258 h f259
              · replace h : F_retracelaw23_StackOrder_L14 p0 p1 x67 x68 x112 x113 y115 x254 = some oo258 := h
                rw [F_retracelaw23_StackOrder_L14] at h
                refine At.seq ?_
                refine At.seq ?_
                refine At.region_end [0, 1, 5, 6, 8, 9, 10, 64] [0, 1, 2, 3, 4] _ (st' := ⟨[(0, lv eStr p0), (1, sv p1), (5, .ptr 0 0), (6, .ptr 2 0), (8, .row 4 (x113).length), (9, bo x112), (10, i64 x254), (64, bo (decide (0 ≤ x254)))], [.blk 94 [.row 1 (y115.2.l).length, i64 y115.2.most], .row 9 1 (encL eStr y115.2.l), .blk 94 [.row 3 (x68).length, i64 x67], .row 9 1 (encL eStr x68), .row 9 1 (encL eStr x113)]⟩) (tips := []) (by kernel_rfl) all0 (norm ?_)
                refine At.cond (decide (0 ≤ x254)) (by kernel_rfl) (fun b261 => ?_) (fun b261 => ?_)
                · replace h := cond_t b261 h
                  refine At.nar [0, 1, 5, 6, 8, 9, 10] [0, 1, 2, 3, 4] (st' := ⟨[(0, lv eStr p0), (1, sv p1), (5, .ptr 0 0), (6, .ptr 2 0), (8, .row 4 (x113).length), (9, bo x112), (10, i64 x254)], [.blk 94 [.row 1 (y115.2.l).length, i64 y115.2.most], .row 9 1 (encL eStr y115.2.l), .blk 94 [.row 3 (x68).length, i64 x67], .row 9 1 (encL eStr x68), .row 9 1 (encL eStr x113)]⟩) (by kernel_rfl) ?_
                  refine At.skip (norm ?_)
                  refine At.seqJ (S := (Unit) ⊕ ((List ByteArray) × Int)) (Sum.elim (fun s => ⟨[(0, lv eStr p0), (1, sv p1), (5, .ptr 0 0), (6, .ptr 2 0), (8, .row 4 (x113).length), (9, bo x112), (10, i64 x254)], [.blk 94 [.row 1 (y115.2.l).length, i64 y115.2.most], .row 9 1 (encL eStr y115.2.l), .blk 94 [.row 3 (x68).length, i64 x67], .row 9 1 (encL eStr x68), .row 9 1 (encL eStr x113)]⟩) (fun s => ⟨[(0, lv eStr p0), (1, sv p1), (5, .ptr 0 0), (6, .ptr 2 0), (8, .row 3 (x113).length), (9, bo x112), (10, i64 x254)], [.blk 94 [.row 1 (y115.2.l).length, i64 y115.2.most], .row 9 1 (encL eStr y115.2.l), .blk 94 [.d (.list true (s.1).length (encL eStr s.1)), i64 s.2], .row 9 1 (encL eStr x113)]⟩)) (Sum.elim (fun s => F_retracelaw23_StackOrder_J8 x254 = some oo258) (fun s => F_retracelaw23_StackOrder_J9 x254 s.1 s.2 = some oo258)) ?_ ?_
                  · refine At.block ?_
                    refine At.seqJ (S := (ByteArray × Bool) ⊕ (ByteArray × Bool × (List ByteArray) × Int)) (Sum.elim (fun s => ⟨[(0, lv eStr p0), (1, sv p1), (5, .ptr 0 0), (6, .ptr 2 0), (8, .row 4 (x113).length), (9, bo x112), (10, i64 x254), (11, sv s.1), (12, bo s.2)], [.blk 94 [.row 1 (y115.2.l).length, i64 y115.2.most], .row 9 1 (encL eStr y115.2.l), .blk 94 [.row 3 (x68).length, i64 x67], .row 9 1 (encL eStr x68), .row 9 1 (encL eStr x113)]⟩) (fun s => ⟨[(0, lv eStr p0), (1, sv p1), (5, .ptr 0 0), (6, .ptr 2 0), (8, .row 3 (x113).length), (9, bo x112), (10, i64 x254), (11, sv s.1), (12, bo s.2.1)], [.blk 94 [.row 1 (y115.2.l).length, i64 y115.2.most], .row 9 1 (encL eStr y115.2.l), .blk 94 [.d (.list true (s.2.2.1).length (encL eStr s.2.2.1)), i64 s.2.2.2], .row 9 1 (encL eStr x113)]⟩)) (Sum.elim (fun s => F_retracelaw23_StackOrder_J10 p0 x254 s.1 s.2 = some oo258) (fun s => F_retracelaw23_StackOrder_J12 p0 x254 s.1 s.2.1 s.2.2.1 s.2.2.2 = some oo258)) ?_ ?_
                    · obtain ⟨y313, hy313, h⟩ := bind_some h
                      rcases y313 with y314 | y315
                      · replace h := el_inl h
                        refine At.region_end [0, 1, 5, 6, 8, 9, 10, 11, 12] [0, 1, 2, 3, 4] _ (st' := ⟨[(0, lv eStr p0), (1, sv p1), (5, .ptr 0 0), (6, .ptr 2 0), (8, .row 4 (x113).length), (9, bo x112), (10, i64 x254), (11, sv y314.1), (12, bo y314.2)], [.blk 94 [.row 1 (y115.2.l).length, i64 y115.2.most], .row 9 1 (encL eStr y115.2.l), .blk 94 [.row 3 (x68).length, i64 x67], .row 9 1 (encL eStr x68), .row 9 1 (encL eStr x113)]⟩) (tips := [(1, { pc := some { ρ := [2, 3], n0 := 2, res := .tup [sv y314.1, bo y314.2], σ' := [.blk 94 [.row 1 (x68).length, i64 x67], .row 9 1 (encL eStr x68)], e := [1, 2, 3] } })]) (by kernel_rfl) (allc (C_stack_Stack_string_Pop (⟨x68, x67⟩ : T_stack_Stack_string_) (.inl y314) hy313) all0) (fun a w hs => ⟨.inl (y314.1, y314.2), h, hs⟩)
                      · replace h := el_inr h
                        refine At.region_end [0, 1, 5, 6, 8, 9, 10, 11, 12] [0, 1, 2, 4] _ (st' := ⟨[(0, lv eStr p0), (1, sv p1), (5, .ptr 0 0), (6, .ptr 2 0), (8, .row 3 (x113).length), (9, bo x112), (10, i64 x254), (11, sv y315.1), (12, bo y315.2.1)], [.blk 94 [.row 1 (y115.2.l).length, i64 y115.2.most], .row 9 1 (encL eStr y115.2.l), .blk 94 [.d (.list true (y315.2.2.l).length (encL eStr y315.2.2.l)), i64 y315.2.2.most], .row 9 1 (encL eStr x113)]⟩) (tips := [(1, { pc := some { ρ := [2, 3], n0 := 2, res := .tup [sv y315.1, bo y315.2.1], σ' := [.blk 94 [.d (.list true (y315.2.2.l).length (encL eStr y315.2.2.l)), i64 y315.2.2.most], .dead], e := [1, 2, 3] } })]) (by kernel_rfl) (allc (C_stack_Stack_string_Pop (⟨x68, x67⟩ : T_stack_Stack_string_) (.inr y315) hy313) all0) (fun a w hs => ⟨.inr ((y315.1, y315.2.1, y315.2.2.l, y315.2.2.most)), h, hs⟩)
                    · rintro (⟨x291, x292⟩ | ⟨x301, x302, x303, x304⟩) h
                      · replace h : F_retracelaw23_StackOrder_J10 p0 x254 x291 x292 = some oo258 := h
                        rw [F_retracelaw23_StackOrder_J10] at h
                        refine At.seqJ (S := Bool) (fun s => ⟨[(0, lv eStr p0), (1, sv p1), (5, .ptr 0 0), (6, .ptr 2 0), (8, .row 4 (x113).length), (9, bo x112), (10, i64 x254), (81, bo s)], [.blk 94 [.row 1 (y115.2.l).length, i64 y115.2.most], .row 9 1 (encL eStr y115.2.l), .blk 94 [.row 3 (x68).length, i64 x67], .row 9 1 (encL eStr x68), .row 9 1 (encL eStr x113)]⟩) (fun s => F_retracelaw23_StackOrder_J11 x254 s = some oo258) ?_ ?_
                        · rcases tf (!x292) with b299 | b299
                          · replace h := cond_t b299 h
                            refine At.region_end [0, 1, 5, 6, 8, 9, 10, 81] [0, 1, 2, 3, 4] _ (st' := ⟨[(0, lv eStr p0), (1, sv p1), (5, .ptr 0 0), (6, .ptr 2 0), (8, .row 4 (x113).length), (9, bo x112), (10, i64 x254), (81, bo true)], [.blk 94 [.row 1 (y115.2.l).length, i64 y115.2.most], .row 9 1 (encL eStr y115.2.l), .blk 94 [.row 3 (x68).length, i64 x67], .row 9 1 (encL eStr x68), .row 9 1 (encL eStr x113)]⟩) (tips := [(2, { orc := .val (.bool true) })]) (by kernel_rfl) (allc (congrArg D.bool b299) all0) (fun a w hs => ⟨true, h, hs⟩)
                          · replace h := cond_f b299 h
                            obtain ⟨y300, hy300, h⟩ := bind_some h
                            refine At.region_end [0, 1, 5, 6, 8, 9, 10, 81] [0, 1, 2, 3, 4] _ (st' := ⟨[(0, lv eStr p0), (1, sv p1), (5, .ptr 0 0), (6, .ptr 2 0), (8, .row 4 (x113).length), (9, bo x112), (10, i64 x254), (81, bo (!(x291.toList == y300.toList)))], [.blk 94 [.row 1 (y115.2.l).length, i64 y115.2.most], .row 9 1 (encL eStr y115.2.l), .blk 94 [.row 3 (x68).length, i64 x67], .row 9 1 (encL eStr x68), .row 9 1 (encL eStr x113)]⟩) (tips := [(2, { orc := .val (.bool false) }), (6, { orc := .cells (eStr y300) })]) (by kernel_rfl) (allc (congrArg D.bool b299) (allc (elemAt_of he_str hy300) all0)) (fun a w hs => ⟨(!(x291.toList == y300.toList)), h, hs⟩)
                        · intro x295 h
                          replace h : F_retracelaw23_StackOrder_J11 x254 x295 = some oo258 := h
                          rw [F_retracelaw23_StackOrder_J11] at h
                          refine At.cond x295 (by kernel_rfl) (fun b296 => ?_) (fun b296 => ?_)
                          · replace h := cond_t b296 h
                            refine At.seq ?_
                            refine At.region_end [4] [] _ (st' := ⟨[(4, bo false)], []⟩) (tips := []) (by kernel_rfl) all0 (norm ?_)
                            obtain ⟨r297, h, e298⟩ := map_inr h
                            rw [f259 _ e298] at h
                            obtain rfl := some_eq h
                            exact At.ret fun a w hs => ret_ok hR (ρ := []) (gs := []) (by kernel_rfl) all0 (by kernel_rfl) rfl rfl a w hs _ (.inl rfl)
                          · replace h := cond_f b296 h
                            refine At.nar [0, 1, 5, 6, 8, 9, 10] [0, 1, 2, 3, 4] (st' := ⟨[(0, lv eStr p0), (1, sv p1), (5, .ptr 0 0), (6, .ptr 2 0), (8, .row 4 (x113).length), (9, bo x112), (10, i64 x254)], [.blk 94 [.row 1 (y115.2.l).length, i64 y115.2.most], .row 9 1 (encL eStr y115.2.l), .blk 94 [.row 3 (x68).length, i64 x67], .row 9 1 (encL eStr x68), .row 9 1 (encL eStr x113)]⟩) (by kernel_rfl) ?_
                            refine At.skip (fun a w hs => ⟨.inl (), h, hs⟩)
                      · replace h : F_retracelaw23_StackOrder_J12 p0 x254 x301 x302 x303 x304 = some oo258 := h
                        rw [F_retracelaw23_StackOrder_J12] at h
                        refine At.seqJ (S := Bool) (fun s => ⟨[(0, lv eStr p0), (1, sv p1), (5, .ptr 0 0), (6, .ptr 2 0), (8, .row 3 (x113).length), (9, bo x112), (10, i64 x254), (81, bo s)], [.blk 94 [.row 1 (y115.2.l).length, i64 y115.2.most], .row 9 1 (encL eStr y115.2.l), .blk 94 [.d (.list true (x303).length (encL eStr x303)), i64 x304], .row 9 1 (encL eStr x113)]⟩) (fun s => F_retracelaw23_StackOrder_J13 x254 x303 x304 s = some oo258) ?_ ?_
                        · rcases tf (!x302) with b311 | b311
                          · replace h := cond_t b311 h
                            refine At.region_end [0, 1, 5, 6, 8, 9, 10, 81] [0, 1, 2, 3] _ (st' := ⟨[(0, lv eStr p0), (1, sv p1), (5, .ptr 0 0), (6, .ptr 2 0), (8, .row 3 (x113).length), (9, bo x112), (10, i64 x254), (81, bo true)], [.blk 94 [.row 1 (y115.2.l).length, i64 y115.2.most], .row 9 1 (encL eStr y115.2.l), .blk 94 [.d (.list true (x303).length (encL eStr x303)), i64 x304], .row 9 1 (encL eStr x113)]⟩) (tips := [(2, { orc := .val (.bool true) })]) (by kernel_rfl) (allc (congrArg D.bool b311) all0) (fun a w hs => ⟨true, h, hs⟩)
                          · replace h := cond_f b311 h
                            obtain ⟨y312, hy312, h⟩ := bind_some h
                            refine At.region_end [0, 1, 5, 6, 8, 9, 10, 81] [0, 1, 2, 3] _ (st' := ⟨[(0, lv eStr p0), (1, sv p1), (5, .ptr 0 0), (6, .ptr 2 0), (8, .row 3 (x113).length), (9, bo x112), (10, i64 x254), (81, bo (!(x301.toList == y312.toList)))], [.blk 94 [.row 1 (y115.2.l).length, i64 y115.2.most], .row 9 1 (encL eStr y115.2.l), .blk 94 [.d (.list true (x303).length (encL eStr x303)), i64 x304], .row 9 1 (encL eStr x113)]⟩) (tips := [(2, { orc := .val (.bool false) }), (6, { orc := .cells (eStr y312) })]) (by kernel_rfl) (allc (congrArg D.bool b311) (allc (elemAt_of he_str hy312) all0)) (fun a w hs => ⟨(!(x301.toList == y312.toList)), h, hs⟩)
                        · intro x307 h
                          replace h : F_retracelaw23_StackOrder_J13 x254 x303 x304 x307 = some oo258 := h
                          rw [F_retracelaw23_StackOrder_J13] at h
                          refine At.cond x307 (by kernel_rfl) (fun b308 => ?_) (fun b308 => ?_)
                          · replace h := cond_t b308 h
                            refine At.seq ?_
                            refine At.region_end [4] [] _ (st' := ⟨[(4, bo false)], []⟩) (tips := []) (by kernel_rfl) all0 (norm ?_)
                            obtain ⟨r309, h, e310⟩ := map_inr h
                            rw [f259 _ e310] at h
                            obtain rfl := some_eq h
                            exact At.ret fun a w hs => ret_ok hR (ρ := []) (gs := []) (by kernel_rfl) all0 (by kernel_rfl) rfl rfl a w hs _ (.inl rfl)
                          · replace h := cond_f b308 h
                            refine At.nar [0, 1, 5, 6, 8, 9, 10] [0, 1, 2, 3] (st' := ⟨[(0, lv eStr p0), (1, sv p1), (5, .ptr 0 0), (6, .ptr 2 0), (8, .row 3 (x113).length), (9, bo x112), (10, i64 x254)], [.blk 94 [.row 1 (y115.2.l).length, i64 y115.2.most], .row 9 1 (encL eStr y115.2.l), .blk 94 [.d (.list true (x303).length (encL eStr x303)), i64 x304], .row 9 1 (encL eStr x113)]⟩) (by kernel_rfl) ?_
                            refine At.skip (fun a w hs => ⟨.inr ((x303, x304)), h, hs⟩)
                  · rintro (_ | ⟨x286, x287⟩) h
                    · replace h : F_retracelaw23_StackOrder_J8 x254 = some oo258 := h
                      rw [F_retracelaw23_StackOrder_J8] at h
                      refine At.region_end [0, 1, 5, 6, 8, 9, 10] [0, 1, 2, 3, 4] _ (st' := ⟨[(0, lv eStr p0), (1, sv p1), (5, .ptr 0 0), (6, .ptr 2 0), (8, .row 4 (x113).length), (9, bo x112), (10, i64 (w64 (x254 - 1)))], [.blk 94 [.row 1 (y115.2.l).length, i64 y115.2.most], .row 9 1 (encL eStr y115.2.l), .blk 94 [.row 3 (x68).length, i64 x67], .row 9 1 (encL eStr x68), .row 9 1 (encL eStr x113)]⟩) (tips := []) (by kernel_rfl) all0 (fun a w hs => ⟨_, (some_eq h).symm, hs⟩)
                    · replace h : F_retracelaw23_StackOrder_J9 x254 x286 x287 = some oo258 := h
                      rw [F_retracelaw23_StackOrder_J9] at h
                      refine At.region_end [0, 1, 5, 6, 8, 9, 10] [0, 1, 2, 3] _ (st' := ⟨[(0, lv eStr p0), (1, sv p1), (5, .ptr 0 0), (6, .ptr 2 0), (8, .row 3 (x113).length), (9, bo x112), (10, i64 (w64 (x254 - 1)))], [.blk 94 [.row 1 (y115.2.l).length, i64 y115.2.most], .row 9 1 (encL eStr y115.2.l), .blk 94 [.d (.list true (x286).length (encL eStr x286)), i64 x287], .row 9 1 (encL eStr x113)]⟩) (tips := []) (by kernel_rfl) all0 (fun a w hs => ⟨_, (some_eq h).symm, hs⟩)
                · replace h := cond_f b261 h
                  refine At.nar [0, 1, 5, 6, 8, 9] [0, 1, 2, 3, 4] (st' := ⟨[(0, lv eStr p0), (1, sv p1), (5, .ptr 0 0), (6, .ptr 2 0), (8, .row 4 (x113).length), (9, bo x112)], [.blk 94 [.row 1 (y115.2.l).length, i64 y115.2.most], .row 9 1 (encL eStr y115.2.l), .blk 94 [.row 3 (x68).length, i64 x67], .row 9 1 (encL eStr x68), .row 9 1 (encL eStr x113)]⟩) (by kernel_rfl) ?_
                  obtain ⟨r316, h, e317⟩ := map_inr h
                  rw [f259 _ e317] at h
                  refine At.exit (fun a w hs => ⟨.inl (), h, hs⟩)
              · replace h : F_retracelaw23_StackOrder_L16 p0 p1 x112 x113 y115 x255 x256 x257 = some oo258 := h
                rw [F_retracelaw23_StackOrder_L16] at h
                refine At.seq ?_
                refine At.seq ?_
                refine At.region_end [0, 1, 5, 6, 8, 9, 10, 64] [0, 1, 2, 3] _ (st' := ⟨[(0, lv eStr p0), (1, sv p1), (5, .ptr 0 0), (6, .ptr 2 0), (8, .row 3 (x113).length), (9, bo x112), (10, i64 x255), (64, bo (decide (0 ≤ x255)))], [.blk 94 [.row 1 (y115.2.l).length, i64 y115.2.most], .row 9 1 (encL eStr y115.2.l), .blk 94 [.d (.list true (x256).length (encL eStr x256)), i64 x257], .row 9 1 (encL eStr x113)]⟩) (tips := []) (by kernel_rfl) all0 (norm ?_)
                refine At.cond (decide (0 ≤ x255)) (by kernel_rfl) (fun b319 => ?_) (fun b319 => ?_)
                · replace h := cond_t b319 h
                  refine At.nar [0, 1, 5, 6, 8, 9, 10] [0, 1, 2, 3] (st' := ⟨[(0, lv eStr p0), (1, sv p1), (5, .ptr 0 0), (6, .ptr 2 0), (8, .row 3 (x113).length), (9, bo x112), (10, i64 x255)], [.blk 94 [.row 1 (y115.2.l).length, i64 y115.2.most], .row 9 1 (encL eStr y115.2.l), .blk 94 [.d (.list true (x256).length (encL eStr x256)), i64 x257], .row 9 1 (encL eStr x113)]⟩) (by kernel_rfl) ?_
                  refine At.skip (norm ?_)
                  refine At.seq ?_
                  refine At.block ?_
                  refine At.seq ?_
                  obtain ⟨y329, hy329, h⟩ := bind_some h
                  refine At.region_end [0, 1, 5, 6, 8, 9, 10, 11, 12] [0, 1, 2, 3] _ (st' := ⟨[(0, lv eStr p0), (1, sv p1), (5, .ptr 0 0), (6, .ptr 2 0), (8, .row 3 (x113).length), (9, bo x112), (10, i64 x255), (11, sv y329.1), (12, bo y329.2.1)], [.blk 94 [.row 1 (y115.2.l).length, i64 y115.2.most], .row 9 1 (encL eStr y115.2.l), .blk 94 [.d (.list true (y329.2.2.l).length (encL eStr y329.2.2.l)), i64 y329.2.2.most], .row 9 1 (encL eStr x113)]⟩) (tips := [(1, { pc := some { ρ := [2], n0 := 1, loose := false, res := .tup [sv y329.1, bo y329.2.1], σ' := [.blk 94 [.d (.list true (y329.2.2.l).length (encL eStr y329.2.2.l)), i64 y329.2.2.most]], e := [1] } })]) (by kernel_rfl) (allc (C_stack_Stack_string_Pop_v2 (⟨x256, x257⟩ : T_stack_Stack_string_) y329 hy329) all0) (norm ?_)
                  refine At.seqJ (S := Bool) (fun s => ⟨[(0, lv eStr p0), (1, sv p1), (5, .ptr 0 0), (6, .ptr 2 0), (8, .row 3 (x113).length), (9, bo x112), (10, i64 x255), (81, bo s)], [.blk 94 [.row 1 (y115.2.l).length, i64 y115.2.most], .row 9 1 (encL eStr y115.2.l), .blk 94 [.d (.list true (y329.2.2.l).length (encL eStr y329.2.2.l)), i64 y329.2.2.most], .row 9 1 (encL eStr x113)]⟩) (fun s => F_retracelaw23_StackOrder_J15 x255 y329 s = some oo258) ?_ ?_
                  · rcases tf (!y329.2.1) with b336 | b336
                    · replace h := cond_t b336 h
                      refine At.region_end [0, 1, 5, 6, 8, 9, 10, 81] [0, 1, 2, 3] _ (st' := ⟨[(0, lv eStr p0), (1, sv p1), (5, .ptr 0 0), (6, .ptr 2 0), (8, .row 3 (x113).length), (9, bo x112), (10, i64 x255), (81, bo true)], [.blk 94 [.row 1 (y115.2.l).length, i64 y115.2.most], .row 9 1 (encL eStr y115.2.l), .blk 94 [.d (.list true (y329.2.2.l).length (encL eStr y329.2.2.l)), i64 y329.2.2.most], .row 9 1 (encL eStr x113)]⟩) (tips := [(2, { orc := .val (.bool true) })]) (by kernel_rfl) (allc (congrArg D.bool b336) all0) (fun a w hs => ⟨true, h, hs⟩)
                    · replace h := cond_f b336 h
                      obtain ⟨y337, hy337, h⟩ := bind_some h
                      refine At.region_end [0, 1, 5, 6, 8, 9, 10, 81] [0, 1, 2, 3] _ (st' := ⟨[(0, lv eStr p0), (1, sv p1), (5, .ptr 0 0), (6, .ptr 2 0), (8, .row 3 (x113).length), (9, bo x112), (10, i64 x255), (81, bo (!(y329.1.toList == y337.toList)))], [.blk 94 [.row 1 (y115.2.l).length, i64 y115.2.most], .row 9 1 (encL eStr y115.2.l), .blk 94 [.d (.list true (y329.2.2.l).length (encL eStr y329.2.2.l)), i64 y329.2.2.most], .row 9 1 (encL eStr x113)]⟩) (tips := [(2, { orc := .val (.bool false) }), (6, { orc := .cells (eStr y337) })]) (by kernel_rfl) (allc (congrArg D.bool b336) (allc (elemAt_of he_str hy337) all0)) (fun a w hs => ⟨(!(y329.1.toList == y337.toList)), h, hs⟩)
                  · intro x332 h
                    replace h : F_retracelaw23_StackOrder_J15 x255 y329 x332 = some oo258 := h
                    rw [F_retracelaw23_StackOrder_J15] at h
                    refine At.cond x332 (by kernel_rfl) (fun b333 => ?_) (fun b333 => ?_)
                    · replace h := cond_t b333 h
                      refine At.seq ?_
                      refine At.region_end [4] [] _ (st' := ⟨[(4, bo false)], []⟩) (tips := []) (by kernel_rfl) all0 (norm ?_)
                      obtain ⟨r334, h, e335⟩ := map_inr h
                      rw [f259 _ e335] at h
                      obtain rfl := some_eq h
                      exact At.ret fun a w hs => ret_ok hR (ρ := []) (gs := []) (by kernel_rfl) all0 (by kernel_rfl) rfl rfl a w hs _ (.inl rfl)
                    · replace h := cond_f b333 h
                      refine At.nar [0, 1, 5, 6, 8, 9, 10] [0, 1, 2, 3] (st' := ⟨[(0, lv eStr p0), (1, sv p1), (5, .ptr 0 0), (6, .ptr 2 0), (8, .row 3 (x113).length), (9, bo x112), (10, i64 x255)], [.blk 94 [.row 1 (y115.2.l).length, i64 y115.2.most], .row 9 1 (encL eStr y115.2.l), .blk 94 [.d (.list true (y329.2.2.l).length (encL eStr y329.2.2.l)), i64 y329.2.2.most], .row 9 1 (encL eStr x113)]⟩) (by kernel_rfl) ?_
                      refine At.skip (norm ?_)
                      refine At.region_end [0, 1, 5, 6, 8, 9, 10] [0, 1, 2, 3] _ (st' := ⟨[(0, lv eStr p0), (1, sv p1), (5, .ptr 0 0), (6, .ptr 2 0), (8, .row 3 (x113).length), (9, bo x112), (10, i64 (w64 (x255 - 1)))], [.blk 94 [.row 1 (y115.2.l).length, i64 y115.2.most], .row 9 1 (encL eStr y115.2.l), .blk 94 [.d (.list true (y329.2.2.l).length (encL eStr y329.2.2.l)), i64 y329.2.2.most], .row 9 1 (encL eStr x113)]⟩) (tips := []) (by kernel_rfl) all0 (fun a w hs => ⟨_, (some_eq h).symm, hs⟩)
                · replace h := cond_f b319 h
                  refine At.nar [0, 1, 5, 6, 8, 9] [0, 1, 2, 3] (st' := ⟨[(0, lv eStr p0), (1, sv p1), (5, .ptr 0 0), (6, .ptr 2 0), (8, .row 3 (x113).length), (9, bo x112)], [.blk 94 [.row 1 (y115.2.l).length, i64 y115.2.most], .row 9 1 (encL eStr y115.2.l), .blk 94 [.d (.list true (x256).length (encL eStr x256)), i64 x257], .row 9 1 (encL eStr x113)]⟩) (by kernel_rfl) ?_
                  obtain ⟨r338, h, e339⟩ := map_inr h
                  rw [f259 _ e339] at h
                  refine At.exit (fun a w hs => ⟨.inr ((x256, x257)), h, hs⟩)
            · rintro (_ | ⟨x223, x224⟩) h
              · replace h : F_retracelaw23_StackOrder_J4 p0 p1 x67 x68 x112 x113 y115 = some r := h
                rw [F_retracelaw23_StackOrder_J4] at h
                refine At.seqJ (S := Bool) (fun s => ⟨[(4, bo s)], []⟩) (fun s => F_retracelaw23_StackOrder_J5 s = some r) ?_ ?_
                · rcases tf x112 with b213 | b213
                  · replace h := cond_t b213 h
                    obtain ⟨y214, hy214, h⟩ := bind_some h
                    rcases tf y214 with b215 | b215
                    · replace h := cond_t b215 h
                      obtain ⟨y216, hy216, h⟩ := bind_some h
                      rcases tf (y216 == 1) with b217 | b217
                      · replace h := cond_t b217 h
                        obtain ⟨y218, hy218, h⟩ := bind_some h
                        rcases tf (y218 == 0) with b219 | b219
                        · replace h := cond_t b219 h
                          obtain ⟨y220, hy220, h⟩ := bind_some h
                          rcases tf ((!y220.1) == (((p0).length : Int) == 0)) with b221 | b221
                          · replace h := cond_t b221 h
                            obtain ⟨y222, hy222, h⟩ := bind_some h
                            refine At.region_end [4] [] _ (st' := ⟨[(4, bo y222)], []⟩) (tips := [(1, { orc := .val (.bool true) }), (4, { settle := [4], pc := some { ρ := [], n0 := 0, res := bo y214, σ' := [], e := [] } }), (6, { orc := .val (.bool true) }), (8, { pc := some { ρ := [0, 1], n0 := 2, res := i64 y216, σ' := [.blk 94 [.row 1 (y115.2.l).length, i64 y115.2.most], .row 9 1 (encL eStr y115.2.l)], e := [1, 2] } }), (11, { orc := .val (.bool true) }), (13, { pc := some { ρ := [2, 3], n0 := 2, res := i64 y218, σ' := [.blk 94 [.row 1 (x68).length, i64 x67], .row 9 1 (encL eStr x68)], e := [1, 2] } }), (16, { orc := .val (.bool true) }), (19, { pc := some { ρ := [2, 3], n0 := 2, res := bo y220.1, σ' := [.blk 94 [.row 1 (y220.2.l).length, i64 y220.2.most], .row 9 1 (encL eStr y220.2.l)], e := [1, 2, 3] } }), (26, { orc := .val (.bool true) }), (27, { pc := some { ρ := [], n0 := 0, res := bo y222, σ' := [], e := [] } })]) (by kernel_rfl) (allc (congrArg D.bool b213) (allc (C_retraceref23_Same x113 p0 y214 hy214) (allc (congrArg D.bool b215) (allc (C_stack_Stack_string_Len y115.2 y216 hy216) (allc (congrArg D.bool b217) (allc (C_stack_Stack_string_Len (⟨x68, x67⟩ : T_stack_Stack_string_) y218 hy218) (allc (congrArg D.bool b219) (allc (C_stack_Stack_string_Push p1 (⟨x68, x67⟩ : T_stack_Stack_string_) y220 hy220) (allc (congrArg D.bool b221) (allc (C_retracelaw23_live y222 hy222) all0)))))))))) (fun a w hs => ⟨y222, h, hs⟩)
                          · replace h := cond_f b221 h
                            refine At.region_end [4] [] _ (st' := ⟨[(4, bo false)], []⟩) (tips := [(1, { orc := .val (.bool true) }), (4, { settle := [4], pc := some { ρ := [], n0 := 0, res := bo y214, σ' := [], e := [] } }), (6, { orc := .val (.bool true) }), (8, { pc := some { ρ := [0, 1], n0 := 2, res := i64 y216, σ' := [.blk 94 [.row 1 (y115.2.l).length, i64 y115.2.most], .row 9 1 (encL eStr y115.2.l)], e := [1, 2] } }), (11, { orc := .val (.bool true) }), (13, { pc := some { ρ := [2, 3], n0 := 2, res := i64 y218, σ' := [.blk 94 [.row 1 (x68).length, i64 x67], .row 9 1 (encL eStr x68)], e := [1, 2] } }), (16, { orc := .val (.bool true) }), (19, { pc := some { ρ := [2, 3], n0 := 2, res := bo y220.1, σ' := [.blk 94 [.row 1 (y220.2.l).length, i64 y220.2.most], .row 9 1 (encL eStr y220.2.l)], e := [1, 2, 3] } }), (26, { orc := .val (.bool false) })]) (by kernel_rfl) (allc (congrArg D.bool b213) (allc (C_retraceref23_Same x113 p0 y214 hy214) (allc (congrArg D.bool b215) (allc (C_stack_Stack_string_Len y115.2 y216 hy216) (allc (congrArg D.bool b217) (allc (C_stack_Stack_string_Len (⟨x68, x67⟩ : T_stack_Stack_string_) y218 hy218) (allc (congrArg D.bool b219) (allc (C_stack_Stack_string_Push p1 (⟨x68, x67⟩ : T_stack_Stack_string_) y220 hy220) (allc (congrArg D.bool b221) all0))))))))) (fun a w hs => ⟨false, h, hs⟩)
                        · replace h := cond_f b219 h
                          refine At.region_end [4] [] _ (st' := ⟨[(4, bo false)], []⟩) (tips := [(1, { orc := .val (.bool true) }), (4, { settle := [4], pc := some { ρ := [], n0 := 0, res := bo y214, σ' := [], e := [] } }), (6, { orc := .val (.bool true) }), (8, { pc := some { ρ := [0, 1], n0 := 2, res := i64 y216, σ' := [.blk 94 [.row 1 (y115.2.l).length, i64 y115.2.most], .row 9 1 (encL eStr y115.2.l)], e := [1, 2] } }), (11, { orc := .val (.bool true) }), (13, { pc := some { ρ := [2, 3], n0 := 2, res := i64 y218, σ' := [.blk 94 [.row 1 (x68).length, i64 x67], .row 9 1 (encL eStr x68)], e := [1, 2] } }), (16, { orc := .val (.bool false) })]) (by kernel_rfl) (allc (congrArg D.bool b213) (allc (C_retraceref23_Same x113 p0 y214 hy214) (allc (congrArg D.bool b215) (allc (C_stack_Stack_string_Len y115.2 y216 hy216) (allc (congrArg D.bool b217) (allc (C_stack_Stack_string_Len (⟨x68, x67⟩ : T_stack_Stack_string_) y218 hy218) (allc (congrArg D.bool b219) all0))))))) (fun a w hs => ⟨false, h, hs⟩)
                      · replace h := cond_f b217 h
                        refine At.region_end [4] [] _ (st' := ⟨[(4, bo false)], []⟩) (tips := [(1, { orc := .val (.bool true) }), (4, { settle := [4], pc := some { ρ := [], n0 := 0, res := bo y214, σ' := [], e := [] } }), (6, { orc := .val (.bool true) }), (8, { pc := some { ρ := [0, 1], n0 := 2, res := i64 y216, σ' := [.blk 94 [.row 1 (y115.2.l).length, i64 y115.2.most], .row 9 1 (encL eStr y115.2.l)], e := [1, 2] } }), (11, { orc := .val (.bool false) })]) (by kernel_rfl) (allc (congrArg D.bool b213) (allc (C_retraceref23_Same x113 p0 y214 hy214) (allc (congrArg D.bool b215) (allc (C_stack_Stack_string_Len y115.2 y216 hy216) (allc (congrArg D.bool b217) all0))))) (fun a w hs => ⟨false, h, hs⟩)
                    · replace h := cond_f b215 h
                      refine At.region_end [4] [] _ (st' := ⟨[(4, bo false)], []⟩) (tips := [(1, { orc := .val (.bool true) }), (4, { settle := [4], pc := some { ρ := [], n0 := 0, res := bo y214, σ' := [], e := [] } }), (6, { orc := .val (.bool false) })]) (by kernel_rfl) (allc (congrArg D.bool b213) (allc (C_retraceref23_Same x113 p0 y214 hy214) (allc (congrArg D.bool b215) all0))) (fun a w hs => ⟨false, h, hs⟩)
                  · replace h := cond_f b213 h
                    refine At.region_end [4] [] _ (st' := ⟨[(4, bo false)], []⟩) (tips := [(1, { orc := .val (.bool false) })]) (by kernel_rfl) (allc (congrArg D.bool b213) all0) (fun a w hs => ⟨false, h, hs⟩)
                · intro x212 h
                  replace h : F_retracelaw23_StackOrder_J5 x212 = some r := h
                  rw [F_retracelaw23_StackOrder_J5] at h
                  obtain rfl := some_eq h
                  exact At.ret fun a w hs => ret_ok hR (ρ := []) (gs := []) (by kernel_rfl) all0 (by kernel_rfl) rfl rfl a w hs _ (.inl rfl)
              · replace h : F_retracelaw23_StackOrder_J6 p0 p1 x112 x113 y115 x223 x224 = some r := h
                rw [F_retracelaw23_StackOrder_J6] at h
                refine At.seqJ (S := Bool) (fun s => ⟨[(4, bo s)], []⟩) (fun s => F_retracelaw23_StackOrder_J7 s = some r) ?_ ?_
                · rcases tf x112 with b240 | b240
                  · replace h := cond_t b240 h
                    obtain ⟨y241, hy241, h⟩ := bind_some h
                    rcases tf y241 with b242 | b242
                    · replace h := cond_t b242 h
                      obtain ⟨y243, hy243, h⟩ := bind_some h
                      rcases tf (y243 == 1) with b244 | b244
                      · replace h := cond_t b244 h
                        obtain ⟨y245, hy245, h⟩ := bind_some h
                        rcases tf (y245 == 0) with b246 | b246
                        · replace h := cond_t b246 h
                          obtain ⟨y247, hy247, h⟩ := bind_some h
                          rcases y247 with y248 | y251
                          · replace h := el_inl h
                            rcases tf ((!y248) == (((p0).length : Int) == 0)) with b249 | b249
                            · replace h := cond_t b249 h
                              obtain ⟨y250, hy250, h⟩ := bind_some h
                              refine At.region_end [4] [] _ (st' := ⟨[(4, bo y250)], []⟩) (tips := [(1, { orc := .val (.bool true) }), (4, { settle := [3], pc := some { ρ := [], n0 := 0, res := bo y241, σ' := [], e := [] } }), (6, { orc := .val (.bool true) }), (8, { pc := some { ρ := [0, 1], n0 := 2, res := i64 y243, σ' := [.blk 94 [.row 1 (y115.2.l).length, i64 y115.2.most], .row 9 1 (encL eStr y115.2.l)], e := [1, 2] } }), (11, { orc := .val (.bool true) }), (13, { pc := some { ρ := [2], n0 := 1, loose := false, res := i64 y245, σ' := [.blk 94 [.d (.list true (x223).length (encL eStr x223)), i64 x224]], e := [1] } }), (16, { orc := .val (.bool true) }), (19, { pc := some { ρ := [2], n0 := 1, loose := false, res := bo y248, σ' := [.blk 94 [.d (.list true (x223).length (encL eStr x223)), i64 x224]], e := [1] } }), (26, { orc := .val (.bool true) }), (27, { pc := some { ρ := [], n0 := 0, res := bo y250, σ' := [], e := [] } })]) (by kernel_rfl) (allc (congrArg D.bool b240) (allc (C_retraceref23_Same x113 p0 y241 hy241) (allc (congrArg D.bool b242) (allc (C_stack_Stack_string_Len y115.2 y243 hy243) (allc (congrArg D.bool b244) (allc (C_stack_Stack_string_Len_v2 (⟨x223, x224⟩ : T_stack_Stack_string_) y245 hy245) (allc (congrArg D.bool b246) (allc (C_stack_Stack_string_Push_v2 p1 (⟨x223, x224⟩ : T_stack_Stack_string_) (.inl y248) hy247) (allc (congrArg D.bool b249) (allc (C_retracelaw23_live y250 hy250) all0)))))))))) (fun a w hs => ⟨y250, h, hs⟩)
                            · replace h := cond_f b249 h
                              refine At.region_end [4] [] _ (st' := ⟨[(4, bo false)], []⟩) (tips := [(1, { orc := .val (.bool true) }), (4, { settle := [3], pc := some { ρ := [], n0 := 0, res := bo y241, σ' := [], e := [] } }), (6, { orc := .val (.bool true) }), (8, { pc := some { ρ := [0, 1], n0 := 2, res := i64 y243, σ' := [.blk 94 [.row 1 (y115.2.l).length, i64 y115.2.most], .row 9 1 (encL eStr y115.2.l)], e := [1, 2] } }), (11, { orc := .val (.bool true) }), (13, { pc := some { ρ := [2], n0 := 1, loose := false, res := i64 y245, σ' := [.blk 94 [.d (.list true (x223).length (encL eStr x223)), i64 x224]], e := [1] } }), (16, { orc := .val (.bool true) }), (19, { pc := some { ρ := [2], n0 := 1, loose := false, res := bo y248, σ' := [.blk 94 [.d (.list true (x223).length (encL eStr x223)), i64 x224]], e := [1] } }), (26, { orc := .val (.bool false) })]) (by kernel_rfl) (allc (congrArg D.bool b240) (allc (C_retraceref23_Same x113 p0 y241 hy241) (allc (congrArg D.bool b242) (allc (C_stack_Stack_string_Len y115.2 y243 hy243) (allc (congrArg D.bool b244) (allc (C_stack_Stack_string_Len_v2 (⟨x223, x224⟩ : T_stack_Stack_string_) y245 hy245) (allc (congrArg D.bool b246) (allc (C_stack_Stack_string_Push_v2 p1 (⟨x223, x224⟩ : T_stack_Stack_string_) (.inl y248) hy247) (allc (congrArg D.bool b249) all0))))))))) (fun a w hs => ⟨false, h, hs⟩)
                          · replace h := el_inr h
                            rcases tf ((!y251.1) == (((p0).length : Int) == 0)) with b252 | b252
                            · replace h := cond_t b252 h
                              obtain ⟨y253, hy253, h⟩ := bind_some h
                              refine At.region_end [4] [] _ (st' := ⟨[(4, bo y253)], []⟩) (tips := [(1, { orc := .val (.bool true) }), (4, { settle := [3], pc := some { ρ := [], n0 := 0, res := bo y241, σ' := [], e := [] } }), (6, { orc := .val (.bool true) }), (8, { pc := some { ρ := [0, 1], n0 := 2, res := i64 y243, σ' := [.blk 94 [.row 1 (y115.2.l).length, i64 y115.2.most], .row 9 1 (encL eStr y115.2.l)], e := [1, 2] } }), (11, { orc := .val (.bool true) }), (13, { pc := some { ρ := [2], n0 := 1, loose := false, res := i64 y245, σ' := [.blk 94 [.d (.list true (x223).length (encL eStr x223)), i64 x224]], e := [1] } }), (16, { orc := .val (.bool true) }), (19, { pc := some { ρ := [2, 4], n0 := 1, loose := false, res := bo y251.1, σ' := [.blk 94 [.row 1 (y251.2.l).length, i64 y251.2.most], .row 9 1 (encL eStr y251.2.l)], e := [1] } }), (26, { orc := .val (.bool true) }), (27, { pc := some { ρ := [], n0 := 0, res := bo y253, σ' := [], e := [] } })]) (by kernel_rfl) (allc (congrArg D.bool b240) (allc (C_retraceref23_Same x113 p0 y241 hy241) (allc (congrArg D.bool b242) (allc (C_stack_Stack_string_Len y115.2 y243 hy243) (allc (congrArg D.bool b244) (allc (C_stack_Stack_string_Len_v2 (⟨x223, x224⟩ : T_stack_Stack_string_) y245 hy245) (allc (congrArg D.bool b246) (allc (C_stack_Stack_string_Push_v2 p1 (⟨x223, x224⟩ : T_stack_Stack_string_) (.inr y251) hy247) (allc (congrArg D.bool b252) (allc (C_retracelaw23_live y253 hy253) all0)))))))))) (fun a w hs => ⟨y253, h, hs⟩)
                            · replace h := cond_f b252 h
                              refine At.region_end [4] [] _ (st' := ⟨[(4, bo false)], []⟩) (tips := [(1, { orc := .val (.bool true) }), (4, { settle := [3], pc := some { ρ := [], n0 := 0, res := bo y241, σ' := [], e := [] } }), (6, { orc := .val (.bool true) }), (8, { pc := some { ρ := [0, 1], n0 := 2, res := i64 y243, σ' := [.blk 94 [.row 1 (y115.2.l).length, i64 y115.2.most], .row 9 1 (encL eStr y115.2.l)], e := [1, 2] } }), (11, { orc := .val (.bool true) }), (13, { pc := some { ρ := [2], n0 := 1, loose := false, res := i64 y245, σ' := [.blk 94 [.d (.list true (x223).length (encL eStr x223)), i64 x224]], e := [1] } }), (16, { orc := .val (.bool true) }), (19, { pc := some { ρ := [2, 4], n0 := 1, loose := false, res := bo y251.1, σ' := [.blk 94 [.row 1 (y251.2.l).length, i64 y251.2.most], .row 9 1 (encL eStr y251.2.l)], e := [1] } }), (26, { orc := .val (.bool false) })]) (by kernel_rfl) (allc (congrArg D.bool b240) (allc (C_retraceref23_Same x113 p0 y241 hy241) (allc (congrArg D.bool b242) (allc (C_stack_Stack_string_Len y115.2 y243 hy243) (allc (congrArg D.bool b244) (allc (C_stack_Stack_string_Len_v2 (⟨x223, x224⟩ : T_stack_Stack_string_) y245 hy245) (allc (congrArg D.bool b246) (allc (C_stack_Stack_string_Push_v2 p1 (⟨x223, x224⟩ : T_stack_Stack_string_) (.inr y251) hy247) (allc (congrArg D.bool b252) all0))))))))) (fun a w hs => ⟨false, h, hs⟩)
                        · replace h := cond_f b246 h
                          refine At.region_end [4] [] _ (st' := ⟨[(4, bo false)], []⟩) (tips := [(1, { orc := .val (.bool true) }), (4, { settle := [3], pc := some { ρ := [], n0 := 0, res := bo y241, σ' := [], e := [] } }), (6, { orc := .val (.bool true) }), (8, { pc := some { ρ := [0, 1], n0 := 2, res := i64 y243, σ' := [.blk 94 [.row 1 (y115.2.l).length, i64 y115.2.most], .row 9 1 (encL eStr y115.2.l)], e := [1, 2] } }), (11, { orc := .val (.bool true) }), (13, { pc := some { ρ := [2], n0 := 1, loose := false, res := i64 y245, σ' := [.blk 94 [.d (.list true (x223).length (encL eStr x223)), i64 x224]], e := [1] } }), (16, { orc := .val (.bool false) })]) (by kernel_rfl) (allc (congrArg D.bool b240) (allc (C_retraceref23_Same x113 p0 y241 hy241) (allc (congrArg D.bool b242) (allc (C_stack_Stack_string_Len y115.2 y243 hy243) (allc (congrArg D.bool b244) (allc (C_stack_Stack_string_Len_v2 (⟨x223, x224⟩ : T_stack_Stack_string_) y245 hy245) (allc (congrArg D.bool b246) all0))))))) (fun a w hs => ⟨false, h, hs⟩)
                      · replace h := cond_f b244 h
                        refine At.region_end [4] [] _ (st' := ⟨[(4, bo false)], []⟩) (tips := [(1, { orc := .val (.bool true) }), (4, { settle := [3], pc := some { ρ := [], n0 := 0, res := bo y241, σ' := [], e := [] } }), (6, { orc := .val (.bool true) }), (8, { pc := some { ρ := [0, 1], n0 := 2, res := i64 y243, σ' := [.blk 94 [.row 1 (y115.2.l).length, i64 y115.2.most], .row 9 1 (encL eStr y115.2.l)], e := [1, 2] } }), (11, { orc := .val (.bool false) })]) (by kernel_rfl) (allc (congrArg D.bool b240) (allc (C_retraceref23_Same x113 p0 y241 hy241) (allc (congrArg D.bool b242) (allc (C_stack_Stack_string_Len y115.2 y243 hy243) (allc (congrArg D.bool b244) all0))))) (fun a w hs => ⟨false, h, hs⟩)
                    · replace h := cond_f b242 h
                      refine At.region_end [4] [] _ (st' := ⟨[(4, bo false)], []⟩) (tips := [(1, { orc := .val (.bool true) }), (4, { settle := [3], pc := some { ρ := [], n0 := 0, res := bo y241, σ' := [], e := [] } }), (6, { orc := .val (.bool false) })]) (by kernel_rfl) (allc (congrArg D.bool b240) (allc (C_retraceref23_Same x113 p0 y241 hy241) (allc (congrArg D.bool b242) all0))) (fun a w hs => ⟨false, h, hs⟩)
                  · replace h := cond_f b240 h
                    refine At.region_end [4] [] _ (st' := ⟨[(4, bo false)], []⟩) (tips := [(1, { orc := .val (.bool false) })]) (by kernel_rfl) (allc (congrArg D.bool b240) all0) (fun a w hs => ⟨false, h, hs⟩)
                · intro x239 h
                  replace h : F_retracelaw23_StackOrder_J7 x239 = some r := h
                  rw [F_retracelaw23_StackOrder_J7] at h
                  obtain rfl := some_eq h
                  exact At.ret fun a w hs => ret_ok hR (ρ := []) (gs := []) (by kernel_rfl) all0 (by kernel_rfl) rfl rfl a w hs _ (.inl rfl)
          · replace h : F_retracelaw23_StackOrder_J17 p0 p1 x67 x68 x340 x341 x342 x343 = some r := h
            rw [F_retracelaw23_StackOrder_J17] at h
            refine At.seqJ (S := (Unit) ⊕ (Int × (List ByteArray))) (Sum.elim (fun s => ⟨[(0, lv eStr p0), (1, sv p1), (5, .ptr 0 0), (6, .ptr 1 0), (8, .row 3 (x343).length), (9, bo x340)], [.blk 94 [.d (.list true (x341).length (encL eStr x341)), i64 x342], .blk 94 [.row 2 (x68).length, i64 x67], .row 9 1 (encL eStr x68), .row 9 1 (encL eStr x343)]⟩) (fun s => ⟨[(0, lv eStr p0), (1, sv p1), (5, .ptr 0 0), (6, .ptr 2 0), (8, .row 4 (x343).length), (9, bo x340)], [.blk 94 [.row 1 (s.2).length, i64 s.1], .row 9 1 (encL eStr s.2), .blk 94 [.row 3 (x68).length, i64 x67], .row 9 1 (encL eStr x68), .row 9 1 (encL eStr x343)]⟩)) (Sum.elim (fun s => F_retracelaw23_StackOrder_J18 p0 p1 x67 x68 x340 x341 x342 x343 = some r) (fun s => F_retracelaw23_StackOrder_J32 p0 p1 x67 x68 x340 x343 s.1 s.2 = some r)) ?_ ?_
            · obtain ⟨y797, hy797, h⟩ := bind_some h
              rcases y797 with y798 | y799
              · replace h := el_inl h
                refine At.region_end [0, 1, 5, 6, 8, 9] [0, 1, 2, 3] _ (st' := ⟨[(0, lv eStr p0), (1, sv p1), (5, .ptr 0 0), (6, .ptr 1 0), (8, .row 3 (x343).length), (9, bo x340)], [.blk 94 [.d (.list true (x341).length (encL eStr x341)), i64 x342], .blk 94 [.row 2 (x68).length, i64 x67], .row 9 1 (encL eStr x68), .row 9 1 (encL eStr x343)]⟩) (tips := [(2, { pc := some { ρ := [0], n0 := 1, loose := false, res := bo y798, σ' := [.blk 94 [.d (.list true (x341).length (encL eStr x341)), i64 x342]], e := [1] } })]) (by kernel_rfl) (allc (C_stack_Stack_string_Push_v2 p1 (⟨x341, x342⟩ : T_stack_Stack_string_) (.inl y798) hy797) all0) (fun a w hs => ⟨.inl (), h, hs⟩)
              · replace h := el_inr h
                refine At.region_end [0, 1, 5, 6, 8, 9] [0, 4, 1, 2, 3] _ (st' := ⟨[(0, lv eStr p0), (1, sv p1), (5, .ptr 0 0), (6, .ptr 2 0), (8, .row 4 (x343).length), (9, bo x340)], [.blk 94 [.row 1 (y799.2.l).length, i64 y799.2.most], .row 9 1 (encL eStr y799.2.l), .blk 94 [.row 3 (x68).length, i64 x67], .row 9 1 (encL eStr x68), .row 9 1 (encL eStr x343)]⟩) (tips := [(2, { pc := some { ρ := [0, 4], n0 := 1, loose := false, res := bo y799.1, σ' := [.blk 94 [.row 1 (y799.2.l).length, i64 y799.2.most], .row 9 1 (encL eStr y799.2.l)], e := [1] } })]) (by kernel_rfl) (allc (C_stack_Stack_string_Push_v2 p1 (⟨x341, x342⟩ : T_stack_Stack_string_) (.inr y799) hy797) all0) (fun a w hs => ⟨.inr ((y799.2.most, y799.2.l)), h, hs⟩)
            · rintro (_ | ⟨x571, x572⟩) h
              · replace h : F_retracelaw23_StackOrder_J18 p0 p1 x67 x68 x340 x341 x342 x343 = some r := h
                rw [F_retracelaw23_StackOrder_J18] at h
                refine At.seqJ (S := (Unit) ⊕ ((List ByteArray) × Int)) (Sum.elim (fun s => ⟨[(0, lv eStr p0), (1, sv p1), (5, .ptr 0 0), (6, .ptr 1 0), (8, .row 3 (x343).length), (9, bo x340)], [.blk 94 [.d (.list true (x341).length (encL eStr x341)), i64 x342], .blk 94 [.row 2 (x68).length, i64 x67], .row 9 1 (encL eStr x68), .row 9 1 (encL eStr x343)]⟩) (fun s => ⟨[(0, lv eStr p0), (1, sv p1), (5, .ptr 0 0), (6, .ptr 1 0), (8, .row 2 (x343).length), (9, bo x340)], [.blk 94 [.d (.list true (x341).length (encL eStr x341)), i64 x342], .blk 94 [.d (.list true (s.1).length (encL eStr s.1)), i64 s.2], .row 9 1 (encL eStr x343)]⟩)) (Sum.elim (fun s => F_retracelaw23_StackOrder_J19 p0 p1 x67 x68 x340 x341 x342 x343 = some r) (fun s => F_retracelaw23_StackOrder_J21 p0 p1 x340 x341 x342 x343 s.1 s.2 = some r)) ?_ ?_
                · refine At.seq ?_
                  refine At.region_end [0, 1, 5, 6, 8, 9, 10] [0, 1, 2, 3] _ (st' := ⟨[(0, lv eStr p0), (1, sv p1), (5, .ptr 0 0), (6, .ptr 1 0), (8, .row 3 (x343).length), (9, bo x340), (10, i64 (w64 (((p0).length : Int) - 1)))], [.blk 94 [.d (.list true (x341).length (encL eStr x341)), i64 x342], .blk 94 [.row 2 (x68).length, i64 x67], .row 9 1 (encL eStr x68), .row 9 1 (encL eStr x343)]⟩) (tips := []) (by kernel_rfl) all0 (norm ?_)
                  refine At.block ?_
                  refine At.loop (S := ((Int) ⊕ (Int × (List ByteArray) × Int))) (Sum.elim (fun s : Int => F_retracelaw23_StackOrder_L29 p0 p1 x67 x68 x340 x341 x342 x343 s) (fun s : Int × (List ByteArray) × Int => F_retracelaw23_StackOrder_L31 p0 p1 x340 x341 x342 x343 s.1 s.2.1 s.2.2)) (Sum.elim (fun s : Int => ⟨[(0, lv eStr p0), (1, sv p1), (5, .ptr 0 0), (6, .ptr 1 0), (8, .row 3 (x343).length), (9, bo x340), (10, i64 s)], [.blk 94 [.d (.list true (x341).length (encL eStr x341)), i64 x342], .blk 94 [.row 2 (x68).length, i64 x67], .row 9 1 (encL eStr x68), .row 9 1 (encL eStr x343)]⟩) (fun s : Int × (List ByteArray) × Int => ⟨[(0, lv eStr p0), (1, sv p1), (5, .ptr 0 0), (6, .ptr 1 0), (8, .row 2 (x343).length), (9, bo x340), (10, i64 s.1)], [.blk 94 [.d (.list true (x341).length (encL eStr x341)), i64 x342], .blk 94 [.d (.list true (s.2.1).length (encL eStr s.2.1)), i64 s.2.2], .row 9 1 (encL eStr x343)]⟩)) r (.inl (w64 (((p0).length : Int) - 1))) h ?_
                  rintro (x485 | ⟨x486, x487, x488⟩) oo489 h f490
                  · replace h : F_retracelaw23_StackOrder_L29 p0 p1 x67 x68 x340 x341 x342 x343 x485 = some oo489 := h
                    rw [F_retracelaw23_StackOrder_L29] at h
                    refine At.seq ?_
                    refine At.seq ?_
                    refine At.region_end [0, 1, 5, 6, 8, 9, 10, 64] [0, 1, 2, 3] _ (st' := ⟨[(0, lv eStr p0), (1, sv p1), (5, .ptr 0 0), (6, .ptr 1 0), (8, .row 3 (x343).length), (9, bo x340), (10, i64 x485), (64, bo (decide (0 ≤ x485)))], [.blk 94 [.d (.list true (x341).length (encL eStr x341)), i64 x342], .blk 94 [.row 2 (x68).length, i64 x67], .row 9 1 (encL eStr x68), .row 9 1 (encL eStr x343)]⟩) (tips := []) (by kernel_rfl) all0 (norm ?_)
                    refine At.cond (decide (0 ≤ x485)) (by kernel_rfl) (fun b492 => ?_) (fun b492 => ?_)
                    · replace h := cond_t b492 h
                      refine At.nar [0, 1, 5, 6, 8, 9, 10] [0, 1, 2, 3] (st' := ⟨[(0, lv eStr p0), (1, sv p1), (5, .ptr 0 0), (6, .ptr 1 0), (8, .row 3 (x343).length), (9, bo x340), (10, i64 x485)], [.blk 94 [.d (.list true (x341).length (encL eStr x341)), i64 x342], .blk 94 [.row 2 (x68).length, i64 x67], .row 9 1 (encL eStr x68), .row 9 1 (encL eStr x343)]⟩) (by kernel_rfl) ?_
                      refine At.skip (norm ?_)
                      refine At.seqJ (S := (Unit) ⊕ ((List ByteArray) × Int)) (Sum.elim (fun s => ⟨[(0, lv eStr p0), (1, sv p1), (5, .ptr 0 0), (6, .ptr 1 0), (8, .row 3 (x343).length), (9, bo x340), (10, i64 x485)], [.blk 94 [.d (.list true (x341).length (encL eStr x341)), i64 x342], .blk 94 [.row 2 (x68).length, i64 x67], .row 9 1 (encL eStr x68), .row 9 1 (encL eStr x343)]⟩) (fun s => ⟨[(0, lv eStr p0), (1, sv p1), (5, .ptr 0 0), (6, .ptr 1 0), (8, .row 2 (x343).length), (9, bo x340), (10, i64 x485)], [.blk 94 [.d (.list true (x341).length (encL eStr x341)), i64 x342], .blk 94 [.d (.list true (s.1).length (encL eStr s.1)), i64 s.2], .row 9 1 (encL eStr x343)]⟩)) (Sum.elim (fun s => F_retracelaw23_StackOrder_J23 x485 = some oo489) (fun s => F_retracelaw23_StackOrder_J24 x485 s.1 s.2 = some oo489)) ?_ ?_
                      · refine At.block ?_
                        refine At.seqJ (S := (ByteArray × Bool) ⊕ (ByteArray × Bool × (List ByteArray) × Int)) (Sum.elim (fun s => ⟨[(0, lv eStr p0), (1, sv p1), (5, .ptr 0 0), (6, .ptr 1 0), (8, .row 3 (x343).length), (9, bo x340), (10, i64 x485), (11, sv s.1), (12, bo s.2)], [.blk 94 [.d (.list true (x341).length (encL eStr x341)), i64 x342], .blk 94 [.row 2 (x68).length, i64 x67], .row 9 1 (encL eStr x68), .row 9 1 (encL eStr x343)]⟩) (fun s => ⟨[(0, lv eStr p0), (1, sv p1), (5, .ptr 0 0), (6, .ptr 1 0), (8, .row 2 (x343).length), (9, bo x340), (10, i64 x485), (11, sv s.1), (12, bo s.2.1)], [.blk 94 [.d (.list true (x341).length (encL eStr x341)), i64 x342], .blk 94 [.d (.list true (s.2.2.1).length (encL eStr s.2.2.1)), i64 s.2.2.2], .row 9 1 (encL eStr x343)]⟩)) (Sum.elim (fun s => F_retracelaw23_StackOrder_J25 p0 x485 s.1 s.2 = some oo489) (fun s => F_retracelaw23_StackOrder_J27 p0 x485 s.1 s.2.1 s.2.2.1 s.2.2.2 = some oo489)) ?_ ?_
                        · obtain ⟨y544, hy544, h⟩ := bind_some h
                          rcases y544 with y545 | y546
                          · replace h := el_inl h
                            refine At.region_end [0, 1, 5, 6, 8, 9, 10, 11, 12] [0, 1, 2, 3] _ (st' := ⟨[(0, lv eStr p0), (1, sv p1), (5, .ptr 0 0), (6, .ptr 1 0), (8, .row 3 (x343).length), (9, bo x340), (10, i64 x485), (11, sv y545.1), (12, bo y545.2)], [.blk 94 [.d (.list true (x341).length (encL eStr x341)), i64 x342], .blk 94 [.row 2 (x68).length, i64 x67], .row 9 1 (encL eStr x68), .row 9 1 (encL eStr x343)]⟩) (tips := [(1, { pc := some { ρ := [1, 2], n0 := 2, res := .tup [sv y545.1, bo y545.2], σ' := [.blk 94 [.row 1 (x68).length, i64 x67], .row 9 1 (encL eStr x68)], e := [1, 2, 3] } })]) (by kernel_rfl) (allc (C_stack_Stack_string_Pop (⟨x68, x67⟩ : T_stack_Stack_string_) (.inl y545) hy544) all0) (fun a w hs => ⟨.inl (y545.1, y545.2), h, hs⟩)
                          · replace h := el_inr h
                            refine At.region_end [0, 1, 5, 6, 8, 9, 10, 11, 12] [0, 1, 3] _ (st' := ⟨[(0, lv eStr p0), (1, sv p1), (5, .ptr 0 0), (6, .ptr 1 0), (8, .row 2 (x343).length), (9, bo x340), (10, i64 x485), (11, sv y546.1), (12, bo y546.2.1)], [.blk 94 [.d (.list true (x341).length (encL eStr x341)), i64 x342], .blk 94 [.d (.list true (y546.2.2.l).length (encL eStr y546.2.2.l)), i64 y546.2.2.most], .row 9 1 (encL eStr x343)]⟩) (tips := [(1, { pc := some { ρ := [1, 2], n0 := 2, res := .tup [sv y546.1, bo y546.2.1], σ' := [.blk 94 [.d (.list true (y546.2.2.l).length (encL eStr y546.2.2.l)), i64 y546.2.2.most], .dead], e := [1, 2, 3] } })]) (by kernel_rfl) (allc (C_stack_Stack_string_Pop (⟨x68, x67⟩ : T_stack_Stack_string_) (.inr y546) hy544) all0) (fun a w hs => ⟨.inr ((y546.1, y546.2.1, y546.2.2.l, y546.2.2.most)), h, hs⟩)
                        · rintro (⟨x522, x523⟩ | ⟨x532, x533, x534, x535⟩) h
                          · replace h : F_retracelaw23_StackOrder_J25 p0 x485 x522 x523 = some oo489 := h
                            rw [F_retracelaw23_StackOrder_J25] at h
                            refine At.seqJ (S := Bool) (fun s => ⟨[(0, lv eStr p0), (1, sv p1), (5, .ptr 0 0), (6, .ptr 1 0), (8, .row 3 (x343).length), (9, bo x340), (10, i64 x485), (81, bo s)], [.blk 94 [.d (.list true (x341).length (encL eStr x341)), i64 x342], .blk 94 [.row 2 (x68).length, i64 x67], .row 9 1 (encL eStr x68), .row 9 1 (encL eStr x343)]⟩) (fun s => F_retracelaw23_StackOrder_J26 x485 s = some oo489) ?_ ?_
                            · rcases tf (!x523) with b530 | b530
                              · replace h := cond_t b530 h
                                refine At.region_end [0, 1, 5, 6, 8, 9, 10, 81] [0, 1, 2, 3] _ (st' := ⟨[(0, lv eStr p0), (1, sv p1), (5, .ptr 0 0), (6, .ptr 1 0), (8, .row 3 (x343).length), (9, bo x340), (10, i64 x485), (81, bo true)], [.blk 94 [.d (.list true (x341).length (encL eStr x341)), i64 x342], .blk 94 [.row 2 (x68).length, i64 x67], .row 9 1 (encL eStr x68), .row 9 1 (encL eStr x343)]⟩) (tips := [(2, { orc := .val (.bool true) })]) (by kernel_rfl) (allc (congrArg D.bool b530) all0) (fun a w hs => ⟨true, h, hs⟩)
                              · replace h := cond_f b530 h
                                obtain ⟨y531, hy531, h⟩ := bind_some h
                                refine At.region_end [0, 1, 5, 6, 8, 9, 10, 81] [0, 1, 2, 3] _ (st' := ⟨[(0, lv eStr p0), (1, sv p1), (5, .ptr 0 0), (6, .ptr 1 0), (8, .row 3 (x343).length), (9, bo x340), (10, i64 x485), (81, bo (!(x522.toList == y531.toList)))], [.blk 94 [.d (.list true (x341).length (encL eStr x341)), i64 x342], .blk 94 [.row 2 (x68).length, i64 x67], .row 9 1 (encL eStr x68), .row 9 1 (encL eStr x343)]⟩) (tips := [(2, { orc := .val (.bool false) }), (6, { orc := .cells (eStr y531) })]) (by kernel_rfl) (allc (congrArg D.bool b530) (allc (elemAt_of he_str hy531) all0)) (fun a w hs => ⟨(!(x522.toList == y531.toList)), h, hs⟩)
                            · intro x526 h
                              replace h : F_retracelaw23_StackOrder_J26 x485 x526 = some oo489 := h
                              rw [F_retracelaw23_StackOrder_J26] at h
                              refine At.cond x526 (by kernel_rfl) (fun b527 => ?_) (fun b527 => ?_)
                              · replace h := cond_t b527 h
                                refine At.seq ?_
                                refine At.region_end [4] [] _ (st' := ⟨[(4, bo false)], []⟩) (tips := []) (by kernel_rfl) all0 (norm ?_)
                                obtain ⟨r528, h, e529⟩ := map_inr h
                                rw [f490 _ e529] at h
                                obtain rfl := some_eq h
                                exact At.ret fun a w hs => ret_ok hR (ρ := []) (gs := []) (by kernel_rfl) all0 (by kernel_rfl) rfl rfl a w hs _ (.inl rfl)
                              · replace h := cond_f b527 h
                                refine At.nar [0, 1, 5, 6, 8, 9, 10] [0, 1, 2, 3] (st' := ⟨[(0, lv eStr p0), (1, sv p1), (5, .ptr 0 0), (6, .ptr 1 0), (8, .row 3 (x343).length), (9, bo x340), (10, i64 x485)], [.blk 94 [.d (.list true (x341).length (encL eStr x341)), i64 x342], .blk 94 [.row 2 (x68).length, i64 x67], .row 9 1 (encL eStr x68), .row 9 1 (encL eStr x343)]⟩) (by kernel_rfl) ?_
                                refine At.skip (fun a w hs => ⟨.inl (), h, hs⟩)
                          · replace h : F_retracelaw23_StackOrder_J27 p0 x485 x532 x533 x534 x535 = some oo489 := h
                            rw [F_retracelaw23_StackOrder_J27] at h
                            refine At.seqJ (S := Bool) (fun s => ⟨[(0, lv eStr p0), (1, sv p1), (5, .ptr 0 0), (6, .ptr 1 0), (8, .row 2 (x343).length), (9, bo x340), (10, i64 x485), (81, bo s)], [.blk 94 [.d (.list true (x341).length (encL eStr x341)), i64 x342], .blk 94 [.d (.list true (x534).length (encL eStr x534)), i64 x535], .row 9 1 (encL eStr x343)]⟩) (fun s => F_retracelaw23_StackOrder_J28 x485 x534 x535 s = some oo489) ?_ ?_
                            · rcases tf (!x533) with b542 | b542
                              · replace h := cond_t b542 h
                                refine At.region_end [0, 1, 5, 6, 8, 9, 10, 81] [0, 1, 2] _ (st' := ⟨[(0, lv eStr p0), (1, sv p1), (5, .ptr 0 0), (6, .ptr 1 0), (8, .row 2 (x343).length), (9, bo x340), (10, i64 x485), (81, bo true)], [.blk 94 [.d (.list true (x341).length (encL eStr x341)), i64 x342], .blk 94 [.d (.list true (x534).length (encL eStr x534)), i64 x535], .row 9 1 (encL eStr x343)]⟩) (tips := [(2, { orc := .val (.bool true) })]) (by kernel_rfl) (allc (congrArg D.bool b542) all0) (fun a w hs => ⟨true, h, hs⟩)
                              · replace h := cond_f b542 h
                                obtain ⟨y543, hy543, h⟩ := bind_some h
                                refine At.region_end [0, 1, 5, 6, 8, 9, 10, 81] [0, 1, 2] _ (st' := ⟨[(0, lv eStr p0), (1, sv p1), (5, .ptr 0 0), (6, .ptr 1 0), (8, .row 2 (x343).length), (9, bo x340), (10, i64 x485), (81, bo (!(x532.toList == y543.toList)))], [.blk 94 [.d (.list true (x341).length (encL eStr x341)), i64 x342], .blk 94 [.d (.list true (x534).length (encL eStr x534)), i64 x535], .row 9 1 (encL eStr x343)]⟩) (tips := [(2, { orc := .val (.bool false) }), (6, { orc := .cells (eStr y543) })]) (by kernel_rfl) (allc (congrArg D.bool b542) (allc (elemAt_of he_str hy543) all0)) (fun a w hs => ⟨(!(x532.toList == y543.toList)), h, hs⟩)
                            · intro x538 h
                              replace h : F_retracelaw23_StackOrder_J28 x485 x534 x535 x538 = some oo489 := h
                              rw [F_retracelaw23_StackOrder_J28] at h
                              refine At.cond x538 (by kernel_rfl) (fun b539 => ?_) (fun b539 => ?_)
                              · replace h := cond_t b539 h
                                refine At.seq ?_
                                refine At.region_end [4] [] _ (st' := ⟨[(4, bo false)], []⟩) (tips := []) (by kernel_rfl) all0 (norm ?_)
                                obtain ⟨r540, h, e541⟩ := map_inr h
                                rw [f490 _ e541] at h
                                obtain rfl := some_eq h
                                exact At.ret fun a w hs => ret_ok hR (ρ := []) (gs := []) (by kernel_rfl) all0 (by kernel_rfl) rfl rfl a w hs _ (.inl rfl)
                              · replace h := cond_f b539 h
                                refine At.nar [0, 1, 5, 6, 8, 9, 10] [0, 1, 2] (st' := ⟨[(0, lv eStr p0), (1, sv p1), (5, .ptr 0 0), (6, .ptr 1 0), (8, .row 2 (x343).length), (9, bo x340), (10, i64 x485)], [.blk 94 [.d (.list true (x341).length (encL eStr x341)), i64 x342], .blk 94 [.d (.list true (x534).length (encL eStr x534)), i64 x535], .row 9 1 (encL eStr x343)]⟩) (by kernel_rfl) ?_
                                refine At.skip (fun a w hs => ⟨.inr ((x534, x535)), h, hs⟩)
                      · rintro (_ | ⟨x517, x518⟩) h
                        · replace h : F_retracelaw23_StackOrder_J23 x485 = some oo489 := h
                          rw [F_retracelaw23_StackOrder_J23] at h
                          refine At.region_end [0, 1, 5, 6, 8, 9, 10] [0, 1, 2, 3] _ (st' := ⟨[(0, lv eStr p0), (1, sv p1), (5, .ptr 0 0), (6, .ptr 1 0), (8, .row 3 (x343).length), (9, bo x340), (10, i64 (w64 (x485 - 1)))], [.blk 94 [.d (.list true (x341).length (encL eStr x341)), i64 x342], .blk 94 [.row 2 (x68).length, i64 x67], .row 9 1 (encL eStr x68), .row 9 1 (encL eStr x343)]⟩) (tips := []) (by kernel_rfl) all0 (fun a w hs => ⟨_, (some_eq h).symm, hs⟩)
                        · replace h : F_retracelaw23_StackOrder_J24 x485 x517 x518 = some oo489 := h
                          rw [F_retracelaw23_StackOrder_J24] at h
                          refine At.region_end [0, 1, 5, 6, 8, 9, 10] [0, 1, 2] _ (st' := ⟨[(0, lv eStr p0), (1, sv p1), (5, .ptr 0 0), (6, .ptr 1 0), (8, .row 2 (x343).length), (9, bo x340), (10, i64 (w64 (x485 - 1)))], [.blk 94 [.d (.list true (x341).length (encL eStr x341)), i64 x342], .blk 94 [.d (.list true (x517).length (encL eStr x517)), i64 x518], .row 9 1 (encL eStr x343)]⟩) (tips := []) (by kernel_rfl) all0 (fun a w hs => ⟨_, (some_eq h).symm, hs⟩)
                    · replace h := cond_f b492 h
                      refine At.nar [0, 1, 5, 6, 8, 9] [0, 1, 2, 3] (st' := ⟨[(0, lv eStr p0), (1, sv p1), (5, .ptr 0 0), (6, .ptr 1 0), (8, .row 3 (x343).length), (9, bo x340)], [.blk 94 [.d (.list true (x341).length (encL eStr x341)), i64 x342], .blk 94 [.row 2 (x68).length, i64 x67], .row 9 1 (encL eStr x68), .row 9 1 (encL eStr x343)]⟩) (by kernel_rfl) ?_
                      obtain ⟨r547, h, e548⟩ := map_inr h
                      rw [f490 _ e548] at h
                      refine At.exit (fun a w hs => ⟨.inl (), h, hs⟩)
                  · replace h : F_retracelaw23_StackOrder_L31 p0 p1 x340 x341 x342 x343 x486 x487 x488 = some oo489 := h
                    rw [F_retracelaw23_StackOrder_L31] at h
                    refine At.seq ?_
                    refine At.seq ?_
                    refine At.region_end [0, 1, 5, 6, 8, 9, 10, 64] [0, 1, 2] _ (st' := ⟨[(0, lv eStr p0), (1, sv p1), (5, .ptr 0 0), (6, .ptr 1 0), (8, .row 2 (x343).length), (9, bo x340), (10, i64 x486), (64, bo (decide (0 ≤ x486)))], [.blk 94 [.d (.list true (x341).length (encL eStr x341)), i64 x342], .blk 94 [.d (.list true (x487).length (encL eStr x487)), i64 x488], .row 9 1 (encL eStr x343)]⟩) (tips := []) (by kernel_rfl) all0 (norm ?_)
                    refine At.cond (decide (0 ≤ x486)) (by kernel_rfl) (fun b550 => ?_) (fun b550 => ?_)
                    · replace h := cond_t b550 h
                      refine At.nar [0, 1, 5, 6, 8, 9, 10] [0, 1, 2] (st' := ⟨[(0, lv eStr p0), (1, sv p1), (5, .ptr 0 0), (6, .ptr 1 0), (8, .row 2 (x343).length), (9, bo x340), (10, i64 x486)], [.blk 94 [.d (.list true (x341).length (encL eStr x341)), i64 x342], .blk 94 [.d (.list true (x487).length (encL eStr x487)), i64 x488], .row 9 1 (encL eStr x343)]⟩) (by kernel_rfl) ?_
                      refine At.skip (norm ?_)
                      refine At.seq ?_
                      refine At.block ?_
                      refine At.seq ?_
                      obtain ⟨y560, hy560, h⟩ := bind_some h
                      refine At.region_end [0, 1, 5, 6, 8, 9, 10, 11, 12] [0, 1, 2] _ (st' := ⟨[(0, lv eStr p0), (1, sv p1), (5, .ptr 0 0), (6, .ptr 1 0), (8, .row 2 (x343).length), (9, bo x340), (10, i64 x486), (11, sv y560.1), (12, bo y560.2.1)], [.blk 94 [.d (.list true (x341).length (encL eStr x341)), i64 x342], .blk 94 [.d (.list true (y560.2.2.l).length (encL eStr y560.2.2.l)), i64 y560.2.2.most], .row 9 1 (encL eStr x343)]⟩) (tips := [(1, { pc := some { ρ := [1], n0 := 1, loose := false, res := .tup [sv y560.1, bo y560.2.1], σ' := [.blk 94 [.d (.list true (y560.2.2.l).length (encL eStr y560.2.2.l)), i64 y560.2.2.most]], e := [1] } })]) (by kernel_rfl) (allc (C_stack_Stack_string_Pop_v2 (⟨x487, x488⟩ : T_stack_Stack_string_) y560 hy560) all0) (norm ?_)
                      refine At.seqJ (S := Bool) (fun s => ⟨[(0, lv eStr p0), (1, sv p1), (5, .ptr 0 0), (6, .ptr 1 0), (8, .row 2 (x343).length), (9, bo x340), (10, i64 x486), (81, bo s)], [.blk 94 [.d (.list true (x341).length (encL eStr x341)), i64 x342], .blk 94 [.d (.list true (y560.2.2.l).length (encL eStr y560.2.2.l)), i64 y560.2.2.most], .row 9 1 (encL eStr x343)]⟩) (fun s => F_retracelaw23_StackOrder_J30 x486 y560 s = some oo489) ?_ ?_
                      · rcases tf (!y560.2.1) with b567 | b567
                        · replace h := cond_t b567 h
                          refine At.region_end [0, 1, 5, 6, 8, 9, 10, 81] [0, 1, 2] _ (st' := ⟨[(0, lv eStr p0), (1, sv p1), (5, .ptr 0 0), (6, .ptr 1 0), (8, .row 2 (x343).length), (9, bo x340), (10, i64 x486), (81, bo true)], [.blk 94 [.d (.list true (x341).length (encL eStr x341)), i64 x342], .blk 94 [.d (.list true (y560.2.2.l).length (encL eStr y560.2.2.l)), i64 y560.2.2.most], .row 9 1 (encL eStr x343)]⟩) (tips := [(2, { orc := .val (.bool true) })]) (by kernel_rfl) (allc (congrArg D.bool b567) all0) (fun a w hs => ⟨true, h, hs⟩)
                        · replace h := cond_f b567 h
                          obtain ⟨y568, hy568, h⟩ := bind_some h
                          refine At.region_end [0, 1, 5, 6, 8, 9, 10, 81] [0, 1, 2] _ (st' := ⟨[(0, lv eStr p0), (1, sv p1), (5, .ptr 0 0), (6, .ptr 1 0), (8, .row 2 (x343).length), (9, bo x340), (10, i64 x486), (81, bo (!(y560.1.toList == y568.toList)))], [.blk 94 [.d (.list true (x341).length (encL eStr x341)), i64 x342], .blk 94 [.d (.list true (y560.2.2.l).length (encL eStr y560.2.2.l)), i64 y560.2.2.most], .row 9 1 (encL eStr x343)]⟩) (tips := [(2, { orc := .val (.bool false) }), (6, { orc := .cells (eStr y568) })]) (by kernel_rfl) (allc (congrArg D.bool b567) (allc (elemAt_of he_str hy568) all0)) (fun a w hs => ⟨(!(y560.1.toList == y568.toList)), h, hs⟩)
                      · intro x563 h
                        replace h : F_retracelaw23_StackOrder_J30 x486 y560 x563 = some oo489 := h
                        rw [F_retracelaw23_StackOrder_J30] at h
                        refine At.cond x563 (by kernel_rfl) (fun b564 => ?_) (fun b564 => ?_)
                        · replace h := cond_t b564 h
                          refine At.seq ?_
                          refine At.region_end [4] [] _ (st' := ⟨[(4, bo false)], []⟩) (tips := []) (by kernel_rfl) all0 (norm ?_)
                          obtain ⟨r565, h, e566⟩ := map_inr h
                          rw [f490 _ e566] at h
                          obtain rfl := some_eq h
                          exact At.ret fun a w hs => ret_ok hR (ρ := []) (gs := []) (by kernel_rfl) all0 (by kernel_rfl) rfl rfl a w hs _ (.inl rfl)
                        · replace h := cond_f b564 h
                          refine At.nar [0, 1, 5, 6, 8, 9, 10] [0, 1, 2] (st' := ⟨[(0, lv eStr p0), (1, sv p1), (5, .ptr 0 0), (6, .ptr 1 0), (8, .row 2 (x343).length), (9, bo x340), (10, i64 x486)], [.blk 94 [.d (.list true (x341).length (encL eStr x341)), i64 x342], .blk 94 [.d (.list true (y560.2.2.l).length (encL eStr y560.2.2.l)), i64 y560.2.2.most], .row 9 1 (encL eStr x343)]⟩) (by kernel_rfl) ?_
                          refine At.skip (norm ?_)
                          refine At.region_end [0, 1, 5, 6, 8, 9, 10] [0, 1, 2] _ (st' := ⟨[(0, lv eStr p0), (1, sv p1), (5, .ptr 0 0), (6, .ptr 1 0), (8, .row 2 (x343).length), (9, bo x340), (10, i64 (w64 (x486 - 1)))], [.blk 94 [.d (.list true (x341).length (encL eStr x341)), i64 x342], .blk 94 [.d (.list true (y560.2.2.l).length (encL eStr y560.2.2.l)), i64 y560.2.2.most], .row 9 1 (encL eStr x343)]⟩) (tips := []) (by kernel_rfl) all0 (fun a w hs => ⟨_, (some_eq h).symm, hs⟩)
                    · replace h := cond_f b550 h
                      refine At.nar [0, 1, 5, 6, 8, 9] [0, 1, 2] (st' := ⟨[(0, lv eStr p0), (1, sv p1), (5, .ptr 0 0), (6, .ptr 1 0), (8, .row 2 (x343).length), (9, bo x340)], [.blk 94 [.d (.list true (x341).length (encL eStr x341)), i64 x342], .blk 94 [.d (.list true (x487).length (encL eStr x487)), i64 x488], .row 9 1 (encL eStr x343)]⟩) (by kernel_rfl) ?_
                      obtain ⟨r569, h, e570⟩ := map_inr h
                      rw [f490 _ e570] at h
                      refine At.exit (fun a w hs => ⟨.inr ((x487, x488)), h, hs⟩)
                · rintro (_ | ⟨x454, x455⟩) h
                  · replace h : F_retracelaw23_StackOrder_J19 p0 p1 x67 x68 x340 x341 x342 x343 = some r := h
                    rw [F_retracelaw23_StackOrder_J19] at h
                    refine At.seqJ (S := Bool) (fun s => ⟨[(4, bo s)], []⟩) (fun s => F_retracelaw23_StackOrder_J20 s = some r) ?_ ?_
                    · rcases tf x340 with b444 | b444
                      · replace h := cond_t b444 h
                        obtain ⟨y445, hy445, h⟩ := bind_some h
                        rcases tf y445 with b446 | b446
                        · replace h := cond_t b446 h
                          obtain ⟨y447, hy447, h⟩ := bind_some h
                          rcases tf (y447 == 1) with b448 | b448
                          · replace h := cond_t b448 h
                            obtain ⟨y449, hy449, h⟩ := bind_some h
                            rcases tf (y449 == 0) with b450 | b450
                            · replace h := cond_t b450 h
                              obtain ⟨y451, hy451, h⟩ := bind_some h
                              rcases tf ((!y451.1) == (((p0).length : Int) == 0)) with b452 | b452
                              · replace h := cond_t b452 h
                                obtain ⟨y453, hy453, h⟩ := bind_some h
                                refine At.region_end [4] [] _ (st' := ⟨[(4, bo y453)], []⟩) (tips := [(1, { orc := .val (.bool true) }), (4, { settle := [3], pc := some { ρ := [], n0 := 0, res := bo y445, σ' := [], e := [] } }), (6, { orc := .val (.bool true) }), (8, { pc := some { ρ := [0], n0 := 1, loose := false, res := i64 y447, σ' := [.blk 94 [.d (.list true (x341).length (encL eStr x341)), i64 x342]], e := [1] } }), (11, { orc := .val (.bool true) }), (13, { pc := some { ρ := [1, 2], n0 := 2, res := i64 y449, σ' := [.blk 94 [.row 1 (x68).length, i64 x67], .row 9 1 (encL eStr x68)], e := [1, 2] } }), (16, { orc := .val (.bool true) }), (19, { pc := some { ρ := [1, 2], n0 := 2, res := bo y451.1, σ' := [.blk 94 [.row 1 (y451.2.l).length, i64 y451.2.most], .row 9 1 (encL eStr y451.2.l)], e := [1, 2, 3] } }), (26, { orc := .val (.bool true) }), (27, { pc := some { ρ := [], n0 := 0, res := bo y453, σ' := [], e := [] } })]) (by kernel_rfl) (allc (congrArg D.bool b444) (allc (C_retraceref23_Same x343 p0 y445 hy445) (allc (congrArg D.bool b446) (allc (C_stack_Stack_string_Len_v2 (⟨x341, x342⟩ : T_stack_Stack_string_) y447 hy447) (allc (congrArg D.bool b448) (allc (C_stack_Stack_string_Len (⟨x68, x67⟩ : T_stack_Stack_string_) y449 hy449) (allc (congrArg D.bool b450) (allc (C_stack_Stack_string_Push p1 (⟨x68, x67⟩ : T_stack_Stack_string_) y451 hy451) (allc (congrArg D.bool b452) (allc (C_retracelaw23_live y453 hy453) all0)))))))))) (fun a w hs => ⟨y453, h, hs⟩)
                              · replace h := cond_f b452 h
                                refine At.region_end [4] [] _ (st' := ⟨[(4, bo false)], []⟩) (tips := [(1, { orc := .val (.bool true) }), (4, { settle := [3], pc := some { ρ := [], n0 := 0, res := bo y445, σ' := [], e := [] } }), (6, { orc := .val (.bool true) }), (8, { pc := some { ρ := [0], n0 := 1, loose := false, res := i64 y447, σ' := [.blk 94 [.d (.list true (x341).length (encL eStr x341)), i64 x342]], e := [1] } }), (11, { orc := .val (.bool true) }), (13, { pc := some { ρ := [1, 2], n0 := 2, res := i64 y449, σ' := [.blk 94 [.row 1 (x68).length, i64 x67], .row 9 1 (encL eStr x68)], e := [1, 2] } }), (16, { orc := .val (.bool true) }), (19, { pc := some { ρ := [1, 2], n0 := 2, res := bo y451.1, σ' := [.blk 94 [.row 1 (y451.2.l).length, i64 y451.2.most], .row 9 1 (encL eStr y451.2.l)], e := [1, 2, 3] } }), (26, { orc := .val (.bool false) })]) (by kernel_rfl) (allc (congrArg D.bool b444) (allc (C_retraceref23_Same x343 p0 y445 hy445) (allc (congrArg D.bool b446) (allc (C_stack_Stack_string_Len_v2 (⟨x341, x342⟩ : T_stack_Stack_string_) y447 hy447) (allc (congrArg D.bool b448) (allc (C_stack_Stack_string_Len (⟨x68, x67⟩ : T_stack_Stack_string_) y449 hy449) (allc (congrArg D.bool b450) (allc (C_stack_Stack_string_Push p1 (⟨x68, x67⟩ : T_stack_Stack_string_) y451 hy451) (allc (congrArg D.bool b452) all0))))))))) (fun a w hs => ⟨false, h, hs⟩)
                            · replace h := cond_f b450 h
                              refine At.region_end [4] [] _ (st' := ⟨[(4, bo false)], []⟩) (tips := [(1, { orc := .val (.bool true) }), (4, { settle := [3], pc := some { ρ := [], n0 := 0, res := bo y445, σ' := [], e := [] } }), (6, { orc := .val (.bool true) }), (8, { pc := some { ρ := [0], n0 := 1, loose := false, res := i64 y447, σ' := [.blk 94 [.d (.list true (x341).length (encL eStr x341)), i64 x342]], e := [1] } }), (11, { orc := .val (.bool true) }), (13, { pc := some { ρ := [1, 2], n0 := 2, res := i64 y449, σ' := [.blk 94 [.row 1 (x68).length, i64 x67], .row 9 1 (encL eStr x68)], e := [1, 2] } }), (16, { orc := .val (.bool false) })]) (by kernel_rfl) (allc (congrArg D.bool b444) (allc (C_retraceref23_Same x343 p0 y445 hy445) (allc (congrArg D.bool b446) (allc (C_stack_Stack_string_Len_v2 (⟨x341, x342⟩ : T_stack_Stack_string_) y447 hy447) (allc (congrArg D.bool b448) (allc (C_stack_Stack_string_Len (⟨x68, x67⟩ : T_stack_Stack_string_) y449 hy449) (allc (congrArg D.bool b450) all0))))))) (fun a w hs => ⟨false, h, hs⟩)
                          · replace h := cond_f b448 h
                            refine At.region_end [4] [] _ (st' := ⟨[(4, bo false)], []⟩) (tips := [(1, { orc := .val (.bool true) }), (4, { settle := [3], pc := some { ρ := [], n0 := 0, res := bo y445, σ' := [], e := [] } }), (6, { orc := .val (.bool true) }), (8, { pc := some { ρ := [0], n0 := 1, loose := false, res := i64 y447, σ' := [.blk 94 [.d (.list true (x341).length (encL eStr x341)), i64 x342]], e := [1] } }), (11, { orc := .val (.bool false) })]) (by kernel_rfl) (allc (congrArg D.bool b444) (allc (C_retraceref23_Same x343 p0 y445 hy445) (allc (congrArg D.bool b446) (allc (C_stack_Stack_string_Len_v2 (⟨x341, x342⟩ : T_stack_Stack_string_) y447 hy447) (allc (congrArg D.bool b448) all0))))) (fun a w hs => ⟨false, h, hs⟩)
                        · replace h := cond_f b446 h
                          refine At.region_end [4] [] _ (st' := ⟨[(4, bo false)], []⟩) (tips := [(1, { orc := .val (.bool true) }), (4, { settle := [3], pc := some { ρ := [], n0 := 0, res := bo y445, σ' := [], e := [] } }), (6, { orc := .val (.bool false) })]) (by kernel_rfl) (allc (congrArg D.bool b444) (allc (C_retraceref23_Same x343 p0 y445 hy445) (allc (congrArg D.bool b446) all0))) (fun a w hs => ⟨false, h, hs⟩)
                      · replace h := cond_f b444 h
                        refine At.region_end [4] [] _ (st' := ⟨[(4, bo false)], []⟩) (tips := [(1, { orc := .val (.bool false) })]) (by kernel_rfl) (allc (congrArg D.bool b444) all0) (fun a w hs => ⟨false, h, hs⟩)
                    · intro x443 h
                      replace h : F_retracelaw23_StackOrder_J20 x443 = some r := h
                      rw [F_retracelaw23_StackOrder_J20] at h
                      obtain rfl := some_eq h
                      exact At.ret fun a w hs => ret_ok hR (ρ := []) (gs := []) (by kernel_rfl) all0 (by kernel_rfl) rfl rfl a w hs _ (.inl rfl)
                  · replace h : F_retracelaw23_StackOrder_J21 p0 p1 x340 x341 x342 x343 x454 x455 = some r := h
                    rw [F_retracelaw23_StackOrder_J21] at h
                    refine At.seqJ (S := Bool) (fun s => ⟨[(4, bo s)], []⟩) (fun s => F_retracelaw23_StackOrder_J22 s = some r) ?_ ?_
                    · rcases tf x340 with b471 | b471
                      · replace h := cond_t b471 h
                        obtain ⟨y472, hy472, h⟩ := bind_some h
                        rcases tf y472 with b473 | b473
                        · replace h := cond_t b473 h
                          obtain ⟨y474, hy474, h⟩ := bind_some h
                          rcases tf (y474 == 1) with b475 | b475
                          · replace h := cond_t b475 h
                            obtain ⟨y476, hy476, h⟩ := bind_some h
                            rcases tf (y476 == 0) with b477 | b477
                            · replace h := cond_t b477 h
                              obtain ⟨y478, hy478, h⟩ := bind_some h
                              rcases y478 with y479 | y482
                              · replace h := el_inl h
                                rcases tf ((!y479) == (((p0).length : Int) == 0)) with b480 | b480
                                · replace h := cond_t b480 h
                                  obtain ⟨y481, hy481, h⟩ := bind_some h
                                  refine At.region_end [4] [] _ (st' := ⟨[(4, bo y481)], []⟩) (tips := [(1, { orc := .val (.bool true) }), (4, { settle := [2], pc := some { ρ := [], n0 := 0, res := bo y472, σ' := [], e := [] } }), (6, { orc := .val (.bool true) }), (8, { pc := some { ρ := [0], n0 := 1, loose := false, res := i64 y474, σ' := [.blk 94 [.d (.list true (x341).length (encL eStr x341)), i64 x342]], e := [1] } }), (11, { orc := .val (.bool true) }), (13, { pc := some { ρ := [1], n0 := 1, loose := false, res := i64 y476, σ' := [.blk 94 [.d (.list true (x454).length (encL eStr x454)), i64 x455]], e := [1] } }), (16, { orc := .val (.bool true) }), (19, { pc := some { ρ := [1], n0 := 1, loose := false, res := bo y479, σ' := [.blk 94 [.d (.list true (x454).length (encL eStr x454)), i64 x455]], e := [1] } }), (26, { orc := .val (.bool true) }), (27, { pc := some { ρ := [], n0 := 0, res := bo y481, σ' := [], e := [] } })]) (by kernel_rfl) (allc (congrArg D.bool b471) (allc (C_retraceref23_Same x343 p0 y472 hy472) (allc (congrArg D.bool b473) (allc (C_stack_Stack_string_Len_v2 (⟨x341, x342⟩ : T_stack_Stack_string_) y474 hy474) (allc (congrArg D.bool b475) (allc (C_stack_Stack_string_Len_v2 (⟨x454, x455⟩ : T_stack_Stack_string_) y476 hy476) (allc (congrArg D.bool b477) (allc (C_stack_Stack_string_Push_v2 p1 (⟨x454, x455⟩ : T_stack_Stack_string_) (.inl y479) hy478) (allc (congrArg D.bool b480) (allc (C_retracelaw23_live y481 hy481) all0)))))))))) (fun a w hs => ⟨y481, h, hs⟩)
                                · replace h := cond_f b480 h
                                  refine At.region_end [4] [] _ (st' := ⟨[(4, bo false)], []⟩) (tips := [(1, { orc := .val (.bool true) }), (4, { settle := [2], pc := some { ρ := [], n0 := 0, res := bo y472, σ' := [], e := [] } }), (6, { orc := .val (.bool true) }), (8, { pc := some { ρ := [0], n0 := 1, loose := false, res := i64 y474, σ' := [.blk 94 [.d (.list true (x341).length (encL eStr x341)), i64 x342]], e := [1] } }), (11, { orc := .val (.bool true) }), (13, { pc := some { ρ := [1], n0 := 1, loose := false, res := i64 y476, σ' := [.blk 94 [.d (.list true (x454).length (encL eStr x454)), i64 x455]], e := [1] } }), (16, { orc := .val (.bool true) }), (19, { pc := some { ρ := [1], n0 := 1, loose := false, res := bo y479, σ' := [.blk 94 [.d (.list true (x454).length (encL eStr x454)), i64 x455]], e := [1] } }), (26, { orc := .val (.bool false) })]) (by kernel_rfl) (allc (congrArg D.bool b471) (allc (C_retraceref23_Same x343 p0 y472 hy472) (allc (congrArg D.bool b473) (allc (C_stack_Stack_string_Len_v2 (⟨x341, x342⟩ : T_stack_Stack_string_) y474 hy474) (allc (congrArg D.bool b475) (allc (C_stack_Stack_string_Len_v2 (⟨x454, x455⟩ : T_stack_Stack_string_) y476 hy476) (allc (congrArg D.bool b477) (allc (C_stack_Stack_string_Push_v2 p1 (⟨x454, x455⟩ : T_stack_Stack_string_) (.inl y479) hy478) (allc (congrArg D.bool b480) all0))))))))) (fun a w hs => ⟨false, h, hs⟩)
                              · replace h := el_inr h
                                rcases tf ((!y482.1) == (((p0).length : Int) == 0)) with b483 | b483
                                · replace h := cond_t b483 h
                                  obtain ⟨y484, hy484, h⟩ := bind_some h
                                  refine At.region_end [4] [] _ (st' := ⟨[(4, bo y484)], []⟩) (tips := [(1, { orc := .val (.bool true) }), (4, { settle := [2], pc := some { ρ := [], n0 := 0, res := bo y472, σ' := [], e := [] } }), (6, { orc := .val (.bool true) }), (8, { pc := some { ρ := [0], n0 := 1, loose := false, res := i64 y474, σ' := [.blk 94 [.d (.list true (x341).length (encL eStr x341)), i64 x342]], e := [1] } }), (11, { orc := .val (.bool true) }), (13, { pc := some { ρ := [1], n0 := 1, loose := false, res := i64 y476, σ' := [.blk 94 [.d (.list true (x454).length (encL eStr x454)), i64 x455]], e := [1] } }), (16, { orc := .val (.bool true) }), (19, { pc := some { ρ := [1, 3], n0 := 1, loose := false, res := bo y482.1, σ' := [.blk 94 [.row 1 (y482.2.l).length, i64 y482.2.most], .row 9 1 (encL eStr y482.2.l)], e := [1] } }), (26, { orc := .val (.bool true) }), (27, { pc := some { ρ := [], n0 := 0, res := bo y484, σ' := [], e := [] } })]) (by kernel_rfl) (allc (congrArg D.bool b471) (allc (C_retraceref23_Same x343 p0 y472 hy472) (allc (congrArg D.bool b473) (allc (C_stack_Stack_string_Len_v2 (⟨x341, x342⟩ : T_stack_Stack_string_) y474 hy474) (allc (congrArg D.bool b475) (allc (C_stack_Stack_string_Len_v2 (⟨x454, x455⟩ : T_stack_Stack_string_) y476 hy476) (allc (congrArg D.bool b477) (allc (C_stack_Stack_string_Push_v2 p1 (⟨x454, x455⟩ : T_stack_Stack_string_) (.inr y482) hy478) (allc (congrArg D.bool b483) (allc (C_retracelaw23_live y484 hy484) all0)))))))))) (fun a w hs => ⟨y484, h, hs⟩)
                                · replace h := cond_f b483 h
                                  refine At.region_end [4] [] _ (st' := ⟨[(4, bo false)], []⟩) (tips := [(1, { orc := .val (.bool true) }), (4, { settle := [2], pc := some { ρ := [], n0 := 0, res := bo y472, σ' := [], e := [] } }), (6, { orc := .val (.bool true) }), (8, { pc := some { ρ := [0], n0 := 1, loose := false, res := i64 y474, σ' := [.blk 94 [.d (.list true (x341).length (encL eStr x341)), i64 x342]], e := [1] } }), (11, { orc := .val (.bool true) }), (13, { pc := some { ρ := [1], n0 := 1, loose := false, res := i64 y476, σ' := [.blk 94 [.d (.list true (x454).length (encL eStr x454)), i64 x455]], e := [1] } }), (16, { orc := .val (.bool true) }), (19, { pc := some { ρ := [1, 3], n0 := 1, loose := false, res := bo y482.1, σ' := [.blk 94 [.row 1 (y482.2.l).length, i64 y482.2.most], .row 9 1 (encL eStr y482.2.l)], e := [1] } }), (26, { orc := .val (.bool false) })]) (by kernel_rfl) (allc (congrArg D.bool b471) (allc (C_retraceref23_Same x343 p0 y472 hy472) (allc (congrArg D.bool b473) (allc (C_stack_Stack_string_Len_v2 (⟨x341, x342⟩ : T_stack_Stack_string_) y474 hy474) (allc (congrArg D.bool b475) (allc (C_stack_Stack_string_Len_v2 (⟨x454, x455⟩ : T_stack_Stack_string_) y476 hy476) (allc (congrArg D.bool b477) (allc (C_stack_Stack_string_Push_v2 p1 (⟨x454, x455⟩ : T_stack_Stack_string_) (.inr y482) hy478) (allc (congrArg D.bool b483) all0))))))))) (fun a w hs => ⟨false, h, hs⟩)
                            · replace h := cond_f b477 h
                              refine At.region_end [4] [] _ (st' := ⟨[(4, bo false)], []⟩) (tips := [(1, { orc := .val (.bool true) }), (4, { settle := [2], pc := some { ρ := [], n0 := 0, res := bo y472, σ' := [], e := [] } }), (6, { orc := .val (.bool true) }), (8, { pc := some { ρ := [0], n0 := 1, loose := false, res := i64 y474, σ' := [.blk 94 [.d (.list true (x341).length (encL eStr x341)), i64 x342]], e := [1] } }), (11, { orc := .val (.bool true) }), (13, { pc := some { ρ := [1], n0 := 1, loose := false, res := i64 y476, σ' := [.blk 94 [.d (.list true (x454).length (encL eStr x454)), i64 x455]], e := [1] } }), (16, { orc := .val (.bool false) })]) (by kernel_rfl) (allc (congrArg D.bool b471) (allc (C_retraceref23_Same x343 p0 y472 hy472) (allc (congrArg D.bool b473) (allc (C_stack_Stack_string_Len_v2 (⟨x341, x342⟩ : T_stack_Stack_string_) y474 hy474) (allc (congrArg D.bool b475) (allc (C_stack_Stack_string_Len_v2 (⟨x454, x455⟩ : T_stack_Stack_string_) y476 hy476) (allc (congrArg D.bool b477) all0))))))) (fun a w hs => ⟨false, h, hs⟩)
                          · replace h := cond_f b475 h
                            refine At.region_end [4] [] _ (st' := ⟨[(4, bo false)], []⟩) (tips := [(1, { orc := .val (.bool true) }), (4, { settle := [2], pc := some { ρ := [], n0 := 0, res := bo y472, σ' := [], e := [] } }), (6, { orc := .val (.bool true) }), (8, { pc := some { ρ := [0], n0 := 1, loose := false, res := i64 y474, σ' := [.blk 94 [.d (.list true (x341).length (encL eStr x341)), i64 x342]], e := [1] } }), (11, { orc := .val (.bool false) })]) (by kernel_rfl) (allc (congrArg D.bool b471) (allc (C_retraceref23_Same x343 p0 y472 hy472) (allc (congrArg D.bool b473) (allc (C_stack_Stack_string_Len_v2 (⟨x341, x342⟩ : T_stack_Stack_string_) y474 hy474) (allc (congrArg D.bool b475) all0))))) (fun a w hs => ⟨false, h, hs⟩)
                        · replace h := cond_f b473 h
                          refine At.region_end [4] [] _ (st' := ⟨[(4, bo false)], []⟩) (tips := [(1, { orc := .val (.bool true) }), (4, { settle := [2], pc := some { ρ := [], n0 := 0, res := bo y472, σ' := [], e := [] } }), (6, { orc := .val (.bool false) })]) (by kernel_rfl) (allc (congrArg D.bool b471) (allc (C_retraceref23_Same x343 p0 y472 hy472) (allc (congrArg D.bool b473) all0))) (fun a w hs => ⟨false, h, hs⟩)
                      · replace h := cond_f b471 h
                        refine At.region_end [4] [] _ (st' := ⟨[(4, bo false)], []⟩) (tips := [(1, { orc := .val (.bool false) })]) (by kernel_rfl) (allc (congrArg D.bool b471) all0) (fun a w hs => ⟨false, h, hs⟩)
                    · intro x470 h
                      replace h : F_retracelaw23_StackOrder_J22 x470 = some r := h
                      rw [F_retracelaw23_StackOrder_J22] at h
                      obtain rfl := some_eq h
                      exact At.ret fun a w hs => ret_ok hR (ρ := []) (gs := []) (by kernel_rfl) all0 (by kernel_rfl) rfl rfl a w hs _ (.inl rfl)
              · replace h : F_retracelaw23_StackOrder_J32 p0 p1 x67 x68 x340 x343 x571 x572 = some r := h
                rw [F_retracelaw23_StackOrder_J32] at h
                refine At.seqJ (S := (Unit) ⊕ ((List ByteArray) × Int)) (Sum.elim (fun s => ⟨[(0, lv eStr p0), (1, sv p1), (5, .ptr 0 0), (6, .ptr 2 0), (8, .row 4 (x343).length), (9, bo x340)], [.blk 94 [.row 1 (x572).length, i64 x571], .row 9 1 (encL eStr x572), .blk 94 [.row 3 (x68).length, i64 x67], .row 9 1 (encL eStr x68), .row 9 1 (encL eStr x343)]⟩) (fun s => ⟨[(0, lv eStr p0), (1, sv p1), (5, .ptr 0 0), (6, .ptr 2 0), (8, .row 3 (x343).length), (9, bo x340)], [.blk 94 [.row 1 (x572).length, i64 x571], .row 9 1 (encL eStr x572), .blk 94 [.d (.list true (s.1).length (encL eStr s.1)), i64 s.2], .row 9 1 (encL eStr x343)]⟩)) (Sum.elim (fun s => F_retracelaw23_StackOrder_J33 p0 p1 x67 x68 x340 x343 x571 x572 = some r) (fun s => F_retracelaw23_StackOrder_J35 p0 p1 x340 x343 x571 x572 s.1 s.2 = some r)) ?_ ?_
                · refine At.seq ?_
                  refine At.region_end [0, 1, 5, 6, 8, 9, 10] [0, 1, 2, 3, 4] _ (st' := ⟨[(0, lv eStr p0), (1, sv p1), (5, .ptr 0 0), (6, .ptr 2 0), (8, .row 4 (x343).length), (9, bo x340), (10, i64 (w64 (((p0).length : Int) - 1)))], [.blk 94 [.row 1 (x572).length, i64 x571], .row 9 1 (encL eStr x572), .blk 94 [.row 3 (x68).length, i64 x67], .row 9 1 (encL eStr x68), .row 9 1 (encL eStr x343)]⟩) (tips := []) (by kernel_rfl) all0 (norm ?_)
                  refine At.block ?_
                  refine At.loop (S := ((Int) ⊕ (Int × (List ByteArray) × Int))) (Sum.elim (fun s : Int => F_retracelaw23_StackOrder_L43 p0 p1 x67 x68 x340 x343 x571 x572 s) (fun s : Int × (List ByteArray) × Int => F_retracelaw23_StackOrder_L45 p0 p1 x340 x343 x571 x572 s.1 s.2.1 s.2.2)) (Sum.elim (fun s : Int => ⟨[(0, lv eStr p0), (1, sv p1), (5, .ptr 0 0), (6, .ptr 2 0), (8, .row 4 (x343).length), (9, bo x340), (10, i64 s)], [.blk 94 [.row 1 (x572).length, i64 x571], .row 9 1 (encL eStr x572), .blk 94 [.row 3 (x68).length, i64 x67], .row 9 1 (encL eStr x68), .row 9 1 (encL eStr x343)]⟩) (fun s : Int × (List ByteArray) × Int => ⟨[(0, lv eStr p0), (1, sv p1), (5, .ptr 0 0), (6, .ptr 2 0), (8, .row 3 (x343).length), (9, bo x340), (10, i64 s.1)], [.blk 94 [.row 1 (x572).length, i64 x571], .row 9 1 (encL eStr x572), .blk 94 [.d (.list true (s.2.1).length (encL eStr s.2.1)), i64 s.2.2], .row 9 1 (encL eStr x343)]⟩)) r (.inl (w64 (((p0).length : Int) - 1))) h ?_
                  rintro (x711 | ⟨x712, x713, x714⟩) oo715 h f716
                  · replace h : F_retracelaw23_StackOrder_L43 p0 p1 x67 x68 x340 x343 x571 x572 x711 = some oo715 := h
                    rw [F_retracelaw23_StackOrder_L43] at h
                    refine At.seq ?_
                    refine At.seq ?_
                    refine At.region_end [0, 1, 5, 6, 8, 9, 10, 64] [0, 1, 2, 3, 4] _ (st' := ⟨[(0, lv eStr p0), (1, sv p1), (5, .ptr 0 0), (6, .ptr 2 0), (8, .row 4 (x343).length), (9, bo x340), (10, i64 x711), (64, bo (decide (0 ≤ x711)))], [.blk 94 [.row 1 (x572).length, i64 x571], .row 9 1 (encL eStr x572), .blk 94 [.row 3 (x68).length, i64 x67], .row 9 1 (encL eStr x68), .row 9 1 (encL eStr x343)]⟩) (tips := []) (by kernel_rfl) all0 (norm ?_)
                    refine At.cond (decide (0 ≤ x711)) (by kernel_rfl) (fun b718 => ?_) (fun b718 => ?_)
                    · replace h := cond_t b718 h
                      refine At.nar [0, 1, 5, 6, 8, 9, 10] [0, 1, 2, 3, 4] (st' := ⟨[(0, lv eStr p0), (1, sv p1), (5, .ptr 0 0), (6, .ptr 2 0), (8, .row 4 (x343).length), (9, bo x340), (10, i64 x711)], [.blk 94 [.row 1 (x572).length, i64 x571], .row 9 1 (encL eStr x572), .blk 94 [.row 3 (x68).length, i64 x67], .row 9 1 (encL eStr x68), .row 9 1 (encL eStr x343)]⟩) (by kernel_rfl) ?_
                      refine At.skip (norm ?_)
                      refine At.seqJ (S := (Unit) ⊕ ((List ByteArray) × Int)) (Sum.elim (fun s => ⟨[(0, lv eStr p0), (1, sv p1), (5, .ptr 0 0), (6, .ptr 2 0), (8, .row 4 (x343).length), (9, bo x340), (10, i64 x711)], [.blk 94 [.row 1 (x572).length, i64 x571], .row 9 1 (encL eStr x572), .blk 94 [.row 3 (x68).length, i64 x67], .row 9 1 (encL eStr x68), .row 9 1 (encL eStr x343)]⟩) (fun s => ⟨[(0, lv eStr p0), (1, sv p1), (5, .ptr 0 0), (6, .ptr 2 0), (8, .row 3 (x343).length), (9, bo x340), (10, i64 x711)], [.blk 94 [.row 1 (x572).length, i64 x571], .row 9 1 (encL eStr x572), .blk 94 [.d (.list true (s.1).length (encL eStr s.1)), i64 s.2], .row 9 1 (encL eStr x343)]⟩)) (Sum.elim (fun s => F_retracelaw23_StackOrder_J37 x711 = some oo715) (fun s => F_retracelaw23_StackOrder_J38 x711 s.1 s.2 = some oo715)) ?_ ?_
                      · refine At.block ?_
                        refine At.seqJ (S := (ByteArray × Bool) ⊕ (ByteArray × Bool × (List ByteArray) × Int)) (Sum.elim (fun s => ⟨[(0, lv eStr p0), (1, sv p1), (5, .ptr 0 0), (6, .ptr 2 0), (8, .row 4 (x343).length), (9, bo x340), (10, i64 x711), (11, sv s.1), (12, bo s.2)], [.blk 94 [.row 1 (x572).length, i64 x571], .row 9 1 (encL eStr x572), .blk 94 [.row 3 (x68).length, i64 x67], .row 9 1 (encL eStr x68), .row 9 1 (encL eStr x343)]⟩) (fun s => ⟨[(0, lv eStr p0), (1, sv p1), (5, .ptr 0 0), (6, .ptr 2 0), (8, .row 3 (x343).length), (9, bo x340), (10, i64 x711), (11, sv s.1), (12, bo s.2.1)], [.blk 94 [.row 1 (x572).length, i64 x571], .row 9 1 (encL eStr x572), .blk 94 [.d (.list true (s.2.2.1).length (encL eStr s.2.2.1)), i64 s.2.2.2], .row 9 1 (encL eStr x343)]⟩)) (Sum.elim (fun s => F_retracelaw23_StackOrder_J39 p0 x711 s.1 s.2 = some oo715) (fun s => F_retracelaw23_StackOrder_J41 p0 x711 s.1 s.2.1 s.2.2.1 s.2.2.2 = some oo715)) ?_ ?_
                        · obtain ⟨y770, hy770, h⟩ := bind_some h
                          rcases y770 with y771 | y772
                          · replace h := el_inl h
                            refine At.region_end [0, 1, 5, 6, 8, 9, 10, 11, 12] [0, 1, 2, 3, 4] _ (st' := ⟨[(0, lv eStr p0), (1, sv p1), (5, .ptr 0 0), (6, .ptr 2 0), (8, .row 4 (x343).length), (9, bo x340), (10, i64 x711), (11, sv y771.1), (12, bo y771.2)], [.blk 94 [.row 1 (x572).length, i64 x571], .row 9 1 (encL eStr x572), .blk 94 [.row 3 (x68).length, i64 x67], .row 9 1 (encL eStr x68), .row 9 1 (encL eStr x343)]⟩) (tips := [(1, { pc := some { ρ := [2, 3], n0 := 2, res := .tup [sv y771.1, bo y771.2], σ' := [.blk 94 [.row 1 (x68).length, i64 x67], .row 9 1 (encL eStr x68)], e := [1, 2, 3] } })]) (by kernel_rfl) (allc (C_stack_Stack_string_Pop (⟨x68, x67⟩ : T_stack_Stack_string_) (.inl y771) hy770) all0) (fun a w hs => ⟨.inl (y771.1, y771.2), h, hs⟩)
                          · replace h := el_inr h
                            refine At.region_end [0, 1, 5, 6, 8, 9, 10, 11, 12] [0, 1, 2, 4] _ (st' := ⟨[(0, lv eStr p0), (1, sv p1), (5, .ptr 0 0), (6, .ptr 2 0), (8, .row 3 (x343).length), (9, bo x340), (10, i64 x711), (11, sv y772.1), (12, bo y772.2.1)], [.blk 94 [.row 1 (x572).length, i64 x571], .row 9 1 (encL eStr x572), .blk 94 [.d (.list true (y772.2.2.l).length (encL eStr y772.2.2.l)), i64 y772.2.2.most], .row 9 1 (encL eStr x343)]⟩) (tips := [(1, { pc := some { ρ := [2, 3], n0 := 2, res := .tup [sv y772.1, bo y772.2.1], σ' := [.blk 94 [.d (.list true (y772.2.2.l).length (encL eStr y772.2.2.l)), i64 y772.2.2.most], .dead], e := [1, 2, 3] } })]) (by kernel_rfl) (allc (C_stack_Stack_string_Pop (⟨x68, x67⟩ : T_stack_Stack_string_) (.inr y772) hy770) all0) (fun a w hs => ⟨.inr ((y772.1, y772.2.1, y772.2.2.l, y772.2.2.most)), h, hs⟩)
                        · rintro (⟨x748, x749⟩ | ⟨x758, x759, x760, x761⟩) h
                          · replace h : F_retracelaw23_StackOrder_J39 p0 x711 x748 x749 = some oo715 := h
                            rw [F_retracelaw23_StackOrder_J39] at h
                            refine At.seqJ (S := Bool) (fun s => ⟨[(0, lv eStr p0), (1, sv p1), (5, .ptr 0 0), (6, .ptr 2 0), (8, .row 4 (x343).length), (9, bo x340), (10, i64 x711), (81, bo s)], [.blk 94 [.row 1 (x572).length, i64 x571], .row 9 1 (encL eStr x572), .blk 94 [.row 3 (x68).length, i64 x67], .row 9 1 (encL eStr x68), .row 9 1 (encL eStr x343)]⟩) (fun s => F_retracelaw23_StackOrder_J40 x711 s = some oo715) ?_ ?_
                            · rcases tf (!x749) with b756 | b756
                              · replace h := cond_t b756 h
                                refine At.region_end [0, 1, 5, 6, 8, 9, 10, 81] [0, 1, 2, 3, 4] _ (st' := ⟨[(0, lv eStr p0), (1, sv p1), (5, .ptr 0 0), (6, .ptr 2 0), (8, .row 4 (x343).length), (9, bo x340), (10, i64 x711), (81, bo true)], [.blk 94 [.row 1 (x572).length, i64 x571], .row 9 1 (encL eStr x572), .blk 94 [.row 3 (x68).length, i64 x67], .row 9 1 (encL eStr x68), .row 9 1 (encL eStr x343)]⟩) (tips := [(2, { orc := .val (.bool true) })]) (by kernel_rfl) (allc (congrArg D.bool b756) all0) (fun a w hs => ⟨true, h, hs⟩)
                              · replace h := cond_f b756 h
                                obtain ⟨y757, hy757, h⟩ := bind_some h
                                refine At.region_end [0, 1, 5, 6, 8, 9, 10, 81] [0, 1, 2, 3, 4] _ (st' := ⟨[(0, lv eStr p0), (1, sv p1), (5, .ptr 0 0), (6, .ptr 2 0), (8, .row 4 (x343).length), (9, bo x340), (10, i64 x711), (81, bo (!(x748.toList == y757.toList)))], [.blk 94 [.row 1 (x572).length, i64 x571], .row 9 1 (encL eStr x572), .blk 94 [.row 3 (x68).length, i64 x67], .row 9 1 (encL eStr x68), .row 9 1 (encL eStr x343)]⟩) (tips := [(2, { orc := .val (.bool false) }), (6, { orc := .cells (eStr y757) })]) (by kernel_rfl) (allc (congrArg D.bool b756) (allc (elemAt_of he_str hy757) all0)) (fun a w hs => ⟨(!(x748.toList == y757.toList)), h, hs⟩)
                            · intro x752 h
                              replace h : F_retracelaw23_StackOrder_J40 x711 x752 = some oo715 := h
                              rw [F_retracelaw23_StackOrder_J40] at h
                              refine At.cond x752 (by kernel_rfl) (fun b753 => ?_) (fun b753 => ?_)
                              · replace h := cond_t b753 h
                                refine At.seq ?_
                                refine At.region_end [4] [] _ (st' := ⟨[(4, bo false)], []⟩) (tips := []) (by kernel_rfl) all0 (norm ?_)
                                obtain ⟨r754, h, e755⟩ := map_inr h
                                rw [f716 _ e755] at h
                                obtain rfl := some_eq h
                                exact At.ret fun a w hs => ret_ok hR (ρ := []) (gs := []) (by kernel_rfl) all0 (by kernel_rfl) rfl rfl a w hs _ (.inl rfl)
                              · replace h := cond_f b753 h
                                refine At.nar [0, 1, 5, 6, 8, 9, 10] [0, 1, 2, 3, 4] (st' := ⟨[(0, lv eStr p0), (1, sv p1), (5, .ptr 0 0), (6, .ptr 2 0), (8, .row 4 (x343).length), (9, bo x340), (10, i64 x711)], [.blk 94 [.row 1 (x572).length, i64 x571], .row 9 1 (encL eStr x572), .blk 94 [.row 3 (x68).length, i64 x67], .row 9 1 (encL eStr x68), .row 9 1 (encL eStr x343)]⟩) (by kernel_rfl) ?_
                                refine At.skip (fun a w hs => ⟨.inl (), h, hs⟩)
                          · replace h : F_retracelaw23_StackOrder_J41 p0 x711 x758 x759 x760 x761 = some oo715 := h
                            rw [F_retracelaw23_StackOrder_J41] at h
                            refine At.seqJ (S := Bool) (fun s => ⟨[(0, lv eStr p0), (1, sv p1), (5, .ptr 0 0), (6, .ptr 2 0), (8, .row 3 (x343).length), (9, bo x340), (10, i64 x711), (81, bo s)], [.blk 94 [.row 1 (x572).length, i64 x571], .row 9 1 (encL eStr x572), .blk 94 [.d (.list true (x760).length (encL eStr x760)), i64 x761], .row 9 1 (encL eStr x343)]⟩) (fun s => F_retracelaw23_StackOrder_J42 x711 x760 x761 s = some oo715) ?_ ?_
                            · rcases tf (!x759) with b768 | b768
                              · replace h := cond_t b768 h
                                refine At.region_end [0, 1, 5, 6, 8, 9, 10, 81] [0, 1, 2, 3] _ (st' := ⟨[(0, lv eStr p0), (1, sv p1), (5, .ptr 0 0), (6, .ptr 2 0), (8, .row 3 (x343).length), (9, bo x340), (10, i64 x711), (81, bo true)], [.blk 94 [.row 1 (x572).length, i64 x571], .row 9 1 (encL eStr x572), .blk 94 [.d (.list true (x760).length (encL eStr x760)), i64 x761], .row 9 1 (encL eStr x343)]⟩) (tips := [(2, { orc := .val (.bool true) })]) (by kernel_rfl) (allc (congrArg D.bool b768) all0) (fun a w hs => ⟨true, h, hs⟩)
                              · replace h := cond_f b768 h
                                obtain ⟨y769, hy769, h⟩ := bind_some h
                                refine At.region_end [0, 1, 5, 6, 8, 9, 10, 81] [0, 1, 2, 3] _ (st' := ⟨[(0, lv eStr p0), (1, sv p1), (5, .ptr 0 0), (6, .ptr 2 0), (8, .row 3 (x343).length), (9, bo x340), (10, i64 x711), (81, bo (!(x758.toList == y769.toList)))], [.blk 94 [.row 1 (x572).length, i64 x571], .row 9 1 (encL eStr x572), .blk 94 [.d (.list true (x760).length (encL eStr x760)), i64 x761], .row 9 1 (encL eStr x343)]⟩) (tips := [(2, { orc := .val (.bool false) }), (6, { orc := .cells (eStr y769) })]) (by kernel_rfl) (allc (congrArg D.bool b768) (allc (elemAt_of he_str hy769) all0)) (fun a w hs => ⟨(!(x758.toList == y769.toList)), h, hs⟩)
                            · intro x764 h
                              replace h : F_retracelaw23_StackOrder_J42 x711 x760 x761 x764 = some oo715 := h
                              rw [F_retracelaw23_StackOrder_J42] at h
                              refine At.cond x764 (by kernel_rfl) (fun b765 => ?_) (fun b765 => ?_)
                              · replace h := cond_t b765 h
                                refine At.seq ?_
                                refine At.region_end [4] [] _ (st' := ⟨[(4, bo false)], []⟩) (tips := []) (by kernel_rfl) all0 (norm ?_)
                                obtain ⟨r766, h, e767⟩ := map_inr h
                                rw [f716 _ e767] at h
                                obtain rfl := some_eq h
                                exact At.ret fun a w hs => ret_ok hR (ρ := []) (gs := []) (by kernel_rfl) all0 (by kernel_rfl) rfl rfl a w hs _ (.inl rfl)
                              · replace h := cond_f b765 h
                                refine At.nar [0, 1, 5, 6, 8, 9, 10] [0, 1, 2, 3] (st' := ⟨[(0, lv eStr p0), (1, sv p1), (5, .ptr 0 0), (6, .ptr 2 0), (8, .row 3 (x343).length), (9, bo x340), (10, i64 x711)], [.blk 94 [.row 1 (x572).length, i64 x571], .row 9 1 (encL eStr x572), .blk 94 [.d (.list true (x760).length (encL eStr x760)), i64 x761], .row 9 1 (encL eStr x343)]⟩) (by kernel_rfl) ?_
                                refine At.skip (fun a w hs => ⟨.inr ((x760, x761)), h, hs⟩)
                      · rintro (_ | ⟨x743, x744⟩) h
                        · replace h : F_retracelaw23_StackOrder_J37 x711 = some oo715 := h
                          rw [F_retracelaw23_StackOrder_J37] at h
                          refine At.region_end [0, 1, 5, 6, 8, 9, 10] [0, 1, 2, 3, 4] _ (st' := ⟨[(0, lv eStr p0), (1, sv p1), (5, .ptr 0 0), (6, .ptr 2 0), (8, .row 4 (x343).length), (9, bo x340), (10, i64 (w64 (x711 - 1)))], [.blk 94 [.row 1 (x572).length, i64 x571], .row 9 1 (encL eStr x572), .blk 94 [.row 3 (x68).length, i64 x67], .row 9 1 (encL eStr x68), .row 9 1 (encL eStr x343)]⟩) (tips := []) (by kernel_rfl) all0 (fun a w hs => ⟨_, (some_eq h).symm, hs⟩)
                        · replace h : F_retracelaw23_StackOrder_J38 x711 x743 x744 = some oo715 := h
                          rw [F_retracelaw23_StackOrder_J38] at h
                          refine At.region_end [0, 1, 5, 6, 8, 9, 10] [0, 1, 2, 3] _ (st' := ⟨[(0, lv eStr p0), (1, sv p1), (5, .ptr 0 0), (6, .ptr 2 0), (8, .row 3 (x343).length), (9, bo x340), (10, i64 (w64 (x711 - 1)))], [.blk 94 [.row 1 (x572).length, i64 x571], .row 9 1 (encL eStr x572), .blk 94 [.d (.list true (x743).length (encL eStr x743)), i64 x744], .row 9 1 (encL eStr x343)]⟩) (tips := []) (by kernel_rfl) all0 (fun a w hs => ⟨_, (some_eq h).symm, hs⟩)
                    · replace h := cond_f b718 h
                      refine At.nar [0, 1, 5, 6, 8, 9] [0, 1, 2, 3, 4] (st' := ⟨[(0, lv eStr p0), (1, sv p1), (5, .ptr 0 0), (6, .ptr 2 0), (8, .row 4 (x343).length), (9, bo x340)], [.blk 94 [.row 1 (x572).length, i64 x571], .row 9 1 (encL eStr x572), .blk 94 [.row 3 (x68).length, i64 x67], .row 9 1 (encL eStr x68), .row 9 1 (encL eStr x343)]⟩) (by kernel_rfl) ?_
                      obtain ⟨r773, h, e774⟩ := map_inr h
                      rw [f716 _ e774] at h
                      refine At.exit (fun a w hs => ⟨.inl (), h, hs⟩)
                  · replace h : F_retracelaw23_StackOrder_L45 p0 p1 x340 x343 x571 x572 x712 x713 x714 = some oo715 := h
                    rw [F_retracelaw23_StackOrder_L45] at h
                    refine At.seq ?_
                    refine At.seq ?_
                    refine At.region_end [0, 1, 5, 6, 8, 9, 10, 64] [0, 1, 2, 3] _ (st' := ⟨[(0, lv eStr p0), (1, sv p1), (5, .ptr 0 0), (6, .ptr 2 0), (8, .row 3 (x343).length), (9, bo x340), (10, i64 x712), (64, bo (decide (0 ≤ x712)))], [.blk 94 [.row 1 (x572).length, i64 x571], .row 9 1 (encL eStr x572), .blk 94 [.d (.list true (x713).length (encL eStr x713)), i64 x714], .row 9 1 (encL eStr x343)]⟩) (tips := []) (by kernel_rfl) all0 (norm ?_)
                    refine At.cond (decide (0 ≤ x712)) (by kernel_rfl) (fun b776 => ?_) (fun b776 => ?_)
                    · replace h := cond_t b776 h
                      refine At.nar [0, 1, 5, 6, 8, 9, 10] [0, 1, 2, 3] (st' := ⟨[(0, lv eStr p0), (1, sv p1), (5, .ptr 0 0), (6, .ptr 2 0), (8, .row 3 (x343).length), (9, bo x340), (10, i64 x712)], [.blk 94 [.row 1 (x572).length, i64 x571], .row 9 1 (encL eStr x572), .blk 94 [.d (.list true (x713).length (encL eStr x713)), i64 x714], .row 9 1 (encL eStr x343)]⟩) (by kernel_rfl) ?_
                      refine At.skip (norm ?_)
                      refine At.seq ?_
                      refine At.block ?_
                      refine At.seq ?_
                      obtain ⟨y786, hy786, h⟩ := bind_some h
                      refine At.region_end [0, 1, 5, 6, 8, 9, 10, 11, 12] [0, 1, 2, 3] _ (st' := ⟨[(0, lv eStr p0), (1, sv p1), (5, .ptr 0 0), (6, .ptr 2 0), (8, .row 3 (x343).length), (9, bo x340), (10, i64 x712), (11, sv y786.1), (12, bo y786.2.1)], [.blk 94 [.row 1 (x572).length, i64 x571], .row 9 1 (encL eStr x572), .blk 94 [.d (.list true (y786.2.2.l).length (encL eStr y786.2.2.l)), i64 y786.2.2.most], .row 9 1 (encL eStr x343)]⟩) (tips := [(1, { pc := some { ρ := [2], n0 := 1, loose := false, res := .tup [sv y786.1, bo y786.2.1], σ' := [.blk 94 [.d (.list true (y786.2.2.l).length (encL eStr y786.2.2.l)), i64 y786.2.2.most]], e := [1] } })]) (by kernel_rfl) (allc (C_stack_Stack_string_Pop_v2 (⟨x713, x714⟩ : T_stack_Stack_string_) y786 hy786) all0) (norm ?_)
                      refine At.seqJ (S := Bool) (fun s => ⟨[(0, lv eStr p0), (1, sv p1), (5, .ptr 0 0), (6, .ptr 2 0), (8, .row 3 (x343).length), (9, bo x340), (10, i64 x712), (81, bo s)], [.blk 94 [.row 1 (x572).length, i64 x571], .row 9 1 (encL eStr x572), .blk 94 [.d (.list true (y786.2.2.l).length (encL eStr y786.2.2.l)), i64 y786.2.2.most], .row 9 1 (encL eStr x343)]⟩) (fun s => F_retracelaw23_StackOrder_J44 x712 y786 s = some oo715) ?_ ?_
                      · rcases tf (!y786.2.1) with b793 | b793
                        · replace h := cond_t b793 h
                          refine At.region_end [0, 1, 5, 6, 8, 9, 10, 81] [0, 1, 2, 3] _ (st' := ⟨[(0, lv eStr p0), (1, sv p1), (5, .ptr 0 0), (6, .ptr 2 0), (8, .row 3 (x343).length), (9, bo x340), (10, i64 x712), (81, bo true)], [.blk 94 [.row 1 (x572).length, i64 x571], .row 9 1 (encL eStr x572), .blk 94 [.d (.list true (y786.2.2.l).length (encL eStr y786.2.2.l)), i64 y786.2.2.most], .row 9 1 (encL eStr x343)]⟩) (tips := [(2, { orc := .val (.bool true) })]) (by kernel_rfl) (allc (congrArg D.bool b793) all0) (fun a w hs => ⟨true, h, hs⟩)
                        · replace h := cond_f b793 h
                          obtain ⟨y794, hy794, h⟩ := bind_some h
                          refine At.region_end [0, 1, 5, 6, 8, 9, 10, 81] [0, 1, 2, 3] _ (st' := ⟨[(0, lv eStr p0), (1, sv p1), (5, .ptr 0 0), (6, .ptr 2 0), (8, .row 3 (x343).length), (9, bo x340), (10, i64 x712), (81, bo (!(y786.1.toList == y794.toList)))], [.blk 94 [.row 1 (x572).length, i64 x571], .row 9 1 (encL eStr x572), .blk 94 [.d (.list true (y786.2.2.l).length (encL eStr y786.2.2.l)), i64 y786.2.2.most], .row 9 1 (encL eStr x343)]⟩) (tips := [(2, { orc := .val (.bool false) }), (6, { orc := .cells (eStr y794) })]) (by kernel_rfl) (allc (congrArg D.bool b793) (allc (elemAt_of he_str hy794) all0)) (fun a w hs => ⟨(!(y786.1.toList == y794.toList)), h, hs⟩)
                      · intro x789 h
                        replace h : F_retracelaw23_StackOrder_J44 x712 y786 x789 = some oo715 := h
                        rw [F_retracelaw23_StackOrder_J44] at h
                        refine At.cond x789 (by kernel_rfl) (fun b790 => ?_) (fun b790 => ?_)
                        · replace h := cond_t b790 h
                          refine At.seq ?_
                          refine At.region_end [4] [] _ (st' := ⟨[(4, bo false)], []⟩) (tips := []) (by kernel_rfl) all0 (norm ?_)
                          obtain ⟨r791, h, e792⟩ := map_inr h
                          rw [f716 _ e792] at h
                          obtain rfl := some_eq h
                          exact At.ret fun a w hs => ret_ok hR (ρ := []) (gs := []) (by kernel_rfl) all0 (by kernel_rfl) rfl rfl a w hs _ (.inl rfl)
                        · replace h := cond_f b790 h
                          refine At.nar [0, 1, 5, 6, 8, 9, 10] [0, 1, 2, 3] (st' := ⟨[(0, lv eStr p0), (1, sv p1), (5, .ptr 0 0), (6, .ptr 2 0), (8, .row 3 (x343).length), (9, bo x340), (10, i64 x712)], [.blk 94 [.row 1 (x572).length, i64 x571], .row 9 1 (encL eStr x572), .blk 94 [.d (.list true (y786.2.2.l).length (encL eStr y786.2.2.l)), i64 y786.2.2.most], .row 9 1 (encL eStr x343)]⟩) (by kernel_rfl) ?_
                          refine At.skip (norm ?_)
                          refine At.region_end [0, 1, 5, 6, 8, 9, 10] [0, 1, 2, 3] _ (st' := ⟨[(0, lv eStr p0), (1, sv p1), (5, .ptr 0 0), (6, .ptr 2 0), (8, .row 3 (x343).length), (9, bo x340), (10, i64 (w64 (x712 - 1)))], [.blk 94 [.row 1 (x572).length, i64 x571], .row 9 1 (encL eStr x572), .blk 94 [.d (.list true (y786.2.2.l).length (encL eStr y786.2.2.l)), i64 y786.2.2.most], .row 9 1 (encL eStr x343)]⟩) (tips := []) (by kernel_rfl) all0 (fun a w hs => ⟨_, (some_eq h).symm, hs⟩)
                    · replace h := cond_f b776 h
                      refine At.nar [0, 1, 5, 6, 8, 9] [0, 1, 2, 3] (st' := ⟨[(0, lv eStr p0), (1, sv p1), (5, .ptr 0 0), (6, .ptr 2 0), (8, .row 3 (x343).length), (9, bo x340)], [.blk 94 [.row 1 (x572).length, i64 x571], .row 9 1 (encL eStr x572), .blk 94 [.d (.list true (x713).length (encL eStr x713)), i64 x714], .row 9 1 (encL eStr x343)]⟩) (by kernel_rfl) ?_
                      obtain ⟨r795, h, e796⟩ := map_inr h
                      rw [f716 _ e796] at h
                      refine At.exit (fun a w hs => ⟨.inr ((x713, x714)), h, hs⟩)
                · rintro (_ | ⟨x680, x681⟩) h
                  · replace h : F_retracelaw23_StackOrder_J33 p0 p1 x67 x68 x340 x343 x571 x572 = some r := h
                    rw [F_retracelaw23_StackOrder_J33] at h
                    refine At.seqJ (S := Bool) (fun s => ⟨[(4, bo s)], []⟩) (fun s => F_retracelaw23_StackOrder_J34 s = some r) ?_ ?_
                    · rcases tf x340 with b670 | b670
                      · replace h := cond_t b670 h
                        obtain ⟨y671, hy671, h⟩ := bind_some h
                        rcases tf y671 with b672 | b672
                        · replace h := cond_t b672 h
                          obtain ⟨y673, hy673, h⟩ := bind_some h
                          rcases tf (y673 == 1) with b674 | b674
                          · replace h := cond_t b674 h
                            obtain ⟨y675, hy675, h⟩ := bind_some h
                            rcases tf (y675 == 0) with b676 | b676
                            · replace h := cond_t b676 h
                              obtain ⟨y677, hy677, h⟩ := bind_some h
                              rcases tf ((!y677.1) == (((p0).length : Int) == 0)) with b678 | b678
                              · replace h := cond_t b678 h
                                obtain ⟨y679, hy679, h⟩ := bind_some h
                                refine At.region_end [4] [] _ (st' := ⟨[(4, bo y679)], []⟩) (tips := [(1, { orc := .val (.bool true) }), (4, { settle := [4], pc := some { ρ := [], n0 := 0, res := bo y671, σ' := [], e := [] } }), (6, { orc := .val (.bool true) }), (8, { pc := some { ρ := [0, 1], n0 := 2, res := i64 y673, σ' := [.blk 94 [.row 1 (x572).length, i64 x571], .row 9 1 (encL eStr x572)], e := [1, 2] } }), (11, { orc := .val (.bool true) }), (13, { pc := some { ρ := [2, 3], n0 := 2, res := i64 y675, σ' := [.blk 94 [.row 1 (x68).length, i64 x67], .row 9 1 (encL eStr x68)], e := [1, 2] } }), (16, { orc := .val (.bool true) }), (19, { pc := some { ρ := [2, 3], n0 := 2, res := bo y677.1, σ' := [.blk 94 [.row 1 (y677.2.l).length, i64 y677.2.most], .row 9 1 (encL eStr y677.2.l)], e := [1, 2, 3] } }), (26, { orc := .val (.bool true) }), (27, { pc := some { ρ := [], n0 := 0, res := bo y679, σ' := [], e := [] } })]) (by kernel_rfl) (allc (congrArg D.bool b670) (allc (C_retraceref23_Same x343 p0 y671 hy671) (allc (congrArg D.bool b672) (allc (C_stack_Stack_string_Len (⟨x572, x571⟩ : T_stack_Stack_string_) y673 hy673) (allc (congrArg D.bool b674) (allc (C_stack_Stack_string_Len (⟨x68, x67⟩ : T_stack_Stack_string_) y675 hy675) (allc (congrArg D.bool b676) (allc (C_stack_Stack_string_Push p1 (⟨x68, x67⟩ : T_stack_Stack_string_) y677 hy677) (allc (congrArg D.bool b678) (allc (C_retracelaw23_live y679 hy679) all0)))))))))) (fun a w hs => ⟨y679, h, hs⟩)
                              · replace h := cond_f b678 h
                                refine At.region_end [4] [] _ (st' := ⟨[(4, bo false)], []⟩) (tips := [(1, { orc := .val (.bool true) }), (4, { settle := [4], pc := some { ρ := [], n0 := 0, res := bo y671, σ' := [], e := [] } }), (6, { orc := .val (.bool true) }), (8, { pc := some { ρ := [0, 1], n0 := 2, res := i64 y673, σ' := [.blk 94 [.row 1 (x572).length, i64 x571], .row 9 1 (encL eStr x572)], e := [1, 2] } }), (11, { orc := .val (.bool true) }), (13, { pc := some { ρ := [2, 3], n0 := 2, res := i64 y675, σ' := [.blk 94 [.row 1 (x68).length, i64 x67], .row 9 1 (encL eStr x68)], e := [1, 2] } }), (16, { orc := .val (.bool true) }), (19, { pc := some { ρ := [2, 3], n0 := 2, res := bo y677.1, σ' := [.blk 94 [.row 1 (y677.2.l).length, i64 y677.2.most], .row 9 1 (encL eStr y677.2.l)], e := [1, 2, 3] } }), (26, { orc := .val (.bool false) })]) (by kernel_rfl) (allc (congrArg D.bool b670) (allc (C_retraceref23_Same x343 p0 y671 hy671) (allc (congrArg D.bool b672) (allc (C_stack_Stack_string_Len (⟨x572, x571⟩ : T_stack_Stack_string_) y673 hy673) (allc (congrArg D.bool b674) (allc (C_stack_Stack_string_Len (⟨x68, x67⟩ : T_stack_Stack_string_) y675 hy675) (allc (congrArg D.bool b676) (allc (C_stack_Stack_string_Push p1 (⟨x68, x67⟩ : T_stack_Stack_string_) y677 hy677) (allc (congrArg D.bool b678) all0))))))))) (fun a w hs => ⟨false, h, hs⟩)
                            · replace h := cond_f b676 h
                              refine At.region_end [4] [] _ (st' := ⟨[(4, bo false)], []⟩) (tips := [(1, { orc := .val (.bool true) }), (4, { settle := [4], pc := some { ρ := [], n0 := 0, res := bo y671, σ' := [], e := [] } }), (6, { orc := .val (.bool true) }), (8, { pc := some { ρ := [0, 1], n0 := 2, res := i64 y673, σ' := [.blk 94 [.row 1 (x572).length, i64 x571], .row 9 1 (encL eStr x572)], e := [1, 2] } }), (11, { orc := .val (.bool true) }), (13, { pc := some { ρ := [2, 3], n0 := 2, res := i64 y675, σ' := [.blk 94 [.row 1 (x68).length, i64 x67], .row 9 1 (encL eStr x68)], e := [1, 2] } }), (16, { orc := .val (.bool false) })]) (by kernel_rfl) (allc (congrArg D.bool b670) (allc (C_retraceref23_Same x343 p0 y671 hy671) (allc (congrArg D.bool b672) (allc (C_stack_Stack_string_Len (⟨x572, x571⟩ : T_stack_Stack_string_) y673 hy673) (allc (congrArg D.bool b674) (allc (C_stack_Stack_string_Len (⟨x68, x67⟩ : T_stack_Stack_string_) y675 hy675) (allc (congrArg D.bool b676) all0))))))) (fun a w hs => ⟨false, h, hs⟩)
                          · replace h := cond_f b674 h
                            refine At.region_end [4] [] _ (st' := ⟨[(4, bo false)], []⟩) (tips := [(1, { orc := .val (.bool true) }), (4, { settle := [4], pc := some { ρ := [], n0 := 0, res := bo y671, σ' := [], e := [] } }), (6, { orc := .val (.bool true) }), (8, { pc := some { ρ := [0, 1], n0 := 2, res := i64 y673, σ' := [.blk 94 [.row 1 (x572).length, i64 x571], .row 9 1 (encL eStr x572)], e := [1, 2] } }), (11, { orc := .val (.bool false) })]) (by kernel_rfl) (allc (congrArg D.bool b670) (allc (C_retraceref23_Same x343 p0 y671 hy671) (allc (congrArg D.bool b672) (allc (C_stack_Stack_string_Len (⟨x572, x571⟩ : T_stack_Stack_string_) y673 hy673) (allc (congrArg D.bool b674) all0))))) (fun a w hs => ⟨false, h, hs⟩)
                        · replace h := cond_f b672 h
                          refine At.region_end [4] [] _ (st' := ⟨[(4, bo false)], []⟩) (tips := [(1, { orc := .val (.bool true) }), (4, { settle := [4], pc := some { ρ := [], n0 := 0, res := bo y671, σ' := [], e := [] } }), (6, { orc := .val (.bool false) })]) (by kernel_rfl) (allc (congrArg D.bool b670) (allc (C_retraceref23_Same x343 p0 y671 hy671) (allc (congrArg D.bool b672) all0))) (fun a w hs => ⟨false, h, hs⟩)
                      · replace h := cond_f b670 h
                        refine At.region_end [4] [] _ (st' := ⟨[(4, bo false)], []⟩) (tips := [(1, { orc := .val (.bool false) })]) (by kernel_rfl) (allc (congrArg D.bool b670) all0) (fun a w hs => ⟨false, h, hs⟩)
                    · intro x669 h
                      replace h : F_retracelaw23_StackOrder_J34 x669 = some r := h
                      rw [F_retracelaw23_StackOrder_J34] at h
                      obtain rfl := some_eq h
                      exact At.ret fun a w hs => ret_ok hR (ρ := []) (gs := []) (by kernel_rfl) all0 (by kernel_rfl) rfl rfl a w hs _ (.inl rfl)
                  · replace h : F_retracelaw23_StackOrder_J35 p0 p1 x340 x343 x571 x572 x680 x681 = some r := h
                    rw [F_retracelaw23_StackOrder_J35] at h
                    refine At.seqJ (S := Bool) (fun s => ⟨[(4, bo s)], []⟩) (fun s => F_retracelaw23_StackOrder_J36 s = some r) ?_ ?_
                    · rcases tf x340 with b697 | b697
                      · replace h := cond_t b697 h
                        obtain ⟨y698, hy698, h⟩ := bind_some h
                        rcases tf y698 with b699 | b699
                        · replace h := cond_t b699 h
                          obtain ⟨y700, hy700, h⟩ := bind_some h
                          rcases tf (y700 == 1) with b701 | b701
                          · replace h := cond_t b701 h
                            obtain ⟨y702, hy702, h⟩ := bind_some h
                            rcases tf (y702 == 0) with b703 | b703
                            · replace h := cond_t b703 h
                              obtain ⟨y704, hy704, h⟩ := bind_some h
                              rcases y704 with y705 | y708
                              · replace h := el_inl h
                                rcases tf ((!y705) == (((p0).length : Int) == 0)) with b706 | b706
                                · replace h := cond_t b706 h
                                  obtain ⟨y707, hy707, h⟩ := bind_some h
                                  refine At.region_end [4] [] _ (st' := ⟨[(4, bo y707)], []⟩) (tips := [(1, { orc := .val (.bool true) }), (4, { settle := [3], pc := some { ρ := [], n0 := 0, res := bo y698, σ' := [], e := [] } }), (6, { orc := .val (.bool true) }), (8, { pc := some { ρ := [0, 1], n0 := 2, res := i64 y700, σ' := [.blk 94 [.row 1 (x572).length, i64 x571], .row 9 1 (encL eStr x572)], e := [1, 2] } }), (11, { orc := .val (.bool true) }), (13, { pc := some { ρ := [2], n0 := 1, loose := false, res := i64 y702, σ' := [.blk 94 [.d (.list true (x680).length (encL eStr x680)), i64 x681]], e := [1] } }), (16, { orc := .val (.bool true) }), (19, { pc := some { ρ := [2], n0 := 1, loose := false, res := bo y705, σ' := [.blk 94 [.d (.list true (x680).length (encL eStr x680)), i64 x681]], e := [1] } }), (26, { orc := .val (.bool true) }), (27, { pc := some { ρ := [], n0 := 0, res := bo y707, σ' := [], e := [] } })]) (by kernel_rfl) (allc (congrArg D.bool b697) (allc (C_retraceref23_Same x343 p0 y698 hy698) (allc (congrArg D.bool b699) (allc (C_stack_Stack_string_Len (⟨x572, x571⟩ : T_stack_Stack_string_) y700 hy700) (allc (congrArg D.bool b701) (allc (C_stack_Stack_string_Len_v2 (⟨x680, x681⟩ : T_stack_Stack_string_) y702 hy702) (allc (congrArg D.bool b703) (allc (C_stack_Stack_string_Push_v2 p1 (⟨x680, x681⟩ : T_stack_Stack_string_) (.inl y705) hy704) (allc (congrArg D.bool b706) (allc (C_retracelaw23_live y707 hy707) all0)))))))))) (fun a w hs => ⟨y707, h, hs⟩)
                                · replace h := cond_f b706 h
                                  refine At.region_end [4] [] _ (st' := ⟨[(4, bo false)], []⟩) (tips := [(1, { orc := .val (.bool true) }), (4, { settle := [3], pc := some { ρ := [], n0 := 0, res := bo y698, σ' := [], e := [] } }), (6, { orc := .val (.bool true) }), (8, { pc := some { ρ := [0, 1], n0 := 2, res := i64 y700, σ' := [.blk 94 [.row 1 (x572).length, i64 x571], .row 9 1 (encL eStr x572)], e := [1, 2] } }), (11, { orc := .val (.bool true) }), (13, { pc := some { ρ := [2], n0 := 1, loose := false, res := i64 y702, σ' := [.blk 94 [.d (.list true (x680).length (encL eStr x680)), i64 x681]], e := [1] } }), (16, { orc := .val (.bool true) }), (19, { pc := some { ρ := [2], n0 := 1, loose := false, res := bo y705, σ' := [.blk 94 [.d (.list true (x680).length (encL eStr x680)), i64 x681]], e := [1] } }), (26, { orc := .val (.bool false) })]) (by kernel_rfl) (allc (congrArg D.bool b697) (allc (C_retraceref23_Same x343 p0 y698 hy698) (allc (congrArg D.bool b699) (allc (C_stack_Stack_string_Len (⟨x572, x571⟩ : T_stack_Stack_string_) y700 hy700) (allc (congrArg D.bool b701) (allc (C_stack_Stack_string_Len_v2 (⟨x680, x681⟩ : T_stack_Stack_string_) y702 hy702) (allc (congrArg D.bool b703) (allc (C_stack_Stack_string_Push_v2 p1 (⟨x680, x681⟩ : T_stack_Stack_string_) (.inl y705) hy704) (allc (congrArg D.bool b706) all0))))))))) (fun a w hs => ⟨false, h, hs⟩)
                              · replace h := el_inr h
                                rcases tf ((!y708.1) == (((p0).length : Int) == 0)) with b709 | b709
                                · replace h := cond_t b709 h
                                  obtain ⟨y710, hy710, h⟩ := bind_some h
                                  refine At.region_end [4] [] _ (st' := ⟨[(4, bo y710)], []⟩) (tips := [(1, { orc := .val (.bool true) }), (4, { settle := [3], pc := some { ρ := [], n0 := 0, res := bo y698, σ' := [], e := [] } }), (6, { orc := .val (.bool true) }), (8, { pc := some { ρ := [0, 1], n0 := 2, res := i64 y700, σ' := [.blk 94 [.row 1 (x572).length, i64 x571], .row 9 1 (encL eStr x572)], e := [1, 2] } }), (11, { orc := .val (.bool true) }), (13, { pc := some { ρ := [2], n0 := 1, loose := false, res := i64 y702, σ' := [.blk 94 [.d (.list true (x680).length (encL eStr x680)), i64 x681]], e := [1] } }), (16, { orc := .val (.bool true) }), (19, { pc := some { ρ := [2, 4], n0 := 1, loose := false, res := bo y708.1, σ' := [.blk 94 [.row 1 (y708.2.l).length, i64 y708.2.most], .row 9 1 (encL eStr y708.2.l)], e := [1] } }), (26, { orc := .val (.bool true) }), (27, { pc := some { ρ := [], n0 := 0, res := bo y710, σ' := [], e := [] } })]) (by kernel_rfl) (allc (congrArg D.bool b697) (allc (C_retraceref23_Same x343 p0 y698 hy698) (allc (congrArg D.bool b699) (allc (C_stack_Stack_string_Len (⟨x572, x571⟩ : T_stack_Stack_string_) y700 hy700) (allc (congrArg D.bool b701) (allc (C_stack_Stack_string_Len_v2 (⟨x680, x681⟩ : T_stack_Stack_string_) y702 hy702) (allc (congrArg D.bool b703) (allc (C_stack_Stack_string_Push_v2 p1 (⟨x680, x681⟩ : T_stack_Stack_string_) (.inr y708) hy704) (allc (congrArg D.bool b709) (allc (C_retracelaw23_live y710 hy710) all0)))))))))) (fun a w hs => ⟨y710, h, hs⟩)
                                · replace h := cond_f b709 h
                                  refine At.region_end [4] [] _ (st' := ⟨[(4, bo false)], []⟩) (tips := [(1, { orc := .val (.bool true) }), (4, { settle := [3], pc := some { ρ := [], n0 := 0, res := bo y698, σ' := [], e := [] } }), (6, { orc := .val (.bool true) }), (8, { pc := some { ρ := [0, 1], n0 := 2, res := i64 y700, σ' := [.blk 94 [.row 1 (x572).length, i64 x571], .row 9 1 (encL eStr x572)], e := [1, 2] } }), (11, { orc := .val (.bool true) }), (13, { pc := some { ρ := [2], n0 := 1, loose := false, res := i64 y702, σ' := [.blk 94 [.d (.list true (x680).length (encL eStr x680)), i64 x681]], e := [1] } }), (16, { orc := .val (.bool true) }), (19, { pc := some { ρ := [2, 4], n0 := 1, loose := false, res := bo y708.1, σ' := [.blk 94 [.row 1 (y708.2.l).length, i64 y708.2.most], .row 9 1 (encL eStr y708.2.l)], e := [1] } }), (26, { orc := .val (.bool false) })]) (by kernel_rfl) (allc (congrArg D.bool b697) (allc (C_retraceref23_Same x343 p0 y698 hy698) (allc (congrArg D.bool b699) (allc (C_stack_Stack_string_Len (⟨x572, x571⟩ : T_stack_Stack_string_) y700 hy700) (allc (congrArg D.bool b701) (allc (C_stack_Stack_string_Len_v2 (⟨x680, x681⟩ : T_stack_Stack_string_) y702 hy702) (allc (congrArg D.bool b703) (allc (C_stack_Stack_string_Push_v2 p1 (⟨x680, x681⟩ : T_stack_Stack_string_) (.inr y708) hy704) (allc (congrArg D.bool b709) all0))))))))) (fun a w hs => ⟨false, h, hs⟩)
                            · replace h := cond_f b703 h
                              refine At.region_end [4] [] _ (st' := ⟨[(4, bo false)], []⟩) (tips := [(1, { orc := .val (.bool true) }), (4, { settle := [3], pc := some { ρ := [], n0 := 0, res := bo y698, σ' := [], e := [] } }), (6, { orc := .val (.bool true) }), (8, { pc := some { ρ := [0, 1], n0 := 2, res := i64 y700, σ' := [.blk 94 [.row 1 (x572).length, i64 x571], .row 9 1 (encL eStr x572)], e := [1, 2] } }), (11, { orc := .val (.bool true) }), (13, { pc := some { ρ := [2], n0 := 1, loose := false, res := i64 y702, σ' := [.blk 94 [.d (.list true (x680).length (encL eStr x680)), i64 x681]], e := [1] } }), (16, { orc := .val (.bool false) })]) (by kernel_rfl) (allc (congrArg D.bool b697) (allc (C_retraceref23_Same x343 p0 y698 hy698) (allc (congrArg D.bool b699) (allc (C_stack_Stack_string_Len (⟨x572, x571⟩ : T_stack_Stack_string_) y700 hy700) (allc (congrArg D.bool b701) (allc (C_stack_Stack_string_Len_v2 (⟨x680, x681⟩ : T_stack_Stack_string_) y702 hy702) (allc (congrArg D.bool b703) all0))))))) (fun a w hs => ⟨false, h, hs⟩)
                          · replace h := cond_f b701 h
                            refine At.region_end [4] [] _ (st' := ⟨[(4, bo false)], []⟩) (tips := [(1, { orc := .val (.bool true) }), (4, { settle := [3], pc := some { ρ := [], n0 := 0, res := bo y698, σ' := [], e := [] } }), (6, { orc := .val (.bool true) }), (8, { pc := some { ρ := [0, 1], n0 := 2, res := i64 y700, σ' := [.blk 94 [.row 1 (x572).length, i64 x571], .row 9 1 (encL eStr x572)], e := [1, 2] } }), (11, { orc := .val (.bool false) })]) (by kernel_rfl) (allc (congrArg D.bool b697) (allc (C_retraceref23_Same x343 p0 y698 hy698) (allc (congrArg D.bool b699) (allc (C_stack_Stack_string_Len (⟨x572, x571⟩ : T_stack_Stack_string_) y700 hy700) (allc (congrArg D.bool b701) all0))))) (fun a w hs => ⟨false, h, hs⟩)
                        · replace h := cond_f b699 h
                          refine At.region_end [4] [] _ (st' := ⟨[(4, bo false)], []⟩) (tips := [(1, { orc := .val (.bool true) }), (4, { settle := [3], pc := some { ρ := [], n0 := 0, res := bo y698, σ' := [], e := [] } }), (6, { orc := .val (.bool false) })]) (by kernel_rfl) (allc (congrArg D.bool b697) (allc (C_retraceref23_Same x343 p0 y698 hy698) (allc (congrArg D.bool b699) all0))) (fun a w hs => ⟨false, h, hs⟩)
                      · replace h := cond_f b697 h
                        refine At.region_end [4] [] _ (st' := ⟨[(4, bo false)], []⟩) (tips := [(1, { orc := .val (.bool false) })]) (by kernel_rfl) (allc (congrArg D.bool b697) all0) (fun a w hs => ⟨false, h, hs⟩)
                    · intro x696 h
                      replace h : F_retracelaw23_StackOrder_J36 x696 = some r := h
                      rw [F_retracelaw23_StackOrder_J36] at h
                      obtain rfl := some_eq h
                      exact At.ret fun a w hs => ret_ok hR (ρ := []) (gs := []) (by kernel_rfl) all0 (by kernel_rfl) rfl rfl a w hs _ (.inl rfl)
end Go.Ab
