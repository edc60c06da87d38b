import Derived.Test.YtilfkpmojnammaaGSc
namespace Go.Ab
open Go.Proofs
set_option linter.unusedVariables false
set_option maxRecDepth 100000 in
theorem C_stack_New_string (p0 : Int) (r : T_stack_Stack_string_) (h : F_stack_New_string p0 = some r) : FnOK Try.prog 33 [i64 p0] [] (.ptr 0 0) [.blk 94 [.d (.list true 0 []), i64 r.most]] [] := by
  rw [F_stack_New_string] at h
  refine FnOK.intro Try.func33 rfl (by kernel_rfl) (by kernel_rfl) fun E gv R hR => ?_
  refine At.seq ?_
  refine At.region_end [0] [] _ (st' := ⟨[(0, i64 p0)], []⟩) (tips := []) (by kernel_rfl) all0 (norm ?_)
  refine At.seq ?_
  refine At.region_end [2] [0] _ (st' := ⟨[(2, .ptr 0 0)], [.blk 94 [.d (.list true 0 []), i64 (if 0 > p0 then 0 else p0)]]⟩) (tips := []) (by kernel_rfl) all0 (norm ?_)
  obtain rfl := some_eq h
  exact At.ret fun a w hs => ret_ok hR (ρ := [0]) (gs := []) (by kernel_rfl) all0 (by kernel_rfl) rfl rfl a w hs _ (.inl rfl)
set_option maxRecDepth 100000 in
theorem C_stack_Stack_string_Len  (r : Int) (h : F_stack_Stack_string_Len  = some r) : FnOK Try.prog 39 [.d .nilP] [] (i64 r) [] [] := by
  rw [F_stack_Stack_string_Len] at h
  refine FnOK.intro Try.func39 rfl (by kernel_rfl) (by kernel_rfl) fun E gv R hR => ?_
  refine At.seq ?_
  refine At.region_end [0] [] _ (st' := ⟨[(0, .d .nilP)], []⟩) (tips := []) (by kernel_rfl) all0 (norm ?_)
  refine At.seq ?_
  refine At.seq ?_
  refine At.region_end [0, 4] [] _ (st' := ⟨[(0, .d .nilP), (4, bo true)], []⟩) (tips := []) (by kernel_rfl) all0 (norm ?_)
  refine At.cond true (by kernel_rfl) (fun _ => ?_) (fun hb => by cases hb)
  refine At.seq ?_
  refine At.region_end [2] [] _ (st' := ⟨[(2, i64 0)], []⟩) (tips := []) (by kernel_rfl) all0 (norm ?_)
  obtain rfl := some_eq h
  exact At.ret fun a w hs => ret_ok hR (ρ := []) (gs := []) (by kernel_rfl) all0 (by kernel_rfl) rfl rfl a w hs _ (.inl rfl)
set_option maxRecDepth 100000 in
theorem C_stack_Stack_string_Take (p1 : Int) (r : (List ByteArray) × Bool) (h : F_stack_Stack_string_Take p1 = some r) : FnOK Try.prog 37 [.d .nilP, i64 p1] [] (.tup [.d (.list true 0 []), bo r.2]) [] [] := by
  rw [F_stack_Stack_string_Take] at h
  refine FnOK.intro Try.func37 rfl (by kernel_rfl) (by kernel_rfl) fun E gv R hR => ?_
  refine At.seq ?_
  refine At.region_end [0, 1] [] _ (st' := ⟨[(0, .d .nilP), (1, i64 p1)], []⟩) (tips := []) (by kernel_rfl) all0 (norm ?_)
  refine At.seq ?_
  obtain ⟨y2, hy2, h⟩ := bind_some h
  refine At.region_end [0, 1, 6] [] _ (st' := ⟨[(0, .d .nilP), (1, i64 p1), (6, i64 (w64 (y2 - p1)))], []⟩) (tips := [(1, { pc := some { ρ := [], n0 := 0, res := i64 y2, σ' := [], e := [] } })]) (by kernel_rfl) (allc (C_stack_Stack_string_Len y2 hy2) all0) (norm ?_)
  refine At.seq ?_
  refine At.seq ?_
  refine At.region_end [0, 6, 21] [] _ (st' := ⟨[(0, .d .nilP), (6, i64 (w64 (y2 - p1))), (21, bo true)], []⟩) (tips := []) (by kernel_rfl) all0 (norm ?_)
  refine At.cond true (by kernel_rfl) (fun _ => ?_) (fun hb => by cases hb)
  refine At.seq ?_
  refine At.region_end [4, 5] [] _ (st' := ⟨[(4, .d (.list true 0 [])), (5, bo false)], []⟩) (tips := []) (by kernel_rfl) all0 (norm ?_)
  obtain rfl := some_eq h
  exact At.ret fun a w hs => ret_ok hR (ρ := []) (gs := []) (by kernel_rfl) all0 (by kernel_rfl) rfl rfl a w hs _ (.inl rfl)
set_option maxRecDepth 100000 in
theorem C_stack_Stack_string_Pop  (r : ByteArray × Bool) (h : F_stack_Stack_string_Pop  = some r) : FnOK Try.prog 36 [.d .nilP] [] (.tup [sv r.1, bo r.2]) [] [] := by
  rw [F_stack_Stack_string_Pop] at h
  refine FnOK.intro Try.func36 rfl (by kernel_rfl) (by kernel_rfl) fun E gv R hR => ?_
  refine At.seq ?_
  refine At.region_end [0] [] _ (st' := ⟨[(0, .d .nilP)], []⟩) (tips := []) (by kernel_rfl) all0 (norm ?_)
  refine At.seq ?_
  obtain ⟨y2, hy2, h⟩ := bind_some h
  refine At.region_end [4, 5] [] _ (st' := ⟨[(4, .d (.list true 0 [])), (5, bo y2.2)], []⟩) (tips := [(1, { pc := some { ρ := [], n0 := 0, res := .tup [.d (.list true 0 []), bo y2.2], σ' := [], e := [] } })]) (by kernel_rfl) (allc (C_stack_Stack_string_Take 1 y2 hy2) all0) (norm ?_)
  refine At.seq ?_
  refine At.seq ?_
  refine At.region_end [4, 13] [] _ (st' := ⟨[(4, .d (.list true 0 [])), (13, bo (!y2.2))], []⟩) (tips := []) (by kernel_rfl) all0 (norm ?_)
  refine At.cond (!y2.2) (by kernel_rfl) (fun b4 => ?_) (fun b4 => ?_)
  · replace h := cond_t b4 h
    refine At.seq ?_
    refine At.region_end [6] [] _ (st' := ⟨[(6, sv (⟨#[]⟩ : ByteArray))], []⟩) (tips := []) (by kernel_rfl) all0 (norm ?_)
    refine At.seq ?_
    refine At.region_end [2, 3] [] _ (st' := ⟨[(2, sv (⟨#[]⟩ : ByteArray)), (3, bo false)], []⟩) (tips := []) (by kernel_rfl) all0 (norm ?_)
    obtain rfl := some_eq h
    exact At.ret fun a w hs => ret_ok hR (ρ := []) (gs := []) (by kernel_rfl) all0 (by kernel_rfl) rfl rfl a w hs _ (.inl rfl)
  · replace h := cond_f b4 h
    refine At.nar [4] [] (st' := ⟨[(4, .d (.list true 0 []))], []⟩) (by kernel_rfl) ?_
    refine At.skip (norm ?_)
    refine At.seq ?_
    obtain ⟨y6, hy6, h⟩ := bind_some h
    refine At.region_end [2, 3] [] _ (st' := ⟨[(2, sv y6), (3, bo true)], []⟩) (tips := [(1, { orc := .cells (eStr y6) })]) (by kernel_rfl) (allc (elemAt_of he_str hy6) all0) (norm ?_)
    obtain rfl := some_eq h
    exact At.ret fun a w hs => ret_ok hR (ρ := []) (gs := []) (by kernel_rfl) all0 (by kernel_rfl) rfl rfl a w hs _ (.inl rfl)
set_option maxRecDepth 100000 in
theorem C_stack_Stack_string_Room  (r : Int) (h : F_stack_Stack_string_Room  = some r) : FnOK Try.prog 40 [.d .nilP] [] (i64 r) [] [] := by
  rw [F_stack_Stack_string_Room] at h
  refine FnOK.intro Try.func40 rfl (by kernel_rfl) (by kernel_rfl) fun E gv R hR => ?_
  refine At.seq ?_
  refine At.region_end [0] [] _ (st' := ⟨[(0, .d .nilP)], []⟩) (tips := []) (by kernel_rfl) all0 (norm ?_)
  refine At.seq ?_
  refine At.seq ?_
  refine At.region_end [0, 4] [] _ (st' := ⟨[(0, .d .nilP), (4, bo true)], []⟩) (tips := []) (by kernel_rfl) all0 (norm ?_)
  refine At.cond true (by kernel_rfl) (fun _ => ?_) (fun hb => by cases hb)
  refine At.seq ?_
  refine At.region_end [2] [] _ (st' := ⟨[(2, i64 0)], []⟩) (tips := []) (by kernel_rfl) all0 (norm ?_)
  obtain rfl := some_eq h
  exact At.ret fun a w hs => ret_ok hR (ρ := []) (gs := []) (by kernel_rfl) all0 (by kernel_rfl) rfl rfl a w hs _ (.inl rfl)
set_option maxRecDepth 100000 in
theorem C_stack_Stack_string_Push (p1 : ByteArray) (r : Bool) (h : F_stack_Stack_string_Push p1 = some r) : FnOK Try.prog 34 [.d .nilP, sv p1] [] (bo r) [] [] := by
  rw [F_stack_Stack_string_Push] at h
  refine FnOK.intro Try.func34 rfl (by kernel_rfl) (by kernel_rfl) fun E gv R hR => ?_
  refine At.seq ?_
  refine At.region_end [0, 1] [] _ (st' := ⟨[(0, .d .nilP), (1, sv p1)], []⟩) (tips := []) (by kernel_rfl) all0 (norm ?_)
  refine At.seq ?_
  refine At.seq ?_
  obtain ⟨y5, hy5, h⟩ := bind_some h
  refine At.region_end [0, 1, 7] [] _ (st' := ⟨[(0, .d .nilP), (1, sv p1), (7, bo (y5 == 0))], []⟩) (tips := [(1, { pc := some { ρ := [], n0 := 0, res := i64 y5, σ' := [], e := [] } })]) (by kernel_rfl) (allc (C_stack_Stack_string_Room y5 hy5) all0) (norm ?_)
  refine At.cond (y5 == 0) (by kernel_rfl) (fun b6 => ?_) (fun b6 => ?_)
  · replace h := cond_t b6 h
    refine At.seq ?_
    refine At.region_end [4] [] _ (st' := ⟨[(4, bo false)], []⟩) (tips := []) (by kernel_rfl) all0 (norm ?_)
    obtain rfl := some_eq h
    exact At.ret fun a w hs => ret_ok hR (ρ := []) (gs := []) (by kernel_rfl) all0 (by kernel_rfl) rfl rfl a w hs _ (.inl rfl)
  · replace h := cond_f b6 h
    refine At.nar [0, 1] [] (st' := ⟨[(0, .d .nilP), (1, sv p1)], []⟩) (by kernel_rfl) ?_
    refine At.skip (norm ?_)
    refine At.seq ?_
    cases h
set_option maxRecDepth 100000 in
theorem C_stack_Stack_string_Len_v2 (o0 : T_stack_Stack_string_) (r : Int) (h : F_stack_Stack_string_Len_v2 o0 = some r) : FnOK Try.prog 39 [.ptr 0 0] [.blk 94 [.row 1 (o0.l).length, i64 o0.most], .row 9 1 (encL eStr o0.l)] (i64 r) [.blk 94 [.row 1 (o0.l).length, i64 o0.most], .row 9 1 (encL eStr o0.l)] [1, 2] := by
  rw [F_stack_Stack_string_Len_v2] at h
  refine FnOK.intro Try.func39 rfl (by kernel_rfl) (by kernel_rfl) fun E gv R hR => ?_
  refine At.seq ?_
  refine At.region_end [0] [0, 1, 2, 3] _ (st' := ⟨[(0, .ptr 0 0)], [.blk 94 [.row 1 (o0.l).length, i64 o0.most], .row 9 1 (encL eStr o0.l), .ghost (gv 0) (.ptr 0 0), .ghost (gv 1) (.row 1 0)]⟩) (tips := []) (by kernel_rfl) all0 (norm ?_)
  refine At.seq ?_
  refine At.seq ?_
  refine At.region_end [0, 4] [0, 1, 2, 3] _ (st' := ⟨[(0, .ptr 0 0), (4, bo false)], [.blk 94 [.row 1 (o0.l).length, i64 o0.most], .row 9 1 (encL eStr o0.l), .ghost (gv 0) (.ptr 0 0), .ghost (gv 1) (.row 1 0)]⟩) (tips := []) (by kernel_rfl) all0 (norm ?_)
  refine At.cond false (by kernel_rfl) (fun hb => by cases hb) (fun _ => ?_)
  refine At.nar [0] [0, 1, 2, 3] (st' := ⟨[(0, .ptr 0 0)], [.blk 94 [.row 1 (o0.l).length, i64 o0.most], .row 9 1 (encL eStr o0.l), .ghost (gv 0) (.ptr 0 0), .ghost (gv 1) (.row 1 0)]⟩) (by kernel_rfl) ?_
  refine At.skip (norm ?_)
  refine At.seq ?_
  refine At.region_end [2] [0, 1, 2, 3] _ (st' := ⟨[(2, i64 ((o0.l).length : Int))], [.blk 94 [.row 1 (o0.l).length, i64 o0.most], .row 9 1 (encL eStr o0.l), .ghost (gv 0) (.ptr 0 0), .ghost (gv 1) (.row 1 0)]⟩) (tips := []) (by kernel_rfl) all0 (norm ?_)
  obtain rfl := some_eq h
  exact At.ret fun a w hs => ret_ok hR (ρ := [0, 1]) (gs := [.ghost (gv 0) (.ptr 0 0), .ghost (gv 1) (.row 1 0)]) (by kernel_rfl) all0 (by kernel_rfl) rfl rfl a w hs _ (.inl rfl)
set_option maxRecDepth 100000 in
theorem C_slices_Clone_string_string (p0 : (List ByteArray)) (r : (List ByteArray)) (h : F_slices_Clone_string_string p0 = some r) : FnOK Try.prog 51 [lv eStr p0] [] (.row 0 (r).length) [.row 9 1 (encL eStr r)] [] := by
  rw [F_slices_Clone_string_string] at h
  refine FnOK.intro Try.func51 rfl (by kernel_rfl) (by kernel_rfl) fun E gv R hR => ?_
  refine At.seq ?_
  refine At.region_end [0] [] _ (st' := ⟨[(0, lv eStr p0)], []⟩) (tips := []) (by kernel_rfl) all0 (norm ?_)
  refine At.seq ?_
  refine At.seq ?_
  refine At.nilEq (t0 := 0) (t3 := 3) (t4 := 4) (e := 9) (tt := false) (k := (p0).length) (xs := encL eStr p0) rfl rfl rfl rfl rfl rfl (by decide) (by decide) (by kernel_rfl) (by kernel_rfl) ?_
  rintro (_ | _) hk
  · refine norm ?_
    refine At.nar [0, 4] [] (st' := ⟨[(0, lv eStr p0), (4, bo false)], []⟩) (by kernel_rfl) ?_
    refine At.cond false (by kernel_rfl) (fun hb => by cases hb) (fun _ => ?_)
    refine At.nar [0] [] (st' := ⟨[(0, lv eStr p0)], []⟩) (by kernel_rfl) ?_
    refine At.skip (norm ?_)
    refine At.seq ?_
    obtain ⟨g2, h⟩ := grd_some h
    refine At.region_end [2] [0] _ (st' := ⟨[(2, .row 0 ((([] : List ByteArray) ++ p0)).length)], [.row 9 1 (encL eStr (([] : List ByteArray) ++ p0))]⟩) (tips := [(2, { form := some ((([] : List ByteArray) ++ p0).length, encL eStr (([] : List ByteArray) ++ p0)) })]) (by kernel_rfl) (allc (len_app ([] : List ByteArray) p0) (allc (encL_app eStr ([] : List ByteArray) p0) (allc (app_ok he_str (by decide) g2) (allc (encL_len he_str p0) all0)))) (norm ?_)
    obtain rfl := some_eq h
    exact At.ret fun a w hs => ret_ok hR (ρ := [0]) (gs := []) (by kernel_rfl) all0 (by kernel_rfl) rfl rfl a w hs _ (.inl rfl)
  · obtain rfl := List.length_eq_zero_iff.1 (hk rfl)
    obtain ⟨_, h⟩ := grd_some h
    refine norm ?_
    refine At.nar [0, 4] [] (st' := ⟨[(0, lv eStr ([] : List ByteArray)), (4, bo true)], []⟩) (by kernel_rfl) ?_
    refine At.cond true (by kernel_rfl) (fun _ => ?_) (fun hb => by cases hb)
    refine At.seq ?_
    refine At.region_end [2] [] _ (st' := ⟨[(2, .d (.list true 0 []))], []⟩) (tips := []) (by kernel_rfl) all0 (norm ?_)
    refine At.edNar [.ownS 2 9 1] [2] [0] (st' := ⟨[(2, .row 0 ([] : List ByteArray).length)], [.row 9 1 (encL eStr ([]))]⟩) (by kernel_rfl) ?_
    obtain rfl := some_eq h
    exact At.ret fun a w hs => ret_ok hR (ρ := [0]) (gs := []) (by kernel_rfl) all0 (by kernel_rfl) rfl rfl a w hs _ (.inl rfl)
set_option maxRecDepth 100000 in
theorem C_stack_Stack_string_Take_v2 (p1 : Int) (o0 : T_stack_Stack_string_) (r : ((List ByteArray) × Bool) ⊕ ((List ByteArray) × Bool × T_stack_Stack_string_)) (h : F_stack_Stack_string_Take_v2 p1 o0 = some r) : FnOK Try.prog 37 [.ptr 0 0, i64 p1] [.blk 94 [.row 1 (o0.l).length, i64 o0.most], .row 9 1 (encL eStr o0.l)] ((Sum.elim (fun r => .tup [.row 2 (r.1).length, bo r.2]) (fun r => .tup [.row 2 (r.1).length, bo r.2.1])) r) ((Sum.elim (fun r => [.blk 94 [.row 1 (o0.l).length, i64 o0.most], .row 9 1 (encL eStr o0.l), .row 9 1 (encL eStr r.1)]) (fun r => [.blk 94 [.d (.list true (r.2.2.l).length (encL eStr r.2.2.l)), i64 r.2.2.most], .dead, .row 9 1 (encL eStr r.1)])) r) [1, 2, 3] := by
  rw [F_stack_Stack_string_Take_v2] at h
  refine FnOK.intro Try.func37 rfl (by kernel_rfl) (by kernel_rfl) fun E gv R hR => ?_
  refine At.seq ?_
  refine At.region_end [0, 1] [0, 1, 2, 3] _ (st' := ⟨[(0, .ptr 0 0), (1, i64 p1)], [.blk 94 [.row 1 (o0.l).length, i64 o0.most], .row 9 1 (encL eStr o0.l), .ghost (gv 0) (.ptr 0 0), .ghost (gv 1) (.row 1 0)]⟩) (tips := []) (by kernel_rfl) all0 (norm ?_)
  refine At.seq ?_
  obtain ⟨y2, hy2, h⟩ := bind_some h
  refine At.region_end [0, 1, 6] [0, 1, 2, 3] _ (st' := ⟨[(0, .ptr 0 0), (1, i64 p1), (6, i64 (w64 (y2 - p1)))], [.blk 94 [.row 1 (o0.l).length, i64 o0.most], .row 9 1 (encL eStr o0.l), .ghost (gv 0) (.ptr 0 0), .ghost (gv 1) (.row 1 0)]⟩) (tips := [(1, { pc := some { ρ := [0, 1], n0 := 2, res := i64 y2, σ' := [.blk 94 [.row 1 (o0.l).length, i64 o0.most], .row 9 1 (encL eStr o0.l)], e := [1, 2] } })]) (by kernel_rfl) (allc (C_stack_Stack_string_Len_v2 o0 y2 hy2) all0) (norm ?_)
  refine At.seq ?_
  refine At.seqJ (S := Bool) (fun s => ⟨[(0, .ptr 0 0), (6, i64 (w64 (y2 - p1))), (21, bo s)], [.blk 94 [.row 1 (o0.l).length, i64 o0.most], .row 9 1 (encL eStr o0.l), .ghost (gv 0) (.ptr 0 0), .ghost (gv 1) (.row 1 0)]⟩) (fun s => F_stack_Stack_string_Take_v2_J1 p1 o0 y2 s = some r) ?_ ?_
  · rcases tf (decide (p1 < 0)) with b16 | b16
    · replace h := cond_t b16 h
      refine At.region_end [0, 6, 21] [0, 1, 2, 3] _ (st' := ⟨[(0, .ptr 0 0), (6, i64 (w64 (y2 - p1))), (21, bo true)], [.blk 94 [.row 1 (o0.l).length, i64 o0.most], .row 9 1 (encL eStr o0.l), .ghost (gv 0) (.ptr 0 0), .ghost (gv 1) (.row 1 0)]⟩) (tips := [(6, { orc := .val (.bool true) })]) (by kernel_rfl) (allc (congrArg D.bool b16) all0) (fun a w hs => ⟨true, h, hs⟩)
    · replace h := cond_f b16 h
      refine At.region_end [0, 6, 21] [0, 1, 2, 3] _ (st' := ⟨[(0, .ptr 0 0), (6, i64 (w64 (y2 - p1))), (21, bo (decide ((w64 (y2 - p1)) < 0)))], [.blk 94 [.row 1 (o0.l).length, i64 o0.most], .row 9 1 (encL eStr o0.l), .ghost (gv 0) (.ptr 0 0), .ghost (gv 1) (.row 1 0)]⟩) (tips := [(6, { orc := .val (.bool false) })]) (by kernel_rfl) (allc (congrArg D.bool b16) all0) (fun a w hs => ⟨(decide ((w64 (y2 - p1)) < 0)), h, hs⟩)
  · intro x8 h
    replace h : F_stack_Stack_string_Take_v2_J1 p1 o0 y2 x8 = some r := h
    rw [F_stack_Stack_string_Take_v2_J1] at h
    refine At.cond x8 (by kernel_rfl) (fun b9 => ?_) (fun b9 => ?_)
    · replace h := cond_t b9 h
      refine At.seq ?_
      refine At.region_end [4, 5] [0, 1, 2, 3] _ (st' := ⟨[(4, .d (.list true 0 [])), (5, bo false)], [.blk 94 [.row 1 (o0.l).length, i64 o0.most], .row 9 1 (encL eStr o0.l), .ghost (gv 0) (.ptr 0 0), .ghost (gv 1) (.row 1 0)]⟩) (tips := []) (by kernel_rfl) all0 (norm ?_)
      refine At.edNar [.hideG 3, .ownS 4 9 1] [4, 5] [0, 1, 2, 3, 4] (st' := ⟨[(4, .row 4 ([] : List ByteArray).length), (5, bo false)], [.blk 94 [.row 1 (o0.l).length, i64 o0.most], .row 9 1 (encL eStr o0.l), .ghost (gv 0) (.ptr 0 0), .ghost (gv 1) (.undef), .row 9 1 (encL eStr ([]))]⟩) (by kernel_rfl) ?_
      obtain rfl := some_eq h
      exact At.ret fun a w hs => ret_ok hR (ρ := [0, 1, 4]) (gs := [.ghost (gv 0) (.ptr 0 0), .ghost (gv 1) (.undef)]) (by kernel_rfl) all0 (by kernel_rfl) rfl rfl a w hs _ (.inl rfl)
    · replace h := cond_f b9 h
      refine At.nar [0, 6] [0, 1, 2, 3] (st' := ⟨[(0, .ptr 0 0), (6, i64 (w64 (y2 - p1)))], [.blk 94 [.row 1 (o0.l).length, i64 o0.most], .row 9 1 (encL eStr o0.l), .ghost (gv 0) (.ptr 0 0), .ghost (gv 1) (.row 1 0)]⟩) (by kernel_rfl) ?_
      refine At.skip (norm ?_)
      refine At.seq ?_
      obtain ⟨g12, h⟩ := grd_some h
      obtain ⟨y13, hy13, h⟩ := bind_some h
      refine At.region_end [0, 6, 7] [0, 1, 2, 3, 4] _ (st' := ⟨[(0, .ptr 0 0), (6, i64 (w64 (y2 - p1))), (7, .row 4 (y13).length)], [.blk 94 (T_stack_Stack_string_.pvs o0), .dead, .ghost (gv 0) (.ptr 0 0), .ghost (gv 1) (.d (.list false 0 (encL eStr o0.l))), .row 9 1 (encL eStr y13)]⟩) (tips := [(5, { form := some ((lCut o0.l (w64 (y2 - p1)) ((o0.l).length : Int)).length, encL eStr (lCut o0.l (w64 (y2 - p1)) ((o0.l).length : Int))) }), (6, { pc := some { ρ := [4], n0 := 0, res := .row 0 (y13).length, σ' := [.row 9 1 (encL eStr y13)], e := [] } })]) (by kernel_rfl) (allc ((cut_ok he_str g12).1) (allc ((cut_ok he_str g12).2) (allc g12 (allc (C_slices_Clone_string_string (lCut o0.l (w64 (y2 - p1)) ((o0.l).length : Int)) y13 hy13) all0)))) (norm ?_)
      refine At.seq ?_
      obtain ⟨g15, h⟩ := grd_some h
      refine At.region_end [7] [0, 1, 2, 3, 4] _ (st' := ⟨[(7, .row 4 (y13).length)], [.blk 94 [.d (.list true ((lCut o0.l 0 (w64 (y2 - p1)))).length (encL eStr (lCut o0.l 0 (w64 (y2 - p1))))), i64 o0.most], .dead, .ghost (gv 0) (.ptr 0 0), .ghost (gv 1) (.d (.list false 0 (encL eStr o0.l))), .row 9 1 (encL eStr y13)]⟩) (tips := [(7, { form := some ((lCut o0.l 0 (w64 (y2 - p1))).length, encL eStr (lCut o0.l 0 (w64 (y2 - p1)))) })]) (by kernel_rfl) (allc ((cut_ok3 he_str g15).1) (allc ((cut_ok3 he_str g15).2) (allc g15 all0))) (norm ?_)
      refine At.seq ?_
      refine At.region_end [4, 5] [0, 1, 2, 3, 4] _ (st' := ⟨[(4, .row 4 (y13).length), (5, bo true)], [.blk 94 [.d (.list true ((lCut o0.l 0 (w64 (y2 - p1)))).length (encL eStr (lCut o0.l 0 (w64 (y2 - p1))))), i64 o0.most], .dead, .ghost (gv 0) (.ptr 0 0), .ghost (gv 1) (.d (.list false 0 (encL eStr o0.l))), .row 9 1 (encL eStr y13)]⟩) (tips := []) (by kernel_rfl) all0 (norm ?_)
      refine At.edNar [.hideG 3] [4, 5] [0, 1, 2, 3, 4] (st' := ⟨[(4, .row 4 (y13).length), (5, bo true)], [.blk 94 [.d (.list true ((lCut o0.l 0 (w64 (y2 - p1)))).length (encL eStr (lCut o0.l 0 (w64 (y2 - p1))))), i64 o0.most], .dead, .ghost (gv 0) (.ptr 0 0), .ghost (gv 1) (.undef), .row 9 1 (encL eStr y13)]⟩) (by kernel_rfl) ?_
      obtain rfl := some_eq h
      exact At.ret fun a w hs => ret_ok hR (ρ := [0, 1, 4]) (gs := [.ghost (gv 0) (.ptr 0 0), .ghost (gv 1) (.undef)]) (by kernel_rfl) all0 (by kernel_rfl) rfl rfl a w hs _ (.inl rfl)
set_option maxRecDepth 100000 in
theorem C_stack_Stack_string_Pop_v2 (o0 : T_stack_Stack_string_) (r : (ByteArray × Bool) ⊕ (ByteArray × Bool × T_stack_Stack_string_)) (h : F_stack_Stack_string_Pop_v2 o0 = some r) : FnOK Try.prog 36 [.ptr 0 0] [.blk 94 [.row 1 (o0.l).length, i64 o0.most], .row 9 1 (encL eStr o0.l)] ((Sum.elim (fun r => .tup [sv r.1, bo r.2]) (fun r => .tup [sv r.1, bo r.2.1])) r) ((Sum.elim (fun r => [.blk 94 [.row 1 (o0.l).length, i64 o0.most], .row 9 1 (encL eStr o0.l)]) (fun r => [.blk 94 [.d (.list true (r.2.2.l).length (encL eStr r.2.2.l)), i64 r.2.2.most], .dead])) r) [1, 2, 3] := by
  rw [F_stack_Stack_string_Pop_v2] at h
  refine FnOK.intro Try.func36 rfl (by kernel_rfl) (by kernel_rfl) fun E gv R hR => ?_
  refine At.seq ?_
  refine At.region_end [0] [0, 1, 2, 3] _ (st' := ⟨[(0, .ptr 0 0)], [.blk 94 [.row 1 (o0.l).length, i64 o0.most], .row 9 1 (encL eStr o0.l), .ghost (gv 0) (.ptr 0 0), .ghost (gv 1) (.row 1 0)]⟩) (tips := []) (by kernel_rfl) all0 (norm ?_)
  refine At.seqJ (S := (Bool × (List ByteArray)) ⊕ (Bool × (List ByteArray) × Int × (List ByteArray))) (Sum.elim (fun s => ⟨[(4, .row 4 (s.2).length), (5, bo s.1)], [.blk 94 [.row 1 (o0.l).length, i64 o0.most], .row 9 1 (encL eStr o0.l), .ghost (gv 0) (.ptr 0 0), .ghost (gv 1) (.undef), .row 9 1 (encL eStr s.2)]⟩) (fun s => ⟨[(4, .row 4 (s.2.2.2).length), (5, bo s.1)], [.blk 94 [.d (.list true (s.2.1).length (encL eStr s.2.1)), i64 s.2.2.1], .dead, .ghost (gv 0) (.ptr 0 0), .ghost (gv 1) (.undef), .row 9 1 (encL eStr s.2.2.2)]⟩)) (Sum.elim (fun s => F_stack_Stack_string_Pop_v2_J1 s.1 s.2 = some r) (fun s => F_stack_Stack_string_Pop_v2_J2 s.1 s.2.1 s.2.2.1 s.2.2.2 = some r)) ?_ ?_
  · obtain ⟨y18, hy18, h⟩ := bind_some h
    rcases y18 with y19 | y20
    · replace h := el_inl h
      refine At.region_end [4, 5] [0, 1, 2, 3, 4] _ (st' := ⟨[(4, .row 4 (y19.1).length), (5, bo y19.2)], [.blk 94 [.row 1 (o0.l).length, i64 o0.most], .row 9 1 (encL eStr o0.l), .ghost (gv 0) (.ptr 0 0), .ghost (gv 1) (.undef), .row 9 1 (encL eStr y19.1)]⟩) (tips := [(1, { pc := some { ρ := [0, 1, 4], n0 := 2, res := .tup [.row 2 (y19.1).length, bo y19.2], σ' := [.blk 94 [.row 1 (o0.l).length, i64 o0.most], .row 9 1 (encL eStr o0.l), .row 9 1 (encL eStr y19.1)], e := [1, 2, 3] } })]) (by kernel_rfl) (allc (C_stack_Stack_string_Take_v2 1 o0 (.inl y19) hy18) all0) (fun a w hs => ⟨.inl (y19.2, y19.1), h, hs⟩)
    · replace h := el_inr h
      refine At.region_end [4, 5] [0, 1, 2, 3, 4] _ (st' := ⟨[(4, .row 4 (y20.1).length), (5, bo y20.2.1)], [.blk 94 [.d (.list true (y20.2.2.l).length (encL eStr y20.2.2.l)), i64 y20.2.2.most], .dead, .ghost (gv 0) (.ptr 0 0), .ghost (gv 1) (.undef), .row 9 1 (encL eStr y20.1)]⟩) (tips := [(1, { pc := some { ρ := [0, 1, 4], n0 := 2, res := .tup [.row 2 (y20.1).length, bo y20.2.1], σ' := [.blk 94 [.d (.list true (y20.2.2.l).length (encL eStr y20.2.2.l)), i64 y20.2.2.most], .dead, .row 9 1 (encL eStr y20.1)], e := [1, 2, 3] } })]) (by kernel_rfl) (allc (C_stack_Stack_string_Take_v2 1 o0 (.inr y20) hy18) all0) (fun a w hs => ⟨.inr ((y20.2.1, y20.2.2.l, y20.2.2.most, y20.1)), h, hs⟩)
  · rintro (⟨x4, x5⟩ | ⟨x10, x11, x12, x13⟩) h
    · replace h : F_stack_Stack_string_Pop_v2_J1 x4 x5 = some r := h
      rw [F_stack_Stack_string_Pop_v2_J1] at h
      refine At.seq ?_
      refine At.seq ?_
      refine At.region_end [4, 13] [0, 1, 2, 3, 4] _ (st' := ⟨[(4, .row 4 (x5).length), (13, bo (!x4))], [.blk 94 [.row 1 (o0.l).length, i64 o0.most], .row 9 1 (encL eStr o0.l), .ghost (gv 0) (.ptr 0 0), .ghost (gv 1) (.undef), .row 9 1 (encL eStr x5)]⟩) (tips := []) (by kernel_rfl) all0 (norm ?_)
      refine At.cond (!x4) (by kernel_rfl) (fun b7 => ?_) (fun b7 => ?_)
      · replace h := cond_t b7 h
        refine At.seq ?_
        refine At.region_end [6] [0, 1, 2, 3] _ (st' := ⟨[(6, sv (⟨#[]⟩ : ByteArray))], [.blk 94 [.row 1 (o0.l).length, i64 o0.most], .row 9 1 (encL eStr o0.l), .ghost (gv 0) (.ptr 0 0), .ghost (gv 1) (.undef)]⟩) (tips := []) (by kernel_rfl) all0 (norm ?_)
        refine At.seq ?_
        refine At.region_end [2, 3] [0, 1, 2, 3] _ (st' := ⟨[(2, sv (⟨#[]⟩ : ByteArray)), (3, bo false)], [.blk 94 [.row 1 (o0.l).length, i64 o0.most], .row 9 1 (encL eStr o0.l), .ghost (gv 0) (.ptr 0 0), .ghost (gv 1) (.undef)]⟩) (tips := []) (by kernel_rfl) all0 (norm ?_)
        obtain rfl := some_eq h
        exact At.ret fun a w hs => ret_ok hR (ρ := [0, 1]) (gs := [.ghost (gv 0) (.ptr 0 0), .ghost (gv 1) (.undef)]) (by kernel_rfl) all0 (by kernel_rfl) rfl rfl a w hs _ (.inl rfl)
      · replace h := cond_f b7 h
        refine At.nar [4] [0, 1, 2, 3, 4] (st' := ⟨[(4, .row 4 (x5).length)], [.blk 94 [.row 1 (o0.l).length, i64 o0.most], .row 9 1 (encL eStr o0.l), .ghost (gv 0) (.ptr 0 0), .ghost (gv 1) (.undef), .row 9 1 (encL eStr x5)]⟩) (by kernel_rfl) ?_
        refine At.skip (norm ?_)
        refine At.seq ?_
        obtain ⟨y9, hy9, h⟩ := bind_some h
        refine At.region_end [2, 3] [0, 1, 2, 3] _ (st' := ⟨[(2, sv y9), (3, bo true)], [.blk 94 [.row 1 (o0.l).length, i64 o0.most], .row 9 1 (encL eStr o0.l), .ghost (gv 0) (.ptr 0 0), .ghost (gv 1) (.undef)]⟩) (tips := [(2, { orc := .val (.str y9) })]) (by kernel_rfl) (allc ((rAt_of he_str (d := .str y9) hy9 rfl).1) (allc ((rAt_of he_str (d := .str y9) hy9 rfl).2) all0)) (norm ?_)
        obtain rfl := some_eq h
        exact At.ret fun a w hs => ret_ok hR (ρ := [0, 1]) (gs := [.ghost (gv 0) (.ptr 0 0), .ghost (gv 1) (.undef)]) (by kernel_rfl) all0 (by kernel_rfl) rfl rfl a w hs _ (.inl rfl)
    · replace h : F_stack_Stack_string_Pop_v2_J2 x10 x11 x12 x13 = some r := h
      rw [F_stack_Stack_string_Pop_v2_J2] at h
      refine At.seq ?_
      refine At.seq ?_
      refine At.region_end [4, 13] [0, 1, 2, 3, 4] _ (st' := ⟨[(4, .row 4 (x13).length), (13, bo (!x10))], [.blk 94 [.d (.list true (x11).length (encL eStr x11)), i64 x12], .dead, .ghost (gv 0) (.ptr 0 0), .ghost (gv 1) (.undef), .row 9 1 (encL eStr x13)]⟩) (tips := []) (by kernel_rfl) all0 (norm ?_)
      refine At.cond (!x10) (by kernel_rfl) (fun b15 => ?_) (fun b15 => ?_)
      · replace h := cond_t b15 h
        refine At.seq ?_
        refine At.region_end [6] [0, 1, 2, 3] _ (st' := ⟨[(6, sv (⟨#[]⟩ : ByteArray))], [.blk 94 [.d (.list true (x11).length (encL eStr x11)), i64 x12], .dead, .ghost (gv 0) (.ptr 0 0), .ghost (gv 1) (.undef)]⟩) (tips := []) (by kernel_rfl) all0 (norm ?_)
        refine At.seq ?_
        refine At.region_end [2, 3] [0, 1, 2, 3] _ (st' := ⟨[(2, sv (⟨#[]⟩ : ByteArray)), (3, bo false)], [.blk 94 [.d (.list true (x11).length (encL eStr x11)), i64 x12], .dead, .ghost (gv 0) (.ptr 0 0), .ghost (gv 1) (.undef)]⟩) (tips := []) (by kernel_rfl) all0 (norm ?_)
        obtain rfl := some_eq h
        exact At.ret fun a w hs => ret_ok hR (ρ := [0, 1]) (gs := [.ghost (gv 0) (.ptr 0 0), .ghost (gv 1) (.undef)]) (by kernel_rfl) all0 (by kernel_rfl) rfl rfl a w hs _ (.inl rfl)
      · replace h := cond_f b15 h
        refine At.nar [4] [0, 1, 2, 3, 4] (st' := ⟨[(4, .row 4 (x13).length)], [.blk 94 [.d (.list true (x11).length (encL eStr x11)), i64 x12], .dead, .ghost (gv 0) (.ptr 0 0), .ghost (gv 1) (.undef), .row 9 1 (encL eStr x13)]⟩) (by kernel_rfl) ?_
        refine At.skip (norm ?_)
        refine At.seq ?_
        obtain ⟨y17, hy17, h⟩ := bind_some h
        refine At.region_end [2, 3] [0, 1, 2, 3] _ (st' := ⟨[(2, sv y17), (3, bo true)], [.blk 94 [.d (.list true (x11).length (encL eStr x11)), i64 x12], .dead, .ghost (gv 0) (.ptr 0 0), .ghost (gv 1) (.undef)]⟩) (tips := [(2, { orc := .val (.str y17) })]) (by kernel_rfl) (allc ((rAt_of he_str (d := .str y17) hy17 rfl).1) (allc ((rAt_of he_str (d := .str y17) hy17 rfl).2) all0)) (norm ?_)
        obtain rfl := some_eq h
        exact At.ret fun a w hs => ret_ok hR (ρ := [0, 1]) (gs := [.ghost (gv 0) (.ptr 0 0), .ghost (gv 1) (.undef)]) (by kernel_rfl) all0 (by kernel_rfl) rfl rfl a w hs _ (.inl rfl)
set_option maxRecDepth 100000 in
theorem C_stack_Stack_string_Room_v2 (o0 : T_stack_Stack_string_) (r : Int) (h : F_stack_Stack_string_Room_v2 o0 = some r) : FnOK Try.prog 40 [.ptr 0 0] [.blk 94 [.row 1 (o0.l).length, i64 o0.most], .row 9 1 (encL eStr o0.l)] (i64 r) [.blk 94 [.row 1 (o0.l).length, i64 o0.most], .row 9 1 (encL eStr o0.l)] [1, 2] := by
  rw [F_stack_Stack_string_Room_v2] at h
  refine FnOK.intro Try.func40 rfl (by kernel_rfl) (by kernel_rfl) fun E gv R hR => ?_
  refine At.seq ?_
  refine At.region_end [0] [0, 1, 2, 3] _ (st' := ⟨[(0, .ptr 0 0)], [.blk 94 [.row 1 (o0.l).length, i64 o0.most], .row 9 1 (encL eStr o0.l), .ghost (gv 0) (.ptr 0 0), .ghost (gv 1) (.row 1 0)]⟩) (tips := []) (by kernel_rfl) all0 (norm ?_)
  refine At.seq ?_
  refine At.seq ?_
  refine At.region_end [0, 4] [0, 1, 2, 3] _ (st' := ⟨[(0, .ptr 0 0), (4, bo false)], [.blk 94 [.row 1 (o0.l).length, i64 o0.most], .row 9 1 (encL eStr o0.l), .ghost (gv 0) (.ptr 0 0), .ghost (gv 1) (.row 1 0)]⟩) (tips := []) (by kernel_rfl) all0 (norm ?_)
  refine At.cond false (by kernel_rfl) (fun hb => by cases hb) (fun _ => ?_)
  refine At.nar [0] [0, 1, 2, 3] (st' := ⟨[(0, .ptr 0 0)], [.blk 94 [.row 1 (o0.l).length, i64 o0.most], .row 9 1 (encL eStr o0.l), .ghost (gv 0) (.ptr 0 0), .ghost (gv 1) (.row 1 0)]⟩) (by kernel_rfl) ?_
  refine At.skip (norm ?_)
  refine At.seq ?_
  refine At.draw_end mixedOrd 0 [2] [0, 1, 2, 3] _ (st' := ⟨[(2, i64 (w64 (o0.most - ((o0.l).length : Int))))], [.blk 94 [.row 1 (o0.l).length, i64 o0.most], .row 9 1 (encL eStr o0.l), .ghost (gv 0) (.ptr 0 0), .ghost (gv 1) (.row 1 0)]⟩) (tips := [(0, { r := 4 }), (1, { r := 4 }), (2, { r := 4 }), (3, { T := [0], r := 4 }), (4, { r := 4 }), (5, { r := 4 }), (6, { r := 4 }), (7, { T := [0], r := 4 }), (8, { r := 4 })]) (by kernel_rfl) all0 (norm ?_)
  obtain rfl := some_eq h
  exact At.ret fun a w hs => ret_ok hR (ρ := [0, 1]) (gs := [.ghost (gv 0) (.ptr 0 0), .ghost (gv 1) (.row 1 0)]) (by kernel_rfl) all0 (by kernel_rfl) rfl rfl a w hs _ (.inl rfl)
set_option maxRecDepth 100000 in
theorem C_stack_Stack_string_Push_v2 (p1 : ByteArray) (o0 : T_stack_Stack_string_) (r : Bool × T_stack_Stack_string_) (h : F_stack_Stack_string_Push_v2 p1 o0 = some r) : FnOK Try.prog 34 [.ptr 0 0, sv p1] [.blk 94 [.row 1 (o0.l).length, i64 o0.most], .row 9 1 (encL eStr o0.l)] (bo r.1) [.blk 94 [.row 1 (r.2.l).length, i64 r.2.most], .row 9 1 (encL eStr r.2.l)] [1, 2, 3] := by
  rw [F_stack_Stack_string_Push_v2] at h
  refine FnOK.intro Try.func34 rfl (by kernel_rfl) (by kernel_rfl) fun E gv R hR => ?_
  refine At.seq ?_
  refine At.region_end [0, 1] [0, 1, 2, 3] _ (st' := ⟨[(0, .ptr 0 0), (1, sv p1)], [.blk 94 [.row 1 (o0.l).length, i64 o0.most], .row 9 1 (encL eStr o0.l), .ghost (gv 0) (.ptr 0 0), .ghost (gv 1) (.row 1 0)]⟩) (tips := []) (by kernel_rfl) all0 (norm ?_)
  refine At.seq ?_
  refine At.seq ?_
  obtain ⟨y5, hy5, h⟩ := bind_some h
  refine At.region_end [0, 1, 7] [0, 1, 2, 3] _ (st' := ⟨[(0, .ptr 0 0), (1, sv p1), (7, bo (y5 == 0))], [.blk 94 [.row 1 (o0.l).length, i64 o0.most], .row 9 1 (encL eStr o0.l), .ghost (gv 0) (.ptr 0 0), .ghost (gv 1) (.row 1 0)]⟩) (tips := [(1, { pc := some { ρ := [0, 1], n0 := 2, res := i64 y5, σ' := [.blk 94 [.row 1 (o0.l).length, i64 o0.most], .row 9 1 (encL eStr o0.l)], e := [1, 2] } })]) (by kernel_rfl) (allc (C_stack_Stack_string_Room_v2 o0 y5 hy5) all0) (norm ?_)
  refine At.cond (y5 == 0) (by kernel_rfl) (fun b6 => ?_) (fun b6 => ?_)
  · replace h := cond_t b6 h
    refine At.seq ?_
    refine At.region_end [4] [0, 1, 2, 3] _ (st' := ⟨[(4, bo false)], [.blk 94 [.row 1 (o0.l).length, i64 o0.most], .row 9 1 (encL eStr o0.l), .ghost (gv 0) (.ptr 0 0), .ghost (gv 1) (.row 1 0)]⟩) (tips := []) (by kernel_rfl) all0 (norm ?_)
    refine At.edNar [.hideG 3] [4] [0, 1, 2, 3] (st' := ⟨[(4, bo false)], [.blk 94 [.row 1 (o0.l).length, i64 o0.most], .row 9 1 (encL eStr o0.l), .ghost (gv 0) (.ptr 0 0), .ghost (gv 1) (.undef)]⟩) (by kernel_rfl) ?_
    obtain rfl := some_eq h
    exact At.ret fun a w hs => ret_ok hR (ρ := [0, 1]) (gs := [.ghost (gv 0) (.ptr 0 0), .ghost (gv 1) (.undef)]) (by kernel_rfl) all0 (by kernel_rfl) rfl rfl a w hs _ (.inl rfl)
  · replace h := cond_f b6 h
    refine At.nar [0, 1] [0, 1, 2, 3] (st' := ⟨[(0, .ptr 0 0), (1, sv p1)], [.blk 94 [.row 1 (o0.l).length, i64 o0.most], .row 9 1 (encL eStr o0.l), .ghost (gv 0) (.ptr 0 0), .ghost (gv 1) (.row 1 0)]⟩) (by kernel_rfl) ?_
    refine At.skip (norm ?_)
    refine At.seq ?_
    obtain ⟨g8, h⟩ := grd_some h
    refine At.region_end [] [0, 1, 2, 3] _ (st' := ⟨[], [.blk 94 [.row 1 ((o0.l ++ [p1])).length, i64 o0.most], .row 9 1 (encL eStr (o0.l ++ [p1])), .ghost (gv 0) (.ptr 0 0), .ghost (gv 1) (.undef)]⟩) (tips := [(7, { form := some ((o0.l ++ [p1]).length, encL eStr (o0.l ++ [p1])) })]) (by kernel_rfl) (allc (len_app o0.l ([p1])) (allc (encL_app eStr o0.l ([p1])) (allc (app_ok he_str (by decide) g8) (allc (encL_len he_str ([p1])) all0)))) (norm ?_)
    refine At.seq ?_
    refine At.region_end [4] [0, 1, 2, 3] _ (st' := ⟨[(4, bo true)], [.blk 94 [.row 1 ((o0.l ++ [p1])).length, i64 o0.most], .row 9 1 (encL eStr (o0.l ++ [p1])), .ghost (gv 0) (.ptr 0 0), .ghost (gv 1) (.undef)]⟩) (tips := []) (by kernel_rfl) all0 (norm ?_)
    obtain rfl := some_eq h
    exact At.ret fun a w hs => ret_ok hR (ρ := [0, 1]) (gs := [.ghost (gv 0) (.ptr 0 0), .ghost (gv 1) (.undef)]) (by kernel_rfl) all0 (by kernel_rfl) rfl rfl a w hs _ (.inl rfl)
set_option maxRecDepth 100000 in
theorem C_stack_Stack_string_Room_v3 (o0 : T_stack_Stack_string_) (r : Int) (h : F_stack_Stack_string_Room_v3 o0 = some r) : FnOK Try.prog 40 [.ptr 0 0] [.blk 94 [.d (.list true (o0.l).length (encL eStr o0.l)), i64 o0.most]] (i64 r) [.blk 94 [.d (.list true (o0.l).length (encL eStr o0.l)), i64 o0.most]] [1] := by
  rw [F_stack_Stack_string_Room_v3] at h
  refine FnOK.intro Try.func40 rfl (by kernel_rfl) (by kernel_rfl) fun E gv R hR => ?_
  refine At.seq ?_
  refine At.region_end [0] [0, 1] _ (st' := ⟨[(0, .ptr 0 0)], [.blk 94 [.d (.list true (o0.l).length (encL eStr o0.l)), i64 o0.most], .ghost (gv 0) (.ptr 0 0)]⟩) (tips := []) (by kernel_rfl) all0 (norm ?_)
  refine At.seq ?_
  refine At.seq ?_
  refine At.region_end [0, 4] [0, 1] _ (st' := ⟨[(0, .ptr 0 0), (4, bo false)], [.blk 94 [.d (.list true (o0.l).length (encL eStr o0.l)), i64 o0.most], .ghost (gv 0) (.ptr 0 0)]⟩) (tips := []) (by kernel_rfl) all0 (norm ?_)
  refine At.cond false (by kernel_rfl) (fun hb => by cases hb) (fun _ => ?_)
  refine At.nar [0] [0, 1] (st' := ⟨[(0, .ptr 0 0)], [.blk 94 [.d (.list true (o0.l).length (encL eStr o0.l)), i64 o0.most], .ghost (gv 0) (.ptr 0 0)]⟩) (by kernel_rfl) ?_
  refine At.skip (norm ?_)
  refine At.seq ?_
  refine At.draw_end mixedOrd 0 [2] [0, 1] _ (st' := ⟨[(2, i64 (w64 (o0.most - ((o0.l).length : Int))))], [.blk 94 [.d (.list true (o0.l).length (encL eStr o0.l)), i64 o0.most], .ghost (gv 0) (.ptr 0 0)]⟩) (tips := [(0, { r := 2 }), (1, { r := 2 }), (2, { r := 2 }), (3, { T := [0], r := 2 }), (4, { r := 2 }), (5, { r := 2 }), (6, { r := 2 }), (7, { T := [0], r := 2 }), (8, { r := 2 })]) (by kernel_rfl) all0 (norm ?_)
  obtain rfl := some_eq h
  exact At.ret fun a w hs => ret_ok hR (ρ := [0]) (gs := [.ghost (gv 0) (.ptr 0 0)]) (by kernel_rfl) all0 (by kernel_rfl) rfl rfl a w hs _ (.inl rfl)
set_option maxRecDepth 100000 in
theorem C_stack_Stack_string_Push_v3 (p1 : ByteArray) (o0 : T_stack_Stack_string_) (r : (Bool) ⊕ (Bool × T_stack_Stack_string_)) (h : F_stack_Stack_string_Push_v3 p1 o0 = some r) : FnOK Try.prog 34 [.ptr 0 0, sv p1] [.blk 94 [.d (.list true (o0.l).length (encL eStr o0.l)), i64 o0.most]] ((Sum.elim (fun r => bo r) (fun r => bo r.1)) r) ((Sum.elim (fun r => [.blk 94 [.d (.list true (o0.l).length (encL eStr o0.l)), i64 o0.most]]) (fun r => [.blk 94 [.row 1 (r.2.l).length, i64 r.2.most], .row 9 1 (encL eStr r.2.l)])) r) [1] := by
  rw [F_stack_Stack_string_Push_v3] at h
  refine FnOK.intro Try.func34 rfl (by kernel_rfl) (by kernel_rfl) fun E gv R hR => ?_
  refine At.seq ?_
  refine At.region_end [0, 1] [0, 1] _ (st' := ⟨[(0, .ptr 0 0), (1, sv p1)], [.blk 94 [.d (.list true (o0.l).length (encL eStr o0.l)), i64 o0.most], .ghost (gv 0) (.ptr 0 0)]⟩) (tips := []) (by kernel_rfl) all0 (norm ?_)
  refine At.seq ?_
  refine At.seq ?_
  obtain ⟨y5, hy5, h⟩ := bind_some h
  refine At.region_end [0, 1, 7] [0, 1] _ (st' := ⟨[(0, .ptr 0 0), (1, sv p1), (7, bo (y5 == 0))], [.blk 94 [.d (.list true (o0.l).length (encL eStr o0.l)), i64 o0.most], .ghost (gv 0) (.ptr 0 0)]⟩) (tips := [(1, { pc := some { ρ := [0], n0 := 1, loose := false, res := i64 y5, σ' := [.blk 94 [.d (.list true (o0.l).length (encL eStr o0.l)), i64 o0.most]], e := [1] } })]) (by kernel_rfl) (allc (C_stack_Stack_string_Room_v3 o0 y5 hy5) all0) (norm ?_)
  refine At.cond (y5 == 0) (by kernel_rfl) (fun b6 => ?_) (fun b6 => ?_)
  · replace h := cond_t b6 h
    refine At.seq ?_
    refine At.region_end [4] [0, 1] _ (st' := ⟨[(4, bo false)], [.blk 94 [.d (.list true (o0.l).length (encL eStr o0.l)), i64 o0.most], .ghost (gv 0) (.ptr 0 0)]⟩) (tips := []) (by kernel_rfl) all0 (norm ?_)
    obtain rfl := some_eq h
    exact At.ret fun a w hs => ret_ok hR (ρ := [0]) (gs := [.ghost (gv 0) (.ptr 0 0)]) (by kernel_rfl) all0 (by kernel_rfl) rfl rfl a w hs _ (.inl rfl)
  · replace h := cond_f b6 h
    refine At.nar [0, 1] [0, 1] (st' := ⟨[(0, .ptr 0 0), (1, sv p1)], [.blk 94 [.d (.list true (o0.l).length (encL eStr o0.l)), i64 o0.most], .ghost (gv 0) (.ptr 0 0)]⟩) (by kernel_rfl) ?_
    refine At.skip (norm ?_)
    refine At.seq ?_
    obtain ⟨g8, h⟩ := grd_some h
    refine At.region_end [] [0, 1, 3] _ (st' := ⟨[], [.blk 94 [.row 2 ((o0.l ++ [p1])).length, i64 o0.most], .ghost (gv 0) (.ptr 0 0), .row 9 1 (encL eStr (o0.l ++ [p1]))]⟩) (tips := [(7, { form := some ((o0.l ++ [p1]).length, encL eStr (o0.l ++ [p1])) })]) (by kernel_rfl) (allc (len_app o0.l ([p1])) (allc (encL_app eStr o0.l ([p1])) (allc (app_okT he_str (by decide) g8) (allc (encL_len he_str ([p1])) all0)))) (norm ?_)
    refine At.seq ?_
    refine At.region_end [4] [0, 1, 2] _ (st' := ⟨[(4, bo true)], [.blk 94 [.row 2 ((o0.l ++ [p1])).length, i64 o0.most], .ghost (gv 0) (.ptr 0 0), .row 9 1 (encL eStr (o0.l ++ [p1]))]⟩) (tips := []) (by kernel_rfl) all0 (norm ?_)
    obtain rfl := some_eq h
    exact At.ret fun a w hs => ret_ok hR (ρ := [0, 2]) (gs := [.ghost (gv 0) (.ptr 0 0)]) (by kernel_rfl) all0 (by kernel_rfl) rfl rfl a w hs _ (.inl rfl)
set_option maxRecDepth 100000 in
theorem C_stack_Stack_string_Len_v3 (o0 : T_stack_Stack_string_) (r : Int) (h : F_stack_Stack_string_Len_v3 o0 = some r) : FnOK Try.prog 39 [.ptr 0 0] [.blk 94 [.d (.list true (o0.l).length (encL eStr o0.l)), i64 o0.most]] (i64 r) [.blk 94 [.d (.list true (o0.l).length (encL eStr o0.l)), i64 o0.most]] [1] := by
  rw [F_stack_Stack_string_Len_v3] at h
  refine FnOK.intro Try.func39 rfl (by kernel_rfl) (by kernel_rfl) fun E gv R hR => ?_
  refine At.seq ?_
  refine At.region_end [0] [0, 1] _ (st' := ⟨[(0, .ptr 0 0)], [.blk 94 [.d (.list true (o0.l).length (encL eStr o0.l)), i64 o0.most], .ghost (gv 0) (.ptr 0 0)]⟩) (tips := []) (by kernel_rfl) all0 (norm ?_)
  refine At.seq ?_
  refine At.seq ?_
  refine At.region_end [0, 4] [0, 1] _ (st' := ⟨[(0, .ptr 0 0), (4, bo false)], [.blk 94 [.d (.list true (o0.l).length (encL eStr o0.l)), i64 o0.most], .ghost (gv 0) (.ptr 0 0)]⟩) (tips := []) (by kernel_rfl) all0 (norm ?_)
  refine At.cond false (by kernel_rfl) (fun hb => by cases hb) (fun _ => ?_)
  refine At.nar [0] [0, 1] (st' := ⟨[(0, .ptr 0 0)], [.blk 94 [.d (.list true (o0.l).length (encL eStr o0.l)), i64 o0.most], .ghost (gv 0) (.ptr 0 0)]⟩) (by kernel_rfl) ?_
  refine At.skip (norm ?_)
  refine At.seq ?_
  refine At.region_end [2] [0, 1] _ (st' := ⟨[(2, i64 ((o0.l).length : Int))], [.blk 94 [.d (.list true (o0.l).length (encL eStr o0.l)), i64 o0.most], .ghost (gv 0) (.ptr 0 0)]⟩) (tips := []) (by kernel_rfl) all0 (norm ?_)
  obtain rfl := some_eq h
  exact At.ret fun a w hs => ret_ok hR (ρ := [0]) (gs := [.ghost (gv 0) (.ptr 0 0)]) (by kernel_rfl) all0 (by kernel_rfl) rfl rfl a w hs _ (.inl rfl)
set_option maxRecDepth 100000 in
theorem C_stack_Stack_string_Take_v3 (p1 : Int) (o0 : T_stack_Stack_string_) (r : (List ByteArray) × Bool × T_stack_Stack_string_) (h : F_stack_Stack_string_Take_v3 p1 o0 = some r) : FnOK Try.prog 37 [.ptr 0 0, i64 p1] [.blk 94 [.d (.list true (o0.l).length (encL eStr o0.l)), i64 o0.most]] (.tup [.row 1 (r.1).length, bo r.2.1]) [.blk 94 [.d (.list true (r.2.2.l).length (encL eStr r.2.2.l)), i64 r.2.2.most], .row 9 1 (encL eStr r.1)] [1] := by
  rw [F_stack_Stack_string_Take_v3] at h
  refine FnOK.intro Try.func37 rfl (by kernel_rfl) (by kernel_rfl) fun E gv R hR => ?_
  refine At.seq ?_
  refine At.region_end [0, 1] [0, 1] _ (st' := ⟨[(0, .ptr 0 0), (1, i64 p1)], [.blk 94 [.d (.list true (o0.l).length (encL eStr o0.l)), i64 o0.most], .ghost (gv 0) (.ptr 0 0)]⟩) (tips := []) (by kernel_rfl) all0 (norm ?_)
  refine At.seq ?_
  obtain ⟨y2, hy2, h⟩ := bind_some h
  refine At.region_end [0, 1, 6] [0, 1] _ (st' := ⟨[(0, .ptr 0 0), (1, i64 p1), (6, i64 (w64 (y2 - p1)))], [.blk 94 [.d (.list true (o0.l).length (encL eStr o0.l)), i64 o0.most], .ghost (gv 0) (.ptr 0 0)]⟩) (tips := [(1, { pc := some { ρ := [0], n0 := 1, loose := false, res := i64 y2, σ' := [.blk 94 [.d (.list true (o0.l).length (encL eStr o0.l)), i64 o0.most]], e := [1] } })]) (by kernel_rfl) (allc (C_stack_Stack_string_Len_v3 o0 y2 hy2) all0) (norm ?_)
  refine At.seq ?_
  refine At.seqJ (S := Bool) (fun s => ⟨[(0, .ptr 0 0), (6, i64 (w64 (y2 - p1))), (21, bo s)], [.blk 94 [.d (.list true (o0.l).length (encL eStr o0.l)), i64 o0.most], .ghost (gv 0) (.ptr 0 0)]⟩) (fun s => F_stack_Stack_string_Take_v3_J1 p1 o0 y2 s = some r) ?_ ?_
  · rcases tf (decide (p1 < 0)) with b16 | b16
    · replace h := cond_t b16 h
      refine At.region_end [0, 6, 21] [0, 1] _ (st' := ⟨[(0, .ptr 0 0), (6, i64 (w64 (y2 - p1))), (21, bo true)], [.blk 94 [.d (.list true (o0.l).length (encL eStr o0.l)), i64 o0.most], .ghost (gv 0) (.ptr 0 0)]⟩) (tips := [(6, { orc := .val (.bool true) })]) (by kernel_rfl) (allc (congrArg D.bool b16) all0) (fun a w hs => ⟨true, h, hs⟩)
    · replace h := cond_f b16 h
      refine At.region_end [0, 6, 21] [0, 1] _ (st' := ⟨[(0, .ptr 0 0), (6, i64 (w64 (y2 - p1))), (21, bo (decide ((w64 (y2 - p1)) < 0)))], [.blk 94 [.d (.list true (o0.l).length (encL eStr o0.l)), i64 o0.most], .ghost (gv 0) (.ptr 0 0)]⟩) (tips := [(6, { orc := .val (.bool false) })]) (by kernel_rfl) (allc (congrArg D.bool b16) all0) (fun a w hs => ⟨(decide ((w64 (y2 - p1)) < 0)), h, hs⟩)
  · intro x8 h
    replace h : F_stack_Stack_string_Take_v3_J1 p1 o0 y2 x8 = some r := h
    rw [F_stack_Stack_string_Take_v3_J1] at h
    refine At.cond x8 (by kernel_rfl) (fun b9 => ?_) (fun b9 => ?_)
    · replace h := cond_t b9 h
      refine At.seq ?_
      refine At.region_end [4, 5] [0, 1] _ (st' := ⟨[(4, .d (.list true 0 [])), (5, bo false)], [.blk 94 [.d (.list true (o0.l).length (encL eStr o0.l)), i64 o0.most], .ghost (gv 0) (.ptr 0 0)]⟩) (tips := []) (by kernel_rfl) all0 (norm ?_)
      refine At.edNar [.ownS 4 9 1] [4, 5] [0, 1, 2] (st' := ⟨[(4, .row 2 ([] : List ByteArray).length), (5, bo false)], [.blk 94 [.d (.list true (o0.l).length (encL eStr o0.l)), i64 o0.most], .ghost (gv 0) (.ptr 0 0), .row 9 1 (encL eStr ([]))]⟩) (by kernel_rfl) ?_
      obtain rfl := some_eq h
      exact At.ret fun a w hs => ret_ok hR (ρ := [0, 2]) (gs := [.ghost (gv 0) (.ptr 0 0)]) (by kernel_rfl) all0 (by kernel_rfl) rfl rfl a w hs _ (.inl rfl)
    · replace h := cond_f b9 h
      refine At.nar [0, 6] [0, 1] (st' := ⟨[(0, .ptr 0 0), (6, i64 (w64 (y2 - p1)))], [.blk 94 [.d (.list true (o0.l).length (encL eStr o0.l)), i64 o0.most], .ghost (gv 0) (.ptr 0 0)]⟩) (by kernel_rfl) ?_
      refine At.skip (norm ?_)
      refine At.seq ?_
      obtain ⟨g12, h⟩ := grd_some h
      obtain ⟨y13, hy13, h⟩ := bind_some h
      refine At.region_end [0, 6, 7] [0, 1, 2] _ (st' := ⟨[(0, .ptr 0 0), (6, i64 (w64 (y2 - p1))), (7, .row 2 (y13).length)], [.blk 94 [.d (.list true (o0.l).length (encL eStr o0.l)), i64 o0.most], .ghost (gv 0) (.ptr 0 0), .row 9 1 (encL eStr y13)]⟩) (tips := [(5, { form := some ((lCut o0.l (w64 (y2 - p1)) ((o0.l).length : Int)).length, encL eStr (lCut o0.l (w64 (y2 - p1)) ((o0.l).length : Int))) }), (6, { pc := some { ρ := [2], n0 := 0, res := .row 0 (y13).length, σ' := [.row 9 1 (encL eStr y13)], e := [] } })]) (by kernel_rfl) (allc ((cut_ok he_str g12).1) (allc ((cut_ok he_str g12).2) (allc g12 (allc (C_slices_Clone_string_string (lCut o0.l (w64 (y2 - p1)) ((o0.l).length : Int)) y13 hy13) all0)))) (norm ?_)
      refine At.seq ?_
      obtain ⟨g15, h⟩ := grd_some h
      refine At.region_end [7] [0, 1, 2] _ (st' := ⟨[(7, .row 2 (y13).length)], [.blk 94 [.d (.list true ((lCut o0.l 0 (w64 (y2 - p1)))).length (encL eStr (lCut o0.l 0 (w64 (y2 - p1))))), i64 o0.most], .ghost (gv 0) (.ptr 0 0), .row 9 1 (encL eStr y13)]⟩) (tips := [(7, { form := some ((lCut o0.l 0 (w64 (y2 - p1))).length, encL eStr (lCut o0.l 0 (w64 (y2 - p1)))) })]) (by kernel_rfl) (allc ((cut_ok3 he_str g15).1) (allc ((cut_ok3 he_str g15).2) (allc g15 all0))) (norm ?_)
      refine At.seq ?_
      refine At.region_end [4, 5] [0, 1, 2] _ (st' := ⟨[(4, .row 2 (y13).length), (5, bo true)], [.blk 94 [.d (.list true ((lCut o0.l 0 (w64 (y2 - p1)))).length (encL eStr (lCut o0.l 0 (w64 (y2 - p1))))), i64 o0.most], .ghost (gv 0) (.ptr 0 0), .row 9 1 (encL eStr y13)]⟩) (tips := []) (by kernel_rfl) all0 (norm ?_)
      obtain rfl := some_eq h
      exact At.ret fun a w hs => ret_ok hR (ρ := [0, 2]) (gs := [.ghost (gv 0) (.ptr 0 0)]) (by kernel_rfl) all0 (by kernel_rfl) rfl rfl a w hs _ (.inl rfl)
set_option maxRecDepth 100000 in
theorem C_stack_New_int (p0 : Int) (r : T_stack_Stack_int_) (h : F_stack_New_int p0 = some r) : FnOK Try.prog 46 [i64 p0] [] (.ptr 0 0) [.blk 98 [.d (.list true 0 []), i64 r.most]] [] := by
  rw [F_stack_New_int] at h
  refine FnOK.intro Try.func46 rfl (by kernel_rfl) (by kernel_rfl) fun E gv R hR => ?_
  refine At.seq ?_
  refine At.region_end [0] [] _ (st' := ⟨[(0, i64 p0)], []⟩) (tips := []) (by kernel_rfl) all0 (norm ?_)
  refine At.seq ?_
  refine At.region_end [2] [0] _ (st' := ⟨[(2, .ptr 0 0)], [.blk 98 [.d (.list true 0 []), i64 (if 0 > p0 then 0 else p0)]]⟩) (tips := []) (by kernel_rfl) all0 (norm ?_)
  obtain rfl := some_eq h
  exact At.ret fun a w hs => ret_ok hR (ρ := [0]) (gs := []) (by kernel_rfl) all0 (by kernel_rfl) rfl rfl a w hs _ (.inl rfl)
set_option maxRecDepth 100000 in
theorem C_stack_Stack_int_Room (o0 : T_stack_Stack_int_) (r : Int) (h : F_stack_Stack_int_Room o0 = some r) : FnOK Try.prog 50 [.ptr 0 0] [.blk 98 [.row 1 (o0.l).length, i64 o0.most], .row 3 1 (encL (eInt .i64) o0.l)] (i64 r) [.blk 98 [.row 1 (o0.l).length, i64 o0.most], .row 3 1 (encL (eInt .i64) o0.l)] [1, 2] := by
  rw [F_stack_Stack_int_Room] at h
  refine FnOK.intro Try.func50 rfl (by kernel_rfl) (by kernel_rfl) fun E gv R hR => ?_
  refine At.seq ?_
  refine At.region_end [0] [0, 1, 2, 3] _ (st' := ⟨[(0, .ptr 0 0)], [.blk 98 [.row 1 (o0.l).length, i64 o0.most], .row 3 1 (encL (eInt .i64) o0.l), .ghost (gv 0) (.ptr 0 0), .ghost (gv 1) (.row 1 0)]⟩) (tips := []) (by kernel_rfl) all0 (norm ?_)
  refine At.seq ?_
  refine At.seq ?_
  refine At.region_end [0, 4] [0, 1, 2, 3] _ (st' := ⟨[(0, .ptr 0 0), (4, bo false)], [.blk 98 [.row 1 (o0.l).length, i64 o0.most], .row 3 1 (encL (eInt .i64) o0.l), .ghost (gv 0) (.ptr 0 0), .ghost (gv 1) (.row 1 0)]⟩) (tips := []) (by kernel_rfl) all0 (norm ?_)
  refine At.cond false (by kernel_rfl) (fun hb => by cases hb) (fun _ => ?_)
  refine At.nar [0] [0, 1, 2, 3] (st' := ⟨[(0, .ptr 0 0)], [.blk 98 [.row 1 (o0.l).length, i64 o0.most], .row 3 1 (encL (eInt .i64) o0.l), .ghost (gv 0) (.ptr 0 0), .ghost (gv 1) (.row 1 0)]⟩) (by kernel_rfl) ?_
  refine At.skip (norm ?_)
  refine At.seq ?_
  refine At.draw_end mixedOrd 0 [2] [0, 1, 2, 3] _ (st' := ⟨[(2, i64 (w64 (o0.most - ((o0.l).length : Int))))], [.blk 98 [.row 1 (o0.l).length, i64 o0.most], .row 3 1 (encL (eInt .i64) o0.l), .ghost (gv 0) (.ptr 0 0), .ghost (gv 1) (.row 1 0)]⟩) (tips := [(0, { r := 4 }), (1, { r := 4 }), (2, { r := 4 }), (3, { T := [0], r := 4 }), (4, { r := 4 }), (5, { r := 4 }), (6, { r := 4 }), (7, { T := [0], r := 4 }), (8, { r := 4 })]) (by kernel_rfl) all0 (norm ?_)
  obtain rfl := some_eq h
  exact At.ret fun a w hs => ret_ok hR (ρ := [0, 1]) (gs := [.ghost (gv 0) (.ptr 0 0), .ghost (gv 1) (.row 1 0)]) (by kernel_rfl) all0 (by kernel_rfl) rfl rfl a w hs _ (.inl rfl)
set_option maxRecDepth 100000 in
theorem C_stack_Stack_int_Push (p1 : Int) (o0 : T_stack_Stack_int_) (r : Bool × T_stack_Stack_int_) (h : F_stack_Stack_int_Push p1 o0 = some r) : FnOK Try.prog 47 [.ptr 0 0, i64 p1] [.blk 98 [.row 1 (o0.l).length, i64 o0.most], .row 3 1 (encL (eInt .i64) o0.l)] (bo r.1) [.blk 98 [.row 1 (r.2.l).length, i64 r.2.most], .row 3 1 (encL (eInt .i64) r.2.l)] [1, 2, 3] := by
  rw [F_stack_Stack_int_Push] at h
  refine FnOK.intro Try.func47 rfl (by kernel_rfl) (by kernel_rfl) fun E gv R hR => ?_
  refine At.seq ?_
  refine At.region_end [0, 1] [0, 1, 2, 3] _ (st' := ⟨[(0, .ptr 0 0), (1, i64 p1)], [.blk 98 [.row 1 (o0.l).length, i64 o0.most], .row 3 1 (encL (eInt .i64) o0.l), .ghost (gv 0) (.ptr 0 0), .ghost (gv 1) (.row 1 0)]⟩) (tips := []) (by kernel_rfl) all0 (norm ?_)
  refine At.seq ?_
  refine At.seq ?_
  obtain ⟨y5, hy5, h⟩ := bind_some h
  refine At.region_end [0, 1, 7] [0, 1, 2, 3] _ (st' := ⟨[(0, .ptr 0 0), (1, i64 p1), (7, bo (y5 == 0))], [.blk 98 [.row 1 (o0.l).length, i64 o0.most], .row 3 1 (encL (eInt .i64) o0.l), .ghost (gv 0) (.ptr 0 0), .ghost (gv 1) (.row 1 0)]⟩) (tips := [(1, { pc := some { ρ := [0, 1], n0 := 2, res := i64 y5, σ' := [.blk 98 [.row 1 (o0.l).length, i64 o0.most], .row 3 1 (encL (eInt .i64) o0.l)], e := [1, 2] } })]) (by kernel_rfl) (allc (C_stack_Stack_int_Room o0 y5 hy5) all0) (norm ?_)
  refine At.cond (y5 == 0) (by kernel_rfl) (fun b6 => ?_) (fun b6 => ?_)
  · replace h := cond_t b6 h
    refine At.seq ?_
    refine At.region_end [4] [0, 1, 2, 3] _ (st' := ⟨[(4, bo false)], [.blk 98 [.row 1 (o0.l).length, i64 o0.most], .row 3 1 (encL (eInt .i64) o0.l), .ghost (gv 0) (.ptr 0 0), .ghost (gv 1) (.row 1 0)]⟩) (tips := []) (by kernel_rfl) all0 (norm ?_)
    refine At.edNar [.hideG 3] [4] [0, 1, 2, 3] (st' := ⟨[(4, bo false)], [.blk 98 [.row 1 (o0.l).length, i64 o0.most], .row 3 1 (encL (eInt .i64) o0.l), .ghost (gv 0) (.ptr 0 0), .ghost (gv 1) (.undef)]⟩) (by kernel_rfl) ?_
    obtain rfl := some_eq h
    exact At.ret fun a w hs => ret_ok hR (ρ := [0, 1]) (gs := [.ghost (gv 0) (.ptr 0 0), .ghost (gv 1) (.undef)]) (by kernel_rfl) all0 (by kernel_rfl) rfl rfl a w hs _ (.inl rfl)
  · replace h := cond_f b6 h
    refine At.nar [0, 1] [0, 1, 2, 3] (st' := ⟨[(0, .ptr 0 0), (1, i64 p1)], [.blk 98 [.row 1 (o0.l).length, i64 o0.most], .row 3 1 (encL (eInt .i64) o0.l), .ghost (gv 0) (.ptr 0 0), .ghost (gv 1) (.row 1 0)]⟩) (by kernel_rfl) ?_
    refine At.skip (norm ?_)
    refine At.seq ?_
    obtain ⟨g8, h⟩ := grd_some h
    refine At.region_end [] [0, 1, 2, 3] _ (st' := ⟨[], [.blk 98 [.row 1 ((o0.l ++ [p1])).length, i64 o0.most], .row 3 1 (encL (eInt .i64) (o0.l ++ [p1])), .ghost (gv 0) (.ptr 0 0), .ghost (gv 1) (.undef)]⟩) (tips := [(7, { form := some ((o0.l ++ [p1]).length, encL (eInt .i64) (o0.l ++ [p1])) })]) (by kernel_rfl) (allc (len_app o0.l ([p1])) (allc (encL_app (eInt .i64) o0.l ([p1])) (allc (app_ok (he_int .i64) (by decide) g8) (allc (encL_len (he_int .i64) ([p1])) all0)))) (norm ?_)
    refine At.seq ?_
    refine At.region_end [4] [0, 1, 2, 3] _ (st' := ⟨[(4, bo true)], [.blk 98 [.row 1 ((o0.l ++ [p1])).length, i64 o0.most], .row 3 1 (encL (eInt .i64) (o0.l ++ [p1])), .ghost (gv 0) (.ptr 0 0), .ghost (gv 1) (.undef)]⟩) (tips := []) (by kernel_rfl) all0 (norm ?_)
    obtain rfl := some_eq h
    exact At.ret fun a w hs => ret_ok hR (ρ := [0, 1]) (gs := [.ghost (gv 0) (.ptr 0 0), .ghost (gv 1) (.undef)]) (by kernel_rfl) all0 (by kernel_rfl) rfl rfl a w hs _ (.inl rfl)
set_option maxRecDepth 100000 in
theorem C_stack_Stack_int_Len (o0 : T_stack_Stack_int_) (r : Int) (h : F_stack_Stack_int_Len o0 = some r) : FnOK Try.prog 49 [.ptr 0 0] [.blk 98 [.row 1 (o0.l).length, i64 o0.most], .row 3 1 (encL (eInt .i64) o0.l)] (i64 r) [.blk 98 [.row 1 (o0.l).length, i64 o0.most], .row 3 1 (encL (eInt .i64) o0.l)] [1, 2] := by
  rw [F_stack_Stack_int_Len] at h
  refine FnOK.intro Try.func49 rfl (by kernel_rfl) (by kernel_rfl) fun E gv R hR => ?_
  refine At.seq ?_
  refine At.region_end [0] [0, 1, 2, 3] _ (st' := ⟨[(0, .ptr 0 0)], [.blk 98 [.row 1 (o0.l).length, i64 o0.most], .row 3 1 (encL (eInt .i64) o0.l), .ghost (gv 0) (.ptr 0 0), .ghost (gv 1) (.row 1 0)]⟩) (tips := []) (by kernel_rfl) all0 (norm ?_)
  refine At.seq ?_
  refine At.seq ?_
  refine At.region_end [0, 4] [0, 1, 2, 3] _ (st' := ⟨[(0, .ptr 0 0), (4, bo false)], [.blk 98 [.row 1 (o0.l).length, i64 o0.most], .row 3 1 (encL (eInt .i64) o0.l), .ghost (gv 0) (.ptr 0 0), .ghost (gv 1) (.row 1 0)]⟩) (tips := []) (by kernel_rfl) all0 (norm ?_)
  refine At.cond false (by kernel_rfl) (fun hb => by cases hb) (fun _ => ?_)
  refine At.nar [0] [0, 1, 2, 3] (st' := ⟨[(0, .ptr 0 0)], [.blk 98 [.row 1 (o0.l).length, i64 o0.most], .row 3 1 (encL (eInt .i64) o0.l), .ghost (gv 0) (.ptr 0 0), .ghost (gv 1) (.row 1 0)]⟩) (by kernel_rfl) ?_
  refine At.skip (norm ?_)
  refine At.seq ?_
  refine At.region_end [2] [0, 1, 2, 3] _ (st' := ⟨[(2, i64 ((o0.l).length : Int))], [.blk 98 [.row 1 (o0.l).length, i64 o0.most], .row 3 1 (encL (eInt .i64) o0.l), .ghost (gv 0) (.ptr 0 0), .ghost (gv 1) (.row 1 0)]⟩) (tips := []) (by kernel_rfl) all0 (norm ?_)
  obtain rfl := some_eq h
  exact At.ret fun a w hs => ret_ok hR (ρ := [0, 1]) (gs := [.ghost (gv 0) (.ptr 0 0), .ghost (gv 1) (.row 1 0)]) (by kernel_rfl) all0 (by kernel_rfl) rfl rfl a w hs _ (.inl rfl)
set_option maxRecDepth 100000 in
theorem C_slices_Clone_int_int (p0 : (List Int)) (r : (List Int)) (h : F_slices_Clone_int_int p0 = some r) : FnOK Try.prog 54 [lv (eInt .i64) p0] [] (.row 0 (r).length) [.row 3 1 (encL (eInt .i64) r)] [] := by
  rw [F_slices_Clone_int_int] at h
  refine FnOK.intro Try.func54 rfl (by kernel_rfl) (by kernel_rfl) fun E gv R hR => ?_
  refine At.seq ?_
  refine At.region_end [0] [] _ (st' := ⟨[(0, lv (eInt .i64) p0)], []⟩) (tips := []) (by kernel_rfl) all0 (norm ?_)
  refine At.seq ?_
  refine At.seq ?_
  refine At.nilEq (t0 := 0) (t3 := 3) (t4 := 4) (e := 3) (tt := false) (k := (p0).length) (xs := encL (eInt .i64) p0) rfl rfl rfl rfl rfl rfl (by decide) (by decide) (by kernel_rfl) (by kernel_rfl) ?_
  rintro (_ | _) hk
  · refine norm ?_
    refine At.nar [0, 4] [] (st' := ⟨[(0, lv (eInt .i64) p0), (4, bo false)], []⟩) (by kernel_rfl) ?_
    refine At.cond false (by kernel_rfl) (fun hb => by cases hb) (fun _ => ?_)
    refine At.nar [0] [] (st' := ⟨[(0, lv (eInt .i64) p0)], []⟩) (by kernel_rfl) ?_
    refine At.skip (norm ?_)
    refine At.seq ?_
    obtain ⟨g2, h⟩ := grd_some h
    refine At.region_end [2] [0] _ (st' := ⟨[(2, .row 0 ((([] : List Int) ++ p0)).length)], [.row 3 1 (encL (eInt .i64) (([] : List Int) ++ p0))]⟩) (tips := [(2, { form := some ((([] : List Int) ++ p0).length, encL (eInt .i64) (([] : List Int) ++ p0)) })]) (by kernel_rfl) (allc (len_app ([] : List Int) p0) (allc (encL_app (eInt .i64) ([] : List Int) p0) (allc (app_ok (he_int .i64) (by decide) g2) (allc (encL_len (he_int .i64) p0) all0)))) (norm ?_)
    obtain rfl := some_eq h
    exact At.ret fun a w hs => ret_ok hR (ρ := [0]) (gs := []) (by kernel_rfl) all0 (by kernel_rfl) rfl rfl a w hs _ (.inl rfl)
  · obtain rfl := List.length_eq_zero_iff.1 (hk rfl)
    obtain ⟨_, h⟩ := grd_some h
    refine norm ?_
    refine At.nar [0, 4] [] (st' := ⟨[(0, lv (eInt .i64) ([] : List Int)), (4, bo true)], []⟩) (by kernel_rfl) ?_
    refine At.cond true (by kernel_rfl) (fun _ => ?_) (fun hb => by cases hb)
    refine At.seq ?_
    refine At.region_end [2] [] _ (st' := ⟨[(2, .d (.list true 0 []))], []⟩) (tips := []) (by kernel_rfl) all0 (norm ?_)
    refine At.edNar [.ownS 2 3 1] [2] [0] (st' := ⟨[(2, .row 0 ([] : List Int).length)], [.row 3 1 (encL (eInt .i64) ([]))]⟩) (by kernel_rfl) ?_
    obtain rfl := some_eq h
    exact At.ret fun a w hs => ret_ok hR (ρ := [0]) (gs := []) (by kernel_rfl) all0 (by kernel_rfl) rfl rfl a w hs _ (.inl rfl)
set_option maxRecDepth 100000 in
theorem C_stack_Stack_int_Take (p1 : Int) (o0 : T_stack_Stack_int_) (r : ((List Int) × Bool) ⊕ ((List Int) × Bool × T_stack_Stack_int_)) (h : F_stack_Stack_int_Take p1 o0 = some r) : FnOK Try.prog 48 [.ptr 0 0, i64 p1] [.blk 98 [.row 1 (o0.l).length, i64 o0.most], .row 3 1 (encL (eInt .i64) o0.l)] ((Sum.elim (fun r => .tup [.row 2 (r.1).length, bo r.2]) (fun r => .tup [.row 2 (r.1).length, bo r.2.1])) r) ((Sum.elim (fun r => [.blk 98 [.row 1 (o0.l).length, i64 o0.most], .row 3 1 (encL (eInt .i64) o0.l), .row 3 1 (encL (eInt .i64) r.1)]) (fun r => [.blk 98 [.d (.list true (r.2.2.l).length (encL (eInt .i64) r.2.2.l)), i64 r.2.2.most], .dead, .row 3 1 (encL (eInt .i64) r.1)])) r) [1, 2, 3] := by
  rw [F_stack_Stack_int_Take] at h
  refine FnOK.intro Try.func48 rfl (by kernel_rfl) (by kernel_rfl) fun E gv R hR => ?_
  refine At.seq ?_
  refine At.region_end [0, 1] [0, 1, 2, 3] _ (st' := ⟨[(0, .ptr 0 0), (1, i64 p1)], [.blk 98 [.row 1 (o0.l).length, i64 o0.most], .row 3 1 (encL (eInt .i64) o0.l), .ghost (gv 0) (.ptr 0 0), .ghost (gv 1) (.row 1 0)]⟩) (tips := []) (by kernel_rfl) all0 (norm ?_)
  refine At.seq ?_
  obtain ⟨y2, hy2, h⟩ := bind_some h
  refine At.region_end [0, 1, 6] [0, 1, 2, 3] _ (st' := ⟨[(0, .ptr 0 0), (1, i64 p1), (6, i64 (w64 (y2 - p1)))], [.blk 98 [.row 1 (o0.l).length, i64 o0.most], .row 3 1 (encL (eInt .i64) o0.l), .ghost (gv 0) (.ptr 0 0), .ghost (gv 1) (.row 1 0)]⟩) (tips := [(1, { pc := some { ρ := [0, 1], n0 := 2, res := i64 y2, σ' := [.blk 98 [.row 1 (o0.l).length, i64 o0.most], .row 3 1 (encL (eInt .i64) o0.l)], e := [1, 2] } })]) (by kernel_rfl) (allc (C_stack_Stack_int_Len o0 y2 hy2) all0) (norm ?_)
  refine At.seq ?_
  refine At.seqJ (S := Bool) (fun s => ⟨[(0, .ptr 0 0), (6, i64 (w64 (y2 - p1))), (21, bo s)], [.blk 98 [.row 1 (o0.l).length, i64 o0.most], .row 3 1 (encL (eInt .i64) o0.l), .ghost (gv 0) (.ptr 0 0), .ghost (gv 1) (.row 1 0)]⟩) (fun s => F_stack_Stack_int_Take_J1 p1 o0 y2 s = some r) ?_ ?_
  · rcases tf (decide (p1 < 0)) with b16 | b16
    · replace h := cond_t b16 h
      refine At.region_end [0, 6, 21] [0, 1, 2, 3] _ (st' := ⟨[(0, .ptr 0 0), (6, i64 (w64 (y2 - p1))), (21, bo true)], [.blk 98 [.row 1 (o0.l).length, i64 o0.most], .row 3 1 (encL (eInt .i64) o0.l), .ghost (gv 0) (.ptr 0 0), .ghost (gv 1) (.row 1 0)]⟩) (tips := [(6, { orc := .val (.bool true) })]) (by kernel_rfl) (allc (congrArg D.bool b16) all0) (fun a w hs => ⟨true, h, hs⟩)
    · replace h := cond_f b16 h
      refine At.region_end [0, 6, 21] [0, 1, 2, 3] _ (st' := ⟨[(0, .ptr 0 0), (6, i64 (w64 (y2 - p1))), (21, bo (decide ((w64 (y2 - p1)) < 0)))], [.blk 98 [.row 1 (o0.l).length, i64 o0.most], .row 3 1 (encL (eInt .i64) o0.l), .ghost (gv 0) (.ptr 0 0), .ghost (gv 1) (.row 1 0)]⟩) (tips := [(6, { orc := .val (.bool false) })]) (by kernel_rfl) (allc (congrArg D.bool b16) all0) (fun a w hs => ⟨(decide ((w64 (y2 - p1)) < 0)), h, hs⟩)
  · intro x8 h
    replace h : F_stack_Stack_int_Take_J1 p1 o0 y2 x8 = some r := h
    rw [F_stack_Stack_int_Take_J1] at h
    refine At.cond x8 (by kernel_rfl) (fun b9 => ?_) (fun b9 => ?_)
    · replace h := cond_t b9 h
      refine At.seq ?_
      refine At.region_end [4, 5] [0, 1, 2, 3] _ (st' := ⟨[(4, .d (.list true 0 [])), (5, bo false)], [.blk 98 [.row 1 (o0.l).length, i64 o0.most], .row 3 1 (encL (eInt .i64) o0.l), .ghost (gv 0) (.ptr 0 0), .ghost (gv 1) (.row 1 0)]⟩) (tips := []) (by kernel_rfl) all0 (norm ?_)
      refine At.edNar [.hideG 3, .ownS 4 3 1] [4, 5] [0, 1, 2, 3, 4] (st' := ⟨[(4, .row 4 ([] : List Int).length), (5, bo false)], [.blk 98 [.row 1 (o0.l).length, i64 o0.most], .row 3 1 (encL (eInt .i64) o0.l), .ghost (gv 0) (.ptr 0 0), .ghost (gv 1) (.undef), .row 3 1 (encL (eInt .i64) ([]))]⟩) (by kernel_rfl) ?_
      obtain rfl := some_eq h
      exact At.ret fun a w hs => ret_ok hR (ρ := [0, 1, 4]) (gs := [.ghost (gv 0) (.ptr 0 0), .ghost (gv 1) (.undef)]) (by kernel_rfl) all0 (by kernel_rfl) rfl rfl a w hs _ (.inl rfl)
    · replace h := cond_f b9 h
      refine At.nar [0, 6] [0, 1, 2, 3] (st' := ⟨[(0, .ptr 0 0), (6, i64 (w64 (y2 - p1)))], [.blk 98 [.row 1 (o0.l).length, i64 o0.most], .row 3 1 (encL (eInt .i64) o0.l), .ghost (gv 0) (.ptr 0 0), .ghost (gv 1) (.row 1 0)]⟩) (by kernel_rfl) ?_
      refine At.skip (norm ?_)
      refine At.seq ?_
      obtain ⟨g12, h⟩ := grd_some h
      obtain ⟨y13, hy13, h⟩ := bind_some h
      refine At.region_end [0, 6, 7] [0, 1, 2, 3, 4] _ (st' := ⟨[(0, .ptr 0 0), (6, i64 (w64 (y2 - p1))), (7, .row 4 (y13).length)], [.blk 98 (T_stack_Stack_int_.pvs o0), .dead, .ghost (gv 0) (.ptr 0 0), .ghost (gv 1) (.d (.list false 0 (encL (eInt .i64) o0.l))), .row 3 1 (encL (eInt .i64) y13)]⟩) (tips := [(5, { form := some ((lCut o0.l (w64 (y2 - p1)) ((o0.l).length : Int)).length, encL (eInt .i64) (lCut o0.l (w64 (y2 - p1)) ((o0.l).length : Int))) }), (6, { pc := some { ρ := [4], n0 := 0, res := .row 0 (y13).length, σ' := [.row 3 1 (encL (eInt .i64) y13)], e := [] } })]) (by kernel_rfl) (allc ((cut_ok (he_int .i64) g12).1) (allc ((cut_ok (he_int .i64) g12).2) (allc g12 (allc (C_slices_Clone_int_int (lCut o0.l (w64 (y2 - p1)) ((o0.l).length : Int)) y13 hy13) all0)))) (norm ?_)
      refine At.seq ?_
      obtain ⟨g15, h⟩ := grd_some h
      refine At.region_end [7] [0, 1, 2, 3, 4] _ (st' := ⟨[(7, .row 4 (y13).length)], [.blk 98 [.d (.list true ((lCut o0.l 0 (w64 (y2 - p1)))).length (encL (eInt .i64) (lCut o0.l 0 (w64 (y2 - p1))))), i64 o0.most], .dead, .ghost (gv 0) (.ptr 0 0), .ghost (gv 1) (.d (.list false 0 (encL (eInt .i64) o0.l))), .row 3 1 (encL (eInt .i64) y13)]⟩) (tips := [(7, { form := some ((lCut o0.l 0 (w64 (y2 - p1))).length, encL (eInt .i64) (lCut o0.l 0 (w64 (y2 - p1)))) })]) (by kernel_rfl) (allc ((cut_ok3 (he_int .i64) g15).1) (allc ((cut_ok3 (he_int .i64) g15).2) (allc g15 all0))) (norm ?_)
      refine At.seq ?_
      refine At.region_end [4, 5] [0, 1, 2, 3, 4] _ (st' := ⟨[(4, .row 4 (y13).length), (5, bo true)], [.blk 98 [.d (.list true ((lCut o0.l 0 (w64 (y2 - p1)))).length (encL (eInt .i64) (lCut o0.l 0 (w64 (y2 - p1))))), i64 o0.most], .dead, .ghost (gv 0) (.ptr 0 0), .ghost (gv 1) (.d (.list false 0 (encL (eInt .i64) o0.l))), .row 3 1 (encL (eInt .i64) y13)]⟩) (tips := []) (by kernel_rfl) all0 (norm ?_)
      refine At.edNar [.hideG 3] [4, 5] [0, 1, 2, 3, 4] (st' := ⟨[(4, .row 4 (y13).length), (5, bo true)], [.blk 98 [.d (.list true ((lCut o0.l 0 (w64 (y2 - p1)))).length (encL (eInt .i64) (lCut o0.l 0 (w64 (y2 - p1))))), i64 o0.most], .dead, .ghost (gv 0) (.ptr 0 0), .ghost (gv 1) (.undef), .row 3 1 (encL (eInt .i64) y13)]⟩) (by kernel_rfl) ?_
      obtain rfl := some_eq h
      exact At.ret fun a w hs => ret_ok hR (ρ := [0, 1, 4]) (gs := [.ghost (gv 0) (.ptr 0 0), .ghost (gv 1) (.undef)]) (by kernel_rfl) all0 (by kernel_rfl) rfl rfl a w hs _ (.inl rfl)
set_option maxRecDepth 100000 in
theorem C_stack_Stack_int_Len_v2 (o0 : T_stack_Stack_int_) (r : Int) (h : F_stack_Stack_int_Len_v2 o0 = some r) : FnOK Try.prog 49 [.ptr 0 0] [.blk 98 [.d (.list true (o0.l).length (encL (eInt .i64) o0.l)), i64 o0.most]] (i64 r) [.blk 98 [.d (.list true (o0.l).length (encL (eInt .i64) o0.l)), i64 o0.most]] [1] := by
  rw [F_stack_Stack_int_Len_v2] at h
  refine FnOK.intro Try.func49 rfl (by kernel_rfl) (by kernel_rfl) fun E gv R hR => ?_
  refine At.seq ?_
  refine At.region_end [0] [0, 1] _ (st' := ⟨[(0, .ptr 0 0)], [.blk 98 [.d (.list true (o0.l).length (encL (eInt .i64) o0.l)), i64 o0.most], .ghost (gv 0) (.ptr 0 0)]⟩) (tips := []) (by kernel_rfl) all0 (norm ?_)
  refine At.seq ?_
  refine At.seq ?_
  refine At.region_end [0, 4] [0, 1] _ (st' := ⟨[(0, .ptr 0 0), (4, bo false)], [.blk 98 [.d (.list true (o0.l).length (encL (eInt .i64) o0.l)), i64 o0.most], .ghost (gv 0) (.ptr 0 0)]⟩) (tips := []) (by kernel_rfl) all0 (norm ?_)
  refine At.cond false (by kernel_rfl) (fun hb => by cases hb) (fun _ => ?_)
  refine At.nar [0] [0, 1] (st' := ⟨[(0, .ptr 0 0)], [.blk 98 [.d (.list true (o0.l).length (encL (eInt .i64) o0.l)), i64 o0.most], .ghost (gv 0) (.ptr 0 0)]⟩) (by kernel_rfl) ?_
  refine At.skip (norm ?_)
  refine At.seq ?_
  refine At.region_end [2] [0, 1] _ (st' := ⟨[(2, i64 ((o0.l).length : Int))], [.blk 98 [.d (.list true (o0.l).length (encL (eInt .i64) o0.l)), i64 o0.most], .ghost (gv 0) (.ptr 0 0)]⟩) (tips := []) (by kernel_rfl) all0 (norm ?_)
  obtain rfl := some_eq h
  exact At.ret fun a w hs => ret_ok hR (ρ := [0]) (gs := [.ghost (gv 0) (.ptr 0 0)]) (by kernel_rfl) all0 (by kernel_rfl) rfl rfl a w hs _ (.inl rfl)
set_option maxRecDepth 100000 in
theorem C_stack_Stack_int_Room_v2 (o0 : T_stack_Stack_int_) (r : Int) (h : F_stack_Stack_int_Room_v2 o0 = some r) : FnOK Try.prog 50 [.ptr 0 0] [.blk 98 [.d (.list true (o0.l).length (encL (eInt .i64) o0.l)), i64 o0.most]] (i64 r) [.blk 98 [.d (.list true (o0.l).length (encL (eInt .i64) o0.l)), i64 o0.most]] [1] := by
  rw [F_stack_Stack_int_Room_v2] at h
  refine FnOK.intro Try.func50 rfl (by kernel_rfl) (by kernel_rfl) fun E gv R hR => ?_
  refine At.seq ?_
  refine At.region_end [0] [0, 1] _ (st' := ⟨[(0, .ptr 0 0)], [.blk 98 [.d (.list true (o0.l).length (encL (eInt .i64) o0.l)), i64 o0.most], .ghost (gv 0) (.ptr 0 0)]⟩) (tips := []) (by kernel_rfl) all0 (norm ?_)
  refine At.seq ?_
  refine At.seq ?_
  refine At.region_end [0, 4] [0, 1] _ (st' := ⟨[(0, .ptr 0 0), (4, bo false)], [.blk 98 [.d (.list true (o0.l).length (encL (eInt .i64) o0.l)), i64 o0.most], .ghost (gv 0) (.ptr 0 0)]⟩) (tips := []) (by kernel_rfl) all0 (norm ?_)
  refine At.cond false (by kernel_rfl) (fun hb => by cases hb) (fun _ => ?_)
  refine At.nar [0] [0, 1] (st' := ⟨[(0, .ptr 0 0)], [.blk 98 [.d (.list true (o0.l).length (encL (eInt .i64) o0.l)), i64 o0.most], .ghost (gv 0) (.ptr 0 0)]⟩) (by kernel_rfl) ?_
  refine At.skip (norm ?_)
  refine At.seq ?_
  refine At.draw_end mixedOrd 0 [2] [0, 1] _ (st' := ⟨[(2, i64 (w64 (o0.most - ((o0.l).length : Int))))], [.blk 98 [.d (.list true (o0.l).length (encL (eInt .i64) o0.l)), i64 o0.most], .ghost (gv 0) (.ptr 0 0)]⟩) (tips := [(0, { r := 2 }), (1, { r := 2 }), (2, { r := 2 }), (3, { T := [0], r := 2 }), (4, { r := 2 }), (5, { r := 2 }), (6, { r := 2 }), (7, { T := [0], r := 2 }), (8, { r := 2 })]) (by kernel_rfl) all0 (norm ?_)
  obtain rfl := some_eq h
  exact At.ret fun a w hs => ret_ok hR (ρ := [0]) (gs := [.ghost (gv 0) (.ptr 0 0)]) (by kernel_rfl) all0 (by kernel_rfl) rfl rfl a w hs _ (.inl rfl)
set_option maxRecDepth 100000 in
theorem C_retracelaw23_live  (r : Bool) (h : F_retracelaw23_live  = some r) : FnOK Try.prog 32 [] [] (bo r) [] [] := by
  rw [F_retracelaw23_live] at h
  refine FnOK.intro Try.func32 rfl (by kernel_rfl) (by kernel_rfl) fun E gv R hR => ?_
  refine At.seq ?_
  refine At.region_end [] [] _ (st' := ⟨[], []⟩) (tips := []) (by kernel_rfl) all0 (norm ?_)
  refine At.seq ?_
  obtain ⟨y2, hy2, h⟩ := bind_some h
  refine At.region_end [1] [0] _ (st' := ⟨[(1, .ptr 0 0)], [.blk 98 [.d (.list true 0 []), i64 y2.most]]⟩) (tips := [(0, { pc := some { ρ := [0], n0 := 0, res := .ptr 0 0, σ' := [.blk 98 [.d (.list true 0 []), i64 y2.most]], e := [] } })]) (by kernel_rfl) (allc (C_stack_New_int 2 y2 hy2) all0) (norm ?_)
  refine At.seq ?_
  refine At.eds [.ownO 0 0 3 1] (st' := ⟨[(1, .ptr 0 0)], [.blk 98 [.row 1 ([] : List Int).length, i64 y2.most], .row 3 1 (encL (eInt .i64) ([]))]⟩) (by kernel_rfl) ?_
  obtain ⟨y6, hy6, h⟩ := bind_some h
  obtain ⟨y7, hy7, h⟩ := bind_some h
  obtain ⟨y8, hy8, h⟩ := bind_some h
  refine At.region_end [1, 2, 3, 4] [0, 1] _ (st' := ⟨[(1, .ptr 0 0), (2, bo y6.1), (3, bo y7.1), (4, bo y8.1)], [.blk 98 [.row 1 (y8.2.l).length, i64 y8.2.most], .row 3 1 (encL (eInt .i64) y8.2.l)]⟩) (tips := [(1, { pc := some { ρ := [0, 1], n0 := 2, res := bo y6.1, σ' := [.blk 98 [.row 1 (y6.2.l).length, i64 y6.2.most], .row 3 1 (encL (eInt .i64) y6.2.l)], e := [1, 2, 3] } }), (3, { pc := some { ρ := [0, 1], n0 := 2, res := bo y7.1, σ' := [.blk 98 [.row 1 (y7.2.l).length, i64 y7.2.most], .row 3 1 (encL (eInt .i64) y7.2.l)], e := [1, 2, 3] } }), (5, { pc := some { ρ := [0, 1], n0 := 2, res := bo y8.1, σ' := [.blk 98 [.row 1 (y8.2.l).length, i64 y8.2.most], .row 3 1 (encL (eInt .i64) y8.2.l)], e := [1, 2, 3] } })]) (by kernel_rfl) (allc (C_stack_Stack_int_Push 1 (⟨([] : List Int), y2.most⟩ : T_stack_Stack_int_) y6 hy6) (allc (C_stack_Stack_int_Push 2 y6.2 y7 hy7) (allc (C_stack_Stack_int_Push 3 y7.2 y8 hy8) all0))) (norm ?_)
  refine At.seqJ (S := (Bool × (List Int)) ⊕ (Bool × (List Int) × Int × (List Int))) (Sum.elim (fun s => ⟨[(1, .ptr 0 0), (2, bo y6.1), (3, bo y7.1), (4, bo y8.1), (5, .row 2 (s.2).length), (6, bo s.1)], [.blk 98 [.row 1 (y8.2.l).length, i64 y8.2.most], .row 3 1 (encL (eInt .i64) y8.2.l), .row 3 1 (encL (eInt .i64) s.2)]⟩) (fun s => ⟨[(1, .ptr 0 0), (2, bo y6.1), (3, bo y7.1), (4, bo y8.1), (5, .row 1 (s.2.2.2).length), (6, bo s.1)], [.blk 98 [.d (.list true (s.2.1).length (encL (eInt .i64) s.2.1)), i64 s.2.2.1], .row 3 1 (encL (eInt .i64) s.2.2.2)]⟩)) (Sum.elim (fun s => F_retracelaw23_live_J1 y6 y7 y8 s.1 s.2 = some r) (fun s => F_retracelaw23_live_J3 y6 y7 y8 s.1 s.2.1 s.2.2.1 s.2.2.2 = some r)) ?_ ?_
  · obtain ⟨y60, hy60, h⟩ := bind_some h
    rcases y60 with y61 | y62
    · replace h := el_inl h
      refine At.region_end [1, 2, 3, 4, 5, 6] [0, 1, 2] _ (st' := ⟨[(1, .ptr 0 0), (2, bo y6.1), (3, bo y7.1), (4, bo y8.1), (5, .row 2 (y61.1).length), (6, bo y61.2)], [.blk 98 [.row 1 (y8.2.l).length, i64 y8.2.most], .row 3 1 (encL (eInt .i64) y8.2.l), .row 3 1 (encL (eInt .i64) y61.1)]⟩) (tips := [(1, { pc := some { ρ := [0, 1, 2], n0 := 2, res := .tup [.row 2 (y61.1).length, bo y61.2], σ' := [.blk 98 [.row 1 (y8.2.l).length, i64 y8.2.most], .row 3 1 (encL (eInt .i64) y8.2.l), .row 3 1 (encL (eInt .i64) y61.1)], e := [1, 2, 3] } })]) (by kernel_rfl) (allc (C_stack_Stack_int_Take 2 y8.2 (.inl y61) hy60) all0) (fun a w hs => ⟨.inl (y61.2, y61.1), h, hs⟩)
    · replace h := el_inr h
      refine At.region_end [1, 2, 3, 4, 5, 6] [0, 2] _ (st' := ⟨[(1, .ptr 0 0), (2, bo y6.1), (3, bo y7.1), (4, bo y8.1), (5, .row 1 (y62.1).length), (6, bo y62.2.1)], [.blk 98 [.d (.list true (y62.2.2.l).length (encL (eInt .i64) y62.2.2.l)), i64 y62.2.2.most], .row 3 1 (encL (eInt .i64) y62.1)]⟩) (tips := [(1, { pc := some { ρ := [0, 1, 2], n0 := 2, res := .tup [.row 2 (y62.1).length, bo y62.2.1], σ' := [.blk 98 [.d (.list true (y62.2.2.l).length (encL (eInt .i64) y62.2.2.l)), i64 y62.2.2.most], .dead, .row 3 1 (encL (eInt .i64) y62.1)], e := [1, 2, 3] } })]) (by kernel_rfl) (allc (C_stack_Stack_int_Take 2 y8.2 (.inr y62) hy60) all0) (fun a w hs => ⟨.inr ((y62.2.1, y62.2.2.l, y62.2.2.most, y62.1)), h, hs⟩)
  · rintro (⟨x12, x13⟩ | ⟨x35, x36, x37, x38⟩) h
    · replace h : F_retracelaw23_live_J1 y6 y7 y8 x12 x13 = some r := h
      rw [F_retracelaw23_live_J1] at h
      refine At.seqJ (S := Bool) (fun s => ⟨[(0, bo s)], []⟩) (fun s => F_retracelaw23_live_J2 s = some r) ?_ ?_
      · rcases tf y6.1 with b25 | b25
        · replace h := cond_t b25 h
          rcases tf y7.1 with b26 | b26
          · replace h := cond_t b26 h
            rcases tf (!y8.1) with b27 | b27
            · replace h := cond_t b27 h
              rcases tf x12 with b28 | b28
              · replace h := cond_t b28 h
                rcases tf (((x13).length : Int) == 2) with b29 | b29
                · replace h := cond_t b29 h
                  obtain ⟨y30, hy30, h⟩ := bind_some h
                  rcases tf (y30 == 1) with b31 | b31
                  · replace h := cond_t b31 h
                    obtain ⟨y32, hy32, h⟩ := bind_some h
                    rcases tf (y32 == 0) with b33 | b33
                    · replace h := cond_t b33 h
                      obtain ⟨y34, hy34, h⟩ := bind_some h
                      refine At.region_end [0] [] _ (st' := ⟨[(0, bo (y34 == 2))], []⟩) (tips := [(1, { orc := .val (.bool true) }), (4, { orc := .val (.bool true) }), (8, { orc := .val (.bool true) }), (11, { orc := .val (.bool true) }), (16, { orc := .val (.bool true) }), (19, { orc := .val (.int .i64 y30) }), (22, { orc := .val (.bool true) }), (24, { pc := some { ρ := [0, 1], n0 := 2, res := i64 y32, σ' := [.blk 98 [.row 1 (y8.2.l).length, i64 y8.2.most], .row 3 1 (encL (eInt .i64) y8.2.l)], e := [1, 2] } }), (27, { orc := .val (.bool true) }), (29, { pc := some { ρ := [0, 1], n0 := 2, res := i64 y34, σ' := [.blk 98 [.row 1 (y8.2.l).length, i64 y8.2.most], .row 3 1 (encL (eInt .i64) y8.2.l)], e := [1, 2] } })]) (by kernel_rfl) (allc (congrArg D.bool b25) (allc (congrArg D.bool b26) (allc (congrArg D.bool b27) (allc (congrArg D.bool b28) (allc (congrArg D.bool b29) (allc ((rAt_of (he_int .i64) (d := .int .i64 y30) hy30 rfl).1) (allc ((rAt_of (he_int .i64) (d := .int .i64 y30) hy30 rfl).2) (allc (congrArg D.bool b31) (allc (C_stack_Stack_int_Len y8.2 y32 hy32) (allc (congrArg D.bool b33) (allc (C_stack_Stack_int_Room y8.2 y34 hy34) all0))))))))))) (fun a w hs => ⟨(y34 == 2), h, hs⟩)
                    · replace h := cond_f b33 h
                      refine At.region_end [0] [] _ (st' := ⟨[(0, bo false)], []⟩) (tips := [(1, { orc := .val (.bool true) }), (4, { orc := .val (.bool true) }), (8, { orc := .val (.bool true) }), (11, { orc := .val (.bool true) }), (16, { orc := .val (.bool true) }), (19, { orc := .val (.int .i64 y30) }), (22, { orc := .val (.bool true) }), (24, { pc := some { ρ := [0, 1], n0 := 2, res := i64 y32, σ' := [.blk 98 [.row 1 (y8.2.l).length, i64 y8.2.most], .row 3 1 (encL (eInt .i64) y8.2.l)], e := [1, 2] } }), (27, { orc := .val (.bool false) })]) (by kernel_rfl) (allc (congrArg D.bool b25) (allc (congrArg D.bool b26) (allc (congrArg D.bool b27) (allc (congrArg D.bool b28) (allc (congrArg D.bool b29) (allc ((rAt_of (he_int .i64) (d := .int .i64 y30) hy30 rfl).1) (allc ((rAt_of (he_int .i64) (d := .int .i64 y30) hy30 rfl).2) (allc (congrArg D.bool b31) (allc (C_stack_Stack_int_Len y8.2 y32 hy32) (allc (congrArg D.bool b33) all0)))))))))) (fun a w hs => ⟨false, h, hs⟩)
                  · replace h := cond_f b31 h
                    refine At.region_end [0] [] _ (st' := ⟨[(0, bo false)], []⟩) (tips := [(1, { orc := .val (.bool true) }), (4, { orc := .val (.bool true) }), (8, { orc := .val (.bool true) }), (11, { orc := .val (.bool true) }), (16, { orc := .val (.bool true) }), (19, { orc := .val (.int .i64 y30) }), (22, { orc := .val (.bool false) })]) (by kernel_rfl) (allc (congrArg D.bool b25) (allc (congrArg D.bool b26) (allc (congrArg D.bool b27) (allc (congrArg D.bool b28) (allc (congrArg D.bool b29) (allc ((rAt_of (he_int .i64) (d := .int .i64 y30) hy30 rfl).1) (allc ((rAt_of (he_int .i64) (d := .int .i64 y30) hy30 rfl).2) (allc (congrArg D.bool b31) all0)))))))) (fun a w hs => ⟨false, h, hs⟩)
                · replace h := cond_f b29 h
                  refine At.region_end [0] [] _ (st' := ⟨[(0, bo false)], []⟩) (tips := [(1, { orc := .val (.bool true) }), (4, { orc := .val (.bool true) }), (8, { orc := .val (.bool true) }), (11, { orc := .val (.bool true) }), (16, { orc := .val (.bool false) })]) (by kernel_rfl) (allc (congrArg D.bool b25) (allc (congrArg D.bool b26) (allc (congrArg D.bool b27) (allc (congrArg D.bool b28) (allc (congrArg D.bool b29) all0))))) (fun a w hs => ⟨false, h, hs⟩)
              · replace h := cond_f b28 h
                refine At.region_end [0] [] _ (st' := ⟨[(0, bo false)], []⟩) (tips := [(1, { orc := .val (.bool true) }), (4, { orc := .val (.bool true) }), (8, { orc := .val (.bool true) }), (11, { orc := .val (.bool false) })]) (by kernel_rfl) (allc (congrArg D.bool b25) (allc (congrArg D.bool b26) (allc (congrArg D.bool b27) (allc (congrArg D.bool b28) all0)))) (fun a w hs => ⟨false, h, hs⟩)
            · replace h := cond_f b27 h
              refine At.region_end [0] [] _ (st' := ⟨[(0, bo false)], []⟩) (tips := [(1, { orc := .val (.bool true) }), (4, { orc := .val (.bool true) }), (8, { orc := .val (.bool false) })]) (by kernel_rfl) (allc (congrArg D.bool b25) (allc (congrArg D.bool b26) (allc (congrArg D.bool b27) all0))) (fun a w hs => ⟨false, h, hs⟩)
          · replace h := cond_f b26 h
            refine At.region_end [0] [] _ (st' := ⟨[(0, bo false)], []⟩) (tips := [(1, { orc := .val (.bool true) }), (4, { orc := .val (.bool false) })]) (by kernel_rfl) (allc (congrArg D.bool b25) (allc (congrArg D.bool b26) all0)) (fun a w hs => ⟨false, h, hs⟩)
        · replace h := cond_f b25 h
          refine At.region_end [0] [] _ (st' := ⟨[(0, bo false)], []⟩) (tips := [(1, { orc := .val (.bool false) })]) (by kernel_rfl) (allc (congrArg D.bool b25) all0) (fun a w hs => ⟨false, h, hs⟩)
      · intro x24 h
        replace h : F_retracelaw23_live_J2 x24 = some r := h
        rw [F_retracelaw23_live_J2] at h
        obtain rfl := some_eq h
        exact At.ret fun a w hs => ret_ok hR (ρ := []) (gs := []) (by kernel_rfl) all0 (by kernel_rfl) rfl rfl a w hs _ (.inl rfl)
    · replace h : F_retracelaw23_live_J3 y6 y7 y8 x35 x36 x37 x38 = some r := h
      rw [F_retracelaw23_live_J3] at h
      refine At.seqJ (S := Bool) (fun s => ⟨[(0, bo s)], []⟩) (fun s => F_retracelaw23_live_J4 s = some r) ?_ ?_
      · rcases tf y6.1 with b50 | b50
        · replace h := cond_t b50 h
          rcases tf y7.1 with b51 | b51
          · replace h := cond_t b51 h
            rcases tf (!y8.1) with b52 | b52
            · replace h := cond_t b52 h
              rcases tf x35 with b53 | b53
              · replace h := cond_t b53 h
                rcases tf (((x38).length : Int) == 2) with b54 | b54
                · replace h := cond_t b54 h
                  obtain ⟨y55, hy55, h⟩ := bind_some h
                  rcases tf (y55 == 1) with b56 | b56
                  · replace h := cond_t b56 h
                    obtain ⟨y57, hy57, h⟩ := bind_some h
                    rcases tf (y57 == 0) with b58 | b58
                    · replace h := cond_t b58 h
                      obtain ⟨y59, hy59, h⟩ := bind_some h
                      refine At.region_end [0] [] _ (st' := ⟨[(0, bo (y59 == 2))], []⟩) (tips := [(1, { orc := .val (.bool true) }), (4, { orc := .val (.bool true) }), (8, { orc := .val (.bool true) }), (11, { orc := .val (.bool true) }), (16, { orc := .val (.bool true) }), (19, { orc := .val (.int .i64 y55) }), (22, { orc := .val (.bool true) }), (24, { pc := some { ρ := [0], n0 := 1, loose := false, res := i64 y57, σ' := [.blk 98 [.d (.list true (x36).length (encL (eInt .i64) x36)), i64 x37]], e := [1] } }), (27, { orc := .val (.bool true) }), (29, { pc := some { ρ := [0], n0 := 1, loose := false, res := i64 y59, σ' := [.blk 98 [.d (.list true (x36).length (encL (eInt .i64) x36)), i64 x37]], e := [1] } })]) (by kernel_rfl) (allc (congrArg D.bool b50) (allc (congrArg D.bool b51) (allc (congrArg D.bool b52) (allc (congrArg D.bool b53) (allc (congrArg D.bool b54) (allc ((rAt_of (he_int .i64) (d := .int .i64 y55) hy55 rfl).1) (allc ((rAt_of (he_int .i64) (d := .int .i64 y55) hy55 rfl).2) (allc (congrArg D.bool b56) (allc (C_stack_Stack_int_Len_v2 (⟨x36, x37⟩ : T_stack_Stack_int_) y57 hy57) (allc (congrArg D.bool b58) (allc (C_stack_Stack_int_Room_v2 (⟨x36, x37⟩ : T_stack_Stack_int_) y59 hy59) all0))))))))))) (fun a w hs => ⟨(y59 == 2), h, hs⟩)
                    · replace h := cond_f b58 h
                      refine At.region_end [0] [] _ (st' := ⟨[(0, bo false)], []⟩) (tips := [(1, { orc := .val (.bool true) }), (4, { orc := .val (.bool true) }), (8, { orc := .val (.bool true) }), (11, { orc := .val (.bool true) }), (16, { orc := .val (.bool true) }), (19, { orc := .val (.int .i64 y55) }), (22, { orc := .val (.bool true) }), (24, { pc := some { ρ := [0], n0 := 1, loose := false, res := i64 y57, σ' := [.blk 98 [.d (.list true (x36).length (encL (eInt .i64) x36)), i64 x37]], e := [1] } }), (27, { orc := .val (.bool false) })]) (by kernel_rfl) (allc (congrArg D.bool b50) (allc (congrArg D.bool b51) (allc (congrArg D.bool b52) (allc (congrArg D.bool b53) (allc (congrArg D.bool b54) (allc ((rAt_of (he_int .i64) (d := .int .i64 y55) hy55 rfl).1) (allc ((rAt_of (he_int .i64) (d := .int .i64 y55) hy55 rfl).2) (allc (congrArg D.bool b56) (allc (C_stack_Stack_int_Len_v2 (⟨x36, x37⟩ : T_stack_Stack_int_) y57 hy57) (allc (congrArg D.bool b58) all0)))))))))) (fun a w hs => ⟨false, h, hs⟩)
                  · replace h := cond_f b56 h
                    refine At.region_end [0] [] _ (st' := ⟨[(0, bo false)], []⟩) (tips := [(1, { orc := .val (.bool true) }), (4, { orc := .val (.bool true) }), (8, { orc := .val (.bool true) }), (11, { orc := .val (.bool true) }), (16, { orc := .val (.bool true) }), (19, { orc := .val (.int .i64 y55) }), (22, { orc := .val (.bool false) })]) (by kernel_rfl) (allc (congrArg D.bool b50) (allc (congrArg D.bool b51) (allc (congrArg D.bool b52) (allc (congrArg D.bool b53) (allc (congrArg D.bool b54) (allc ((rAt_of (he_int .i64) (d := .int .i64 y55) hy55 rfl).1) (allc ((rAt_of (he_int .i64) (d := .int .i64 y55) hy55 rfl).2) (allc (congrArg D.bool b56) all0)))))))) (fun a w hs => ⟨false, h, hs⟩)
                · replace h := cond_f b54 h
                  refine At.region_end [0] [] _ (st' := ⟨[(0, bo false)], []⟩) (tips := [(1, { orc := .val (.bool true) }), (4, { orc := .val (.bool true) }), (8, { orc := .val (.bool true) }), (11, { orc := .val (.bool true) }), (16, { orc := .val (.bool false) })]) (by kernel_rfl) (allc (congrArg D.bool b50) (allc (congrArg D.bool b51) (allc (congrArg D.bool b52) (allc (congrArg D.bool b53) (allc (congrArg D.bool b54) all0))))) (fun a w hs => ⟨false, h, hs⟩)
              · replace h := cond_f b53 h
                refine At.region_end [0] [] _ (st' := ⟨[(0, bo false)], []⟩) (tips := [(1, { orc := .val (.bool true) }), (4, { orc := .val (.bool true) }), (8, { orc := .val (.bool true) }), (11, { orc := .val (.bool false) })]) (by kernel_rfl) (allc (congrArg D.bool b50) (allc (congrArg D.bool b51) (allc (congrArg D.bool b52) (allc (congrArg D.bool b53) all0)))) (fun a w hs => ⟨false, h, hs⟩)
            · replace h := cond_f b52 h
              refine At.region_end [0] [] _ (st' := ⟨[(0, bo false)], []⟩) (tips := [(1, { orc := .val (.bool true) }), (4, { orc := .val (.bool true) }), (8, { orc := .val (.bool false) })]) (by kernel_rfl) (allc (congrArg D.bool b50) (allc (congrArg D.bool b51) (allc (congrArg D.bool b52) all0))) (fun a w hs => ⟨false, h, hs⟩)
          · replace h := cond_f b51 h
            refine At.region_end [0] [] _ (st' := ⟨[(0, bo false)], []⟩) (tips := [(1, { orc := .val (.bool true) }), (4, { orc := .val (.bool false) })]) (by kernel_rfl) (allc (congrArg D.bool b50) (allc (congrArg D.bool b51) all0)) (fun a w hs => ⟨false, h, hs⟩)
        · replace h := cond_f b50 h
          refine At.region_end [0] [] _ (st' := ⟨[(0, bo false)], []⟩) (tips := [(1, { orc := .val (.bool false) })]) (by kernel_rfl) (allc (congrArg D.bool b50) all0) (fun a w hs => ⟨false, h, hs⟩)
      · intro x49 h
        replace h : F_retracelaw23_live_J4 x49 = some r := h
        rw [F_retracelaw23_live_J4] at h
        obtain rfl := some_eq h
        exact At.ret fun a w hs => ret_ok hR (ρ := []) (gs := []) (by kernel_rfl) all0 (by kernel_rfl) rfl rfl a w hs _ (.inl rfl)
end Go.Ab
