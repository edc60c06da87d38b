import Derived.Test.YtdcgabaobopjpaaGD1
namespace Go.Ab
open Go.Proofs
set_option linter.unusedVariables false
set_option maxRecDepth 100000 in
theorem C_retracelaw03_read (p2 : T_retracelaw03_Part) (o0 : T_wire_Reader) (o1 : T_retraceref03_Reader) (r : Bool × T_wire_Reader × T_retraceref03_Reader) (h : F_retracelaw03_read p2 o0 o1 = some r) : FnOK Try.prog 18 [.ptr 0 0, .ptr 1 0, .agg (T_retracelaw03_Part.pvs p2)] [.blk 93 (T_wire_Reader.pvs o0), .blk 39 (T_retraceref03_Reader.pvs o1)] (bo r.1) [.blk 93 (T_wire_Reader.pvs r.2.1), .blk 39 (T_retraceref03_Reader.pvs r.2.2)] [1, 3] := by
  rw [F_retracelaw03_read] at h
  refine FnOK.intro Try.func18 rfl (by kernel_rfl) (by kernel_rfl) fun E gv R hR => ?_
  refine At.seq ?_
  refine At.region_end [0, 1, 5] [0, 1, 2, 3, 4] _ (st' := ⟨[(0, .ptr 0 0), (1, .ptr 1 0), (5, .ptr 4 0)], [.blk 93 (T_wire_Reader.pvs o0), .blk 39 (T_retraceref03_Reader.pvs o1), .ghost (gv 0) (.ptr 0 0), .ghost (gv 1) (.ptr 1 0), .blk 33 (T_retracelaw03_Part.pvs p2)]⟩) (tips := []) (by kernel_rfl) all0 (norm ?_)
  refine At.seq ?_
  refine At.seq ?_
  refine At.region_end [0, 1, 5, 8] [0, 1, 2, 3, 4] _ (st' := ⟨[(0, .ptr 0 0), (1, .ptr 1 0), (5, .ptr 4 0), (8, i64 p2.Kind)], [.blk 93 (T_wire_Reader.pvs o0), .blk 39 (T_retraceref03_Reader.pvs o1), .ghost (gv 0) (.ptr 0 0), .ghost (gv 1) (.ptr 1 0), .blk 33 (T_retracelaw03_Part.pvs p2)]⟩) (tips := []) (by kernel_rfl) all0 (norm ?_)
  refine At.block ?_
  refine At.seq ?_
  refine At.region_end [0, 1, 5, 8, 9] [0, 1, 2, 3, 4] _ (st' := ⟨[(0, .ptr 0 0), (1, .ptr 1 0), (5, .ptr 4 0), (8, i64 p2.Kind), (9, bo (p2.Kind == 0))], [.blk 93 (T_wire_Reader.pvs o0), .blk 39 (T_retraceref03_Reader.pvs o1), .ghost (gv 0) (.ptr 0 0), .ghost (gv 1) (.ptr 1 0), .blk 33 (T_retracelaw03_Part.pvs p2)]⟩) (tips := []) (by kernel_rfl) all0 (norm ?_)
  refine At.cond (p2.Kind == 0) (by kernel_rfl) (fun b38 => ?_) (fun b38 => ?_)
  · replace h := cond_t b38 h
    refine At.seq ?_
    obtain ⟨y41, hy41, h⟩ := bind_some h
    obtain ⟨y42, hy42, h⟩ := bind_some h
    refine At.region_end [6] [0, 1, 2, 3] _ (st' := ⟨[(6, bo (y41.1 == y42.1))], [.blk 93 (T_wire_Reader.pvs y41.2), .blk 39 (T_retraceref03_Reader.pvs y42.2), .ghost (gv 0) (.ptr 0 0), .ghost (gv 1) (.ptr 1 0)]⟩) (tips := [(1, { pc := some { ρ := [0], n0 := 1, res := u64 y41.1, σ' := [.blk 93 (T_wire_Reader.pvs y41.2)], e := [1] } }), (3, { pc := some { ρ := [1], n0 := 1, res := u64 y42.1, σ' := [.blk 39 (T_retraceref03_Reader.pvs y42.2)], e := [1] } })]) (by kernel_rfl) (allc (C_wire_Reader_Num o0 y41 hy41) (allc (C_retraceref03_Reader_Num o1 y42 hy42) all0)) (norm ?_)
    obtain rfl := some_eq h
    exact At.ret fun a w hs => ret_ok hR (ρ := [0, 1]) (gs := [.ghost (gv 0) (.ptr 0 0), .ghost (gv 1) (.ptr 1 0)]) (by kernel_rfl) all0 (by kernel_rfl) rfl rfl a w hs _ (.inl rfl)
  · replace h := cond_f b38 h
    refine At.seq ?_
    refine At.region_end [0, 1, 5, 8, 16] [0, 1, 2, 3, 4] _ (st' := ⟨[(0, .ptr 0 0), (1, .ptr 1 0), (5, .ptr 4 0), (8, i64 p2.Kind), (16, bo (p2.Kind == 1))], [.blk 93 (T_wire_Reader.pvs o0), .blk 39 (T_retraceref03_Reader.pvs o1), .ghost (gv 0) (.ptr 0 0), .ghost (gv 1) (.ptr 1 0), .blk 33 (T_retracelaw03_Part.pvs p2)]⟩) (tips := []) (by kernel_rfl) all0 (norm ?_)
    refine At.cond (p2.Kind == 1) (by kernel_rfl) (fun b43 => ?_) (fun b43 => ?_)
    · replace h := cond_t b43 h
      refine At.seq ?_
      obtain ⟨y46, hy46, h⟩ := bind_some h
      obtain ⟨y47, hy47, h⟩ := bind_some h
      refine At.region_end [6] [0, 1, 2, 3] _ (st' := ⟨[(6, bo (y46.1 == y47.1))], [.blk 93 (T_wire_Reader.pvs y46.2), .blk 39 (T_retraceref03_Reader.pvs y47.2), .ghost (gv 0) (.ptr 0 0), .ghost (gv 1) (.ptr 1 0)]⟩) (tips := [(1, { pc := some { ρ := [0], n0 := 1, res := i64 y46.1, σ' := [.blk 93 (T_wire_Reader.pvs y46.2)], e := [1] } }), (3, { pc := some { ρ := [1], n0 := 1, res := i64 y47.1, σ' := [.blk 39 (T_retraceref03_Reader.pvs y47.2)], e := [1] } })]) (by kernel_rfl) (allc (C_wire_Reader_Int o0 y46 hy46) (allc (C_retraceref03_Reader_Int o1 y47 hy47) all0)) (norm ?_)
      obtain rfl := some_eq h
      exact At.ret fun a w hs => ret_ok hR (ρ := [0, 1]) (gs := [.ghost (gv 0) (.ptr 0 0), .ghost (gv 1) (.ptr 1 0)]) (by kernel_rfl) all0 (by kernel_rfl) rfl rfl a w hs _ (.inl rfl)
    · replace h := cond_f b43 h
      refine At.seq ?_
      refine At.region_end [0, 1, 5, 8, 23] [0, 1, 2, 3, 4] _ (st' := ⟨[(0, .ptr 0 0), (1, .ptr 1 0), (5, .ptr 4 0), (8, i64 p2.Kind), (23, bo (p2.Kind == 2))], [.blk 93 (T_wire_Reader.pvs o0), .blk 39 (T_retraceref03_Reader.pvs o1), .ghost (gv 0) (.ptr 0 0), .ghost (gv 1) (.ptr 1 0), .blk 33 (T_retracelaw03_Part.pvs p2)]⟩) (tips := []) (by kernel_rfl) all0 (norm ?_)
      refine At.cond (p2.Kind == 2) (by kernel_rfl) (fun b48 => ?_) (fun b48 => ?_)
      · replace h := cond_t b48 h
        refine At.seq ?_
        obtain ⟨y51, hy51, h⟩ := bind_some h
        obtain ⟨y52, hy52, h⟩ := bind_some h
        refine At.region_end [6] [0, 1, 2, 3] _ (st' := ⟨[(6, bo (y51.1 == y52.1))], [.blk 93 (T_wire_Reader.pvs y51.2), .blk 39 (T_retraceref03_Reader.pvs y52.2), .ghost (gv 0) (.ptr 0 0), .ghost (gv 1) (.ptr 1 0)]⟩) (tips := [(1, { pc := some { ρ := [0], n0 := 1, res := bo y51.1, σ' := [.blk 93 (T_wire_Reader.pvs y51.2)], e := [1] } }), (3, { pc := some { ρ := [1], n0 := 1, res := bo y52.1, σ' := [.blk 39 (T_retraceref03_Reader.pvs y52.2)], e := [1] } })]) (by kernel_rfl) (allc (C_wire_Reader_Bool o0 y51 hy51) (allc (C_retraceref03_Reader_Bool o1 y52 hy52) all0)) (norm ?_)
        obtain rfl := some_eq h
        exact At.ret fun a w hs => ret_ok hR (ρ := [0, 1]) (gs := [.ghost (gv 0) (.ptr 0 0), .ghost (gv 1) (.ptr 1 0)]) (by kernel_rfl) all0 (by kernel_rfl) rfl rfl a w hs _ (.inl rfl)
      · replace h := cond_f b48 h
        refine At.seq ?_
        refine At.region_end [0, 1, 5, 8, 30] [0, 1, 2, 3, 4] _ (st' := ⟨[(0, .ptr 0 0), (1, .ptr 1 0), (5, .ptr 4 0), (8, i64 p2.Kind), (30, bo (p2.Kind == 3))], [.blk 93 (T_wire_Reader.pvs o0), .blk 39 (T_retraceref03_Reader.pvs o1), .ghost (gv 0) (.ptr 0 0), .ghost (gv 1) (.ptr 1 0), .blk 33 (T_retracelaw03_Part.pvs p2)]⟩) (tips := []) (by kernel_rfl) all0 (norm ?_)
        refine At.cond (p2.Kind == 3) (by kernel_rfl) (fun b53 => ?_) (fun b53 => ?_)
        · replace h := cond_t b53 h
          refine At.seq ?_
          obtain ⟨y56, hy56, h⟩ := bind_some h
          obtain ⟨y57, hy57, h⟩ := bind_some h
          refine At.draw_end mixedOrd 0 [6] [0, 1, 2, 3] _ (st' := ⟨[(6, bo (y56.1.toList == y57.1.toList))], [.blk 93 (T_wire_Reader.pvs y56.2), .blk 39 (T_retraceref03_Reader.pvs y57.2), .ghost (gv 0) (.ptr 0 0), .ghost (gv 1) (.ptr 1 0)]⟩) (tips := [(0, { r := 5 }), (1, { r := 5 }), (2, { T := [4], r := 5 }), (3, { tip := { pc := some { ρ := [0], n0 := 1, res := sv y56.1, σ' := [.blk 93 (T_wire_Reader.pvs y56.2)], e := [1] } }, T := [0], r := 5 }), (4, { r := 5 }), (5, { r := 5 }), (6, { T := [4], r := 5 }), (7, { tip := { pc := some { ρ := [1], n0 := 1, res := sv y57.1, σ' := [.blk 39 (T_retraceref03_Reader.pvs y57.2)], e := [1] } }, T := [1], r := 5 })]) (by kernel_rfl) (allc (C_wire_Reader_Text p2.N o0 y56 hy56) (allc (C_retraceref03_Reader_Text p2.N o1 y57 hy57) all0)) (norm ?_)
          obtain rfl := some_eq h
          exact At.ret fun a w hs => ret_ok hR (ρ := [0, 1]) (gs := [.ghost (gv 0) (.ptr 0 0), .ghost (gv 1) (.ptr 1 0)]) (by kernel_rfl) all0 (by kernel_rfl) rfl rfl a w hs _ (.inl rfl)
        · replace h := cond_f b53 h
          refine At.seq ?_
          refine At.region_end [0, 1, 5, 8, 41] [0, 1, 2, 3, 4] _ (st' := ⟨[(0, .ptr 0 0), (1, .ptr 1 0), (5, .ptr 4 0), (8, i64 p2.Kind), (41, bo (p2.Kind == 4))], [.blk 93 (T_wire_Reader.pvs o0), .blk 39 (T_retraceref03_Reader.pvs o1), .ghost (gv 0) (.ptr 0 0), .ghost (gv 1) (.ptr 1 0), .blk 33 (T_retracelaw03_Part.pvs p2)]⟩) (tips := []) (by kernel_rfl) all0 (norm ?_)
          refine At.cond (p2.Kind == 4) (by kernel_rfl) (fun b58 => ?_) (fun b58 => ?_)
          · replace h := cond_t b58 h
            refine At.seq ?_
            obtain ⟨y61, hy61, h⟩ := bind_some h
            obtain ⟨y62, hy62, h⟩ := bind_some h
            refine At.draw_end mixedOrd 0 [6] [0, 1, 2, 3] _ (st' := ⟨[(6, bo (y61.1.toList == y62.1.toList))], [.blk 93 (T_wire_Reader.pvs y61.2), .blk 39 (T_retraceref03_Reader.pvs y62.2), .ghost (gv 0) (.ptr 0 0), .ghost (gv 1) (.ptr 1 0)]⟩) (tips := [(0, { r := 5 }), (1, { r := 5 }), (2, { T := [4], r := 5 }), (3, { tip := { pc := some { ρ := [0], n0 := 1, res := sv y61.1, σ' := [.blk 93 (T_wire_Reader.pvs y61.2)], e := [1] } }, T := [0], r := 5 }), (4, { r := 5 }), (5, { r := 5 }), (6, { T := [4], r := 5 }), (7, { tip := { pc := some { ρ := [1], n0 := 1, res := sv y62.1, σ' := [.blk 39 (T_retraceref03_Reader.pvs y62.2)], e := [1] } }, T := [1], r := 5 })]) (by kernel_rfl) (allc (C_wire_Reader_Raw p2.N o0 y61 hy61) (allc (C_retraceref03_Reader_Raw p2.N o1 y62 hy62) all0)) (norm ?_)
            obtain rfl := some_eq h
            exact At.ret fun a w hs => ret_ok hR (ρ := [0, 1]) (gs := [.ghost (gv 0) (.ptr 0 0), .ghost (gv 1) (.ptr 1 0)]) (by kernel_rfl) all0 (by kernel_rfl) rfl rfl a w hs _ (.inl rfl)
          · replace h := cond_f b58 h
            refine At.seq ?_
            refine At.region_end [0, 1, 5, 8, 52] [0, 1, 2, 3, 4] _ (st' := ⟨[(0, .ptr 0 0), (1, .ptr 1 0), (5, .ptr 4 0), (8, i64 p2.Kind), (52, bo (p2.Kind == 5))], [.blk 93 (T_wire_Reader.pvs o0), .blk 39 (T_retraceref03_Reader.pvs o1), .ghost (gv 0) (.ptr 0 0), .ghost (gv 1) (.ptr 1 0), .blk 33 (T_retracelaw03_Part.pvs p2)]⟩) (tips := []) (by kernel_rfl) all0 (norm ?_)
            refine At.cond (p2.Kind == 5) (by kernel_rfl) (fun b63 => ?_) (fun b63 => ?_)
            · replace h := cond_t b63 h
              refine At.seq ?_
              obtain ⟨y67, hy67, h⟩ := bind_some h
              obtain ⟨y68, hy68, h⟩ := bind_some h
              obtain ⟨y69, hy69, h⟩ := bind_some h
              refine At.draw_end mixedOrd 2 [6] [0, 1, 2, 3] _ (st' := ⟨[(6, bo y69)], [.blk 93 (T_wire_Reader.pvs y67.2), .blk 39 (T_retraceref03_Reader.pvs y68.2), .ghost (gv 0) (.ptr 0 0), .ghost (gv 1) (.ptr 1 0)]⟩) (tips := [(0, { r := 5 }), (1, { r := 5 }), (2, { T := [4], r := 5 }), (3, { tip := { pc := some { ρ := [0, 5], n0 := 1, res := .row 1 (y67.1).length, σ' := [.blk 93 (T_wire_Reader.pvs y67.2), .row 3 1 (encL (eInt .i64) y67.1)], e := [1] } }, T := [0], r := 5 }), (4, { r := 6 }), (5, { r := 6 }), (6, { T := [4], r := 6 }), (7, { tip := { pc := some { ρ := [1, 6], n0 := 1, res := .row 1 (y68.1).length, σ' := [.blk 39 (T_retraceref03_Reader.pvs y68.2), .row 3 1 (encL (eInt .i64) y68.1)], e := [1] } }, T := [1], r := 6 }), (8, { tip := { pc := some { ρ := [5, 6], n0 := 2, res := bo y69, σ' := [.row 3 1 (encL (eInt .i64) y67.1), .row 3 1 (encL (eInt .i64) y68.1)], e := [0, 2] } }, T := [5, 6], r := 7 })]) (by kernel_rfl) (allc (C_wire_Reader_Ints p2.N o0 y67 hy67) (allc (C_retraceref03_Reader_Ints p2.N o1 y68 hy68) (allc (C_retraceref03_Same y67.1 y68.1 y69 hy69) all0))) (norm ?_)
              obtain rfl := some_eq h
              exact At.ret fun a w hs => ret_ok hR (ρ := [0, 1]) (gs := [.ghost (gv 0) (.ptr 0 0), .ghost (gv 1) (.ptr 1 0)]) (by kernel_rfl) all0 (by kernel_rfl) rfl rfl a w hs _ (.inl rfl)
            · replace h := cond_f b63 h
              refine At.seq ?_
              refine At.region_end [0, 1, 5, 63] [0, 1, 2, 3, 4] _ (st' := ⟨[(0, .ptr 0 0), (1, .ptr 1 0), (5, .ptr 4 0), (63, bo (p2.Kind == 6))], [.blk 93 (T_wire_Reader.pvs o0), .blk 39 (T_retraceref03_Reader.pvs o1), .ghost (gv 0) (.ptr 0 0), .ghost (gv 1) (.ptr 1 0), .blk 33 (T_retracelaw03_Part.pvs p2)]⟩) (tips := []) (by kernel_rfl) all0 (norm ?_)
              refine At.cond (p2.Kind == 6) (by kernel_rfl) (fun b70 => ?_) (fun b70 => ?_)
              · replace h := cond_t b70 h
                refine At.seq ?_
                obtain ⟨y73, hy73, h⟩ := bind_some h
                obtain ⟨y74, hy74, h⟩ := bind_some h
                refine At.draw_end mixedOrd 0 [6] [0, 1, 2, 3] _ (st' := ⟨[(6, bo (y73.1 == y74.1))], [.blk 93 (T_wire_Reader.pvs y73.2), .blk 39 (T_retraceref03_Reader.pvs y74.2), .ghost (gv 0) (.ptr 0 0), .ghost (gv 1) (.ptr 1 0)]⟩) (tips := [(0, { r := 5 }), (1, { r := 5 }), (2, { T := [4], r := 5 }), (3, { tip := { pc := some { ρ := [0], n0 := 1, res := i64 y73.1, σ' := [.blk 93 (T_wire_Reader.pvs y73.2)], e := [1] } }, T := [0], r := 5 }), (4, { r := 5 }), (5, { r := 5 }), (6, { T := [4], r := 5 }), (7, { tip := { pc := some { ρ := [1], n0 := 1, res := i64 y74.1, σ' := [.blk 39 (T_retraceref03_Reader.pvs y74.2)], e := [1] } }, T := [1], r := 5 })]) (by kernel_rfl) (allc (C_wire_Reader_Upto p2.N o0 y73 hy73) (allc (C_retraceref03_Reader_Upto p2.N o1 y74 hy74) all0)) (norm ?_)
                obtain rfl := some_eq h
                exact At.ret fun a w hs => ret_ok hR (ρ := [0, 1]) (gs := [.ghost (gv 0) (.ptr 0 0), .ghost (gv 1) (.ptr 1 0)]) (by kernel_rfl) all0 (by kernel_rfl) rfl rfl a w hs _ (.inl rfl)
              · replace h := cond_f b70 h
                refine At.nar [0, 1, 5] [0, 1, 2, 3, 4] (st' := ⟨[(0, .ptr 0 0), (1, .ptr 1 0), (5, .ptr 4 0)], [.blk 93 (T_wire_Reader.pvs o0), .blk 39 (T_retraceref03_Reader.pvs o1), .ghost (gv 0) (.ptr 0 0), .ghost (gv 1) (.ptr 1 0), .blk 33 (T_retracelaw03_Part.pvs p2)]⟩) (by kernel_rfl) ?_
                refine At.skip (norm ?_)
                refine At.seqJ (S := ByteArray × Int × ByteArray × Int) (fun s => ⟨[], [.blk 93 [sv s.1, i64 s.2.1], .blk 39 [sv s.2.2.1, i64 s.2.2.2], .ghost (gv 0) (.ptr 0 0), .ghost (gv 1) (.ptr 1 0)]⟩) (fun s => F_retracelaw03_read_J1 s.1 s.2.1 s.2.2.1 s.2.2.2 = some r) ?_ ?_
                · refine At.seqJ (S := Bool) (fun s => ⟨[(0, .ptr 0 0), (1, .ptr 1 0), (5, .ptr 4 0), (81, bo s)], [.blk 93 (T_wire_Reader.pvs o0), .blk 39 (T_retraceref03_Reader.pvs o1), .ghost (gv 0) (.ptr 0 0), .ghost (gv 1) (.ptr 1 0), .blk 33 (T_retracelaw03_Part.pvs p2)]⟩) (fun s => F_retracelaw03_read_J2 p2 o0 o1 s = some r) ?_ ?_
                  · rcases tf (decide (0 ≤ p2.N)) with b92 | b92
                    · replace h := cond_t b92 h
                      refine At.region_end [0, 1, 5, 81] [0, 1, 2, 3, 4] _ (st' := ⟨[(0, .ptr 0 0), (1, .ptr 1 0), (5, .ptr 4 0), (81, bo (decide (p2.N ≤ 18)))], [.blk 93 (T_wire_Reader.pvs o0), .blk 39 (T_retraceref03_Reader.pvs o1), .ghost (gv 0) (.ptr 0 0), .ghost (gv 1) (.ptr 1 0), .blk 33 (T_retracelaw03_Part.pvs p2)]⟩) (tips := [(3, { orc := .val (.bool true) })]) (by kernel_rfl) (allc (congrArg D.bool b92) all0) (fun a w hs => ⟨(decide (p2.N ≤ 18)), h, hs⟩)
                    · replace h := cond_f b92 h
                      refine At.region_end [0, 1, 5, 81] [0, 1, 2, 3, 4] _ (st' := ⟨[(0, .ptr 0 0), (1, .ptr 1 0), (5, .ptr 4 0), (81, bo false)], [.blk 93 (T_wire_Reader.pvs o0), .blk 39 (T_retraceref03_Reader.pvs o1), .ghost (gv 0) (.ptr 0 0), .ghost (gv 1) (.ptr 1 0), .blk 33 (T_retracelaw03_Part.pvs p2)]⟩) (tips := [(3, { orc := .val (.bool false) })]) (by kernel_rfl) (allc (congrArg D.bool b92) all0) (fun a w hs => ⟨false, h, hs⟩)
                  · intro x87 h
                    replace h : F_retracelaw03_read_J2 p2 o0 o1 x87 = some r := h
                    rw [F_retracelaw03_read_J2] at h
                    refine At.cond x87 (by kernel_rfl) (fun b88 => ?_) (fun b88 => ?_)
                    · replace h := cond_t b88 h
                      refine At.seq ?_
                      obtain ⟨y90, hy90, h⟩ := bind_some h
                      refine At.region_end [1, 5] [0, 1, 2, 3, 4] _ (st' := ⟨[(1, .ptr 1 0), (5, .ptr 4 0)], [.blk 93 (T_wire_Reader.pvs y90), .blk 39 (T_retraceref03_Reader.pvs o1), .ghost (gv 0) (.ptr 0 0), .ghost (gv 1) (.ptr 1 0), .blk 33 (T_retracelaw03_Part.pvs p2)]⟩) (tips := [(3, { pc := some { ρ := [0], n0 := 1, res := .tup [], σ' := [.blk 93 (T_wire_Reader.pvs y90)], e := [1] } })]) (by kernel_rfl) (allc (C_wire_Reader_Fail p2.N o0 y90 hy90) all0) (norm ?_)
                      obtain ⟨y91, hy91, h⟩ := bind_some h
                      refine At.region_end [] [0, 1, 2, 3] _ (st' := ⟨[], [.blk 93 (T_wire_Reader.pvs y90), .blk 39 (T_retraceref03_Reader.pvs y91), .ghost (gv 0) (.ptr 0 0), .ghost (gv 1) (.ptr 1 0)]⟩) (tips := [(3, { pc := some { ρ := [1], n0 := 1, res := .tup [], σ' := [.blk 39 (T_retraceref03_Reader.pvs y91)], e := [1] } })]) (by kernel_rfl) (allc (C_retraceref03_Reader_Fail p2.N o1 y91 hy91) all0) (fun a w hs => ⟨(y90.s, y90.e, y91.S, y91.Bad), h, hs⟩)
                    · replace h := cond_f b88 h
                      refine At.nar [] [0, 1, 2, 3] (st' := ⟨[], [.blk 93 (T_wire_Reader.pvs o0), .blk 39 (T_retraceref03_Reader.pvs o1), .ghost (gv 0) (.ptr 0 0), .ghost (gv 1) (.ptr 1 0)]⟩) (by kernel_rfl) ?_
                      refine At.skip (fun a w hs => ⟨(o0.s, o0.e, o1.S, o1.Bad), h, hs⟩)
                · rintro ⟨x82, x83, x84, x85⟩ h
                  replace h : F_retracelaw03_read_J1 x82 x83 x84 x85 = some r := h
                  rw [F_retracelaw03_read_J1] at h
                  refine At.seq ?_
                  refine At.region_end [6] [0, 1, 2, 3] _ (st' := ⟨[(6, bo true)], [.blk 93 [sv x82, i64 x83], .blk 39 [sv x84, i64 x85], .ghost (gv 0) (.ptr 0 0), .ghost (gv 1) (.ptr 1 0)]⟩) (tips := []) (by kernel_rfl) all0 (norm ?_)
                  obtain rfl := some_eq h
                  exact At.ret fun a w hs => ret_ok hR (ρ := [0, 1]) (gs := [.ghost (gv 0) (.ptr 0 0), .ghost (gv 1) (.ptr 1 0)]) (by kernel_rfl) all0 (by kernel_rfl) rfl rfl a w hs _ (.inl rfl)
set_option maxRecDepth 100000 in
theorem C_retraceref03_Reader_End (o0 : T_retraceref03_Reader) (r : Int) (h : F_retraceref03_Reader_End o0 = some r) : FnOK Try.prog 22 [.ptr 0 0] [.blk 39 (T_retraceref03_Reader.pvs o0)] (i64 r) [.blk 39 (T_retraceref03_Reader.pvs o0)] [1] := by
  rw [F_retraceref03_Reader_End] at h
  refine FnOK.intro Try.func22 rfl (by kernel_rfl) (by kernel_rfl) fun E gv R hR => ?_
  refine At.seq ?_
  refine At.region_end [0] [0, 1] _ (st' := ⟨[(0, .ptr 0 0)], [.blk 39 (T_retraceref03_Reader.pvs o0), .ghost (gv 0) (.ptr 0 0)]⟩) (tips := []) (by kernel_rfl) all0 (norm ?_)
  refine At.seq ?_
  refine At.seqJ (S := Bool) (fun s => ⟨[(0, .ptr 0 0), (15, bo s)], [.blk 39 (T_retraceref03_Reader.pvs o0), .ghost (gv 0) (.ptr 0 0)]⟩) (fun s => F_retraceref03_Reader_End_J1 o0 s = some r) ?_ ?_
  · rcases tf (o0.Bad == 0) with b8 | b8
    · replace h := cond_t b8 h
      refine At.region_end [0, 15] [0, 1] _ (st' := ⟨[(0, .ptr 0 0), (15, bo (decide (0 < (o0.S.size : Int))))], [.blk 39 (T_retraceref03_Reader.pvs o0), .ghost (gv 0) (.ptr 0 0)]⟩) (tips := [(5, { orc := .val (.bool true) })]) (by kernel_rfl) (allc (congrArg D.bool b8) all0) (fun a w hs => ⟨(decide (0 < (o0.S.size : Int))), h, hs⟩)
    · replace h := cond_f b8 h
      refine At.region_end [0, 15] [0, 1] _ (st' := ⟨[(0, .ptr 0 0), (15, bo false)], [.blk 39 (T_retraceref03_Reader.pvs o0), .ghost (gv 0) (.ptr 0 0)]⟩) (tips := [(5, { orc := .val (.bool false) })]) (by kernel_rfl) (allc (congrArg D.bool b8) all0) (fun a w hs => ⟨false, h, hs⟩)
  · intro x6 h
    replace h : F_retraceref03_Reader_End_J1 o0 x6 = some r := h
    rw [F_retraceref03_Reader_End_J1] at h
    refine At.cond x6 (by kernel_rfl) (fun b7 => ?_) (fun b7 => ?_)
    · replace h := cond_t b7 h
      refine At.seq ?_
      refine At.region_end [2] [0, 1] _ (st' := ⟨[(2, i64 3)], [.blk 39 (T_retraceref03_Reader.pvs o0), .ghost (gv 0) (.ptr 0 0)]⟩) (tips := []) (by kernel_rfl) all0 (norm ?_)
      obtain rfl := some_eq h
      exact At.ret fun a w hs => ret_ok hR (ρ := [0]) (gs := [.ghost (gv 0) (.ptr 0 0)]) (by kernel_rfl) all0 (by kernel_rfl) rfl rfl a w hs _ (.inl rfl)
    · replace h := cond_f b7 h
      refine At.nar [0] [0, 1] (st' := ⟨[(0, .ptr 0 0)], [.blk 39 (T_retraceref03_Reader.pvs o0), .ghost (gv 0) (.ptr 0 0)]⟩) (by kernel_rfl) ?_
      refine At.skip (norm ?_)
      refine At.seq ?_
      refine At.region_end [2] [0, 1] _ (st' := ⟨[(2, i64 o0.Bad)], [.blk 39 (T_retraceref03_Reader.pvs o0), .ghost (gv 0) (.ptr 0 0)]⟩) (tips := []) (by kernel_rfl) all0 (norm ?_)
      obtain rfl := some_eq h
      exact At.ret fun a w hs => ret_ok hR (ρ := [0]) (gs := [.ghost (gv 0) (.ptr 0 0)]) (by kernel_rfl) all0 (by kernel_rfl) rfl rfl a w hs _ (.inl rfl)
set_option maxRecDepth 100000 in
theorem C_retracelaw03_WireReads (p0 : ByteArray) (p1 : (List T_retracelaw03_Part)) (r : Bool) (h : F_retracelaw03_WireReads p0 p1 = some r) : FnOK Try.prog 4 [sv p0, lv T_retracelaw03_Part.enc p1] [] (bo r) [] [] := by
  rw [F_retracelaw03_WireReads] at h
  refine FnOK.intro Try.func4 rfl (by kernel_rfl) (by kernel_rfl) fun E gv R hR => ?_
  refine At.seq ?_
  refine At.region_end [0, 1] [] _ (st' := ⟨[(0, sv p0), (1, lv T_retracelaw03_Part.enc p1)], []⟩) (tips := []) (by kernel_rfl) all0 (norm ?_)
  refine At.seq ?_
  refine At.seqJ (S := Bool) (fun s => ⟨[(0, sv p0), (1, lv T_retracelaw03_Part.enc p1), (14, bo s)], []⟩) (fun s => F_retracelaw03_WireReads_J1 p0 p1 s = some r) ?_ ?_
  · rcases tf (decide (600 < (p0.size : Int))) with b124 | b124
    · replace h := cond_t b124 h
      refine At.region_end [0, 1, 14] [] _ (st' := ⟨[(0, sv p0), (1, lv T_retracelaw03_Part.enc p1), (14, bo true)], []⟩) (tips := [(3, { orc := .val (.bool true) })]) (by kernel_rfl) (allc (congrArg D.bool b124) all0) (fun a w hs => ⟨true, h, hs⟩)
    · replace h := cond_f b124 h
      obtain ⟨y125, hy125, h⟩ := bind_some h
      refine At.region_end [0, 1, 14] [] _ (st' := ⟨[(0, sv p0), (1, lv T_retracelaw03_Part.enc p1), (14, bo y125)], []⟩) (tips := [(3, { orc := .val (.bool false) }), (5, { pc := some { ρ := [], n0 := 0, res := bo y125, σ' := [], e := [] } })]) (by kernel_rfl) (allc (congrArg D.bool b124) (allc (C_retracelaw03_long p1 y125 hy125) all0)) (fun a w hs => ⟨y125, h, hs⟩)
  · intro x11 h
    replace h : F_retracelaw03_WireReads_J1 p0 p1 x11 = some r := h
    rw [F_retracelaw03_WireReads_J1] at h
    refine At.cond x11 (by kernel_rfl) (fun b12 => ?_) (fun b12 => ?_)
    · replace h := cond_t b12 h
      refine At.seq ?_
      obtain ⟨y14, hy14, h⟩ := bind_some h
      refine At.region_end [4] [] _ (st' := ⟨[(4, bo y14)], []⟩) (tips := [(0, { pc := some { ρ := [], n0 := 0, res := bo y14, σ' := [], e := [] } })]) (by kernel_rfl) (allc (C_retracelaw03_live y14 hy14) all0) (norm ?_)
      obtain rfl := some_eq h
      exact At.ret fun a w hs => ret_ok hR (ρ := []) (gs := []) (by kernel_rfl) all0 (by kernel_rfl) rfl rfl a w hs _ (.inl rfl)
    · replace h := cond_f b12 h
      refine At.nar [0, 1] [] (st' := ⟨[(0, sv p0), (1, lv T_retracelaw03_Part.enc p1)], []⟩) (by kernel_rfl) ?_
      refine At.skip (norm ?_)
      refine At.seq ?_
      obtain ⟨y16, hy16, h⟩ := bind_some h
      refine At.region_end [0, 1, 5] [0] _ (st' := ⟨[(0, sv p0), (1, lv T_retracelaw03_Part.enc p1), (5, .ptr 0 0)], [.blk 93 (T_wire_Reader.pvs y16)]⟩) (tips := [(1, { pc := some { ρ := [0], n0 := 0, res := .ptr 0 0, σ' := [.blk 93 (T_wire_Reader.pvs y16)], e := [] } })]) (by kernel_rfl) (allc (C_wire_Open p0 y16 hy16) all0) (norm ?_)
      refine At.seq ?_
      refine At.region_end [1, 5, 6] [0, 1] _ (st' := ⟨[(1, lv T_retracelaw03_Part.enc p1), (5, .ptr 0 0), (6, .ptr 1 0)], [.blk 93 (T_wire_Reader.pvs y16), .blk 39 [sv p0, i64 0]]⟩) (tips := []) (by kernel_rfl) all0 (norm ?_)
      refine At.seq ?_
      refine At.seq ?_
      refine At.region_end [1, 5, 6, 7] [0, 1] _ (st' := ⟨[(1, lv T_retracelaw03_Part.enc p1), (5, .ptr 0 0), (6, .ptr 1 0), (7, i64 0)], [.blk 93 (T_wire_Reader.pvs y16), .blk 39 [sv p0, i64 0]]⟩) (tips := []) (by kernel_rfl) all0 (norm ?_)
      refine At.block ?_
      refine At.loop (fun s : (Int × ByteArray × Int × ByteArray × Int) => F_retracelaw03_WireReads_L4 p1 s.1 s.2.1 s.2.2.1 s.2.2.2.1 s.2.2.2.2) (fun s : (Int × ByteArray × Int × ByteArray × Int) => ⟨[(1, lv T_retracelaw03_Part.enc p1), (5, .ptr 0 0), (6, .ptr 1 0), (7, i64 s.1)], [.blk 93 [sv s.2.1, i64 s.2.2.1], .blk 39 [sv s.2.2.2.1, i64 s.2.2.2.2]]⟩) r (0, y16.s, y16.e, p0, 0) h ?_
      rintro ⟨x66, x67, x68, x69, x70⟩ oo71 h f72
      replace h : F_retracelaw03_WireReads_L4 p1 x66 x67 x68 x69 x70 = some oo71 := h
      rw [F_retracelaw03_WireReads_L4] at h
      refine At.seq ?_
      refine At.seq ?_
      refine At.region_end [1, 5, 6, 7, 24] [0, 1] _ (st' := ⟨[(1, lv T_retracelaw03_Part.enc p1), (5, .ptr 0 0), (6, .ptr 1 0), (7, i64 x66), (24, bo (decide (x66 < ((p1).length : Int))))], [.blk 93 [sv x67, i64 x68], .blk 39 [sv x69, i64 x70]]⟩) (tips := []) (by kernel_rfl) all0 (norm ?_)
      refine At.cond (decide (x66 < ((p1).length : Int))) (by kernel_rfl) (fun b74 => ?_) (fun b74 => ?_)
      · replace h := cond_t b74 h
        refine At.nar [1, 5, 6, 7] [0, 1] (st' := ⟨[(1, lv T_retracelaw03_Part.enc p1), (5, .ptr 0 0), (6, .ptr 1 0), (7, i64 x66)], [.blk 93 [sv x67, i64 x68], .blk 39 [sv x69, i64 x70]]⟩) (by kernel_rfl) ?_
        refine At.skip (norm ?_)
        refine At.seq ?_
        refine At.block ?_
        refine At.seqJ (S := Bool × ByteArray × Int × ByteArray × Int) (fun s => ⟨[(1, lv T_retracelaw03_Part.enc p1), (5, .ptr 0 0), (6, .ptr 1 0), (7, i64 x66), (53, bo s.1)], [.blk 93 [sv s.2.1, i64 s.2.2.1], .blk 39 [sv s.2.2.2.1, i64 s.2.2.2.2]]⟩) (fun s => F_retracelaw03_WireReads_J2 x66 s.1 s.2.1 s.2.2.1 s.2.2.2.1 s.2.2.2.2 = some oo71) ?_ ?_
        · obtain ⟨y107, hy107, h⟩ := bind_some h
          obtain ⟨y108, hy108, h⟩ := bind_some h
          rcases tf (!y108.1) with b109 | b109
          · replace h := cond_t b109 h
            refine At.draw_end mixedOrd 0 [1, 5, 6, 7, 53] [0, 1] _ (st' := ⟨[(1, lv T_retracelaw03_Part.enc p1), (5, .ptr 0 0), (6, .ptr 1 0), (7, i64 x66), (53, bo true)], [.blk 93 (T_wire_Reader.pvs y108.2.1), .blk 39 (T_retraceref03_Reader.pvs y108.2.2)]⟩) (tips := [(0, { r := 2 }), (1, { r := 2 }), (4, { tip := { orc := .cells (T_retracelaw03_Part.enc y107) } }), (6, { tip := { pc := some { ρ := [0, 1], n0 := 2, res := bo y108.1, σ' := [.blk 93 (T_wire_Reader.pvs y108.2.1), .blk 39 (T_retraceref03_Reader.pvs y108.2.2)], e := [1, 3] } }, T := [0, 1], r := 2 }), (8, { tip := { orc := .val (.bool true) } }), (9, { r := 2 }), (10, { r := 2 }), (11, { r := 2 }), (15, { r := 2 }), (19, { r := 2 }), (20, { r := 2 }), (21, { r := 2 })]) (by kernel_rfl) (allc (elemAt_of T_retracelaw03_Part.enc_len hy107) (allc (C_retracelaw03_read y107 (⟨x67, x68⟩ : T_wire_Reader) (⟨x69, x70⟩ : T_retraceref03_Reader) y108 hy108) (allc (congrArg D.bool b109) all0))) (fun a w hs => ⟨(true, y108.2.1.s, y108.2.1.e, y108.2.2.S, y108.2.2.Bad), h, hs⟩)
          · replace h := cond_f b109 h
            obtain ⟨y110, hy110, h⟩ := bind_some h
            rcases tf (y110 != (y108.2.2.S.size : Int)) with b111 | b111
            · replace h := cond_t b111 h
              refine At.draw_end mixedOrd 0 [1, 5, 6, 7, 53] [0, 1] _ (st' := ⟨[(1, lv T_retracelaw03_Part.enc p1), (5, .ptr 0 0), (6, .ptr 1 0), (7, i64 x66), (53, bo true)], [.blk 93 (T_wire_Reader.pvs y108.2.1), .blk 39 (T_retraceref03_Reader.pvs y108.2.2)]⟩) (tips := [(0, { r := 2 }), (1, { r := 2 }), (4, { tip := { orc := .cells (T_retracelaw03_Part.enc y107) } }), (6, { tip := { pc := some { ρ := [0, 1], n0 := 2, res := bo y108.1, σ' := [.blk 93 (T_wire_Reader.pvs y108.2.1), .blk 39 (T_retraceref03_Reader.pvs y108.2.2)], e := [1, 3] } }, T := [0, 1], r := 2 }), (8, { tip := { orc := .val (.bool false) } }), (9, { r := 2 }), (10, { tip := { pc := some { ρ := [0], n0 := 1, res := i64 y110, σ' := [.blk 93 (T_wire_Reader.pvs y108.2.1)], e := [1] } }, T := [0], r := 2 }), (11, { r := 2 }), (12, { r := 2 }), (13, { r := 2 }), (14, { T := [1], r := 2 }), (15, { r := 2 }), (18, { tip := { orc := .val (.bool true) } }), (19, { r := 2 }), (20, { r := 2 }), (21, { r := 2 })]) (by kernel_rfl) (allc (elemAt_of T_retracelaw03_Part.enc_len hy107) (allc (C_retracelaw03_read y107 (⟨x67, x68⟩ : T_wire_Reader) (⟨x69, x70⟩ : T_retraceref03_Reader) y108 hy108) (allc (congrArg D.bool b109) (allc (C_wire_Reader_Left y108.2.1 y110 hy110) (allc (congrArg D.bool b111) all0))))) (fun a w hs => ⟨(true, y108.2.1.s, y108.2.1.e, y108.2.2.S, y108.2.2.Bad), h, hs⟩)
            · replace h := cond_f b111 h
              obtain ⟨y112, hy112, h⟩ := bind_some h
              refine At.draw_end mixedOrd 0 [1, 5, 6, 7, 53] [0, 1] _ (st' := ⟨[(1, lv T_retracelaw03_Part.enc p1), (5, .ptr 0 0), (6, .ptr 1 0), (7, i64 x66), (53, bo (y112 != y108.2.2.Bad))], [.blk 93 (T_wire_Reader.pvs y108.2.1), .blk 39 (T_retraceref03_Reader.pvs y108.2.2)]⟩) (tips := [(0, { r := 2 }), (1, { r := 2 }), (4, { tip := { orc := .cells (T_retracelaw03_Part.enc y107) } }), (6, { tip := { pc := some { ρ := [0, 1], n0 := 2, res := bo y108.1, σ' := [.blk 93 (T_wire_Reader.pvs y108.2.1), .blk 39 (T_retraceref03_Reader.pvs y108.2.2)], e := [1, 3] } }, T := [0, 1], r := 2 }), (8, { tip := { orc := .val (.bool false) } }), (9, { r := 2 }), (10, { tip := { pc := some { ρ := [0], n0 := 1, res := i64 y110, σ' := [.blk 93 (T_wire_Reader.pvs y108.2.1)], e := [1] } }, T := [0], r := 2 }), (11, { r := 2 }), (12, { r := 2 }), (13, { r := 2 }), (14, { T := [1], r := 2 }), (15, { r := 2 }), (18, { tip := { orc := .val (.bool false) } }), (19, { r := 2 }), (20, { tip := { pc := some { ρ := [0], n0 := 1, res := i64 y112, σ' := [.blk 93 (T_wire_Reader.pvs y108.2.1)], e := [1] } }, T := [0], r := 2 }), (21, { r := 2 }), (22, { r := 2 }), (23, { r := 2 }), (24, { T := [1], r := 2 })]) (by kernel_rfl) (allc (elemAt_of T_retracelaw03_Part.enc_len hy107) (allc (C_retracelaw03_read y107 (⟨x67, x68⟩ : T_wire_Reader) (⟨x69, x70⟩ : T_retraceref03_Reader) y108 hy108) (allc (congrArg D.bool b109) (allc (C_wire_Reader_Left y108.2.1 y110 hy110) (allc (congrArg D.bool b111) (allc (C_wire_Reader_Err y108.2.1 y112 hy112) all0)))))) (fun a w hs => ⟨((y112 != y108.2.2.Bad), y108.2.1.s, y108.2.1.e, y108.2.2.S, y108.2.2.Bad), h, hs⟩)
        · rintro ⟨x99, x100, x101, x102, x103⟩ h
          replace h : F_retracelaw03_WireReads_J2 x66 x99 x100 x101 x102 x103 = some oo71 := h
          rw [F_retracelaw03_WireReads_J2] at h
          refine At.cond x99 (by kernel_rfl) (fun b104 => ?_) (fun b104 => ?_)
          · replace h := cond_t b104 h
            refine At.seq ?_
            refine At.region_end [4] [] _ (st' := ⟨[(4, bo false)], []⟩) (tips := []) (by kernel_rfl) all0 (norm ?_)
            obtain ⟨r105, h, e106⟩ := map_inr h
            rw [f72 _ e106] at h
            obtain rfl := some_eq h
            exact At.ret fun a w hs => ret_ok hR (ρ := []) (gs := []) (by kernel_rfl) all0 (by kernel_rfl) rfl rfl a w hs _ (.inl rfl)
          · replace h := cond_f b104 h
            refine At.nar [1, 5, 6, 7] [0, 1] (st' := ⟨[(1, lv T_retracelaw03_Part.enc p1), (5, .ptr 0 0), (6, .ptr 1 0), (7, i64 x66)], [.blk 93 [sv x100, i64 x101], .blk 39 [sv x102, i64 x103]]⟩) (by kernel_rfl) ?_
            refine At.skip (norm ?_)
            refine At.region_end [1, 5, 6, 7] [0, 1] _ (st' := ⟨[(1, lv T_retracelaw03_Part.enc p1), (5, .ptr 0 0), (6, .ptr 1 0), (7, i64 (w64 (x66 + 1)))], [.blk 93 [sv x100, i64 x101], .blk 39 [sv x102, i64 x103]]⟩) (tips := []) (by kernel_rfl) all0 (fun a w hs => ⟨_, (some_eq h).symm, hs⟩)
      · replace h := cond_f b74 h
        refine At.nar [5, 6] [0, 1] (st' := ⟨[(5, .ptr 0 0), (6, .ptr 1 0)], [.blk 93 [sv x67, i64 x68], .blk 39 [sv x69, i64 x70]]⟩) (by kernel_rfl) ?_
        obtain ⟨r113, h, e114⟩ := map_inr h
        rw [f72 _ e114] at h
        refine At.exit (norm ?_)
        refine At.seqJ (S := Bool) (fun s => ⟨[(4, bo s)], []⟩) (fun s => F_retracelaw03_WireReads_J3 s = some r) ?_ ?_
        · obtain ⟨y120, hy120, h⟩ := bind_some h
          obtain ⟨y121, hy121, h⟩ := bind_some h
          rcases tf (y120 == y121) with b122 | b122
          · replace h := cond_t b122 h
            obtain ⟨y123, hy123, h⟩ := bind_some h
            refine At.region_end [4] [] _ (st' := ⟨[(4, bo y123)], []⟩) (tips := [(1, { pc := some { ρ := [0], n0 := 1, res := i64 y120, σ' := [.blk 93 [sv x67, i64 x68]], e := [1] } }), (3, { pc := some { ρ := [1], n0 := 1, res := i64 y121, σ' := [.blk 39 [sv x69, i64 x70]], e := [1] } }), (5, { orc := .val (.bool true) }), (6, { pc := some { ρ := [], n0 := 0, res := bo y123, σ' := [], e := [] } })]) (by kernel_rfl) (allc (C_wire_Reader_End (⟨x67, x68⟩ : T_wire_Reader) y120 hy120) (allc (C_retraceref03_Reader_End (⟨x69, x70⟩ : T_retraceref03_Reader) y121 hy121) (allc (congrArg D.bool b122) (allc (C_retracelaw03_live y123 hy123) all0)))) (fun a w hs => ⟨y123, h, hs⟩)
          · replace h := cond_f b122 h
            refine At.region_end [4] [] _ (st' := ⟨[(4, bo false)], []⟩) (tips := [(1, { pc := some { ρ := [0], n0 := 1, res := i64 y120, σ' := [.blk 93 [sv x67, i64 x68]], e := [1] } }), (3, { pc := some { ρ := [1], n0 := 1, res := i64 y121, σ' := [.blk 39 [sv x69, i64 x70]], e := [1] } }), (5, { orc := .val (.bool false) })]) (by kernel_rfl) (allc (C_wire_Reader_End (⟨x67, x68⟩ : T_wire_Reader) y120 hy120) (allc (C_retraceref03_Reader_End (⟨x69, x70⟩ : T_retraceref03_Reader) y121 hy121) (allc (congrArg D.bool b122) all0))) (fun a w hs => ⟨false, h, hs⟩)
        · intro x119 h
          replace h : F_retracelaw03_WireReads_J3 x119 = some r := h
          rw [F_retracelaw03_WireReads_J3] at h
          obtain rfl := some_eq h
          exact At.ret fun a w hs => ret_ok hR (ρ := []) (gs := []) (by kernel_rfl) all0 (by kernel_rfl) rfl rfl a w hs _ (.inl rfl)
set_option maxRecDepth 100000 in
theorem C_retracelaw03_long_v2 (o0 : (List T_retracelaw03_Part)) (r : Bool) (h : F_retracelaw03_long_v2 o0 = some r) : FnOK Try.prog 13 [.row 0 (o0).length] [.row 33 6 (encL T_retracelaw03_Part.enc o0)] (bo r) [.row 33 6 (encL T_retracelaw03_Part.enc o0)] [0] := by
  rw [F_retracelaw03_long_v2] at h
  refine FnOK.intro Try.func13 rfl (by kernel_rfl) (by kernel_rfl) fun E gv R hR => ?_
  refine At.seq ?_
  refine At.region_end [0] [0, 1] _ (st' := ⟨[(0, .row 0 (o0).length)], [.row 33 6 (encL T_retracelaw03_Part.enc o0), .ghost (gv 0) (.row 0 0)]⟩) (tips := []) (by kernel_rfl) all0 (norm ?_)
  refine At.seq ?_
  refine At.seq ?_
  refine At.region_end [0, 3] [0, 1] _ (st' := ⟨[(0, .row 0 (o0).length), (3, i64 0)], [.row 33 6 (encL T_retracelaw03_Part.enc o0), .ghost (gv 0) (.row 0 0)]⟩) (tips := []) (by kernel_rfl) all0 (norm ?_)
  refine At.block ?_
  refine At.loop (fun s : (Int) => F_retracelaw03_long_v2_L3 o0 s) (fun s : (Int) => ⟨[(0, .row 0 (o0).length), (3, i64 s)], [.row 33 6 (encL T_retracelaw03_Part.enc o0), .ghost (gv 0) (.row 0 0)]⟩) r 0 h ?_
  intro x32 oo33 h f34
  replace h : F_retracelaw03_long_v2_L3 o0 x32 = some oo33 := h
  rw [F_retracelaw03_long_v2_L3] at h
  refine At.seq ?_
  refine At.seqJ (S := Bool) (fun s => ⟨[(0, .row 0 (o0).length), (3, i64 x32), (11, bo s)], [.row 33 6 (encL T_retracelaw03_Part.enc o0), .ghost (gv 0) (.row 0 0)]⟩) (fun s => F_retracelaw03_long_v2_J1 o0 x32 s = some oo33) ?_ ?_
  · rcases tf (decide (x32 < ((o0).length : Int))) with b62 | b62
    · replace h := cond_t b62 h
      refine At.region_end [0, 3, 11] [0, 1] _ (st' := ⟨[(0, .row 0 (o0).length), (3, i64 x32), (11, bo (decide (x32 < 40)))], [.row 33 6 (encL T_retracelaw03_Part.enc o0), .ghost (gv 0) (.row 0 0)]⟩) (tips := [(4, { orc := .val (.bool true) })]) (by kernel_rfl) (allc (congrArg D.bool b62) all0) (fun a w hs => ⟨(decide (x32 < 40)), h, hs⟩)
    · replace h := cond_f b62 h
      refine At.region_end [0, 3, 11] [0, 1] _ (st' := ⟨[(0, .row 0 (o0).length), (3, i64 x32), (11, bo false)], [.row 33 6 (encL T_retracelaw03_Part.enc o0), .ghost (gv 0) (.row 0 0)]⟩) (tips := [(4, { orc := .val (.bool false) })]) (by kernel_rfl) (allc (congrArg D.bool b62) all0) (fun a w hs => ⟨false, h, hs⟩)
  · intro x40 h
    replace h : F_retracelaw03_long_v2_J1 o0 x32 x40 = some oo33 := h
    rw [F_retracelaw03_long_v2_J1] at h
    refine At.cond x40 (by kernel_rfl) (fun b41 => ?_) (fun b41 => ?_)
    · replace h := cond_t b41 h
      refine At.nar [0, 3] [0, 1] (st' := ⟨[(0, .row 0 (o0).length), (3, i64 x32)], [.row 33 6 (encL T_retracelaw03_Part.enc o0), .ghost (gv 0) (.row 0 0)]⟩) (by kernel_rfl) ?_
      refine At.skip (norm ?_)
      refine At.seq ?_
      refine At.block ?_
      refine At.seqJ (S := Bool) (fun s => ⟨[(0, .row 0 (o0).length), (3, i64 x32), (29, bo s)], [.row 33 6 (encL T_retracelaw03_Part.enc o0), .ghost (gv 0) (.row 0 0)]⟩) (fun s => F_retracelaw03_long_v2_J2 x32 s = some oo33) ?_ ?_
      · obtain ⟨y57, hy57, h⟩ := bind_some h
        rcases tf (decide (200 < (y57.S.size : Int))) with b58 | b58
        · replace h := cond_t b58 h
          refine At.region_end [0, 3, 29] [0, 1] _ (st' := ⟨[(0, .row 0 (o0).length), (3, i64 x32), (29, bo true)], [.row 33 6 (encL T_retracelaw03_Part.enc o0), .ghost (gv 0) (.row 0 0)]⟩) (tips := [(4, { orc := .val (.str y57.S) }), (7, { orc := .val (.bool true) })]) (by kernel_rfl) (allc (rEl hy57) (allc (rElV T_retracelaw03_Part.enc_len hy57 4 (by decide) (d := .str y57.S) (by rfl)) (allc (congrArg D.bool b58) all0))) (fun a w hs => ⟨true, h, hs⟩)
        · replace h := cond_f b58 h
          obtain ⟨y59, hy59, h⟩ := bind_some h
          refine At.region_end [0, 3, 29] [0, 1] _ (st' := ⟨[(0, .row 0 (o0).length), (3, i64 x32), (29, bo (decide (60 < ((y59.L).length : Int))))], [.row 33 6 (encL T_retracelaw03_Part.enc o0), .ghost (gv 0) (.row 0 0)]⟩) (tips := [(4, { orc := .val (.str y57.S) }), (7, { orc := .val (.bool false) }), (12, { orc := .val (.list false (y59.L).length (encL (eInt .i64) y59.L)) })]) (by kernel_rfl) (allc (rEl hy57) (allc (rElV T_retracelaw03_Part.enc_len hy57 4 (by decide) (d := .str y57.S) (by rfl)) (allc (congrArg D.bool b58) (allc (rEl hy59) (allc (rElV T_retracelaw03_Part.enc_len hy59 5 (by decide) (d := .list false (y59.L).length (encL (eInt .i64) y59.L)) (by rfl)) all0))))) (fun a w hs => ⟨(decide (60 < ((y59.L).length : Int))), h, hs⟩)
      · intro x53 h
        replace h : F_retracelaw03_long_v2_J2 x32 x53 = some oo33 := h
        rw [F_retracelaw03_long_v2_J2] at h
        refine At.cond x53 (by kernel_rfl) (fun b54 => ?_) (fun b54 => ?_)
        · replace h := cond_t b54 h
          refine At.seq ?_
          refine At.region_end [2] [0, 1] _ (st' := ⟨[(2, bo true)], [.row 33 6 (encL T_retracelaw03_Part.enc o0), .ghost (gv 0) (.row 0 0)]⟩) (tips := []) (by kernel_rfl) all0 (norm ?_)
          obtain ⟨r55, h, e56⟩ := map_inr h
          rw [f34 _ e56] at h
          obtain rfl := some_eq h
          exact At.ret fun a w hs => ret_ok hR (ρ := [0]) (gs := [.ghost (gv 0) (.row 0 0)]) (by kernel_rfl) all0 (by kernel_rfl) rfl rfl a w hs _ (.inl rfl)
        · replace h := cond_f b54 h
          refine At.nar [0, 3] [0, 1] (st' := ⟨[(0, .row 0 (o0).length), (3, i64 x32)], [.row 33 6 (encL T_retracelaw03_Part.enc o0), .ghost (gv 0) (.row 0 0)]⟩) (by kernel_rfl) ?_
          refine At.skip (norm ?_)
          refine At.region_end [0, 3] [0, 1] _ (st' := ⟨[(0, .row 0 (o0).length), (3, i64 (w64 (x32 + 1)))], [.row 33 6 (encL T_retracelaw03_Part.enc o0), .ghost (gv 0) (.row 0 0)]⟩) (tips := []) (by kernel_rfl) all0 (fun a w hs => ⟨_, (some_eq h).symm, hs⟩)
    · replace h := cond_f b41 h
      refine At.nar [0] [0, 1] (st' := ⟨[(0, .row 0 (o0).length)], [.row 33 6 (encL T_retracelaw03_Part.enc o0), .ghost (gv 0) (.row 0 0)]⟩) (by kernel_rfl) ?_
      obtain ⟨r60, h, e61⟩ := map_inr h
      rw [f34 _ e61] at h
      refine At.exit (norm ?_)
      refine At.seq ?_
      refine At.region_end [2] [0, 1] _ (st' := ⟨[(2, bo (decide (40 < ((o0).length : Int))))], [.row 33 6 (encL T_retracelaw03_Part.enc o0), .ghost (gv 0) (.row 0 0)]⟩) (tips := []) (by kernel_rfl) all0 (norm ?_)
      obtain rfl := some_eq h
      exact At.ret fun a w hs => ret_ok hR (ρ := [0]) (gs := [.ghost (gv 0) (.row 0 0)]) (by kernel_rfl) all0 (by kernel_rfl) rfl rfl a w hs _ (.inl rfl)
set_option maxRecDepth 100000 in
theorem C_wire_Reader_step_v7 (o0_0 : Int) (r : Bool) (h : F_wire_Reader_step_v7 o0_0 = some r) : FnOK Try.prog 64 [.d .nilP, .fn (.func 66) [] [.ptr 0 0]] [.blk 30 [u64 o0_0]] (bo r) [.blk 30 [u64 o0_0]] [1] := by
  rw [F_wire_Reader_step_v7] at h
  refine FnOK.intro Try.func64 rfl (by kernel_rfl) (by kernel_rfl) fun E gv R hR => ?_
  refine At.seq ?_
  refine At.region_end [0, 1] [0, 1] _ (st' := ⟨[(0, .d .nilP), (1, .fn (.func 66) [] [.ptr 0 0])], [.blk 30 [u64 o0_0], .ghost (gv 0) (.ptr 0 0)]⟩) (tips := []) (by kernel_rfl) all0 (norm ?_)
  refine At.seq ?_
  refine At.seq ?_
  refine At.region_end [0, 1, 15] [0, 1] _ (st' := ⟨[(0, .d .nilP), (1, .fn (.func 66) [] [.ptr 0 0]), (15, bo true)], [.blk 30 [u64 o0_0], .ghost (gv 0) (.ptr 0 0)]⟩) (tips := []) (by kernel_rfl) all0 (norm ?_)
  refine At.cond true (by kernel_rfl) (fun _ => ?_) (fun hb => by cases hb)
  refine At.seq ?_
  refine At.region_end [4] [0, 1] _ (st' := ⟨[(4, bo false)], [.blk 30 [u64 o0_0], .ghost (gv 0) (.ptr 0 0)]⟩) (tips := []) (by kernel_rfl) all0 (norm ?_)
  obtain rfl := some_eq h
  exact At.ret fun a w hs => ret_ok hR (ρ := [0]) (gs := [.ghost (gv 0) (.ptr 0 0)]) (by kernel_rfl) all0 (by kernel_rfl) rfl rfl a w hs _ (.inl rfl)
set_option maxRecDepth 100000 in
theorem C_wire_Reader_Num_v2  (r : Int) (h : F_wire_Reader_Num_v2  = some r) : FnOK Try.prog 24 [.d .nilP] [] (u64 r) [] [] := by
  rw [F_wire_Reader_Num_v2] at h
  refine FnOK.intro Try.func24 rfl (by kernel_rfl) (by kernel_rfl) fun E gv R hR => ?_
  refine At.seq ?_
  refine At.region_end [0] [] _ (st' := ⟨[(0, .d .nilP)], []⟩) (tips := []) (by kernel_rfl) all0 (norm ?_)
  refine At.seq ?_
  refine At.region_end [0, 3] [0] _ (st' := ⟨[(0, .d .nilP), (3, .ptr 0 0)], [.blk 30 [u64 0]]⟩) (tips := []) (by kernel_rfl) all0 (norm ?_)
  refine At.seq ?_
  obtain ⟨y2, hy2, h⟩ := bind_some h
  refine At.region_end [3] [0] _ (st' := ⟨[(3, .ptr 0 0)], [.blk 30 [u64 0]]⟩) (tips := [(2, { pc := some { ρ := [0], n0 := 1, res := bo y2, σ' := [.blk 30 [u64 0]], e := [1] } })]) (by kernel_rfl) (allc (C_wire_Reader_step_v7 0 y2 hy2) all0) (norm ?_)
  refine At.seq ?_
  refine At.region_end [2] [] _ (st' := ⟨[(2, u64 0)], []⟩) (tips := []) (by kernel_rfl) all0 (norm ?_)
  obtain rfl := some_eq h
  exact At.ret fun a w hs => ret_ok hR (ρ := []) (gs := []) (by kernel_rfl) all0 (by kernel_rfl) rfl rfl a w hs _ (.inl rfl)
set_option maxRecDepth 100000 in
theorem C_wire_Reader_step_v8 (o0_0 : Int) (r : Bool) (h : F_wire_Reader_step_v8 o0_0 = some r) : FnOK Try.prog 64 [.d .nilP, .fn (.func 68) [] [.ptr 0 0]] [.blk 2 [i64 o0_0]] (bo r) [.blk 2 [i64 o0_0]] [1] := by
  rw [F_wire_Reader_step_v8] at h
  refine FnOK.intro Try.func64 rfl (by kernel_rfl) (by kernel_rfl) fun E gv R hR => ?_
  refine At.seq ?_
  refine At.region_end [0, 1] [0, 1] _ (st' := ⟨[(0, .d .nilP), (1, .fn (.func 68) [] [.ptr 0 0])], [.blk 2 [i64 o0_0], .ghost (gv 0) (.ptr 0 0)]⟩) (tips := []) (by kernel_rfl) all0 (norm ?_)
  refine At.seq ?_
  refine At.seq ?_
  refine At.region_end [0, 1, 15] [0, 1] _ (st' := ⟨[(0, .d .nilP), (1, .fn (.func 68) [] [.ptr 0 0]), (15, bo true)], [.blk 2 [i64 o0_0], .ghost (gv 0) (.ptr 0 0)]⟩) (tips := []) (by kernel_rfl) all0 (norm ?_)
  refine At.cond true (by kernel_rfl) (fun _ => ?_) (fun hb => by cases hb)
  refine At.seq ?_
  refine At.region_end [4] [0, 1] _ (st' := ⟨[(4, bo false)], [.blk 2 [i64 o0_0], .ghost (gv 0) (.ptr 0 0)]⟩) (tips := []) (by kernel_rfl) all0 (norm ?_)
  obtain rfl := some_eq h
  exact At.ret fun a w hs => ret_ok hR (ρ := [0]) (gs := [.ghost (gv 0) (.ptr 0 0)]) (by kernel_rfl) all0 (by kernel_rfl) rfl rfl a w hs _ (.inl rfl)
set_option maxRecDepth 100000 in
theorem C_wire_Reader_Int_v2  (r : Int) (h : F_wire_Reader_Int_v2  = some r) : FnOK Try.prog 25 [.d .nilP] [] (i64 r) [] [] := by
  rw [F_wire_Reader_Int_v2] at h
  refine FnOK.intro Try.func25 rfl (by kernel_rfl) (by kernel_rfl) fun E gv R hR => ?_
  refine At.seq ?_
  refine At.region_end [0] [] _ (st' := ⟨[(0, .d .nilP)], []⟩) (tips := []) (by kernel_rfl) all0 (norm ?_)
  refine At.seq ?_
  refine At.region_end [0, 3] [0] _ (st' := ⟨[(0, .d .nilP), (3, .ptr 0 0)], [.blk 2 [i64 0]]⟩) (tips := []) (by kernel_rfl) all0 (norm ?_)
  refine At.seq ?_
  obtain ⟨y2, hy2, h⟩ := bind_some h
  refine At.region_end [3] [0] _ (st' := ⟨[(3, .ptr 0 0)], [.blk 2 [i64 0]]⟩) (tips := [(2, { pc := some { ρ := [0], n0 := 1, res := bo y2, σ' := [.blk 2 [i64 0]], e := [1] } })]) (by kernel_rfl) (allc (C_wire_Reader_step_v8 0 y2 hy2) all0) (norm ?_)
  refine At.seq ?_
  refine At.region_end [2] [] _ (st' := ⟨[(2, i64 0)], []⟩) (tips := []) (by kernel_rfl) all0 (norm ?_)
  obtain rfl := some_eq h
  exact At.ret fun a w hs => ret_ok hR (ρ := []) (gs := []) (by kernel_rfl) all0 (by kernel_rfl) rfl rfl a w hs _ (.inl rfl)
set_option maxRecDepth 100000 in
theorem C_wire_Reader_step_v9 (o0_0 : Int) (r : Bool) (h : F_wire_Reader_step_v9 o0_0 = some r) : FnOK Try.prog 64 [.d .nilP, .fn (.func 70) [] [.ptr 0 0]] [.blk 5 [u8 o0_0]] (bo r) [.blk 5 [u8 o0_0]] [1] := by
  rw [F_wire_Reader_step_v9] at h
  refine FnOK.intro Try.func64 rfl (by kernel_rfl) (by kernel_rfl) fun E gv R hR => ?_
  refine At.seq ?_
  refine At.region_end [0, 1] [0, 1] _ (st' := ⟨[(0, .d .nilP), (1, .fn (.func 70) [] [.ptr 0 0])], [.blk 5 [u8 o0_0], .ghost (gv 0) (.ptr 0 0)]⟩) (tips := []) (by kernel_rfl) all0 (norm ?_)
  refine At.seq ?_
  refine At.seq ?_
  refine At.region_end [0, 1, 15] [0, 1] _ (st' := ⟨[(0, .d .nilP), (1, .fn (.func 70) [] [.ptr 0 0]), (15, bo true)], [.blk 5 [u8 o0_0], .ghost (gv 0) (.ptr 0 0)]⟩) (tips := []) (by kernel_rfl) all0 (norm ?_)
  refine At.cond true (by kernel_rfl) (fun _ => ?_) (fun hb => by cases hb)
  refine At.seq ?_
  refine At.region_end [4] [0, 1] _ (st' := ⟨[(4, bo false)], [.blk 5 [u8 o0_0], .ghost (gv 0) (.ptr 0 0)]⟩) (tips := []) (by kernel_rfl) all0 (norm ?_)
  obtain rfl := some_eq h
  exact At.ret fun a w hs => ret_ok hR (ρ := [0]) (gs := [.ghost (gv 0) (.ptr 0 0)]) (by kernel_rfl) all0 (by kernel_rfl) rfl rfl a w hs _ (.inl rfl)
set_option maxRecDepth 100000 in
theorem C_wire_Reader_Bool_v2  (r : Bool) (h : F_wire_Reader_Bool_v2  = some r) : FnOK Try.prog 26 [.d .nilP] [] (bo r) [] [] := by
  rw [F_wire_Reader_Bool_v2] at h
  refine FnOK.intro Try.func26 rfl (by kernel_rfl) (by kernel_rfl) fun E gv R hR => ?_
  refine At.seq ?_
  refine At.region_end [0] [] _ (st' := ⟨[(0, .d .nilP)], []⟩) (tips := []) (by kernel_rfl) all0 (norm ?_)
  refine At.seq ?_
  refine At.region_end [0, 3] [0] _ (st' := ⟨[(0, .d .nilP), (3, .ptr 0 0)], [.blk 5 [u8 0]]⟩) (tips := []) (by kernel_rfl) all0 (norm ?_)
  refine At.seq ?_
  obtain ⟨y2, hy2, h⟩ := bind_some h
  refine At.region_end [3, 4] [0] _ (st' := ⟨[(3, .ptr 0 0), (4, bo y2)], [.blk 5 [u8 0]]⟩) (tips := [(2, { pc := some { ρ := [0], n0 := 1, res := bo y2, σ' := [.blk 5 [u8 0]], e := [1] } })]) (by kernel_rfl) (allc (C_wire_Reader_step_v9 0 y2 hy2) all0) (norm ?_)
  refine At.seqJ (S := Unit) (fun s => ⟨[(2, bo false)], []⟩) (fun s => F_wire_Reader_Bool_v2_J1 = some r) ?_ ?_
  · rcases tf y2 with b4 | b4
    · replace h := cond_t b4 h
      refine At.region_end [2] [] _ (st' := ⟨[(2, bo false)], []⟩) (tips := [(1, { orc := .val (.bool true) })]) (by kernel_rfl) (allc (congrArg D.bool b4) all0) (fun a w hs => ⟨(), h, hs⟩)
    · replace h := cond_f b4 h
      refine At.region_end [2] [] _ (st' := ⟨[(2, bo false)], []⟩) (tips := [(1, { orc := .val (.bool false) })]) (by kernel_rfl) (allc (congrArg D.bool b4) all0) (fun a w hs => ⟨(), h, hs⟩)
  · intro _ h
    replace h : F_wire_Reader_Bool_v2_J1 = some r := h
    rw [F_wire_Reader_Bool_v2_J1] at h
    obtain rfl := some_eq h
    exact At.ret fun a w hs => ret_ok hR (ρ := []) (gs := []) (by kernel_rfl) all0 (by kernel_rfl) rfl rfl a w hs _ (.inl rfl)
set_option maxRecDepth 100000 in
theorem C_wire_Reader_step_v10 (o0_0 : Int) (o1_0 : Int) (r : Bool) (h : F_wire_Reader_step_v10 o0_0 o1_0 = some r) : FnOK Try.prog 64 [.d .nilP, .fn (.func 84) [] [.ptr 0 0, .ptr 1 0]] [.blk 30 [u64 o0_0], .blk 3 [i64 o1_0]] (bo r) [.blk 30 [u64 o0_0], .blk 3 [i64 o1_0]] [1, 3] := by
  rw [F_wire_Reader_step_v10] at h
  refine FnOK.intro Try.func64 rfl (by kernel_rfl) (by kernel_rfl) fun E gv R hR => ?_
  refine At.seq ?_
  refine At.region_end [0, 1] [0, 1, 2, 3] _ (st' := ⟨[(0, .d .nilP), (1, .fn (.func 84) [] [.ptr 0 0, .ptr 1 0])], [.blk 30 [u64 o0_0], .blk 3 [i64 o1_0], .ghost (gv 0) (.ptr 0 0), .ghost (gv 1) (.ptr 1 0)]⟩) (tips := []) (by kernel_rfl) all0 (norm ?_)
  refine At.seq ?_
  refine At.seq ?_
  refine At.region_end [0, 1, 15] [0, 1, 2, 3] _ (st' := ⟨[(0, .d .nilP), (1, .fn (.func 84) [] [.ptr 0 0, .ptr 1 0]), (15, bo true)], [.blk 30 [u64 o0_0], .blk 3 [i64 o1_0], .ghost (gv 0) (.ptr 0 0), .ghost (gv 1) (.ptr 1 0)]⟩) (tips := []) (by kernel_rfl) all0 (norm ?_)
  refine At.cond true (by kernel_rfl) (fun _ => ?_) (fun hb => by cases hb)
  refine At.seq ?_
  refine At.region_end [4] [0, 1, 2, 3] _ (st' := ⟨[(4, bo false)], [.blk 30 [u64 o0_0], .blk 3 [i64 o1_0], .ghost (gv 0) (.ptr 0 0), .ghost (gv 1) (.ptr 1 0)]⟩) (tips := []) (by kernel_rfl) all0 (norm ?_)
  obtain rfl := some_eq h
  exact At.ret fun a w hs => ret_ok hR (ρ := [0, 1]) (gs := [.ghost (gv 0) (.ptr 0 0), .ghost (gv 1) (.ptr 1 0)]) (by kernel_rfl) all0 (by kernel_rfl) rfl rfl a w hs _ (.inl rfl)
set_option maxRecDepth 100000 in
theorem C_wire_Reader_Upto_v2 (p1 : Int) (r : Int) (h : F_wire_Reader_Upto_v2 p1 = some r) : FnOK Try.prog 61 [.d .nilP, i64 p1] [] (i64 r) [] [] := by
  rw [F_wire_Reader_Upto_v2] at h
  refine FnOK.intro Try.func61 rfl (by kernel_rfl) (by kernel_rfl) fun E gv R hR => ?_
  refine At.seq ?_
  refine At.region_end [0, 3] [0] _ (st' := ⟨[(0, .d .nilP), (3, .ptr 0 0)], [.blk 3 [i64 p1]]⟩) (tips := []) (by kernel_rfl) all0 (norm ?_)
  refine At.seq ?_
  refine At.region_end [0, 3, 5] [0, 1] _ (st' := ⟨[(0, .d .nilP), (3, .ptr 0 0), (5, .ptr 1 0)], [.blk 3 [i64 p1], .blk 30 [u64 0]]⟩) (tips := []) (by kernel_rfl) all0 (norm ?_)
  refine At.seq ?_
  obtain ⟨y2, hy2, h⟩ := bind_some h
  refine At.region_end [5, 6] [1] _ (st' := ⟨[(5, .ptr 0 0), (6, bo y2)], [.blk 30 [u64 0]]⟩) (tips := [(2, { pc := some { ρ := [1, 0], n0 := 2, res := bo y2, σ' := [.blk 30 [u64 0], .blk 3 [i64 p1]], e := [1, 3] } })]) (by kernel_rfl) (allc (C_wire_Reader_step_v10 0 p1 y2 hy2) all0) (norm ?_)
  refine At.seq ?_
  refine At.seq ?_
  refine At.region_end [5, 11] [0] _ (st' := ⟨[(5, .ptr 0 0), (11, bo (!y2))], [.blk 30 [u64 0]]⟩) (tips := []) (by kernel_rfl) all0 (norm ?_)
  refine At.cond (!y2) (by kernel_rfl) (fun b4 => ?_) (fun b4 => ?_)
  · replace h := cond_t b4 h
    refine At.seq ?_
    refine At.region_end [4] [] _ (st' := ⟨[(4, i64 0)], []⟩) (tips := []) (by kernel_rfl) all0 (norm ?_)
    obtain rfl := some_eq h
    exact At.ret fun a w hs => ret_ok hR (ρ := []) (gs := []) (by kernel_rfl) all0 (by kernel_rfl) rfl rfl a w hs _ (.inl rfl)
  · replace h := cond_f b4 h
    refine At.nar [5] [0] (st' := ⟨[(5, .ptr 0 0)], [.blk 30 [u64 0]]⟩) (by kernel_rfl) ?_
    refine At.skip (norm ?_)
    refine At.seq ?_
    refine At.region_end [4] [] _ (st' := ⟨[(4, i64 0)], []⟩) (tips := []) (by kernel_rfl) all0 (norm ?_)
    obtain rfl := some_eq h
    exact At.ret fun a w hs => ret_ok hR (ρ := []) (gs := []) (by kernel_rfl) all0 (by kernel_rfl) rfl rfl a w hs _ (.inl rfl)
set_option maxRecDepth 100000 in
theorem C_wire_Reader_step_v11 (o0_0 : Int) (o1_0 : ByteArray) (r : Bool) (h : F_wire_Reader_step_v11 o0_0 o1_0 = some r) : FnOK Try.prog 64 [.d .nilP, .fn (.func 71) [] [.ptr 0 0, .ptr 1 0]] [.blk 3 [i64 o0_0], .blk 9 [sv o1_0]] (bo r) [.blk 3 [i64 o0_0], .blk 9 [sv o1_0]] [1, 3] := by
  rw [F_wire_Reader_step_v11] at h
  refine FnOK.intro Try.func64 rfl (by kernel_rfl) (by kernel_rfl) fun E gv R hR => ?_
  refine At.seq ?_
  refine At.region_end [0, 1] [0, 1, 2, 3] _ (st' := ⟨[(0, .d .nilP), (1, .fn (.func 71) [] [.ptr 0 0, .ptr 1 0])], [.blk 3 [i64 o0_0], .blk 9 [sv o1_0], .ghost (gv 0) (.ptr 0 0), .ghost (gv 1) (.ptr 1 0)]⟩) (tips := []) (by kernel_rfl) all0 (norm ?_)
  refine At.seq ?_
  refine At.seq ?_
  refine At.region_end [0, 1, 15] [0, 1, 2, 3] _ (st' := ⟨[(0, .d .nilP), (1, .fn (.func 71) [] [.ptr 0 0, .ptr 1 0]), (15, bo true)], [.blk 3 [i64 o0_0], .blk 9 [sv o1_0], .ghost (gv 0) (.ptr 0 0), .ghost (gv 1) (.ptr 1 0)]⟩) (tips := []) (by kernel_rfl) all0 (norm ?_)
  refine At.cond true (by kernel_rfl) (fun _ => ?_) (fun hb => by cases hb)
  refine At.seq ?_
  refine At.region_end [4] [0, 1, 2, 3] _ (st' := ⟨[(4, bo false)], [.blk 3 [i64 o0_0], .blk 9 [sv o1_0], .ghost (gv 0) (.ptr 0 0), .ghost (gv 1) (.ptr 1 0)]⟩) (tips := []) (by kernel_rfl) all0 (norm ?_)
  obtain rfl := some_eq h
  exact At.ret fun a w hs => ret_ok hR (ρ := [0, 1]) (gs := [.ghost (gv 0) (.ptr 0 0), .ghost (gv 1) (.ptr 1 0)]) (by kernel_rfl) all0 (by kernel_rfl) rfl rfl a w hs _ (.inl rfl)
set_option maxRecDepth 100000 in
theorem C_wire_Reader_Raw_v2 (p1 : Int) (r : ByteArray) (h : F_wire_Reader_Raw_v2 p1 = some r) : FnOK Try.prog 28 [.d .nilP, i64 p1] [] (sv r) [] [] := by
  rw [F_wire_Reader_Raw_v2] at h
  refine FnOK.intro Try.func28 rfl (by kernel_rfl) (by kernel_rfl) fun E gv R hR => ?_
  refine At.seq ?_
  refine At.region_end [0, 3] [0] _ (st' := ⟨[(0, .d .nilP), (3, .ptr 0 0)], [.blk 3 [i64 p1]]⟩) (tips := []) (by kernel_rfl) all0 (norm ?_)
  refine At.seq ?_
  refine At.region_end [0, 3, 5] [0, 1] _ (st' := ⟨[(0, .d .nilP), (3, .ptr 0 0), (5, .ptr 1 0)], [.blk 3 [i64 p1], .blk 9 [sv (⟨#[]⟩ : ByteArray)]]⟩) (tips := []) (by kernel_rfl) all0 (norm ?_)
  refine At.seq ?_
  obtain ⟨y2, hy2, h⟩ := bind_some h
  refine At.region_end [5] [1] _ (st' := ⟨[(5, .ptr 0 0)], [.blk 9 [sv (⟨#[]⟩ : ByteArray)]]⟩) (tips := [(2, { pc := some { ρ := [0, 1], n0 := 2, res := bo y2, σ' := [.blk 3 [i64 p1], .blk 9 [sv (⟨#[]⟩ : ByteArray)]], e := [1, 3] } })]) (by kernel_rfl) (allc (C_wire_Reader_step_v11 p1 (⟨#[]⟩ : ByteArray) y2 hy2) all0) (norm ?_)
  refine At.seq ?_
  refine At.region_end [4] [] _ (st' := ⟨[(4, sv (⟨#[]⟩ : ByteArray))], []⟩) (tips := []) (by kernel_rfl) all0 (norm ?_)
  obtain rfl := some_eq h
  exact At.ret fun a w hs => ret_ok hR (ρ := []) (gs := []) (by kernel_rfl) all0 (by kernel_rfl) rfl rfl a w hs _ (.inl rfl)
set_option maxRecDepth 100000 in
theorem C_wire_Reader_Text_v2 (p1 : Int) (r : ByteArray) (h : F_wire_Reader_Text_v2 p1 = some r) : FnOK Try.prog 27 [.d .nilP, i64 p1] [] (sv r) [] [] := by
  rw [F_wire_Reader_Text_v2] at h
  refine FnOK.intro Try.func27 rfl (by kernel_rfl) (by kernel_rfl) fun E gv R hR => ?_
  refine At.seq ?_
  refine At.region_end [0, 1] [] _ (st' := ⟨[(0, .d .nilP), (1, i64 p1)], []⟩) (tips := []) (by kernel_rfl) all0 (norm ?_)
  refine At.seq ?_
  obtain ⟨y3, hy3, h⟩ := bind_some h
  obtain ⟨y4, hy4, h⟩ := bind_some h
  refine At.region_end [4] [] _ (st' := ⟨[(4, sv y4)], []⟩) (tips := [(3, { pc := some { ρ := [], n0 := 0, res := i64 y3, σ' := [], e := [] } }), (4, { pc := some { ρ := [], n0 := 0, res := sv y4, σ' := [], e := [] } })]) (by kernel_rfl) (allc (C_wire_Reader_Upto_v2 p1 y3 hy3) (allc (C_wire_Reader_Raw_v2 y3 y4 hy4) all0)) (norm ?_)
  obtain rfl := some_eq h
  exact At.ret fun a w hs => ret_ok hR (ρ := []) (gs := []) (by kernel_rfl) all0 (by kernel_rfl) rfl rfl a w hs _ (.inl rfl)
set_option maxRecDepth 100000 in
theorem C_wire_Reader_Err_v2  (r : Int) (h : F_wire_Reader_Err_v2  = some r) : FnOK Try.prog 20 [.d .nilP] [] (i64 r) [] [] := by
  rw [F_wire_Reader_Err_v2] at h
  refine FnOK.intro Try.func20 rfl (by kernel_rfl) (by kernel_rfl) fun E gv R hR => ?_
  refine At.seq ?_
  refine At.region_end [0] [] _ (st' := ⟨[(0, .d .nilP)], []⟩) (tips := []) (by kernel_rfl) all0 (norm ?_)
  refine At.seq ?_
  refine At.seq ?_
  refine At.region_end [0, 4] [] _ (st' := ⟨[(0, .d .nilP), (4, bo true)], []⟩) (tips := []) (by kernel_rfl) all0 (norm ?_)
  refine At.cond true (by kernel_rfl) (fun _ => ?_) (fun hb => by cases hb)
  refine At.seq ?_
  refine At.region_end [2] [] _ (st' := ⟨[(2, i64 9)], []⟩) (tips := []) (by kernel_rfl) all0 (norm ?_)
  obtain rfl := some_eq h
  exact At.ret fun a w hs => ret_ok hR (ρ := []) (gs := []) (by kernel_rfl) all0 (by kernel_rfl) rfl rfl a w hs _ (.inl rfl)
set_option maxRecDepth 100000 in
theorem C_wire_Reader_Ints_v2 (p1 : Int) (r : (List Int)) (h : F_wire_Reader_Ints_v2 p1 = some r) : FnOK Try.prog 30 [.d .nilP, i64 p1] [] (.row 0 (r).length) [.row 3 1 (encL (eInt .i64) r)] [] := by
  rw [F_wire_Reader_Ints_v2] at h
  refine FnOK.intro Try.func30 rfl (by kernel_rfl) (by kernel_rfl) fun E gv R hR => ?_
  refine At.seq ?_
  refine At.region_end [0, 1] [] _ (st' := ⟨[(0, .d .nilP), (1, i64 p1)], []⟩) (tips := []) (by kernel_rfl) all0 (norm ?_)
  refine At.seq ?_
  obtain ⟨y2, hy2, h⟩ := bind_some h
  refine At.region_end [0, 5] [] _ (st' := ⟨[(0, .d .nilP), (5, i64 y2)], []⟩) (tips := [(2, { pc := some { ρ := [], n0 := 0, res := i64 y2, σ' := [], e := [] } })]) (by kernel_rfl) (allc (C_wire_Reader_Upto_v2 p1 y2 hy2) all0) (norm ?_)
  refine At.seq ?_
  refine At.region_end [0, 5, 6] [] _ (st' := ⟨[(0, .d .nilP), (5, i64 y2), (6, .d (.list true 0 []))], []⟩) (tips := []) (by kernel_rfl) all0 (norm ?_)
  refine At.seq ?_
  refine At.block ?_
  refine At.edNar [.ownS 6 3 1] [0, 5, 6] [0] (st' := ⟨[(0, .d .nilP), (5, i64 y2), (6, .row 0 ([] : List Int).length)], [.row 3 1 (encL (eInt .i64) ([]))]⟩) (by kernel_rfl) ?_
  refine At.loop (fun s : ((List Int)) => F_wire_Reader_Ints_v2_L2 y2 s) (fun s : ((List Int)) => ⟨[(0, .d .nilP), (5, i64 y2), (6, .row 0 (s).length)], [.row 3 1 (encL (eInt .i64) s)]⟩) r ([] : (List Int)) h ?_
  intro x22 oo23 h f24
  replace h : F_wire_Reader_Ints_v2_L2 y2 x22 = some oo23 := h
  rw [F_wire_Reader_Ints_v2_L2] at h
  refine At.seq ?_
  refine At.seqJ (S := Bool) (fun s => ⟨[(0, .d .nilP), (5, i64 y2), (6, .row 0 (x22).length), (18, bo s)], [.row 3 1 (encL (eInt .i64) x22)]⟩) (fun s => F_wire_Reader_Ints_v2_J1 x22 s = some oo23) ?_ ?_
  · rcases tf (decide (((x22).length : Int) < y2)) with b45 | b45
    · replace h := cond_t b45 h
      obtain ⟨y46, hy46, h⟩ := bind_some h
      refine At.region_end [0, 5, 6, 18] [0] _ (st' := ⟨[(0, .d .nilP), (5, i64 y2), (6, .row 0 (x22).length), (18, bo (y46 == 0))], [.row 3 1 (encL (eInt .i64) x22)]⟩) (tips := [(4, { orc := .val (.bool true) }), (6, { pc := some { ρ := [], n0 := 0, res := i64 y46, σ' := [], e := [] } })]) (by kernel_rfl) (allc (congrArg D.bool b45) (allc (C_wire_Reader_Err_v2 y46 hy46) all0)) (fun a w hs => ⟨(y46 == 0), h, hs⟩)
    · replace h := cond_f b45 h
      refine At.region_end [0, 5, 6, 18] [0] _ (st' := ⟨[(0, .d .nilP), (5, i64 y2), (6, .row 0 (x22).length), (18, bo false)], [.row 3 1 (encL (eInt .i64) x22)]⟩) (tips := [(4, { orc := .val (.bool false) })]) (by kernel_rfl) (allc (congrArg D.bool b45) all0) (fun a w hs => ⟨false, h, hs⟩)
  · intro x33 h
    replace h : F_wire_Reader_Ints_v2_J1 x22 x33 = some oo23 := h
    rw [F_wire_Reader_Ints_v2_J1] at h
    refine At.cond x33 (by kernel_rfl) (fun b34 => ?_) (fun b34 => ?_)
    · replace h := cond_t b34 h
      refine At.nar [0, 5, 6] [0] (st' := ⟨[(0, .d .nilP), (5, i64 y2), (6, .row 0 (x22).length)], [.row 3 1 (encL (eInt .i64) x22)]⟩) (by kernel_rfl) ?_
      refine At.skip (norm ?_)
      refine At.block ?_
      obtain ⟨y35, hy35, h⟩ := bind_some h
      obtain ⟨g36, h⟩ := grd_some h
      refine At.region_end [0, 5, 6] [0] _ (st' := ⟨[(0, .d .nilP), (5, i64 y2), (6, .row 0 ((x22 ++ [y35])).length)], [.row 3 1 (encL (eInt .i64) (x22 ++ [y35]))]⟩) (tips := [(2, { pc := some { ρ := [], n0 := 0, res := i64 y35, σ' := [], e := [] } }), (4, { form := some ((x22 ++ [y35]).length, encL (eInt .i64) (x22 ++ [y35])) })]) (by kernel_rfl) (allc (C_wire_Reader_Int_v2 y35 hy35) (allc (len_app x22 ([y35])) (allc (encL_app (eInt .i64) x22 ([y35])) (allc (app_ok (he_int .i64) (by decide) g36) (allc (encL_len (he_int .i64) ([y35])) all0))))) (fun a w hs => ⟨_, (some_eq h).symm, hs⟩)
    · replace h := cond_f b34 h
      refine At.nar [0, 6] [0] (st' := ⟨[(0, .d .nilP), (6, .row 0 (x22).length)], [.row 3 1 (encL (eInt .i64) x22)]⟩) (by kernel_rfl) ?_
      obtain ⟨r37, h, e38⟩ := map_inr h
      rw [f24 _ e38] at h
      refine At.exit (norm ?_)
      refine At.seq ?_
      refine At.seq ?_
      obtain ⟨y43, hy43, h⟩ := bind_some h
      refine At.region_end [6, 26] [0] _ (st' := ⟨[(6, .row 0 (x22).length), (26, bo (y43 != 0))], [.row 3 1 (encL (eInt .i64) x22)]⟩) (tips := [(1, { pc := some { ρ := [], n0 := 0, res := i64 y43, σ' := [], e := [] } })]) (by kernel_rfl) (allc (C_wire_Reader_Err_v2 y43 hy43) all0) (norm ?_)
      refine At.cond (y43 != 0) (by kernel_rfl) (fun b44 => ?_) (fun b44 => ?_)
      · replace h := cond_t b44 h
        refine At.seq ?_
        refine At.region_end [4] [] _ (st' := ⟨[(4, .d (.list true 0 []))], []⟩) (tips := []) (by kernel_rfl) all0 (norm ?_)
        refine At.edNar [.ownS 4 3 1] [4] [0] (st' := ⟨[(4, .row 0 ([] : List Int).length)], [.row 3 1 (encL (eInt .i64) ([]))]⟩) (by kernel_rfl) ?_
        obtain rfl := some_eq h
        exact At.ret fun a w hs => ret_ok hR (ρ := [0]) (gs := []) (by kernel_rfl) all0 (by kernel_rfl) rfl rfl a w hs _ (.inl rfl)
      · replace h := cond_f b44 h
        refine At.nar [6] [0] (st' := ⟨[(6, .row 0 (x22).length)], [.row 3 1 (encL (eInt .i64) x22)]⟩) (by kernel_rfl) ?_
        refine At.skip (norm ?_)
        refine At.seq ?_
        refine At.region_end [4] [0] _ (st' := ⟨[(4, .row 0 (x22).length)], [.row 3 1 (encL (eInt .i64) x22)]⟩) (tips := []) (by kernel_rfl) all0 (norm ?_)
        obtain rfl := some_eq h
        exact At.ret fun a w hs => ret_ok hR (ρ := [0]) (gs := []) (by kernel_rfl) all0 (by kernel_rfl) rfl rfl a w hs _ (.inl rfl)
set_option maxRecDepth 100000 in
theorem C_wire_Reader_step_v12 (o0_0 : Int) (r : Bool) (h : F_wire_Reader_step_v12 o0_0 = some r) : FnOK Try.prog 64 [.d .nilP, .fn (.func 65) [] [.ptr 0 0]] [.blk 42 [i64 o0_0]] (bo r) [.blk 42 [i64 o0_0]] [1] := by
  rw [F_wire_Reader_step_v12] at h
  refine FnOK.intro Try.func64 rfl (by kernel_rfl) (by kernel_rfl) fun E gv R hR => ?_
  refine At.seq ?_
  refine At.region_end [0, 1] [0, 1] _ (st' := ⟨[(0, .d .nilP), (1, .fn (.func 65) [] [.ptr 0 0])], [.blk 42 [i64 o0_0], .ghost (gv 0) (.ptr 0 0)]⟩) (tips := []) (by kernel_rfl) all0 (norm ?_)
  refine At.seq ?_
  refine At.seq ?_
  refine At.region_end [0, 1, 15] [0, 1] _ (st' := ⟨[(0, .d .nilP), (1, .fn (.func 65) [] [.ptr 0 0]), (15, bo true)], [.blk 42 [i64 o0_0], .ghost (gv 0) (.ptr 0 0)]⟩) (tips := []) (by kernel_rfl) all0 (norm ?_)
  refine At.cond true (by kernel_rfl) (fun _ => ?_) (fun hb => by cases hb)
  refine At.seq ?_
  refine At.region_end [4] [0, 1] _ (st' := ⟨[(4, bo false)], [.blk 42 [i64 o0_0], .ghost (gv 0) (.ptr 0 0)]⟩) (tips := []) (by kernel_rfl) all0 (norm ?_)
  obtain rfl := some_eq h
  exact At.ret fun a w hs => ret_ok hR (ρ := [0]) (gs := [.ghost (gv 0) (.ptr 0 0)]) (by kernel_rfl) all0 (by kernel_rfl) rfl rfl a w hs _ (.inl rfl)
set_option maxRecDepth 100000 in
theorem C_wire_Reader_Fail_v2 (p1 : Int) (r : Unit) (h : F_wire_Reader_Fail_v2 p1 = some r) : FnOK Try.prog 23 [.d .nilP, i64 p1] [] (.tup []) [] [] := by
  rw [F_wire_Reader_Fail_v2] at h
  refine FnOK.intro Try.func23 rfl (by kernel_rfl) (by kernel_rfl) fun E gv R hR => ?_
  refine At.seq ?_
  refine At.region_end [0, 3] [0] _ (st' := ⟨[(0, .d .nilP), (3, .ptr 0 0)], [.blk 42 [i64 p1]]⟩) (tips := []) (by kernel_rfl) all0 (norm ?_)
  obtain ⟨y1, hy1, h⟩ := bind_some h
  obtain rfl := some_eq h
  refine At.region_end [] [] _ (st' := ⟨[], []⟩) (tips := [(2, { pc := some { ρ := [0], n0 := 1, res := bo y1, σ' := [.blk 42 [i64 p1]], e := [1] } })]) (by kernel_rfl) (allc (C_wire_Reader_step_v12 p1 y1 hy1) all0) (fun a w hs => ret_ok hR (ρ := []) (gs := []) (by kernel_rfl) all0 (by kernel_rfl) rfl rfl a w hs _ (.inr rfl))
set_option maxRecDepth 100000 in
theorem C_retracelaw03_read_v2 (p2 : T_retracelaw03_Part) (o0 : T_retraceref03_Reader) (r : Bool × T_retraceref03_Reader) (h : F_retracelaw03_read_v2 p2 o0 = some r) : FnOK Try.prog 18 [.d .nilP, .ptr 0 0, .agg (T_retracelaw03_Part.pvs p2)] [.blk 39 (T_retraceref03_Reader.pvs o0)] (bo r.1) [.blk 39 (T_retraceref03_Reader.pvs r.2)] [1] := by
  rw [F_retracelaw03_read_v2] at h
  refine FnOK.intro Try.func18 rfl (by kernel_rfl) (by kernel_rfl) fun E gv R hR => ?_
  refine At.seq ?_
  refine At.region_end [0, 1, 5] [0, 1, 2] _ (st' := ⟨[(0, .d .nilP), (1, .ptr 0 0), (5, .ptr 2 0)], [.blk 39 (T_retraceref03_Reader.pvs o0), .ghost (gv 0) (.ptr 0 0), .blk 33 (T_retracelaw03_Part.pvs p2)]⟩) (tips := []) (by kernel_rfl) all0 (norm ?_)
  refine At.seq ?_
  refine At.seq ?_
  refine At.region_end [0, 1, 5, 8] [0, 1, 2] _ (st' := ⟨[(0, .d .nilP), (1, .ptr 0 0), (5, .ptr 2 0), (8, i64 p2.Kind)], [.blk 39 (T_retraceref03_Reader.pvs o0), .ghost (gv 0) (.ptr 0 0), .blk 33 (T_retracelaw03_Part.pvs p2)]⟩) (tips := []) (by kernel_rfl) all0 (norm ?_)
  refine At.block ?_
  refine At.seq ?_
  refine At.region_end [0, 1, 5, 8, 9] [0, 1, 2] _ (st' := ⟨[(0, .d .nilP), (1, .ptr 0 0), (5, .ptr 2 0), (8, i64 p2.Kind), (9, bo (p2.Kind == 0))], [.blk 39 (T_retraceref03_Reader.pvs o0), .ghost (gv 0) (.ptr 0 0), .blk 33 (T_retracelaw03_Part.pvs p2)]⟩) (tips := []) (by kernel_rfl) all0 (norm ?_)
  refine At.cond (p2.Kind == 0) (by kernel_rfl) (fun b38 => ?_) (fun b38 => ?_)
  · replace h := cond_t b38 h
    refine At.seq ?_
    obtain ⟨y41, hy41, h⟩ := bind_some h
    obtain ⟨y42, hy42, h⟩ := bind_some h
    refine At.region_end [6] [0, 1] _ (st' := ⟨[(6, bo (y41 == y42.1))], [.blk 39 (T_retraceref03_Reader.pvs y42.2), .ghost (gv 0) (.ptr 0 0)]⟩) (tips := [(1, { pc := some { ρ := [], n0 := 0, res := u64 y41, σ' := [], e := [] } }), (3, { pc := some { ρ := [0], n0 := 1, res := u64 y42.1, σ' := [.blk 39 (T_retraceref03_Reader.pvs y42.2)], e := [1] } })]) (by kernel_rfl) (allc (C_wire_Reader_Num_v2 y41 hy41) (allc (C_retraceref03_Reader_Num o0 y42 hy42) all0)) (norm ?_)
    obtain rfl := some_eq h
    exact At.ret fun a w hs => ret_ok hR (ρ := [0]) (gs := [.ghost (gv 0) (.ptr 0 0)]) (by kernel_rfl) all0 (by kernel_rfl) rfl rfl a w hs _ (.inl rfl)
  · replace h := cond_f b38 h
    refine At.seq ?_
    refine At.region_end [0, 1, 5, 8, 16] [0, 1, 2] _ (st' := ⟨[(0, .d .nilP), (1, .ptr 0 0), (5, .ptr 2 0), (8, i64 p2.Kind), (16, bo (p2.Kind == 1))], [.blk 39 (T_retraceref03_Reader.pvs o0), .ghost (gv 0) (.ptr 0 0), .blk 33 (T_retracelaw03_Part.pvs p2)]⟩) (tips := []) (by kernel_rfl) all0 (norm ?_)
    refine At.cond (p2.Kind == 1) (by kernel_rfl) (fun b43 => ?_) (fun b43 => ?_)
    · replace h := cond_t b43 h
      refine At.seq ?_
      obtain ⟨y46, hy46, h⟩ := bind_some h
      obtain ⟨y47, hy47, h⟩ := bind_some h
      refine At.region_end [6] [0, 1] _ (st' := ⟨[(6, bo (y46 == y47.1))], [.blk 39 (T_retraceref03_Reader.pvs y47.2), .ghost (gv 0) (.ptr 0 0)]⟩) (tips := [(1, { pc := some { ρ := [], n0 := 0, res := i64 y46, σ' := [], e := [] } }), (3, { pc := some { ρ := [0], n0 := 1, res := i64 y47.1, σ' := [.blk 39 (T_retraceref03_Reader.pvs y47.2)], e := [1] } })]) (by kernel_rfl) (allc (C_wire_Reader_Int_v2 y46 hy46) (allc (C_retraceref03_Reader_Int o0 y47 hy47) all0)) (norm ?_)
      obtain rfl := some_eq h
      exact At.ret fun a w hs => ret_ok hR (ρ := [0]) (gs := [.ghost (gv 0) (.ptr 0 0)]) (by kernel_rfl) all0 (by kernel_rfl) rfl rfl a w hs _ (.inl rfl)
    · replace h := cond_f b43 h
      refine At.seq ?_
      refine At.region_end [0, 1, 5, 8, 23] [0, 1, 2] _ (st' := ⟨[(0, .d .nilP), (1, .ptr 0 0), (5, .ptr 2 0), (8, i64 p2.Kind), (23, bo (p2.Kind == 2))], [.blk 39 (T_retraceref03_Reader.pvs o0), .ghost (gv 0) (.ptr 0 0), .blk 33 (T_retracelaw03_Part.pvs p2)]⟩) (tips := []) (by kernel_rfl) all0 (norm ?_)
      refine At.cond (p2.Kind == 2) (by kernel_rfl) (fun b48 => ?_) (fun b48 => ?_)
      · replace h := cond_t b48 h
        refine At.seq ?_
        obtain ⟨y51, hy51, h⟩ := bind_some h
        obtain ⟨y52, hy52, h⟩ := bind_some h
        refine At.region_end [6] [0, 1] _ (st' := ⟨[(6, bo (y51 == y52.1))], [.blk 39 (T_retraceref03_Reader.pvs y52.2), .ghost (gv 0) (.ptr 0 0)]⟩) (tips := [(1, { pc := some { ρ := [], n0 := 0, res := bo y51, σ' := [], e := [] } }), (3, { pc := some { ρ := [0], n0 := 1, res := bo y52.1, σ' := [.blk 39 (T_retraceref03_Reader.pvs y52.2)], e := [1] } })]) (by kernel_rfl) (allc (C_wire_Reader_Bool_v2 y51 hy51) (allc (C_retraceref03_Reader_Bool o0 y52 hy52) all0)) (norm ?_)
        obtain rfl := some_eq h
        exact At.ret fun a w hs => ret_ok hR (ρ := [0]) (gs := [.ghost (gv 0) (.ptr 0 0)]) (by kernel_rfl) all0 (by kernel_rfl) rfl rfl a w hs _ (.inl rfl)
      · replace h := cond_f b48 h
        refine At.seq ?_
        refine At.region_end [0, 1, 5, 8, 30] [0, 1, 2] _ (st' := ⟨[(0, .d .nilP), (1, .ptr 0 0), (5, .ptr 2 0), (8, i64 p2.Kind), (30, bo (p2.Kind == 3))], [.blk 39 (T_retraceref03_Reader.pvs o0), .ghost (gv 0) (.ptr 0 0), .blk 33 (T_retracelaw03_Part.pvs p2)]⟩) (tips := []) (by kernel_rfl) all0 (norm ?_)
        refine At.cond (p2.Kind == 3) (by kernel_rfl) (fun b53 => ?_) (fun b53 => ?_)
        · replace h := cond_t b53 h
          refine At.seq ?_
          obtain ⟨y56, hy56, h⟩ := bind_some h
          obtain ⟨y57, hy57, h⟩ := bind_some h
          refine At.draw_end mixedOrd 0 [6] [0, 1] _ (st' := ⟨[(6, bo (y56.toList == y57.1.toList))], [.blk 39 (T_retraceref03_Reader.pvs y57.2), .ghost (gv 0) (.ptr 0 0)]⟩) (tips := [(1, { r := 3 }), (2, { T := [2], r := 3 }), (3, { tip := { pc := some { ρ := [], n0 := 0, res := sv y56, σ' := [], e := [] } }, r := 3 }), (4, { r := 3 }), (5, { r := 3 }), (6, { T := [2], r := 3 }), (7, { tip := { pc := some { ρ := [0], n0 := 1, res := sv y57.1, σ' := [.blk 39 (T_retraceref03_Reader.pvs y57.2)], e := [1] } }, T := [0], r := 3 })]) (by kernel_rfl) (allc (C_wire_Reader_Text_v2 p2.N y56 hy56) (allc (C_retraceref03_Reader_Text p2.N o0 y57 hy57) all0)) (norm ?_)
          obtain rfl := some_eq h
          exact At.ret fun a w hs => ret_ok hR (ρ := [0]) (gs := [.ghost (gv 0) (.ptr 0 0)]) (by kernel_rfl) all0 (by kernel_rfl) rfl rfl a w hs _ (.inl rfl)
        · replace h := cond_f b53 h
          refine At.seq ?_
          refine At.region_end [0, 1, 5, 8, 41] [0, 1, 2] _ (st' := ⟨[(0, .d .nilP), (1, .ptr 0 0), (5, .ptr 2 0), (8, i64 p2.Kind), (41, bo (p2.Kind == 4))], [.blk 39 (T_retraceref03_Reader.pvs o0), .ghost (gv 0) (.ptr 0 0), .blk 33 (T_retracelaw03_Part.pvs p2)]⟩) (tips := []) (by kernel_rfl) all0 (norm ?_)
          refine At.cond (p2.Kind == 4) (by kernel_rfl) (fun b58 => ?_) (fun b58 => ?_)
          · replace h := cond_t b58 h
            refine At.seq ?_
            obtain ⟨y61, hy61, h⟩ := bind_some h
            obtain ⟨y62, hy62, h⟩ := bind_some h
            refine At.draw_end mixedOrd 0 [6] [0, 1] _ (st' := ⟨[(6, bo (y61.toList == y62.1.toList))], [.blk 39 (T_retraceref03_Reader.pvs y62.2), .ghost (gv 0) (.ptr 0 0)]⟩) (tips := [(1, { r := 3 }), (2, { T := [2], r := 3 }), (3, { tip := { pc := some { ρ := [], n0 := 0, res := sv y61, σ' := [], e := [] } }, r := 3 }), (4, { r := 3 }), (5, { r := 3 }), (6, { T := [2], r := 3 }), (7, { tip := { pc := some { ρ := [0], n0 := 1, res := sv y62.1, σ' := [.blk 39 (T_retraceref03_Reader.pvs y62.2)], e := [1] } }, T := [0], r := 3 })]) (by kernel_rfl) (allc (C_wire_Reader_Raw_v2 p2.N y61 hy61) (allc (C_retraceref03_Reader_Raw p2.N o0 y62 hy62) all0)) (norm ?_)
            obtain rfl := some_eq h
            exact At.ret fun a w hs => ret_ok hR (ρ := [0]) (gs := [.ghost (gv 0) (.ptr 0 0)]) (by kernel_rfl) all0 (by kernel_rfl) rfl rfl a w hs _ (.inl rfl)
          · replace h := cond_f b58 h
            refine At.seq ?_
            refine At.region_end [0, 1, 5, 8, 52] [0, 1, 2] _ (st' := ⟨[(0, .d .nilP), (1, .ptr 0 0), (5, .ptr 2 0), (8, i64 p2.Kind), (52, bo (p2.Kind == 5))], [.blk 39 (T_retraceref03_Reader.pvs o0), .ghost (gv 0) (.ptr 0 0), .blk 33 (T_retracelaw03_Part.pvs p2)]⟩) (tips := []) (by kernel_rfl) all0 (norm ?_)
            refine At.cond (p2.Kind == 5) (by kernel_rfl) (fun b63 => ?_) (fun b63 => ?_)
            · replace h := cond_t b63 h
              refine At.seq ?_
              obtain ⟨y67, hy67, h⟩ := bind_some h
              obtain ⟨y68, hy68, h⟩ := bind_some h
              obtain ⟨y69, hy69, h⟩ := bind_some h
              refine At.draw_end mixedOrd 2 [6] [0, 1] _ (st' := ⟨[(6, bo y69)], [.blk 39 (T_retraceref03_Reader.pvs y68.2), .ghost (gv 0) (.ptr 0 0)]⟩) (tips := [(1, { r := 3 }), (2, { T := [2], r := 3 }), (3, { tip := { pc := some { ρ := [3], n0 := 0, res := .row 0 (y67).length, σ' := [.row 3 1 (encL (eInt .i64) y67)], e := [] } }, r := 3 }), (4, { r := 4 }), (5, { r := 4 }), (6, { T := [2], r := 4 }), (7, { tip := { pc := some { ρ := [0, 4], n0 := 1, res := .row 1 (y68.1).length, σ' := [.blk 39 (T_retraceref03_Reader.pvs y68.2), .row 3 1 (encL (eInt .i64) y68.1)], e := [1] } }, T := [0], r := 4 }), (8, { tip := { pc := some { ρ := [3, 4], n0 := 2, res := bo y69, σ' := [.row 3 1 (encL (eInt .i64) y67), .row 3 1 (encL (eInt .i64) y68.1)], e := [0, 2] } }, T := [3, 4], r := 5 })]) (by kernel_rfl) (allc (C_wire_Reader_Ints_v2 p2.N y67 hy67) (allc (C_retraceref03_Reader_Ints p2.N o0 y68 hy68) (allc (C_retraceref03_Same y67 y68.1 y69 hy69) all0))) (norm ?_)
              obtain rfl := some_eq h
              exact At.ret fun a w hs => ret_ok hR (ρ := [0]) (gs := [.ghost (gv 0) (.ptr 0 0)]) (by kernel_rfl) all0 (by kernel_rfl) rfl rfl a w hs _ (.inl rfl)
            · replace h := cond_f b63 h
              refine At.seq ?_
              refine At.region_end [0, 1, 5, 63] [0, 1, 2] _ (st' := ⟨[(0, .d .nilP), (1, .ptr 0 0), (5, .ptr 2 0), (63, bo (p2.Kind == 6))], [.blk 39 (T_retraceref03_Reader.pvs o0), .ghost (gv 0) (.ptr 0 0), .blk 33 (T_retracelaw03_Part.pvs p2)]⟩) (tips := []) (by kernel_rfl) all0 (norm ?_)
              refine At.cond (p2.Kind == 6) (by kernel_rfl) (fun b70 => ?_) (fun b70 => ?_)
              · replace h := cond_t b70 h
                refine At.seq ?_
                obtain ⟨y73, hy73, h⟩ := bind_some h
                obtain ⟨y74, hy74, h⟩ := bind_some h
                refine At.draw_end mixedOrd 0 [6] [0, 1] _ (st' := ⟨[(6, bo (y73 == y74.1))], [.blk 39 (T_retraceref03_Reader.pvs y74.2), .ghost (gv 0) (.ptr 0 0)]⟩) (tips := [(1, { r := 3 }), (2, { T := [2], r := 3 }), (3, { tip := { pc := some { ρ := [], n0 := 0, res := i64 y73, σ' := [], e := [] } }, r := 3 }), (4, { r := 3 }), (5, { r := 3 }), (6, { T := [2], r := 3 }), (7, { tip := { pc := some { ρ := [0], n0 := 1, res := i64 y74.1, σ' := [.blk 39 (T_retraceref03_Reader.pvs y74.2)], e := [1] } }, T := [0], r := 3 })]) (by kernel_rfl) (allc (C_wire_Reader_Upto_v2 p2.N y73 hy73) (allc (C_retraceref03_Reader_Upto p2.N o0 y74 hy74) all0)) (norm ?_)
                obtain rfl := some_eq h
                exact At.ret fun a w hs => ret_ok hR (ρ := [0]) (gs := [.ghost (gv 0) (.ptr 0 0)]) (by kernel_rfl) all0 (by kernel_rfl) rfl rfl a w hs _ (.inl rfl)
              · replace h := cond_f b70 h
                refine At.nar [0, 1, 5] [0, 1, 2] (st' := ⟨[(0, .d .nilP), (1, .ptr 0 0), (5, .ptr 2 0)], [.blk 39 (T_retraceref03_Reader.pvs o0), .ghost (gv 0) (.ptr 0 0), .blk 33 (T_retracelaw03_Part.pvs p2)]⟩) (by kernel_rfl) ?_
                refine At.skip (norm ?_)
                refine At.seqJ (S := ByteArray × Int) (fun s => ⟨[], [.blk 39 [sv s.1, i64 s.2], .ghost (gv 0) (.ptr 0 0)]⟩) (fun s => F_retracelaw03_read_v2_J1 s.1 s.2 = some r) ?_ ?_
                · refine At.seqJ (S := Bool) (fun s => ⟨[(0, .d .nilP), (1, .ptr 0 0), (5, .ptr 2 0), (81, bo s)], [.blk 39 (T_retraceref03_Reader.pvs o0), .ghost (gv 0) (.ptr 0 0), .blk 33 (T_retracelaw03_Part.pvs p2)]⟩) (fun s => F_retracelaw03_read_v2_J2 p2 o0 s = some r) ?_ ?_
                  · rcases tf (decide (0 ≤ p2.N)) with b90 | b90
                    · replace h := cond_t b90 h
                      refine At.region_end [0, 1, 5, 81] [0, 1, 2] _ (st' := ⟨[(0, .d .nilP), (1, .ptr 0 0), (5, .ptr 2 0), (81, bo (decide (p2.N ≤ 18)))], [.blk 39 (T_retraceref03_Reader.pvs o0), .ghost (gv 0) (.ptr 0 0), .blk 33 (T_retracelaw03_Part.pvs p2)]⟩) (tips := [(3, { orc := .val (.bool true) })]) (by kernel_rfl) (allc (congrArg D.bool b90) all0) (fun a w hs => ⟨(decide (p2.N ≤ 18)), h, hs⟩)
                    · replace h := cond_f b90 h
                      refine At.region_end [0, 1, 5, 81] [0, 1, 2] _ (st' := ⟨[(0, .d .nilP), (1, .ptr 0 0), (5, .ptr 2 0), (81, bo false)], [.blk 39 (T_retraceref03_Reader.pvs o0), .ghost (gv 0) (.ptr 0 0), .blk 33 (T_retracelaw03_Part.pvs p2)]⟩) (tips := [(3, { orc := .val (.bool false) })]) (by kernel_rfl) (allc (congrArg D.bool b90) all0) (fun a w hs => ⟨false, h, hs⟩)
                  · intro x85 h
                    replace h : F_retracelaw03_read_v2_J2 p2 o0 x85 = some r := h
                    rw [F_retracelaw03_read_v2_J2] at h
                    refine At.cond x85 (by kernel_rfl) (fun b86 => ?_) (fun b86 => ?_)
                    · replace h := cond_t b86 h
                      refine At.seq ?_
                      obtain ⟨y88, hy88, h⟩ := bind_some h
                      refine At.region_end [1, 5] [0, 1, 2] _ (st' := ⟨[(1, .ptr 0 0), (5, .ptr 2 0)], [.blk 39 (T_retraceref03_Reader.pvs o0), .ghost (gv 0) (.ptr 0 0), .blk 33 (T_retracelaw03_Part.pvs p2)]⟩) (tips := [(3, { pc := some { ρ := [], n0 := 0, res := .tup [], σ' := [], e := [] } })]) (by kernel_rfl) (allc (C_wire_Reader_Fail_v2 p2.N y88 hy88) all0) (norm ?_)
                      obtain ⟨y89, hy89, h⟩ := bind_some h
                      refine At.region_end [] [0, 1] _ (st' := ⟨[], [.blk 39 (T_retraceref03_Reader.pvs y89), .ghost (gv 0) (.ptr 0 0)]⟩) (tips := [(3, { pc := some { ρ := [0], n0 := 1, res := .tup [], σ' := [.blk 39 (T_retraceref03_Reader.pvs y89)], e := [1] } })]) (by kernel_rfl) (allc (C_retraceref03_Reader_Fail p2.N o0 y89 hy89) all0) (fun a w hs => ⟨(y89.S, y89.Bad), h, hs⟩)
                    · replace h := cond_f b86 h
                      refine At.nar [] [0, 1] (st' := ⟨[], [.blk 39 (T_retraceref03_Reader.pvs o0), .ghost (gv 0) (.ptr 0 0)]⟩) (by kernel_rfl) ?_
                      refine At.skip (fun a w hs => ⟨(o0.S, o0.Bad), h, hs⟩)
                · rintro ⟨x82, x83⟩ h
                  replace h : F_retracelaw03_read_v2_J1 x82 x83 = some r := h
                  rw [F_retracelaw03_read_v2_J1] at h
                  refine At.seq ?_
                  refine At.region_end [6] [0, 1] _ (st' := ⟨[(6, bo true)], [.blk 39 [sv x82, i64 x83], .ghost (gv 0) (.ptr 0 0)]⟩) (tips := []) (by kernel_rfl) all0 (norm ?_)
                  obtain rfl := some_eq h
                  exact At.ret fun a w hs => ret_ok hR (ρ := [0]) (gs := [.ghost (gv 0) (.ptr 0 0)]) (by kernel_rfl) all0 (by kernel_rfl) rfl rfl a w hs _ (.inl rfl)
set_option maxRecDepth 100000 in
theorem C_wire_Reader_Left_v2  (r : Int) (h : F_wire_Reader_Left_v2  = some r) : FnOK Try.prog 19 [.d .nilP] [] (i64 r) [] [] := by
  rw [F_wire_Reader_Left_v2] at h
  refine FnOK.intro Try.func19 rfl (by kernel_rfl) (by kernel_rfl) fun E gv R hR => ?_
  refine At.seq ?_
  refine At.region_end [0] [] _ (st' := ⟨[(0, .d .nilP)], []⟩) (tips := []) (by kernel_rfl) all0 (norm ?_)
  refine At.seq ?_
  refine At.seq ?_
  refine At.region_end [0, 4] [] _ (st' := ⟨[(0, .d .nilP), (4, bo true)], []⟩) (tips := []) (by kernel_rfl) all0 (norm ?_)
  refine At.cond true (by kernel_rfl) (fun _ => ?_) (fun hb => by cases hb)
  refine At.seq ?_
  refine At.region_end [2] [] _ (st' := ⟨[(2, i64 0)], []⟩) (tips := []) (by kernel_rfl) all0 (norm ?_)
  obtain rfl := some_eq h
  exact At.ret fun a w hs => ret_ok hR (ρ := []) (gs := []) (by kernel_rfl) all0 (by kernel_rfl) rfl rfl a w hs _ (.inl rfl)
set_option maxRecDepth 100000 in
theorem C_wire_Reader_End_v2  (r : Int) (h : F_wire_Reader_End_v2  = some r) : FnOK Try.prog 21 [.d .nilP] [] (i64 r) [] [] := by
  rw [F_wire_Reader_End_v2] at h
  refine FnOK.intro Try.func21 rfl (by kernel_rfl) (by kernel_rfl) fun E gv R hR => ?_
  refine At.seq ?_
  refine At.region_end [0] [] _ (st' := ⟨[(0, .d .nilP)], []⟩) (tips := []) (by kernel_rfl) all0 (norm ?_)
  refine At.seq ?_
  refine At.seq ?_
  obtain ⟨y10, hy10, h⟩ := bind_some h
  refine At.region_end [0, 3] [] _ (st' := ⟨[(0, .d .nilP), (3, i64 y10)], []⟩) (tips := [(1, { pc := some { ρ := [], n0 := 0, res := i64 y10, σ' := [], e := [] } })]) (by kernel_rfl) (allc (C_wire_Reader_Err_v2 y10 hy10) all0) (norm ?_)
  refine At.seqJ (S := Bool) (fun s => ⟨[(3, i64 y10), (12, bo s)], []⟩) (fun s => F_wire_Reader_End_v2_J1 y10 s = some r) ?_ ?_
  · rcases tf (y10 != 0) with b15 | b15
    · replace h := cond_t b15 h
      refine At.region_end [3, 12] [] _ (st' := ⟨[(3, i64 y10), (12, bo true)], []⟩) (tips := [(2, { orc := .val (.bool true) })]) (by kernel_rfl) (allc (congrArg D.bool b15) all0) (fun a w hs => ⟨true, h, hs⟩)
    · replace h := cond_f b15 h
      obtain ⟨y16, hy16, h⟩ := bind_some h
      refine At.region_end [3, 12] [] _ (st' := ⟨[(3, i64 y10), (12, bo (y16 == 0))], []⟩) (tips := [(2, { orc := .val (.bool false) }), (4, { pc := some { ρ := [], n0 := 0, res := i64 y16, σ' := [], e := [] } })]) (by kernel_rfl) (allc (congrArg D.bool b15) (allc (C_wire_Reader_Left_v2 y16 hy16) all0)) (fun a w hs => ⟨(y16 == 0), h, hs⟩)
  · intro x13 h
    replace h : F_wire_Reader_End_v2_J1 y10 x13 = some r := h
    rw [F_wire_Reader_End_v2_J1] at h
    refine At.cond x13 (by kernel_rfl) (fun b14 => ?_) (fun b14 => ?_)
    · replace h := cond_t b14 h
      refine At.seq ?_
      refine At.region_end [2] [] _ (st' := ⟨[(2, i64 y10)], []⟩) (tips := []) (by kernel_rfl) all0 (norm ?_)
      obtain rfl := some_eq h
      exact At.ret fun a w hs => ret_ok hR (ρ := []) (gs := []) (by kernel_rfl) all0 (by kernel_rfl) rfl rfl a w hs _ (.inl rfl)
    · replace h := cond_f b14 h
      refine At.nar [] [] (st' := ⟨[], []⟩) (by kernel_rfl) ?_
      refine At.skip (norm ?_)
      refine At.seq ?_
      refine At.region_end [2] [] _ (st' := ⟨[(2, i64 3)], []⟩) (tips := []) (by kernel_rfl) all0 (norm ?_)
      obtain rfl := some_eq h
      exact At.ret fun a w hs => ret_ok hR (ρ := []) (gs := []) (by kernel_rfl) all0 (by kernel_rfl) rfl rfl a w hs _ (.inl rfl)
set_option maxRecDepth 100000 in
theorem C_retracelaw03_WireNone (p0 : ByteArray) (p1 : T_retracelaw03_Part) (p2 : T_retracelaw03_Part) (r : Bool) (h : F_retracelaw03_WireNone p0 p1 p2 = some r) : FnOK Try.prog 5 [sv p0, .agg (T_retracelaw03_Part.pvs p1), .agg (T_retracelaw03_Part.pvs p2)] [] (bo r) [] [] := by
  rw [F_retracelaw03_WireNone] at h
  refine FnOK.intro Try.func5 rfl (by kernel_rfl) (by kernel_rfl) fun E gv R hR => ?_
  refine At.seq ?_
  refine At.region_end [0, 4, 5] [0, 1] _ (st' := ⟨[(0, sv p0), (4, .ptr 0 0), (5, .ptr 1 0)], [.blk 33 (T_retracelaw03_Part.pvs p1), .blk 33 (T_retracelaw03_Part.pvs p2)]⟩) (tips := []) (by kernel_rfl) all0 (norm ?_)
  refine At.seq ?_
  refine At.seqJ (S := Bool) (fun s => ⟨[(0, sv p0), (4, .ptr 0 0), (5, .ptr 1 0), (19, bo s)], [.blk 33 (T_retracelaw03_Part.pvs p1), .blk 33 (T_retracelaw03_Part.pvs p2)]⟩) (fun s => F_retracelaw03_WireNone_J1 p0 p1 p2 s = some r) ?_ ?_
  · rcases tf (decide (600 < (p0.size : Int))) with b74 | b74
    · replace h := cond_t b74 h
      refine At.region_end [0, 4, 5, 19] [0, 1] _ (st' := ⟨[(0, sv p0), (4, .ptr 0 0), (5, .ptr 1 0), (19, bo true)], [.blk 33 (T_retracelaw03_Part.pvs p1), .blk 33 (T_retracelaw03_Part.pvs p2)]⟩) (tips := [(3, { orc := .val (.bool true) })]) (by kernel_rfl) (allc (congrArg D.bool b74) all0) (fun a w hs => ⟨true, h, hs⟩)
    · replace h := cond_f b74 h
      obtain ⟨y75, hy75, h⟩ := bind_some h
      refine At.region_end [0, 4, 5, 19] [0, 1] _ (st' := ⟨[(0, sv p0), (4, .ptr 0 0), (5, .ptr 1 0), (19, bo y75)], [.blk 33 (T_retracelaw03_Part.pvs p1), .blk 33 (T_retracelaw03_Part.pvs p2)]⟩) (tips := [(3, { orc := .val (.bool false) }), (7, { pc := some { ρ := [2], n0 := 1, res := bo y75, σ' := [.row 33 6 (encL T_retracelaw03_Part.enc ([p1, p2]))], e := [0] } })]) (by kernel_rfl) (allc (congrArg D.bool b74) (allc (C_retracelaw03_long_v2 ([p1, p2]) y75 hy75) all0)) (fun a w hs => ⟨y75, h, hs⟩)
  · intro x11 h
    replace h : F_retracelaw03_WireNone_J1 p0 p1 p2 x11 = some r := h
    rw [F_retracelaw03_WireNone_J1] at h
    refine At.cond x11 (by kernel_rfl) (fun b12 => ?_) (fun b12 => ?_)
    · replace h := cond_t b12 h
      refine At.seq ?_
      obtain ⟨y14, hy14, h⟩ := bind_some h
      refine At.region_end [6] [] _ (st' := ⟨[(6, bo y14)], []⟩) (tips := [(0, { pc := some { ρ := [], n0 := 0, res := bo y14, σ' := [], e := [] } })]) (by kernel_rfl) (allc (C_retracelaw03_live y14 hy14) all0) (norm ?_)
      obtain rfl := some_eq h
      exact At.ret fun a w hs => ret_ok hR (ρ := []) (gs := []) (by kernel_rfl) all0 (by kernel_rfl) rfl rfl a w hs _ (.inl rfl)
    · replace h := cond_f b12 h
      refine At.nar [0, 4, 5] [0, 1] (st' := ⟨[(0, sv p0), (4, .ptr 0 0), (5, .ptr 1 0)], [.blk 33 (T_retracelaw03_Part.pvs p1), .blk 33 (T_retracelaw03_Part.pvs p2)]⟩) (by kernel_rfl) ?_
      refine At.skip (norm ?_)
      refine At.seq ?_
      refine At.region_end [0, 4, 5, 7] [0, 1] _ (st' := ⟨[(0, sv p0), (4, .ptr 0 0), (5, .ptr 1 0), (7, .d .nilP)], [.blk 33 (T_retracelaw03_Part.pvs p1), .blk 33 (T_retracelaw03_Part.pvs p2)]⟩) (tips := []) (by kernel_rfl) all0 (norm ?_)
      refine At.seq ?_
      refine At.region_end [0, 4, 5, 7, 8] [0, 1, 2] _ (st' := ⟨[(0, sv p0), (4, .ptr 0 0), (5, .ptr 1 0), (7, .d .nilP), (8, .ptr 2 0)], [.blk 33 (T_retracelaw03_Part.pvs p1), .blk 33 (T_retracelaw03_Part.pvs p2), .blk 39 [sv (⟨#[]⟩ : ByteArray), i64 9]]⟩) (tips := []) (by kernel_rfl) all0 (norm ?_)
      refine At.seq ?_
      refine At.seqJ (S := Bool) (fun s => ⟨[(0, sv p0), (4, .ptr 0 0), (5, .ptr 1 0), (42, bo s)], [.blk 33 (T_retracelaw03_Part.pvs p1), .blk 33 (T_retracelaw03_Part.pvs p2)]⟩) (fun s => F_retracelaw03_WireNone_J2 p0 p1 p2 s = some r) ?_ ?_
      · obtain ⟨y67, hy67, h⟩ := bind_some h
        rcases tf (!y67.1) with b68 | b68
        · replace h := cond_t b68 h
          refine At.region_end [0, 4, 5, 42] [0, 1] _ (st' := ⟨[(0, sv p0), (4, .ptr 0 0), (5, .ptr 1 0), (42, bo true)], [.blk 33 (T_retracelaw03_Part.pvs p1), .blk 33 (T_retracelaw03_Part.pvs p2)]⟩) (tips := [(3, { pc := some { ρ := [2], n0 := 1, res := bo y67.1, σ' := [.blk 39 (T_retraceref03_Reader.pvs y67.2)], e := [1] } }), (5, { orc := .val (.bool true) })]) (by kernel_rfl) (allc (C_retracelaw03_read_v2 p1 (⟨(⟨#[]⟩ : ByteArray), 9⟩ : T_retraceref03_Reader) y67 hy67) (allc (congrArg D.bool b68) all0)) (fun a w hs => ⟨true, h, hs⟩)
        · replace h := cond_f b68 h
          obtain ⟨y69, hy69, h⟩ := bind_some h
          rcases tf (y69 != 0) with b70 | b70
          · replace h := cond_t b70 h
            refine At.region_end [0, 4, 5, 42] [0, 1] _ (st' := ⟨[(0, sv p0), (4, .ptr 0 0), (5, .ptr 1 0), (42, bo true)], [.blk 33 (T_retracelaw03_Part.pvs p1), .blk 33 (T_retracelaw03_Part.pvs p2)]⟩) (tips := [(3, { pc := some { ρ := [2], n0 := 1, res := bo y67.1, σ' := [.blk 39 (T_retraceref03_Reader.pvs y67.2)], e := [1] } }), (5, { orc := .val (.bool false) }), (7, { pc := some { ρ := [], n0 := 0, res := i64 y69, σ' := [], e := [] } }), (10, { orc := .val (.bool true) })]) (by kernel_rfl) (allc (C_retracelaw03_read_v2 p1 (⟨(⟨#[]⟩ : ByteArray), 9⟩ : T_retraceref03_Reader) y67 hy67) (allc (congrArg D.bool b68) (allc (C_wire_Reader_Left_v2 y69 hy69) (allc (congrArg D.bool b70) all0)))) (fun a w hs => ⟨true, h, hs⟩)
          · replace h := cond_f b70 h
            obtain ⟨y71, hy71, h⟩ := bind_some h
            rcases tf (y71 != 9) with b72 | b72
            · replace h := cond_t b72 h
              refine At.region_end [0, 4, 5, 42] [0, 1] _ (st' := ⟨[(0, sv p0), (4, .ptr 0 0), (5, .ptr 1 0), (42, bo true)], [.blk 33 (T_retracelaw03_Part.pvs p1), .blk 33 (T_retracelaw03_Part.pvs p2)]⟩) (tips := [(3, { pc := some { ρ := [2], n0 := 1, res := bo y67.1, σ' := [.blk 39 (T_retraceref03_Reader.pvs y67.2)], e := [1] } }), (5, { orc := .val (.bool false) }), (7, { pc := some { ρ := [], n0 := 0, res := i64 y69, σ' := [], e := [] } }), (10, { orc := .val (.bool false) }), (12, { pc := some { ρ := [], n0 := 0, res := i64 y71, σ' := [], e := [] } }), (15, { orc := .val (.bool true) })]) (by kernel_rfl) (allc (C_retracelaw03_read_v2 p1 (⟨(⟨#[]⟩ : ByteArray), 9⟩ : T_retraceref03_Reader) y67 hy67) (allc (congrArg D.bool b68) (allc (C_wire_Reader_Left_v2 y69 hy69) (allc (congrArg D.bool b70) (allc (C_wire_Reader_Err_v2 y71 hy71) (allc (congrArg D.bool b72) all0)))))) (fun a w hs => ⟨true, h, hs⟩)
            · replace h := cond_f b72 h
              obtain ⟨y73, hy73, h⟩ := bind_some h
              refine At.region_end [0, 4, 5, 42] [0, 1] _ (st' := ⟨[(0, sv p0), (4, .ptr 0 0), (5, .ptr 1 0), (42, bo (y73 != 9))], [.blk 33 (T_retracelaw03_Part.pvs p1), .blk 33 (T_retracelaw03_Part.pvs p2)]⟩) (tips := [(3, { pc := some { ρ := [2], n0 := 1, res := bo y67.1, σ' := [.blk 39 (T_retraceref03_Reader.pvs y67.2)], e := [1] } }), (5, { orc := .val (.bool false) }), (7, { pc := some { ρ := [], n0 := 0, res := i64 y69, σ' := [], e := [] } }), (10, { orc := .val (.bool false) }), (12, { pc := some { ρ := [], n0 := 0, res := i64 y71, σ' := [], e := [] } }), (15, { orc := .val (.bool false) }), (17, { pc := some { ρ := [], n0 := 0, res := i64 y73, σ' := [], e := [] } })]) (by kernel_rfl) (allc (C_retracelaw03_read_v2 p1 (⟨(⟨#[]⟩ : ByteArray), 9⟩ : T_retraceref03_Reader) y67 hy67) (allc (congrArg D.bool b68) (allc (C_wire_Reader_Left_v2 y69 hy69) (allc (congrArg D.bool b70) (allc (C_wire_Reader_Err_v2 y71 hy71) (allc (congrArg D.bool b72) (allc (C_wire_Reader_End_v2 y73 hy73) all0))))))) (fun a w hs => ⟨(y73 != 9), h, hs⟩)
      · intro x38 h
        replace h : F_retracelaw03_WireNone_J2 p0 p1 p2 x38 = some r := h
        rw [F_retracelaw03_WireNone_J2] at h
        refine At.cond x38 (by kernel_rfl) (fun b39 => ?_) (fun b39 => ?_)
        · replace h := cond_t b39 h
          refine At.seq ?_
          refine At.region_end [6] [] _ (st' := ⟨[(6, bo false)], []⟩) (tips := []) (by kernel_rfl) all0 (norm ?_)
          obtain rfl := some_eq h
          exact At.ret fun a w hs => ret_ok hR (ρ := []) (gs := []) (by kernel_rfl) all0 (by kernel_rfl) rfl rfl a w hs _ (.inl rfl)
        · replace h := cond_f b39 h
          refine At.nar [0, 4, 5] [0, 1] (st' := ⟨[(0, sv p0), (4, .ptr 0 0), (5, .ptr 1 0)], [.blk 33 (T_retracelaw03_Part.pvs p1), .blk 33 (T_retracelaw03_Part.pvs p2)]⟩) (by kernel_rfl) ?_
          refine At.skip (norm ?_)
          refine At.seq ?_
          obtain ⟨y41, hy41, h⟩ := bind_some h
          refine At.region_end [0, 4, 5, 9] [0, 1, 2] _ (st' := ⟨[(0, sv p0), (4, .ptr 0 0), (5, .ptr 1 0), (9, .ptr 2 0)], [.blk 33 (T_retracelaw03_Part.pvs p1), .blk 33 (T_retracelaw03_Part.pvs p2), .blk 93 (T_wire_Reader.pvs y41)]⟩) (tips := [(1, { pc := some { ρ := [2], n0 := 0, res := .ptr 0 0, σ' := [.blk 93 (T_wire_Reader.pvs y41)], e := [] } })]) (by kernel_rfl) (allc (C_wire_Open p0 y41 hy41) all0) (norm ?_)
          refine At.seq ?_
          obtain ⟨y43, hy43, h⟩ := bind_some h
          refine At.region_end [0, 4, 5, 9] [0, 1, 2] _ (st' := ⟨[(0, sv p0), (4, .ptr 0 0), (5, .ptr 1 0), (9, .ptr 2 0)], [.blk 33 (T_retracelaw03_Part.pvs p1), .blk 33 (T_retracelaw03_Part.pvs p2), .blk 93 (T_wire_Reader.pvs y43)]⟩) (tips := [(1, { pc := some { ρ := [2], n0 := 1, res := .tup [], σ' := [.blk 93 (T_wire_Reader.pvs y43)], e := [1] } })]) (by kernel_rfl) (allc (C_wire_Reader_Fail 12 y41 y43 hy43) all0) (norm ?_)
          refine At.seq ?_
          refine At.region_end [0, 4, 5, 9, 10] [0, 1, 2, 3] _ (st' := ⟨[(0, sv p0), (4, .ptr 0 0), (5, .ptr 1 0), (9, .ptr 2 0), (10, .ptr 3 0)], [.blk 33 (T_retracelaw03_Part.pvs p1), .blk 33 (T_retracelaw03_Part.pvs p2), .blk 93 (T_wire_Reader.pvs y43), .blk 39 [sv p0, i64 12]]⟩) (tips := []) (by kernel_rfl) all0 (norm ?_)
          refine At.seqJ (S := Bool) (fun s => ⟨[(6, bo s)], []⟩) (fun s => F_retracelaw03_WireNone_J3 s = some r) ?_ ?_
          · obtain ⟨y56, hy56, h⟩ := bind_some h
            rcases tf y56.1 with b57 | b57
            · replace h := cond_t b57 h
              obtain ⟨y58, hy58, h⟩ := bind_some h
              rcases tf y58.1 with b59 | b59
              · replace h := cond_t b59 h
                obtain ⟨y60, hy60, h⟩ := bind_some h
                rcases tf (y60 == (p0.size : Int)) with b61 | b61
                · replace h := cond_t b61 h
                  obtain ⟨y62, hy62, h⟩ := bind_some h
                  rcases tf (y62 == 12) with b63 | b63
                  · replace h := cond_t b63 h
                    obtain ⟨y64, hy64, h⟩ := bind_some h
                    rcases tf (y64 == 12) with b65 | b65
                    · replace h := cond_t b65 h
                      obtain ⟨y66, hy66, h⟩ := bind_some h
                      refine At.region_end [6] [] _ (st' := ⟨[(6, bo y66)], []⟩) (tips := [(3, { pc := some { ρ := [2, 3], n0 := 2, res := bo y56.1, σ' := [.blk 93 (T_wire_Reader.pvs y56.2.1), .blk 39 (T_retraceref03_Reader.pvs y56.2.2)], e := [1, 3] } }), (4, { orc := .val (.bool true) }), (8, { pc := some { ρ := [2, 3], n0 := 2, res := bo y58.1, σ' := [.blk 93 (T_wire_Reader.pvs y58.2.1), .blk 39 (T_retraceref03_Reader.pvs y58.2.2)], e := [1, 3] } }), (10, { orc := .val (.bool true) }), (12, { pc := some { ρ := [2], n0 := 1, res := i64 y60, σ' := [.blk 93 (T_wire_Reader.pvs y58.2.1)], e := [1] } }), (17, { orc := .val (.bool true) }), (19, { pc := some { ρ := [2], n0 := 1, res := i64 y62, σ' := [.blk 93 (T_wire_Reader.pvs y58.2.1)], e := [1] } }), (22, { orc := .val (.bool true) }), (24, { pc := some { ρ := [2], n0 := 1, res := i64 y64, σ' := [.blk 93 (T_wire_Reader.pvs y58.2.1)], e := [1] } }), (27, { orc := .val (.bool true) }), (28, { pc := some { ρ := [], n0 := 0, res := bo y66, σ' := [], e := [] } })]) (by kernel_rfl) (allc (C_retracelaw03_read p1 y43 (⟨p0, 12⟩ : T_retraceref03_Reader) y56 hy56) (allc (congrArg D.bool b57) (allc (C_retracelaw03_read p2 y56.2.1 y56.2.2 y58 hy58) (allc (congrArg D.bool b59) (allc (C_wire_Reader_Left y58.2.1 y60 hy60) (allc (congrArg D.bool b61) (allc (C_wire_Reader_Err y58.2.1 y62 hy62) (allc (congrArg D.bool b63) (allc (C_wire_Reader_End y58.2.1 y64 hy64) (allc (congrArg D.bool b65) (allc (C_retracelaw03_live y66 hy66) all0))))))))))) (fun a w hs => ⟨y66, h, hs⟩)
                    · replace h := cond_f b65 h
                      refine At.region_end [6] [] _ (st' := ⟨[(6, bo false)], []⟩) (tips := [(3, { pc := some { ρ := [2, 3], n0 := 2, res := bo y56.1, σ' := [.blk 93 (T_wire_Reader.pvs y56.2.1), .blk 39 (T_retraceref03_Reader.pvs y56.2.2)], e := [1, 3] } }), (4, { orc := .val (.bool true) }), (8, { pc := some { ρ := [2, 3], n0 := 2, res := bo y58.1, σ' := [.blk 93 (T_wire_Reader.pvs y58.2.1), .blk 39 (T_retraceref03_Reader.pvs y58.2.2)], e := [1, 3] } }), (10, { orc := .val (.bool true) }), (12, { pc := some { ρ := [2], n0 := 1, res := i64 y60, σ' := [.blk 93 (T_wire_Reader.pvs y58.2.1)], e := [1] } }), (17, { orc := .val (.bool true) }), (19, { pc := some { ρ := [2], n0 := 1, res := i64 y62, σ' := [.blk 93 (T_wire_Reader.pvs y58.2.1)], e := [1] } }), (22, { orc := .val (.bool true) }), (24, { pc := some { ρ := [2], n0 := 1, res := i64 y64, σ' := [.blk 93 (T_wire_Reader.pvs y58.2.1)], e := [1] } }), (27, { orc := .val (.bool false) })]) (by kernel_rfl) (allc (C_retracelaw03_read p1 y43 (⟨p0, 12⟩ : T_retraceref03_Reader) y56 hy56) (allc (congrArg D.bool b57) (allc (C_retracelaw03_read p2 y56.2.1 y56.2.2 y58 hy58) (allc (congrArg D.bool b59) (allc (C_wire_Reader_Left y58.2.1 y60 hy60) (allc (congrArg D.bool b61) (allc (C_wire_Reader_Err y58.2.1 y62 hy62) (allc (congrArg D.bool b63) (allc (C_wire_Reader_End y58.2.1 y64 hy64) (allc (congrArg D.bool b65) all0)))))))))) (fun a w hs => ⟨false, h, hs⟩)
                  · replace h := cond_f b63 h
                    refine At.region_end [6] [] _ (st' := ⟨[(6, bo false)], []⟩) (tips := [(3, { pc := some { ρ := [2, 3], n0 := 2, res := bo y56.1, σ' := [.blk 93 (T_wire_Reader.pvs y56.2.1), .blk 39 (T_retraceref03_Reader.pvs y56.2.2)], e := [1, 3] } }), (4, { orc := .val (.bool true) }), (8, { pc := some { ρ := [2, 3], n0 := 2, res := bo y58.1, σ' := [.blk 93 (T_wire_Reader.pvs y58.2.1), .blk 39 (T_retraceref03_Reader.pvs y58.2.2)], e := [1, 3] } }), (10, { orc := .val (.bool true) }), (12, { pc := some { ρ := [2], n0 := 1, res := i64 y60, σ' := [.blk 93 (T_wire_Reader.pvs y58.2.1)], e := [1] } }), (17, { orc := .val (.bool true) }), (19, { pc := some { ρ := [2], n0 := 1, res := i64 y62, σ' := [.blk 93 (T_wire_Reader.pvs y58.2.1)], e := [1] } }), (22, { orc := .val (.bool false) })]) (by kernel_rfl) (allc (C_retracelaw03_read p1 y43 (⟨p0, 12⟩ : T_retraceref03_Reader) y56 hy56) (allc (congrArg D.bool b57) (allc (C_retracelaw03_read p2 y56.2.1 y56.2.2 y58 hy58) (allc (congrArg D.bool b59) (allc (C_wire_Reader_Left y58.2.1 y60 hy60) (allc (congrArg D.bool b61) (allc (C_wire_Reader_Err y58.2.1 y62 hy62) (allc (congrArg D.bool b63) all0)))))))) (fun a w hs => ⟨false, h, hs⟩)
                · replace h := cond_f b61 h
                  refine At.region_end [6] [] _ (st' := ⟨[(6, bo false)], []⟩) (tips := [(3, { pc := some { ρ := [2, 3], n0 := 2, res := bo y56.1, σ' := [.blk 93 (T_wire_Reader.pvs y56.2.1), .blk 39 (T_retraceref03_Reader.pvs y56.2.2)], e := [1, 3] } }), (4, { orc := .val (.bool true) }), (8, { pc := some { ρ := [2, 3], n0 := 2, res := bo y58.1, σ' := [.blk 93 (T_wire_Reader.pvs y58.2.1), .blk 39 (T_retraceref03_Reader.pvs y58.2.2)], e := [1, 3] } }), (10, { orc := .val (.bool true) }), (12, { pc := some { ρ := [2], n0 := 1, res := i64 y60, σ' := [.blk 93 (T_wire_Reader.pvs y58.2.1)], e := [1] } }), (17, { orc := .val (.bool false) })]) (by kernel_rfl) (allc (C_retracelaw03_read p1 y43 (⟨p0, 12⟩ : T_retraceref03_Reader) y56 hy56) (allc (congrArg D.bool b57) (allc (C_retracelaw03_read p2 y56.2.1 y56.2.2 y58 hy58) (allc (congrArg D.bool b59) (allc (C_wire_Reader_Left y58.2.1 y60 hy60) (allc (congrArg D.bool b61) all0)))))) (fun a w hs => ⟨false, h, hs⟩)
              · replace h := cond_f b59 h
                refine At.region_end [6] [] _ (st' := ⟨[(6, bo false)], []⟩) (tips := [(3, { pc := some { ρ := [2, 3], n0 := 2, res := bo y56.1, σ' := [.blk 93 (T_wire_Reader.pvs y56.2.1), .blk 39 (T_retraceref03_Reader.pvs y56.2.2)], e := [1, 3] } }), (4, { orc := .val (.bool true) }), (8, { pc := some { ρ := [2, 3], n0 := 2, res := bo y58.1, σ' := [.blk 93 (T_wire_Reader.pvs y58.2.1), .blk 39 (T_retraceref03_Reader.pvs y58.2.2)], e := [1, 3] } }), (10, { orc := .val (.bool false) })]) (by kernel_rfl) (allc (C_retracelaw03_read p1 y43 (⟨p0, 12⟩ : T_retraceref03_Reader) y56 hy56) (allc (congrArg D.bool b57) (allc (C_retracelaw03_read p2 y56.2.1 y56.2.2 y58 hy58) (allc (congrArg D.bool b59) all0)))) (fun a w hs => ⟨false, h, hs⟩)
            · replace h := cond_f b57 h
              refine At.region_end [6] [] _ (st' := ⟨[(6, bo false)], []⟩) (tips := [(3, { pc := some { ρ := [2, 3], n0 := 2, res := bo y56.1, σ' := [.blk 93 (T_wire_Reader.pvs y56.2.1), .blk 39 (T_retraceref03_Reader.pvs y56.2.2)], e := [1, 3] } }), (4, { orc := .val (.bool false) })]) (by kernel_rfl) (allc (C_retracelaw03_read p1 y43 (⟨p0, 12⟩ : T_retraceref03_Reader) y56 hy56) (allc (congrArg D.bool b57) all0)) (fun a w hs => ⟨false, h, hs⟩)
          · intro x55 h
            replace h : F_retracelaw03_WireNone_J3 x55 = some r := h
            rw [F_retracelaw03_WireNone_J3] at h
            obtain rfl := some_eq h
            exact At.ret fun a w hs => ret_ok hR (ρ := []) (gs := []) (by kernel_rfl) all0 (by kernel_rfl) rfl rfl a w hs _ (.inl rfl)
set_option maxRecDepth 100000 in
theorem C_crc_table  (r : (List Int)) (h : F_crc_table  = some r) : FnOK Try.prog 92 [] [] (.dagg (encL (eInt .u32) r)) [] [] := by
  rw [F_crc_table] at h
  refine FnOK.intro Try.func92 rfl (by kernel_rfl) (by kernel_rfl) fun E gv R hR => ?_
  refine At.seq ?_
  refine At.region_end [0] [0] _ (st' := ⟨[(0, .ptr 0 0)], [.dblk 116 (encL (eInt .u32) (List.replicate 256 (0 : Int)))]⟩) (tips := []) (by kernel_rfl) all0 (norm ?_)
  refine At.seq ?_
  refine At.region_end [0, 1] [0, 1] _ (st' := ⟨[(0, .ptr 0 0), (1, .ptr 1 0)], [.dblk 116 (encL (eInt .u32) (List.replicate 256 (0 : Int))), .dblk 116 (encL (eInt .u32) (List.replicate 256 (0 : Int)))]⟩) (tips := []) (by kernel_rfl) all0 (norm ?_)
  refine At.seq ?_
  refine At.seq ?_
  refine At.region_end [0, 1, 4] [0, 1] _ (st' := ⟨[(0, .ptr 0 0), (1, .ptr 1 0), (4, i64 0)], [.dblk 116 (encL (eInt .u32) (List.replicate 256 (0 : Int))), .dblk 116 (encL (eInt .u32) (List.replicate 256 (0 : Int)))]⟩) (tips := []) (by kernel_rfl) all0 (norm ?_)
  refine At.block ?_
  refine At.loop (fun s : (Int × (List Int)) => F_crc_table_L2 s.1 s.2) (fun s : (Int × (List Int)) => ⟨[(0, .ptr 0 0), (1, .ptr 1 0), (4, i64 s.1)], [.dblk 116 (encL (eInt .u32) (List.replicate 256 (0 : Int))), .dblk 116 (encL (eInt .u32) s.2)]⟩) r (0, (List.replicate 256 (0 : Int))) h ?_
  rintro ⟨x43, x44⟩ oo45 h f46
  replace h : F_crc_table_L2 x43 x44 = some oo45 := h
  rw [F_crc_table_L2] at h
  refine At.seq ?_
  refine At.region_end [0, 1, 4, 5] [0, 1] _ (st' := ⟨[(0, .ptr 0 0), (1, .ptr 1 0), (4, i64 x43), (5, bo (decide (x43 < 256)))], [.dblk 116 (encL (eInt .u32) (List.replicate 256 (0 : Int))), .dblk 116 (encL (eInt .u32) x44)]⟩) (tips := []) (by kernel_rfl) all0 (norm ?_)
  refine At.seq ?_
  refine At.cond (decide (x43 < 256)) (by kernel_rfl) (fun b48 => ?_) (fun b48 => ?_)
  · replace h := cond_t b48 h
    refine At.nar [0, 1, 4] [0, 1] (st' := ⟨[(0, .ptr 0 0), (1, .ptr 1 0), (4, i64 x43)], [.dblk 116 (encL (eInt .u32) (List.replicate 256 (0 : Int))), .dblk 116 (encL (eInt .u32) x44)]⟩) (by kernel_rfl) ?_
    refine At.skip (norm ?_)
    refine At.seq ?_
    refine At.block ?_
    refine At.seq ?_
    refine At.region_end [0, 1, 2, 4] [0, 1] _ (st' := ⟨[(0, .ptr 0 0), (1, .ptr 1 0), (2, i64 x43), (4, i64 x43)], [.dblk 116 (encL (eInt .u32) (List.replicate 256 (0 : Int))), .dblk 116 (encL (eInt .u32) x44)]⟩) (tips := []) (by kernel_rfl) all0 (norm ?_)
    refine At.seq ?_
    refine At.region_end [0, 1, 2, 3, 4] [0, 1] _ (st' := ⟨[(0, .ptr 0 0), (1, .ptr 1 0), (2, i64 x43), (3, u32 (wu32 x43)), (4, i64 x43)], [.dblk 116 (encL (eInt .u32) (List.replicate 256 (0 : Int))), .dblk 116 (encL (eInt .u32) x44)]⟩) (tips := []) (by kernel_rfl) all0 (norm ?_)
    refine At.seq ?_
    refine At.seq ?_
    refine At.region_end [0, 1, 2, 3, 4, 9] [0, 1] _ (st' := ⟨[(0, .ptr 0 0), (1, .ptr 1 0), (2, i64 x43), (3, u32 (wu32 x43)), (4, i64 x43), (9, i64 0)], [.dblk 116 (encL (eInt .u32) (List.replicate 256 (0 : Int))), .dblk 116 (encL (eInt .u32) x44)]⟩) (tips := []) (by kernel_rfl) all0 (norm ?_)
    refine At.block ?_
    refine At.loop (fun s : (Int × Int) => F_crc_table_L1 x43 x44 s.1 s.2) (fun s : (Int × Int) => ⟨[(0, .ptr 0 0), (1, .ptr 1 0), (2, i64 x43), (3, u32 s.1), (4, i64 x43), (9, i64 s.2)], [.dblk 116 (encL (eInt .u32) (List.replicate 256 (0 : Int))), .dblk 116 (encL (eInt .u32) x44)]⟩) oo45 ((wu32 x43), 0) h ?_
    rintro ⟨x74, x75⟩ oo76 h f77
    replace h : F_crc_table_L1 x43 x44 x74 x75 = some oo76 := h
    rw [F_crc_table_L1] at h
    refine At.seq ?_
    refine At.region_end [0, 1, 2, 3, 4, 9, 10] [0, 1] _ (st' := ⟨[(0, .ptr 0 0), (1, .ptr 1 0), (2, i64 x43), (3, u32 x74), (4, i64 x43), (9, i64 x75), (10, bo (decide (x75 < 8)))], [.dblk 116 (encL (eInt .u32) (List.replicate 256 (0 : Int))), .dblk 116 (encL (eInt .u32) x44)]⟩) (tips := []) (by kernel_rfl) all0 (norm ?_)
    refine At.seq ?_
    refine At.cond (decide (x75 < 8)) (by kernel_rfl) (fun b79 => ?_) (fun b79 => ?_)
    · replace h := cond_t b79 h
      refine At.nar [0, 1, 2, 3, 4, 9] [0, 1] (st' := ⟨[(0, .ptr 0 0), (1, .ptr 1 0), (2, i64 x43), (3, u32 x74), (4, i64 x43), (9, i64 x75)], [.dblk 116 (encL (eInt .u32) (List.replicate 256 (0 : Int))), .dblk 116 (encL (eInt .u32) x44)]⟩) (by kernel_rfl) ?_
      refine At.skip (norm ?_)
      refine At.seq ?_
      refine At.block ?_
      refine At.region_end [0, 1, 2, 3, 4, 9] [0, 1] _ (st' := ⟨[(0, .ptr 0 0), (1, .ptr 1 0), (2, i64 x43), (3, u32 (bits .xor .u32 (Int.fdiv x74 2) (bits .and .u32 3988292384 (wu32 (0 - (bits .and .u32 x74 1)))))), (4, i64 x43), (9, i64 x75)], [.dblk 116 (encL (eInt .u32) (List.replicate 256 (0 : Int))), .dblk 116 (encL (eInt .u32) x44)]⟩) (tips := []) (by kernel_rfl) (allc (by decide : (0:Int) ≤ 1) all0) (norm ?_)
      refine At.region_end [0, 1, 2, 3, 4, 9] [0, 1] _ (st' := ⟨[(0, .ptr 0 0), (1, .ptr 1 0), (2, i64 x43), (3, u32 (bits .xor .u32 (Int.fdiv x74 2) (bits .and .u32 3988292384 (wu32 (0 - (bits .and .u32 x74 1)))))), (4, i64 x43), (9, i64 (w64 (x75 + 1)))], [.dblk 116 (encL (eInt .u32) (List.replicate 256 (0 : Int))), .dblk 116 (encL (eInt .u32) x44)]⟩) (tips := []) (by kernel_rfl) all0 (fun a w hs => ⟨_, (some_eq h).symm, hs⟩)
    · replace h := cond_f b79 h
      refine At.nar [0, 1, 2, 3, 4] [0, 1] (st' := ⟨[(0, .ptr 0 0), (1, .ptr 1 0), (2, i64 x43), (3, u32 x74), (4, i64 x43)], [.dblk 116 (encL (eInt .u32) (List.replicate 256 (0 : Int))), .dblk 116 (encL (eInt .u32) x44)]⟩) (by kernel_rfl) ?_
      obtain ⟨r80, h, e81⟩ := map_inr h
      rw [f77 _ e81] at h
      refine At.exit (norm ?_)
      obtain ⟨g82, h⟩ := grd_some h
      refine At.region_end [0, 1, 4] [0, 1] _ (st' := ⟨[(0, .ptr 0 0), (1, .ptr 1 0), (4, i64 x43)], [.dblk 116 (encL (eInt .u32) (List.replicate 256 (0 : Int))), .dblk 116 (encL (eInt .u32) (List.set x44 (Int.toNat x43) x74))]⟩) (tips := [(3, { form := some (0, encL (eInt .u32) (List.set x44 (Int.toNat x43) x74)), obj := 1 })]) (by kernel_rfl) (allc (⟨g82.1, g82.2.1⟩ : Within _ _) (allc ((aSet_ok (he_int .u32) x74 g82).1) (allc ((aSet_ok (he_int .u32) x74 g82).2) all0))) (norm ?_)
      refine At.region_end [0, 1, 4] [0, 1] _ (st' := ⟨[(0, .ptr 0 0), (1, .ptr 1 0), (4, i64 (w64 (x43 + 1)))], [.dblk 116 (encL (eInt .u32) (List.replicate 256 (0 : Int))), .dblk 116 (encL (eInt .u32) (List.set x44 (Int.toNat x43) x74))]⟩) (tips := []) (by kernel_rfl) all0 (fun a w hs => ⟨_, (some_eq h).symm, hs⟩)
  · replace h := cond_f b48 h
    refine At.nar [0, 1] [0, 1] (st' := ⟨[(0, .ptr 0 0), (1, .ptr 1 0)], [.dblk 116 (encL (eInt .u32) (List.replicate 256 (0 : Int))), .dblk 116 (encL (eInt .u32) x44)]⟩) (by kernel_rfl) ?_
    obtain ⟨r83, h, e84⟩ := map_inr h
    rw [f46 _ e84] at h
    refine At.exit (norm ?_)
    refine At.seq ?_
    obtain ⟨g87, h⟩ := grd_some h
    obtain ⟨g88, h⟩ := grd_some h
    refine At.region_end [0] [0] _ (st' := ⟨[(0, .ptr 0 0)], [.dblk 116 (encL (eInt .u32) x44)]⟩) (tips := []) (by kernel_rfl) (allc (lenN (he_int .u32) x44 g87) (allc (lenN (he_int .u32) x44 g88.1) (allc (lenN (he_int .u32) (List.replicate 256 (0 : Int)) g88.2) all0))) (norm ?_)
    obtain ⟨g89, h⟩ := grd_some h
    obtain rfl := some_eq h
    exact At.ret fun a w hs => ret_ok hR (ρ := []) (gs := []) (by kernel_rfl) (allc (lenN (he_int .u32) x44 g89) all0) (by kernel_rfl) rfl rfl a w hs _ (.inl rfl)
set_option maxRecDepth 100000 in
theorem C_crc_More (p0 : Int) (p1 : ByteArray) (r : Int) (h : F_crc_More p0 p1 = some r) : FnOK Try.prog 91 [u32 p0, sv p1] [] (u32 r) [] [] := by
  rw [F_crc_More] at h
  refine FnOK.intro Try.func91 rfl (by kernel_rfl) (by kernel_rfl) fun E gv R hR => ?_
  refine At.seq ?_
  refine At.region_end [0, 1] [] _ (st' := ⟨[(0, u32 p0), (1, sv p1)], []⟩) (tips := []) (by kernel_rfl) all0 (norm ?_)
  refine At.seq ?_
  obtain ⟨y3, hy3, h⟩ := bind_some h
  obtain ⟨g4, h⟩ := grd_some h
  refine At.region_end [0, 1, 5] [0] _ (st' := ⟨[(0, u32 p0), (1, sv p1), (5, .ptr 0 0)], [.dblk 116 (encL (eInt .u32) y3)]⟩) (tips := [(0, { pc := some { ρ := [], n0 := 0, res := .dagg (encL (eInt .u32) y3), σ' := [], e := [] } })]) (by kernel_rfl) (allc (C_crc_table y3 hy3) (allc (lenN (he_int .u32) y3 g4.1) (allc (lenN (he_int .u32) (List.replicate 256 (0 : Int)) g4.2) all0))) (norm ?_)
  refine At.seq ?_
  refine At.region_end [0, 1, 5] [0] _ (st' := ⟨[(0, u32 (bits .xor .u32 4294967295 p0)), (1, sv p1), (5, .ptr 0 0)], [.dblk 116 (encL (eInt .u32) y3)]⟩) (tips := []) (by kernel_rfl) all0 (norm ?_)
  refine At.seq ?_
  refine At.seq ?_
  obtain ⟨g22, h⟩ := grd_some h
  refine At.region_end [0, 5, 12, 13, 14] [0, 1] _ (st' := ⟨[(0, u32 (bits .xor .u32 4294967295 p0)), (5, .ptr 0 0), (12, .row 1 ((sB p1)).length), (13, i64 (((sB p1)).length : Int)), (14, i64 0)], [.dblk 116 (encL (eInt .u32) y3), .row 5 1 (encL (eInt .u8) (sB p1))]⟩) (tips := [(1, { form := some ((sB p1).length, encL (eInt .u8) (sB p1)) })]) (by kernel_rfl) (allc (len_sB p1) (allc (encL_sB p1) (allc g22 all0))) (norm ?_)
  refine At.block ?_
  refine At.loop (fun s : (Int × Int) => F_crc_More_L1 p1 y3 s.1 s.2) (fun s : (Int × Int) => ⟨[(0, u32 s.1), (5, .ptr 0 0), (12, .row 1 ((sB p1)).length), (13, i64 (((sB p1)).length : Int)), (14, i64 s.2)], [.dblk 116 (encL (eInt .u32) y3), .row 5 1 (encL (eInt .u8) (sB p1))]⟩) r ((bits .xor .u32 4294967295 p0), 0) h ?_
  rintro ⟨x23, x24⟩ oo25 h f26
  replace h : F_crc_More_L1 p1 y3 x23 x24 = some oo25 := h
  rw [F_crc_More_L1] at h
  refine At.seq ?_
  refine At.region_end [0, 5, 12, 13, 14, 15] [0, 1] _ (st' := ⟨[(0, u32 x23), (5, .ptr 0 0), (12, .row 1 ((sB p1)).length), (13, i64 (((sB p1)).length : Int)), (14, i64 x24), (15, bo (decide (x24 < (((sB p1)).length : Int))))], [.dblk 116 (encL (eInt .u32) y3), .row 5 1 (encL (eInt .u8) (sB p1))]⟩) (tips := []) (by kernel_rfl) all0 (norm ?_)
  refine At.seq ?_
  refine At.cond (decide (x24 < (((sB p1)).length : Int))) (by kernel_rfl) (fun b28 => ?_) (fun b28 => ?_)
  · replace h := cond_t b28 h
    refine At.nar [0, 5, 12, 13, 14] [0, 1] (st' := ⟨[(0, u32 x23), (5, .ptr 0 0), (12, .row 1 ((sB p1)).length), (13, i64 (((sB p1)).length : Int)), (14, i64 x24)], [.dblk 116 (encL (eInt .u32) y3), .row 5 1 (encL (eInt .u8) (sB p1))]⟩) (by kernel_rfl) ?_
    refine At.skip (norm ?_)
    refine At.seq ?_
    refine At.block ?_
    refine At.seq ?_
    obtain ⟨y33, hy33, h⟩ := bind_some h
    refine At.region_end [0, 5, 7, 12, 13, 14] [0, 1] _ (st' := ⟨[(0, u32 x23), (5, .ptr 0 0), (7, u8 y33), (12, .row 1 ((sB p1)).length), (13, i64 (((sB p1)).length : Int)), (14, i64 x24)], [.dblk 116 (encL (eInt .u32) y3), .row 5 1 (encL (eInt .u8) (sB p1))]⟩) (tips := [(1, { orc := .val (.int .u8 y33) })]) (by kernel_rfl) (allc ((rAt_of (he_int .u8) (d := .int .u8 y33) hy33 rfl).1) (allc ((rAt_of (he_int .u8) (d := .int .u8 y33) hy33 rfl).2) all0)) (norm ?_)
    obtain ⟨y34, hy34, h⟩ := bind_some h
    refine At.region_end [0, 5, 12, 13, 14] [0, 1] _ (st' := ⟨[(0, u32 (bits .xor .u32 y34 (Int.fdiv x23 256))), (5, .ptr 0 0), (12, .row 1 ((sB p1)).length), (13, i64 (((sB p1)).length : Int)), (14, i64 x24)], [.dblk 116 (encL (eInt .u32) y3), .row 5 1 (encL (eInt .u8) (sB p1))]⟩) (tips := [(5, { orc := .val (.int .u32 y34) })]) (by kernel_rfl) (allc ((aAt_of (he_int .u32) (d := .int .u32 y34) hy34 rfl).1) (allc ((aAt_of (he_int .u32) (d := .int .u32 y34) hy34 rfl).2) (allc (by decide : (0:Int) ≤ 8) all0))) (norm ?_)
    refine At.region_end [0, 5, 12, 13, 14] [0, 1] _ (st' := ⟨[(0, u32 (bits .xor .u32 y34 (Int.fdiv x23 256))), (5, .ptr 0 0), (12, .row 1 ((sB p1)).length), (13, i64 (((sB p1)).length : Int)), (14, i64 (w64 (x24 + 1)))], [.dblk 116 (encL (eInt .u32) y3), .row 5 1 (encL (eInt .u8) (sB p1))]⟩) (tips := []) (by kernel_rfl) all0 (fun a w hs => ⟨_, (some_eq h).symm, hs⟩)
  · replace h := cond_f b28 h
    refine At.nar [0] [] (st' := ⟨[(0, u32 x23)], []⟩) (by kernel_rfl) ?_
    obtain ⟨r35, h, e36⟩ := map_inr h
    rw [f26 _ e36] at h
    refine At.exit (norm ?_)
    refine At.seq ?_
    refine At.region_end [4] [] _ (st' := ⟨[(4, u32 (bits .xor .u32 4294967295 x23))], []⟩) (tips := []) (by kernel_rfl) all0 (norm ?_)
    obtain rfl := some_eq h
    exact At.ret fun a w hs => ret_ok hR (ρ := []) (gs := []) (by kernel_rfl) all0 (by kernel_rfl) rfl rfl a w hs _ (.inl rfl)
set_option maxRecDepth 100000 in
theorem C_crc_Sum (p0 : ByteArray) (r : Int) (h : F_crc_Sum p0 = some r) : FnOK Try.prog 87 [sv p0] [] (u32 r) [] [] := by
  rw [F_crc_Sum] at h
  refine FnOK.intro Try.func87 rfl (by kernel_rfl) (by kernel_rfl) fun E gv R hR => ?_
  refine At.seq ?_
  refine At.region_end [0] [] _ (st' := ⟨[(0, sv p0)], []⟩) (tips := []) (by kernel_rfl) all0 (norm ?_)
  refine At.seq ?_
  obtain ⟨y2, hy2, h⟩ := bind_some h
  refine At.region_end [2] [] _ (st' := ⟨[(2, u32 y2)], []⟩) (tips := [(1, { pc := some { ρ := [], n0 := 0, res := u32 y2, σ' := [], e := [] } })]) (by kernel_rfl) (allc (C_crc_More 0 p0 y2 hy2) all0) (norm ?_)
  obtain rfl := some_eq h
  exact At.ret fun a w hs => ret_ok hR (ρ := []) (gs := []) (by kernel_rfl) all0 (by kernel_rfl) rfl rfl a w hs _ (.inl rfl)
set_option maxRecDepth 100000 in
theorem C_crc_Bytes (p0 : Int) (r : ByteArray) (h : F_crc_Bytes p0 = some r) : FnOK Try.prog 86 [u32 p0] [] (sv r) [] [] := by
  rw [F_crc_Bytes] at h
  refine FnOK.intro Try.func86 rfl (by kernel_rfl) (by kernel_rfl) fun E gv R hR => ?_
  refine At.seq ?_
  refine At.region_end [0] [] _ (st' := ⟨[(0, u32 p0)], []⟩) (tips := []) (by kernel_rfl) all0 (norm ?_)
  refine At.seq ?_
  refine At.region_end [2] [] _ (st' := ⟨[(2, sv (strOfNums ([(wu8 p0), (wu8 (Int.fdiv p0 256)), (wu8 (Int.fdiv p0 65536)), (wu8 (Int.fdiv p0 16777216))])))], []⟩) (tips := [(12, { orc := .nums ([(wu8 p0), (wu8 (Int.fdiv p0 256)), (wu8 (Int.fdiv p0 65536)), (wu8 (Int.fdiv p0 16777216))]) })]) (by kernel_rfl) (allc (by decide : (0:Int) ≤ 8) (allc (by decide : (0:Int) ≤ 16) (allc (by decide : (0:Int) ≤ 24) (allc (encL_map .u8 ([(wu8 p0), (wu8 (Int.fdiv p0 256)), (wu8 (Int.fdiv p0 65536)), (wu8 (Int.fdiv p0 16777216))])) (allc (rfl : (([(wu8 p0), (wu8 (Int.fdiv p0 256)), (wu8 (Int.fdiv p0 65536)), (wu8 (Int.fdiv p0 16777216))])).length = (([(wu8 p0), (wu8 (Int.fdiv p0 256)), (wu8 (Int.fdiv p0 65536)), (wu8 (Int.fdiv p0 16777216))])).length) all0))))) (norm ?_)
  obtain rfl := some_eq h
  exact At.ret fun a w hs => ret_ok hR (ρ := []) (gs := []) (by kernel_rfl) all0 (by kernel_rfl) rfl rfl a w hs _ (.inl rfl)
set_option maxRecDepth 100000 in
theorem C_crc_Seal (p0 : ByteArray) (r : ByteArray) (h : F_crc_Seal p0 = some r) : FnOK Try.prog 72 [sv p0] [] (sv r) [] [] := by
  rw [F_crc_Seal] at h
  refine FnOK.intro Try.func72 rfl (by kernel_rfl) (by kernel_rfl) fun E gv R hR => ?_
  refine At.seq ?_
  refine At.region_end [0] [] _ (st' := ⟨[(0, sv p0)], []⟩) (tips := []) (by kernel_rfl) all0 (norm ?_)
  refine At.seq ?_
  obtain ⟨y4, hy4, h⟩ := bind_some h
  obtain ⟨y5, hy5, h⟩ := bind_some h
  obtain ⟨g6, h⟩ := grd_some h
  refine At.region_end [2] [] _ (st' := ⟨[(2, sv (p0 ++ y5))], []⟩) (tips := [(2, { pc := some { ρ := [], n0 := 0, res := u32 y4, σ' := [], e := [] } }), (3, { pc := some { ρ := [], n0 := 0, res := sv y5, σ' := [], e := [] } })]) (by kernel_rfl) (allc (C_crc_Sum p0 y4 hy4) (allc (C_crc_Bytes y4 y5 hy5) (allc g6 all0))) (norm ?_)
  obtain rfl := some_eq h
  exact At.ret fun a w hs => ret_ok hR (ρ := []) (gs := []) (by kernel_rfl) all0 (by kernel_rfl) rfl rfl a w hs _ (.inl rfl)
set_option maxRecDepth 100000 in
theorem C_frame_Put (p0 : T_api_Frame) (r : ByteArray × Int) (h : F_frame_Put p0 = some r) : FnOK Try.prog 32 [.agg (T_api_Frame.pvs p0)] [] (.tup [sv r.1, i64 r.2]) [] [] := by
  rw [F_frame_Put] at h
  refine FnOK.intro Try.func32 rfl (by kernel_rfl) (by kernel_rfl) fun E gv R hR => ?_
  refine At.seq ?_
  refine At.region_end [1] [0] _ (st' := ⟨[(1, .ptr 0 0)], [.blk 53 (T_api_Frame.pvs p0)]⟩) (tips := []) (by kernel_rfl) all0 (norm ?_)
  refine At.seq ?_
  refine At.seqJ (S := Bool) (fun s => ⟨[(1, .ptr 0 0), (11, bo s)], [.blk 53 (T_api_Frame.pvs p0)]⟩) (fun s => F_frame_Put_J1 p0 s = some r) ?_ ?_
  · rcases tf (decide (p0.Kind < 0)) with b16 | b16
    · replace h := cond_t b16 h
      refine At.region_end [1, 11] [0] _ (st' := ⟨[(1, .ptr 0 0), (11, bo true)], [.blk 53 (T_api_Frame.pvs p0)]⟩) (tips := [(3, { orc := .val (.bool true) })]) (by kernel_rfl) (allc (congrArg D.bool b16) all0) (fun a w hs => ⟨true, h, hs⟩)
    · replace h := cond_f b16 h
      refine At.region_end [1, 11] [0] _ (st' := ⟨[(1, .ptr 0 0), (11, bo (decide (255 < p0.Kind)))], [.blk 53 (T_api_Frame.pvs p0)]⟩) (tips := [(3, { orc := .val (.bool false) })]) (by kernel_rfl) (allc (congrArg D.bool b16) all0) (fun a w hs => ⟨(decide (255 < p0.Kind)), h, hs⟩)
  · intro x6 h
    replace h : F_frame_Put_J1 p0 x6 = some r := h
    rw [F_frame_Put_J1] at h
    refine At.cond x6 (by kernel_rfl) (fun b7 => ?_) (fun b7 => ?_)
    · replace h := cond_t b7 h
      refine At.seq ?_
      refine At.region_end [2, 3] [] _ (st' := ⟨[(2, sv (⟨#[]⟩ : ByteArray)), (3, i64 1)], []⟩) (tips := []) (by kernel_rfl) all0 (norm ?_)
      obtain rfl := some_eq h
      exact At.ret fun a w hs => ret_ok hR (ρ := []) (gs := []) (by kernel_rfl) all0 (by kernel_rfl) rfl rfl a w hs _ (.inl rfl)
    · replace h := cond_f b7 h
      refine At.nar [1] [0] (st' := ⟨[(1, .ptr 0 0)], [.blk 53 (T_api_Frame.pvs p0)]⟩) (by kernel_rfl) ?_
      refine At.skip (norm ?_)
      refine At.seq ?_
      refine At.seq ?_
      refine At.region_end [1, 15] [0] _ (st' := ⟨[(1, .ptr 0 0), (15, bo (decide (1048576 < (p0.Data.size : Int))))], [.blk 53 (T_api_Frame.pvs p0)]⟩) (tips := []) (by kernel_rfl) all0 (norm ?_)
      refine At.cond (decide (1048576 < (p0.Data.size : Int))) (by kernel_rfl) (fun b9 => ?_) (fun b9 => ?_)
      · replace h := cond_t b9 h
        refine At.seq ?_
        refine At.region_end [2, 3] [] _ (st' := ⟨[(2, sv (⟨#[]⟩ : ByteArray)), (3, i64 5)], []⟩) (tips := []) (by kernel_rfl) all0 (norm ?_)
        obtain rfl := some_eq h
        exact At.ret fun a w hs => ret_ok hR (ρ := []) (gs := []) (by kernel_rfl) all0 (by kernel_rfl) rfl rfl a w hs _ (.inl rfl)
      · replace h := cond_f b9 h
        refine At.nar [1] [0] (st' := ⟨[(1, .ptr 0 0)], [.blk 53 (T_api_Frame.pvs p0)]⟩) (by kernel_rfl) ?_
        refine At.skip (norm ?_)
        refine At.seq ?_
        obtain ⟨y13, hy13, h⟩ := bind_some h
        obtain ⟨g14, h⟩ := grd_some h
        obtain ⟨y15, hy15, h⟩ := bind_some h
        refine At.draw_end mixedOrd 1 [2, 3] [] _ (st' := ⟨[(2, sv y15), (3, i64 0)], []⟩) (tips := [(0, { r := 1 }), (1, { T := [0], r := 1 }), (2, { r := 1 }), (3, { r := 1 }), (4, { tip := { orc := .nums ([(wu8 p0.Kind)]) }, T := [1], r := 2 }), (5, { r := 2 }), (6, { T := [0], r := 2 }), (7, { r := 2 }), (8, { r := 2 }), (9, { tip := { pc := some { ρ := [], n0 := 0, res := sv y13, σ' := [], e := [] } }, r := 2 }), (10, { r := 2 }), (11, { T := [0], r := 2 }), (13, { tip := { pc := some { ρ := [], n0 := 0, res := sv y15, σ' := [], e := [] } }, r := 2 })]) (by kernel_rfl) (allc (encL_map .u8 ([(wu8 p0.Kind)])) (allc (rfl : (([(wu8 p0.Kind)])).length = (([(wu8 p0.Kind)])).length) (allc (C_vint_Put (strOfNums ([(wu8 p0.Kind)])) (wu64 (p0.Data.size : Int)) y13 hy13) (allc g14 (allc (C_crc_Seal (y13 ++ p0.Data) y15 hy15) all0))))) (norm ?_)
        obtain rfl := some_eq h
        exact At.ret fun a w hs => ret_ok hR (ρ := []) (gs := []) (by kernel_rfl) all0 (by kernel_rfl) rfl rfl a w hs _ (.inl rfl)
set_option maxRecDepth 100000 in
theorem C_crc_Open (p0 : ByteArray) (r : ByteArray × Int) (h : F_crc_Open p0 = some r) : FnOK Try.prog 76 [sv p0] [] (.tup [sv r.1, i64 r.2]) [] [] := by
  rw [F_crc_Open] at h
  refine FnOK.intro Try.func76 rfl (by kernel_rfl) (by kernel_rfl) fun E gv R hR => ?_
  refine At.seq ?_
  refine At.region_end [0] [] _ (st' := ⟨[(0, sv p0)], []⟩) (tips := []) (by kernel_rfl) all0 (norm ?_)
  refine At.seq ?_
  refine At.region_end [0, 4] [] _ (st' := ⟨[(0, sv p0), (4, i64 (w64 ((p0.size : Int) - 4)))], []⟩) (tips := []) (by kernel_rfl) all0 (norm ?_)
  refine At.seq ?_
  refine At.seq ?_
  refine At.region_end [0, 4, 9] [] _ (st' := ⟨[(0, sv p0), (4, i64 (w64 ((p0.size : Int) - 4))), (9, bo (decide ((w64 ((p0.size : Int) - 4)) < 0)))], []⟩) (tips := []) (by kernel_rfl) all0 (norm ?_)
  refine At.cond (decide ((w64 ((p0.size : Int) - 4)) < 0)) (by kernel_rfl) (fun b2 => ?_) (fun b2 => ?_)
  · replace h := cond_t b2 h
    refine At.seq ?_
    refine At.region_end [2, 3] [] _ (st' := ⟨[(2, sv (⟨#[]⟩ : ByteArray)), (3, i64 2)], []⟩) (tips := []) (by kernel_rfl) all0 (norm ?_)
    obtain rfl := some_eq h
    exact At.ret fun a w hs => ret_ok hR (ρ := []) (gs := []) (by kernel_rfl) all0 (by kernel_rfl) rfl rfl a w hs _ (.inl rfl)
  · replace h := cond_f b2 h
    refine At.nar [0, 4] [] (st' := ⟨[(0, sv p0), (4, i64 (w64 ((p0.size : Int) - 4)))], []⟩) (by kernel_rfl) ?_
    refine At.skip (norm ?_)
    refine At.seq ?_
    refine At.seq ?_
    obtain ⟨g16, h⟩ := grd_some h
    obtain ⟨y17, hy17, h⟩ := bind_some h
    obtain ⟨y18, hy18, h⟩ := bind_some h
    obtain ⟨g19, h⟩ := grd_some h
    refine At.draw_end mixedOrd 0 [0, 4, 18] [] _ (st' := ⟨[(0, sv p0), (4, i64 (w64 ((p0.size : Int) - 4))), (18, bo (!(y18.toList == (p0.extract (Int.toNat (w64 ((p0.size : Int) - 4))) (Int.toNat (p0.size : Int))).toList)))], []⟩) (tips := [(3, { tip := { pc := some { ρ := [], n0 := 0, res := u32 y17, σ' := [], e := [] } } }), (4, { tip := { pc := some { ρ := [], n0 := 0, res := sv y18, σ' := [], e := [] } } })]) (by kernel_rfl) (allc g16 (allc (C_crc_Sum (p0.extract (Int.toNat 0) (Int.toNat (w64 ((p0.size : Int) - 4)))) y17 hy17) (allc (C_crc_Bytes y17 y18 hy18) (allc g19 all0)))) (norm ?_)
    refine At.cond (!(y18.toList == (p0.extract (Int.toNat (w64 ((p0.size : Int) - 4))) (Int.toNat (p0.size : Int))).toList)) (by kernel_rfl) (fun b20 => ?_) (fun b20 => ?_)
    · replace h := cond_t b20 h
      refine At.seq ?_
      refine At.region_end [2, 3] [] _ (st' := ⟨[(2, sv (⟨#[]⟩ : ByteArray)), (3, i64 4)], []⟩) (tips := []) (by kernel_rfl) all0 (norm ?_)
      obtain rfl := some_eq h
      exact At.ret fun a w hs => ret_ok hR (ρ := []) (gs := []) (by kernel_rfl) all0 (by kernel_rfl) rfl rfl a w hs _ (.inl rfl)
    · replace h := cond_f b20 h
      refine At.nar [0, 4] [] (st' := ⟨[(0, sv p0), (4, i64 (w64 ((p0.size : Int) - 4)))], []⟩) (by kernel_rfl) ?_
      refine At.skip (norm ?_)
      refine At.seq ?_
      obtain ⟨g22, h⟩ := grd_some h
      refine At.region_end [2, 3] [] _ (st' := ⟨[(2, sv (p0.extract (Int.toNat 0) (Int.toNat (w64 ((p0.size : Int) - 4))))), (3, i64 0)], []⟩) (tips := []) (by kernel_rfl) (allc g22 all0) (norm ?_)
      obtain rfl := some_eq h
      exact At.ret fun a w hs => ret_ok hR (ρ := []) (gs := []) (by kernel_rfl) all0 (by kernel_rfl) rfl rfl a w hs _ (.inl rfl)
set_option maxRecDepth 100000 in
theorem C_frame_Next (p0 : ByteArray) (p1 : Int) (r : T_api_Frame × Int × Int) (h : F_frame_Next p0 p1 = some r) : FnOK Try.prog 34 [sv p0, i64 p1] [] (.tup [.agg (T_api_Frame.pvs r.1), i64 r.2.1, i64 r.2.2]) [] [] := by
  rw [F_frame_Next] at h
  refine FnOK.intro Try.func34 rfl (by kernel_rfl) (by kernel_rfl) fun E gv R hR => ?_
  refine At.seq ?_
  refine At.region_end [0, 1, 4] [0] _ (st' := ⟨[(0, sv p0), (1, i64 p1), (4, .ptr 0 0)], [.blk 53 [i64 0, sv (⟨#[]⟩ : ByteArray)]]⟩) (tips := []) (by kernel_rfl) all0 (norm ?_)
  refine At.seq ?_
  refine At.seqJ (S := Bool) (fun s => ⟨[(0, sv p0), (1, i64 p1), (4, .ptr 0 0), (20, bo s)], [.blk 53 [i64 0, sv (⟨#[]⟩ : ByteArray)]]⟩) (fun s => F_frame_Next_J1 p0 p1 s = some r) ?_ ?_
  · rcases tf (decide (p1 < 0)) with b32 | b32
    · replace h := cond_t b32 h
      refine At.region_end [0, 1, 4, 20] [0] _ (st' := ⟨[(0, sv p0), (1, i64 p1), (4, .ptr 0 0), (20, bo true)], [.blk 53 [i64 0, sv (⟨#[]⟩ : ByteArray)]]⟩) (tips := [(2, { orc := .val (.bool true) })]) (by kernel_rfl) (allc (congrArg D.bool b32) all0) (fun a w hs => ⟨true, h, hs⟩)
    · replace h := cond_f b32 h
      refine At.region_end [0, 1, 4, 20] [0] _ (st' := ⟨[(0, sv p0), (1, i64 p1), (4, .ptr 0 0), (20, bo (decide ((p0.size : Int) < p1)))], [.blk 53 [i64 0, sv (⟨#[]⟩ : ByteArray)]]⟩) (tips := [(2, { orc := .val (.bool false) })]) (by kernel_rfl) (allc (congrArg D.bool b32) all0) (fun a w hs => ⟨(decide ((p0.size : Int) < p1)), h, hs⟩)
  · intro x6 h
    replace h : F_frame_Next_J1 p0 p1 x6 = some r := h
    rw [F_frame_Next_J1] at h
    refine At.cond x6 (by kernel_rfl) (fun b7 => ?_) (fun b7 => ?_)
    · replace h := cond_t b7 h
      refine At.seq ?_
      refine At.region_end [4, 5, 6] [0] _ (st' := ⟨[(4, .ptr 0 0), (5, i64 0), (6, i64 1)], [.blk 53 [i64 0, sv (⟨#[]⟩ : ByteArray)]]⟩) (tips := []) (by kernel_rfl) all0 (norm ?_)
      obtain rfl := some_eq h
      exact At.ret fun a w hs => ret_ok hR (ρ := []) (gs := []) (by kernel_rfl) all0 (by kernel_rfl) rfl rfl a w hs _ (.inl rfl)
    · replace h := cond_f b7 h
      refine At.nar [0, 1, 4] [0] (st' := ⟨[(0, sv p0), (1, i64 p1), (4, .ptr 0 0)], [.blk 53 [i64 0, sv (⟨#[]⟩ : ByteArray)]]⟩) (by kernel_rfl) ?_
      refine At.skip (norm ?_)
      refine At.seq ?_
      refine At.seq ?_
      refine At.region_end [0, 1, 4, 25] [0] _ (st' := ⟨[(0, sv p0), (1, i64 p1), (4, .ptr 0 0), (25, bo (p1 == (p0.size : Int)))], [.blk 53 [i64 0, sv (⟨#[]⟩ : ByteArray)]]⟩) (tips := []) (by kernel_rfl) all0 (norm ?_)
      refine At.cond (p1 == (p0.size : Int)) (by kernel_rfl) (fun b9 => ?_) (fun b9 => ?_)
      · replace h := cond_t b9 h
        refine At.seq ?_
        refine At.region_end [4, 5, 6] [0] _ (st' := ⟨[(4, .ptr 0 0), (5, i64 0), (6, i64 2)], [.blk 53 [i64 0, sv (⟨#[]⟩ : ByteArray)]]⟩) (tips := []) (by kernel_rfl) all0 (norm ?_)
        obtain rfl := some_eq h
        exact At.ret fun a w hs => ret_ok hR (ρ := []) (gs := []) (by kernel_rfl) all0 (by kernel_rfl) rfl rfl a w hs _ (.inl rfl)
      · replace h := cond_f b9 h
        refine At.nar [0, 1, 4] [0] (st' := ⟨[(0, sv p0), (1, i64 p1), (4, .ptr 0 0)], [.blk 53 [i64 0, sv (⟨#[]⟩ : ByteArray)]]⟩) (by kernel_rfl) ?_
        refine At.skip (norm ?_)
        refine At.seq ?_
        obtain ⟨y11, hy11, h⟩ := bind_some h
        refine At.region_end [0, 1, 4, 7, 8, 9] [0] _ (st' := ⟨[(0, sv p0), (1, i64 p1), (4, .ptr 0 0), (7, u64 y11.1), (8, i64 y11.2.1), (9, i64 y11.2.2)], [.blk 53 [i64 0, sv (⟨#[]⟩ : ByteArray)]]⟩) (tips := [(3, { pc := some { ρ := [], n0 := 0, res := .tup [u64 y11.1, i64 y11.2.1, i64 y11.2.2], σ' := [], e := [] } })]) (by kernel_rfl) (allc (C_vint_Get p0 (w64 (p1 + 1)) y11 hy11) all0) (norm ?_)
        refine At.seq ?_
        refine At.block ?_
        refine At.seq ?_
        refine At.region_end [0, 1, 4, 7, 8, 9, 35] [0] _ (st' := ⟨[(0, sv p0), (1, i64 p1), (4, .ptr 0 0), (7, u64 y11.1), (8, i64 y11.2.1), (9, i64 y11.2.2), (35, bo (y11.2.2 != 0))], [.blk 53 [i64 0, sv (⟨#[]⟩ : ByteArray)]]⟩) (tips := []) (by kernel_rfl) all0 (norm ?_)
        refine At.cond (y11.2.2 != 0) (by kernel_rfl) (fun b15 => ?_) (fun b15 => ?_)
        · replace h := cond_t b15 h
          refine At.seq ?_
          refine At.region_end [4, 5, 6] [0] _ (st' := ⟨[(4, .ptr 0 0), (5, i64 0), (6, i64 y11.2.2)], [.blk 53 [i64 0, sv (⟨#[]⟩ : ByteArray)]]⟩) (tips := []) (by kernel_rfl) all0 (norm ?_)
          obtain rfl := some_eq h
          exact At.ret fun a w hs => ret_ok hR (ρ := []) (gs := []) (by kernel_rfl) all0 (by kernel_rfl) rfl rfl a w hs _ (.inl rfl)
        · replace h := cond_f b15 h
          refine At.seq ?_
          refine At.region_end [0, 1, 4, 7, 8, 40] [0] _ (st' := ⟨[(0, sv p0), (1, i64 p1), (4, .ptr 0 0), (7, u64 y11.1), (8, i64 y11.2.1), (40, bo (decide (1048576 < y11.1)))], [.blk 53 [i64 0, sv (⟨#[]⟩ : ByteArray)]]⟩) (tips := []) (by kernel_rfl) all0 (norm ?_)
          refine At.cond (decide (1048576 < y11.1)) (by kernel_rfl) (fun b16 => ?_) (fun b16 => ?_)
          · replace h := cond_t b16 h
            refine At.seq ?_
            refine At.region_end [4, 5, 6] [0] _ (st' := ⟨[(4, .ptr 0 0), (5, i64 0), (6, i64 5)], [.blk 53 [i64 0, sv (⟨#[]⟩ : ByteArray)]]⟩) (tips := []) (by kernel_rfl) all0 (norm ?_)
            obtain rfl := some_eq h
            exact At.ret fun a w hs => ret_ok hR (ρ := []) (gs := []) (by kernel_rfl) all0 (by kernel_rfl) rfl rfl a w hs _ (.inl rfl)
          · replace h := cond_f b16 h
            refine At.seq ?_
            refine At.region_end [0, 1, 4, 7, 8, 44] [0] _ (st' := ⟨[(0, sv p0), (1, i64 p1), (4, .ptr 0 0), (7, u64 y11.1), (8, i64 y11.2.1), (44, bo (decide ((w64 ((p0.size : Int) - y11.2.1)) < (w64 ((w64 y11.1) + 4)))))], [.blk 53 [i64 0, sv (⟨#[]⟩ : ByteArray)]]⟩) (tips := []) (by kernel_rfl) all0 (norm ?_)
            refine At.cond (decide ((w64 ((p0.size : Int) - y11.2.1)) < (w64 ((w64 y11.1) + 4)))) (by kernel_rfl) (fun b17 => ?_) (fun b17 => ?_)
            · replace h := cond_t b17 h
              refine At.seq ?_
              refine At.region_end [4, 5, 6] [0] _ (st' := ⟨[(4, .ptr 0 0), (5, i64 0), (6, i64 2)], [.blk 53 [i64 0, sv (⟨#[]⟩ : ByteArray)]]⟩) (tips := []) (by kernel_rfl) all0 (norm ?_)
              obtain rfl := some_eq h
              exact At.ret fun a w hs => ret_ok hR (ρ := []) (gs := []) (by kernel_rfl) all0 (by kernel_rfl) rfl rfl a w hs _ (.inl rfl)
            · replace h := cond_f b17 h
              refine At.nar [0, 1, 4, 7, 8] [0] (st' := ⟨[(0, sv p0), (1, i64 p1), (4, .ptr 0 0), (7, u64 y11.1), (8, i64 y11.2.1)], [.blk 53 [i64 0, sv (⟨#[]⟩ : ByteArray)]]⟩) (by kernel_rfl) ?_
              refine At.skip (norm ?_)
              refine At.seq ?_
              refine At.region_end [0, 1, 4, 8, 10] [0] _ (st' := ⟨[(0, sv p0), (1, i64 p1), (4, .ptr 0 0), (8, i64 y11.2.1), (10, i64 (w64 (y11.2.1 + (w64 y11.1))))], [.blk 53 [i64 0, sv (⟨#[]⟩ : ByteArray)]]⟩) (tips := []) (by kernel_rfl) all0 (norm ?_)
              refine At.seq ?_
              refine At.seq ?_
              obtain ⟨g25, h⟩ := grd_some h
              obtain ⟨y26, hy26, h⟩ := bind_some h
              refine At.region_end [0, 1, 4, 8, 10, 12] [0] _ (st' := ⟨[(0, sv p0), (1, i64 p1), (4, .ptr 0 0), (8, i64 y11.2.1), (10, i64 (w64 (y11.2.1 + (w64 y11.1)))), (12, i64 y26.2)], [.blk 53 [i64 0, sv (⟨#[]⟩ : ByteArray)]]⟩) (tips := [(5, { pc := some { ρ := [], n0 := 0, res := .tup [sv y26.1, i64 y26.2], σ' := [], e := [] } })]) (by kernel_rfl) (allc g25 (allc (C_crc_Open (p0.extract (Int.toNat p1) (Int.toNat (w64 ((w64 (y11.2.1 + (w64 y11.1))) + 4)))) y26 hy26) all0)) (norm ?_)
              refine At.seq ?_
              refine At.region_end [0, 1, 4, 8, 10, 12, 68] [0] _ (st' := ⟨[(0, sv p0), (1, i64 p1), (4, .ptr 0 0), (8, i64 y11.2.1), (10, i64 (w64 (y11.2.1 + (w64 y11.1)))), (12, i64 y26.2), (68, bo (y26.2 != 0))], [.blk 53 [i64 0, sv (⟨#[]⟩ : ByteArray)]]⟩) (tips := []) (by kernel_rfl) all0 (norm ?_)
              refine At.cond (y26.2 != 0) (by kernel_rfl) (fun b27 => ?_) (fun b27 => ?_)
              · replace h := cond_t b27 h
                refine At.seq ?_
                refine At.region_end [4, 5, 6] [0] _ (st' := ⟨[(4, .ptr 0 0), (5, i64 0), (6, i64 y26.2)], [.blk 53 [i64 0, sv (⟨#[]⟩ : ByteArray)]]⟩) (tips := []) (by kernel_rfl) all0 (norm ?_)
                obtain rfl := some_eq h
                exact At.ret fun a w hs => ret_ok hR (ρ := []) (gs := []) (by kernel_rfl) all0 (by kernel_rfl) rfl rfl a w hs _ (.inl rfl)
              · replace h := cond_f b27 h
                refine At.nar [0, 1, 4, 8, 10] [0] (st' := ⟨[(0, sv p0), (1, i64 p1), (4, .ptr 0 0), (8, i64 y11.2.1), (10, i64 (w64 (y11.2.1 + (w64 y11.1))))], [.blk 53 [i64 0, sv (⟨#[]⟩ : ByteArray)]]⟩) (by kernel_rfl) ?_
                refine At.skip (norm ?_)
                refine At.seq ?_
                obtain ⟨y30, hy30, h⟩ := bind_some h
                obtain ⟨g31, h⟩ := grd_some h
                refine At.draw_end mixedOrd 0 [4, 5, 6] [0] _ (st' := ⟨[(4, .ptr 0 0), (5, i64 (w64 ((w64 (y11.2.1 + (w64 y11.1))) + 4))), (6, i64 0)], [.blk 53 [i64 (w64 y30), sv (p0.extract (Int.toNat y11.2.1) (Int.toNat (w64 (y11.2.1 + (w64 y11.1)))))]]⟩) (tips := [(2, { tip := { orc := .val (.int .u8 y30) } }), (3, { r := 1 }), (11, { T := [0], r := 1 })]) (by kernel_rfl) (allc hy30 (allc g31 all0)) (norm ?_)
                obtain rfl := some_eq h
                exact At.ret fun a w hs => ret_ok hR (ρ := []) (gs := []) (by kernel_rfl) all0 (by kernel_rfl) rfl rfl a w hs _ (.inl rfl)
set_option maxRecDepth 100000 in
theorem C_retracelaw04_live  (r : Bool) (h : F_retracelaw04_live  = some r) : FnOK Try.prog 31 [] [] (bo r) [] [] := by
  rw [F_retracelaw04_live] at h
  refine FnOK.intro Try.func31 rfl (by kernel_rfl) (by kernel_rfl) fun E gv R hR => ?_
  refine At.seq ?_
  refine At.region_end [] [] _ (st' := ⟨[], []⟩) (tips := []) (by kernel_rfl) all0 (norm ?_)
  refine At.seq ?_
  obtain ⟨y2, hy2, h⟩ := bind_some h
  refine At.region_end [1, 2] [] _ (st' := ⟨[(1, sv y2.1), (2, i64 y2.2)], []⟩) (tips := [(1, { pc := some { ρ := [], n0 := 0, res := .tup [sv y2.1, i64 y2.2], σ' := [], e := [] } })]) (by kernel_rfl) (allc (C_frame_Put (⟨1, (⟨#[97]⟩ : ByteArray)⟩ : T_api_Frame) y2 hy2) all0) (norm ?_)
  refine At.seq ?_
  obtain ⟨y4, hy4, h⟩ := bind_some h
  refine At.region_end [1, 2, 3, 4, 5] [0] _ (st' := ⟨[(1, sv y2.1), (2, i64 y2.2), (3, .ptr 0 0), (4, i64 y4.2.1), (5, i64 y4.2.2)], [.blk 53 (T_api_Frame.pvs y4.1)]⟩) (tips := [(1, { pc := some { ρ := [], n0 := 0, res := .tup [.agg (T_api_Frame.pvs y4.1), i64 y4.2.1, i64 y4.2.2], σ' := [], e := [] } })]) (by kernel_rfl) (allc (C_frame_Next y2.1 0 y4 hy4) all0) (norm ?_)
  refine At.seqJ (S := Bool) (fun s => ⟨[(0, bo s)], []⟩) (fun s => F_retracelaw04_live_J1 s = some r) ?_ ?_
  · rcases tf (y2.2 == 0) with b10 | b10
    · replace h := cond_t b10 h
      rcases tf ((y2.1.size : Int) == 7) with b11 | b11
      · replace h := cond_t b11 h
        rcases tf ((y4.1.Kind == 1) && ((y4.1.Data.toList == (⟨#[97]⟩ : ByteArray).toList) && true)) with b12 | b12
        · replace h := cond_t b12 h
          rcases tf (y4.2.1 == 7) with b13 | b13
          · replace h := cond_t b13 h
            refine At.region_end [0] [] _ (st' := ⟨[(0, bo (y4.2.2 == 0))], []⟩) (tips := [(2, { orc := .val (.bool true) }), (7, { orc := .val (.bool true) }), (12, { orc := .val (.bool true) }), (16, { orc := .val (.bool true) })]) (by kernel_rfl) (allc (congrArg D.bool b10) (allc (congrArg D.bool b11) (allc (congrArg D.bool b12) (allc (congrArg D.bool b13) all0)))) (fun a w hs => ⟨(y4.2.2 == 0), h, hs⟩)
          · replace h := cond_f b13 h
            refine At.region_end [0] [] _ (st' := ⟨[(0, bo false)], []⟩) (tips := [(2, { orc := .val (.bool true) }), (7, { orc := .val (.bool true) }), (12, { orc := .val (.bool true) }), (16, { orc := .val (.bool false) })]) (by kernel_rfl) (allc (congrArg D.bool b10) (allc (congrArg D.bool b11) (allc (congrArg D.bool b12) (allc (congrArg D.bool b13) all0)))) (fun a w hs => ⟨false, h, hs⟩)
        · replace h := cond_f b12 h
          refine At.region_end [0] [] _ (st' := ⟨[(0, bo false)], []⟩) (tips := [(2, { orc := .val (.bool true) }), (7, { orc := .val (.bool true) }), (12, { orc := .val (.bool false) })]) (by kernel_rfl) (allc (congrArg D.bool b10) (allc (congrArg D.bool b11) (allc (congrArg D.bool b12) all0))) (fun a w hs => ⟨false, h, hs⟩)
      · replace h := cond_f b11 h
        refine At.region_end [0] [] _ (st' := ⟨[(0, bo false)], []⟩) (tips := [(2, { orc := .val (.bool true) }), (7, { orc := .val (.bool false) })]) (by kernel_rfl) (allc (congrArg D.bool b10) (allc (congrArg D.bool b11) all0)) (fun a w hs => ⟨false, h, hs⟩)
    · replace h := cond_f b10 h
      refine At.region_end [0] [] _ (st' := ⟨[(0, bo false)], []⟩) (tips := [(2, { orc := .val (.bool false) })]) (by kernel_rfl) (allc (congrArg D.bool b10) all0) (fun a w hs => ⟨false, h, hs⟩)
  · intro x9 h
    replace h : F_retracelaw04_live_J1 x9 = some r := h
    rw [F_retracelaw04_live_J1] at h
    obtain rfl := some_eq h
    exact At.ret fun a w hs => ret_ok hR (ρ := []) (gs := []) (by kernel_rfl) all0 (by kernel_rfl) rfl rfl a w hs _ (.inl rfl)
set_option maxRecDepth 100000 in
theorem C_retraceref02_push (p0 : Int) (p1 : ByteArray) (r : Int) (h : F_retraceref02_push p0 p1 = some r) : FnOK Try.prog 89 [u32 p0, sv p1] [] (u32 r) [] [] := by
  rw [F_retraceref02_push] at h
  refine FnOK.intro Try.func89 rfl (by kernel_rfl) (by kernel_rfl) fun E gv R hR => ?_
  refine At.seq ?_
  refine At.region_end [0, 1] [] _ (st' := ⟨[(0, u32 p0), (1, sv p1)], []⟩) (tips := []) (by kernel_rfl) all0 (norm ?_)
  refine At.seq ?_
  refine At.seq ?_
  refine At.region_end [0, 1, 5] [] _ (st' := ⟨[(0, u32 p0), (1, sv p1), (5, i64 0)], []⟩) (tips := []) (by kernel_rfl) all0 (norm ?_)
  refine At.block ?_
  refine At.loop (fun s : (Int × Int) => F_retraceref02_push_L3 p1 s.1 s.2) (fun s : (Int × Int) => ⟨[(0, u32 s.1), (1, sv p1), (5, i64 s.2)], []⟩) r (p0, 0) h ?_
  rintro ⟨x35, x36⟩ oo37 h f38
  replace h : F_retraceref02_push_L3 p1 x35 x36 = some oo37 := h
  rw [F_retraceref02_push_L3] at h
  refine At.seq ?_
  refine At.seq ?_
  refine At.region_end [0, 1, 5, 11] [] _ (st' := ⟨[(0, u32 x35), (1, sv p1), (5, i64 x36), (11, bo (decide (x36 < (p1.size : Int))))], []⟩) (tips := []) (by kernel_rfl) all0 (norm ?_)
  refine At.cond (decide (x36 < (p1.size : Int))) (by kernel_rfl) (fun b40 => ?_) (fun b40 => ?_)
  · replace h := cond_t b40 h
    refine At.nar [0, 1, 5] [] (st' := ⟨[(0, u32 x35), (1, sv p1), (5, i64 x36)], []⟩) (by kernel_rfl) ?_
    refine At.skip (norm ?_)
    refine At.seq ?_
    refine At.block ?_
    refine At.seq ?_
    obtain ⟨y55, hy55, h⟩ := bind_some h
    refine At.region_end [0, 1, 5] [] _ (st' := ⟨[(0, u32 (bits .xor .u32 x35 (wu32 y55))), (1, sv p1), (5, i64 x36)], []⟩) (tips := [(3, { orc := .val (.int .u8 y55) })]) (by kernel_rfl) (allc hy55 all0) (norm ?_)
    refine At.seq ?_
    refine At.region_end [0, 1, 5, 6] [] _ (st' := ⟨[(0, u32 (bits .xor .u32 x35 (wu32 y55))), (1, sv p1), (5, i64 x36), (6, i64 0)], []⟩) (tips := []) (by kernel_rfl) all0 (norm ?_)
    refine At.block ?_
    refine At.loop (fun s : (Int × Int) => F_retraceref02_push_L2 x36 s.1 s.2) (fun s : (Int × Int) => ⟨[(0, u32 s.1), (1, sv p1), (5, i64 x36), (6, i64 s.2)], []⟩) oo37 ((bits .xor .u32 x35 (wu32 y55)), 0) h ?_
    rintro ⟨x56, x57⟩ oo58 h f59
    replace h : F_retraceref02_push_L2 x36 x56 x57 = some oo58 := h
    rw [F_retraceref02_push_L2] at h
    refine At.seq ?_
    refine At.seq ?_
    refine At.region_end [0, 1, 5, 6, 21] [] _ (st' := ⟨[(0, u32 x56), (1, sv p1), (5, i64 x36), (6, i64 x57), (21, bo (decide (x57 < 8)))], []⟩) (tips := []) (by kernel_rfl) all0 (norm ?_)
    refine At.cond (decide (x57 < 8)) (by kernel_rfl) (fun b61 => ?_) (fun b61 => ?_)
    · replace h := cond_t b61 h
      refine At.nar [0, 1, 5, 6] [] (st' := ⟨[(0, u32 x56), (1, sv p1), (5, i64 x36), (6, i64 x57)], []⟩) (by kernel_rfl) ?_
      refine At.skip (norm ?_)
      refine At.seqJ (S := Int) (fun s => ⟨[(0, u32 s), (1, sv p1), (5, i64 x36), (6, i64 x57)], []⟩) (fun s => F_retraceref02_push_J1 x57 s = some oo58) ?_ ?_
      · refine At.block ?_
        refine At.seq ?_
        refine At.region_end [0, 1, 5, 6, 7] [] _ (st' := ⟨[(0, u32 x56), (1, sv p1), (5, i64 x36), (6, i64 x57), (7, bo ((Int.tmod x56 2) == 1))], []⟩) (tips := []) (by kernel_rfl) (allc (by decide : 2 ≠ (0:Int)) all0) (norm ?_)
        refine At.seq ?_
        refine At.region_end [0, 1, 5, 6, 7] [] _ (st' := ⟨[(0, u32 (wu32 (Int.tdiv x56 2))), (1, sv p1), (5, i64 x36), (6, i64 x57), (7, bo ((Int.tmod x56 2) == 1))], []⟩) (tips := []) (by kernel_rfl) (allc (by decide : 2 ≠ (0:Int)) all0) (norm ?_)
        refine At.seq ?_
        refine At.region_end [0, 1, 5, 6, 29] [] _ (st' := ⟨[(0, u32 (wu32 (Int.tdiv x56 2))), (1, sv p1), (5, i64 x36), (6, i64 x57), (29, bo ((Int.tmod x56 2) == 1))], []⟩) (tips := []) (by kernel_rfl) all0 (norm ?_)
        refine At.cond ((Int.tmod x56 2) == 1) (by kernel_rfl) (fun b64 => ?_) (fun b64 => ?_)
        · replace h := cond_t b64 h
          refine At.region_end [0, 1, 5, 6] [] _ (st' := ⟨[(0, u32 (bits .xor .u32 (wu32 (Int.tdiv x56 2)) 3988292384)), (1, sv p1), (5, i64 x36), (6, i64 x57)], []⟩) (tips := []) (by kernel_rfl) all0 (fun a w hs => ⟨(bits .xor .u32 (wu32 (Int.tdiv x56 2)) 3988292384), h, hs⟩)
        · replace h := cond_f b64 h
          refine At.nar [0, 1, 5, 6] [] (st' := ⟨[(0, u32 (wu32 (Int.tdiv x56 2))), (1, sv p1), (5, i64 x36), (6, i64 x57)], []⟩) (by kernel_rfl) ?_
          refine At.skip (fun a w hs => ⟨(wu32 (Int.tdiv x56 2)), h, hs⟩)
      · intro x63 h
        replace h : F_retraceref02_push_J1 x57 x63 = some oo58 := h
        rw [F_retraceref02_push_J1] at h
        refine At.region_end [0, 1, 5, 6] [] _ (st' := ⟨[(0, u32 x63), (1, sv p1), (5, i64 x36), (6, i64 (w64 (x57 + 1)))], []⟩) (tips := []) (by kernel_rfl) all0 (fun a w hs => ⟨_, (some_eq h).symm, hs⟩)
    · replace h := cond_f b61 h
      refine At.nar [0, 1, 5] [] (st' := ⟨[(0, u32 x56), (1, sv p1), (5, i64 x36)], []⟩) (by kernel_rfl) ?_
      obtain ⟨r65, h, e66⟩ := map_inr h
      rw [f59 _ e66] at h
      refine At.exit (norm ?_)
      refine At.region_end [0, 1, 5] [] _ (st' := ⟨[(0, u32 x56), (1, sv p1), (5, i64 (w64 (x36 + 1)))], []⟩) (tips := []) (by kernel_rfl) all0 (fun a w hs => ⟨_, (some_eq h).symm, hs⟩)
  · replace h := cond_f b40 h
    refine At.nar [0] [] (st' := ⟨[(0, u32 x35)], []⟩) (by kernel_rfl) ?_
    obtain ⟨r67, h, e68⟩ := map_inr h
    rw [f38 _ e68] at h
    refine At.exit (norm ?_)
    refine At.seq ?_
    refine At.region_end [4] [] _ (st' := ⟨[(4, u32 x35)], []⟩) (tips := []) (by kernel_rfl) all0 (norm ?_)
    obtain rfl := some_eq h
    exact At.ret fun a w hs => ret_ok hR (ρ := []) (gs := []) (by kernel_rfl) all0 (by kernel_rfl) rfl rfl a w hs _ (.inl rfl)
set_option maxRecDepth 100000 in
theorem C_retraceref02_Sum (p0 : ByteArray) (r : Int) (h : F_retraceref02_Sum p0 = some r) : FnOK Try.prog 75 [sv p0] [] (u32 r) [] [] := by
  rw [F_retraceref02_Sum] at h
  refine FnOK.intro Try.func75 rfl (by kernel_rfl) (by kernel_rfl) fun E gv R hR => ?_
  refine At.seq ?_
  refine At.region_end [0] [] _ (st' := ⟨[(0, sv p0)], []⟩) (tips := []) (by kernel_rfl) all0 (norm ?_)
  refine At.seq ?_
  obtain ⟨y2, hy2, h⟩ := bind_some h
  refine At.region_end [2] [] _ (st' := ⟨[(2, u32 (bits .xor .u32 y2 4294967295))], []⟩) (tips := [(1, { pc := some { ρ := [], n0 := 0, res := u32 y2, σ' := [], e := [] } })]) (by kernel_rfl) (allc (C_retraceref02_push 4294967295 p0 y2 hy2) all0) (norm ?_)
  obtain rfl := some_eq h
  exact At.ret fun a w hs => ret_ok hR (ρ := []) (gs := []) (by kernel_rfl) all0 (by kernel_rfl) rfl rfl a w hs _ (.inl rfl)
set_option maxRecDepth 100000 in
theorem C_retraceref02_Bytes (p0 : Int) (r : ByteArray) (h : F_retraceref02_Bytes p0 = some r) : FnOK Try.prog 74 [u32 p0] [] (sv r) [] [] := by
  rw [F_retraceref02_Bytes] at h
  refine FnOK.intro Try.func74 rfl (by kernel_rfl) (by kernel_rfl) fun E gv R hR => ?_
  refine At.seq ?_
  refine At.region_end [0] [] _ (st' := ⟨[(0, u32 p0)], []⟩) (tips := []) (by kernel_rfl) all0 (norm ?_)
  refine At.seq ?_
  refine At.region_end [2] [] _ (st' := ⟨[(2, sv (strOfNums ([(wu8 (Int.tmod p0 256)), (wu8 (Int.tmod (wu32 (Int.tdiv p0 256)) 256)), (wu8 (Int.tmod (wu32 (Int.tdiv p0 65536)) 256)), (wu8 (wu32 (Int.tdiv p0 16777216)))])))], []⟩) (tips := [(15, { orc := .nums ([(wu8 (Int.tmod p0 256)), (wu8 (Int.tmod (wu32 (Int.tdiv p0 256)) 256)), (wu8 (Int.tmod (wu32 (Int.tdiv p0 65536)) 256)), (wu8 (wu32 (Int.tdiv p0 16777216)))]) })]) (by kernel_rfl) (allc (by decide : 256 ≠ (0:Int)) (allc (by decide : 256 ≠ (0:Int)) (allc (by decide : 256 ≠ (0:Int)) (allc (by decide : 65536 ≠ (0:Int)) (allc (by decide : 256 ≠ (0:Int)) (allc (by decide : 16777216 ≠ (0:Int)) (allc (encL_map .u8 ([(wu8 (Int.tmod p0 256)), (wu8 (Int.tmod (wu32 (Int.tdiv p0 256)) 256)), (wu8 (Int.tmod (wu32 (Int.tdiv p0 65536)) 256)), (wu8 (wu32 (Int.tdiv p0 16777216)))])) (allc (rfl : (([(wu8 (Int.tmod p0 256)), (wu8 (Int.tmod (wu32 (Int.tdiv p0 256)) 256)), (wu8 (Int.tmod (wu32 (Int.tdiv p0 65536)) 256)), (wu8 (wu32 (Int.tdiv p0 16777216)))])).length = (([(wu8 (Int.tmod p0 256)), (wu8 (Int.tmod (wu32 (Int.tdiv p0 256)) 256)), (wu8 (Int.tmod (wu32 (Int.tdiv p0 65536)) 256)), (wu8 (wu32 (Int.tdiv p0 16777216)))])).length) all0)))))))) (norm ?_)
  obtain rfl := some_eq h
  exact At.ret fun a w hs => ret_ok hR (ρ := []) (gs := []) (by kernel_rfl) all0 (by kernel_rfl) rfl rfl a w hs _ (.inl rfl)
set_option maxRecDepth 100000 in
theorem C_retraceref04_Bytes (p0 : T_api_Frame) (r : ByteArray × Int) (h : F_retraceref04_Bytes p0 = some r) : FnOK Try.prog 33 [.agg (T_api_Frame.pvs p0)] [] (.tup [sv r.1, i64 r.2]) [] [] := by
  rw [F_retraceref04_Bytes] at h
  refine FnOK.intro Try.func33 rfl (by kernel_rfl) (by kernel_rfl) fun E gv R hR => ?_
  refine At.seq ?_
  refine At.region_end [1] [0] _ (st' := ⟨[(1, .ptr 0 0)], [.blk 53 (T_api_Frame.pvs p0)]⟩) (tips := []) (by kernel_rfl) all0 (norm ?_)
  refine At.seq ?_
  refine At.seqJ (S := Bool) (fun s => ⟨[(1, .ptr 0 0), (12, bo s)], [.blk 53 (T_api_Frame.pvs p0)]⟩) (fun s => F_retraceref04_Bytes_J1 p0 s = some r) ?_ ?_
  · rcases tf (decide (p0.Kind < 0)) with b22 | b22
    · replace h := cond_t b22 h
      refine At.region_end [1, 12] [0] _ (st' := ⟨[(1, .ptr 0 0), (12, bo true)], [.blk 53 (T_api_Frame.pvs p0)]⟩) (tips := [(3, { orc := .val (.bool true) })]) (by kernel_rfl) (allc (congrArg D.bool b22) all0) (fun a w hs => ⟨true, h, hs⟩)
    · replace h := cond_f b22 h
      refine At.region_end [1, 12] [0] _ (st' := ⟨[(1, .ptr 0 0), (12, bo (decide (255 < p0.Kind)))], [.blk 53 (T_api_Frame.pvs p0)]⟩) (tips := [(3, { orc := .val (.bool false) })]) (by kernel_rfl) (allc (congrArg D.bool b22) all0) (fun a w hs => ⟨(decide (255 < p0.Kind)), h, hs⟩)
  · intro x6 h
    replace h : F_retraceref04_Bytes_J1 p0 x6 = some r := h
    rw [F_retraceref04_Bytes_J1] at h
    refine At.cond x6 (by kernel_rfl) (fun b7 => ?_) (fun b7 => ?_)
    · replace h := cond_t b7 h
      refine At.seq ?_
      refine At.region_end [2, 3] [] _ (st' := ⟨[(2, sv (⟨#[]⟩ : ByteArray)), (3, i64 1)], []⟩) (tips := []) (by kernel_rfl) all0 (norm ?_)
      obtain rfl := some_eq h
      exact At.ret fun a w hs => ret_ok hR (ρ := []) (gs := []) (by kernel_rfl) all0 (by kernel_rfl) rfl rfl a w hs _ (.inl rfl)
    · replace h := cond_f b7 h
      refine At.nar [1] [0] (st' := ⟨[(1, .ptr 0 0)], [.blk 53 (T_api_Frame.pvs p0)]⟩) (by kernel_rfl) ?_
      refine At.skip (norm ?_)
      refine At.seq ?_
      refine At.seq ?_
      refine At.region_end [1, 16] [0] _ (st' := ⟨[(1, .ptr 0 0), (16, bo (decide (1048576 < (p0.Data.size : Int))))], [.blk 53 (T_api_Frame.pvs p0)]⟩) (tips := []) (by kernel_rfl) all0 (norm ?_)
      refine At.cond (decide (1048576 < (p0.Data.size : Int))) (by kernel_rfl) (fun b9 => ?_) (fun b9 => ?_)
      · replace h := cond_t b9 h
        refine At.seq ?_
        refine At.region_end [2, 3] [] _ (st' := ⟨[(2, sv (⟨#[]⟩ : ByteArray)), (3, i64 5)], []⟩) (tips := []) (by kernel_rfl) all0 (norm ?_)
        obtain rfl := some_eq h
        exact At.ret fun a w hs => ret_ok hR (ρ := []) (gs := []) (by kernel_rfl) all0 (by kernel_rfl) rfl rfl a w hs _ (.inl rfl)
      · replace h := cond_f b9 h
        refine At.nar [1] [0] (st' := ⟨[(1, .ptr 0 0)], [.blk 53 (T_api_Frame.pvs p0)]⟩) (by kernel_rfl) ?_
        refine At.skip (norm ?_)
        refine At.seq ?_
        obtain ⟨y13, hy13, h⟩ := bind_some h
        obtain ⟨g14, h⟩ := grd_some h
        obtain ⟨g15, h⟩ := grd_some h
        refine At.draw_end mixedOrd 1 [4] [] _ (st' := ⟨[(4, sv (((strOfNums ([(wu8 p0.Kind)])) ++ y13) ++ p0.Data))], []⟩) (tips := [(0, { r := 1 }), (1, { T := [0], r := 1 }), (2, { r := 1 }), (3, { r := 1 }), (4, { tip := { orc := .nums ([(wu8 p0.Kind)]) }, T := [1], r := 2 }), (5, { r := 2 }), (6, { T := [0], r := 2 }), (7, { r := 2 }), (8, { r := 2 }), (9, { tip := { pc := some { ρ := [], n0 := 0, res := sv y13, σ' := [], e := [] } }, r := 2 }), (11, { r := 2 }), (12, { T := [0], r := 2 })]) (by kernel_rfl) (allc (encL_map .u8 ([(wu8 p0.Kind)])) (allc (rfl : (([(wu8 p0.Kind)])).length = (([(wu8 p0.Kind)])).length) (allc (C_retraceref01_Num (wu64 (p0.Data.size : Int)) y13 hy13) (allc g14 (allc g15 all0))))) (norm ?_)
        refine At.seq ?_
        obtain ⟨y19, hy19, h⟩ := bind_some h
        obtain ⟨y20, hy20, h⟩ := bind_some h
        obtain ⟨g21, h⟩ := grd_some h
        refine At.region_end [2, 3] [] _ (st' := ⟨[(2, sv ((((strOfNums ([(wu8 p0.Kind)])) ++ y13) ++ p0.Data) ++ y20)), (3, i64 0)], []⟩) (tips := [(2, { pc := some { ρ := [], n0 := 0, res := u32 y19, σ' := [], e := [] } }), (3, { pc := some { ρ := [], n0 := 0, res := sv y20, σ' := [], e := [] } })]) (by kernel_rfl) (allc (C_retraceref02_Sum (((strOfNums ([(wu8 p0.Kind)])) ++ y13) ++ p0.Data) y19 hy19) (allc (C_retraceref02_Bytes y19 y20 hy20) (allc g21 all0))) (norm ?_)
        obtain rfl := some_eq h
        exact At.ret fun a w hs => ret_ok hR (ρ := []) (gs := []) (by kernel_rfl) all0 (by kernel_rfl) rfl rfl a w hs _ (.inl rfl)
set_option maxRecDepth 100000 in
theorem C_retracelaw04_FramePuts (p0 : T_api_Frame) (p1 : Int) (r : Bool) (h : F_retracelaw04_FramePuts p0 p1 = some r) : FnOK Try.prog 7 [.agg (T_api_Frame.pvs p0), u8 p1] [] (bo r) [] [] := by
  rw [F_retracelaw04_FramePuts] at h
  refine FnOK.intro Try.func7 rfl (by kernel_rfl) (by kernel_rfl) fun E gv R hR => ?_
  refine At.seq ?_
  refine At.region_end [1, 2] [0] _ (st' := ⟨[(1, u8 p1), (2, .ptr 0 0)], [.blk 53 (T_api_Frame.pvs p0)]⟩) (tips := []) (by kernel_rfl) all0 (norm ?_)
  refine At.seq ?_
  refine At.seq ?_
  refine At.region_end [1, 2, 14] [0] _ (st' := ⟨[(1, u8 p1), (2, .ptr 0 0), (14, bo (decide (2000 < (p0.Data.size : Int))))], [.blk 53 (T_api_Frame.pvs p0)]⟩) (tips := []) (by kernel_rfl) all0 (norm ?_)
  refine At.cond (decide (2000 < (p0.Data.size : Int))) (by kernel_rfl) (fun b4 => ?_) (fun b4 => ?_)
  · replace h := cond_t b4 h
    refine At.seq ?_
    obtain ⟨y6, hy6, h⟩ := bind_some h
    refine At.region_end [4] [] _ (st' := ⟨[(4, bo y6)], []⟩) (tips := [(0, { pc := some { ρ := [], n0 := 0, res := bo y6, σ' := [], e := [] } })]) (by kernel_rfl) (allc (C_retracelaw04_live y6 hy6) all0) (norm ?_)
    obtain rfl := some_eq h
    exact At.ret fun a w hs => ret_ok hR (ρ := []) (gs := []) (by kernel_rfl) all0 (by kernel_rfl) rfl rfl a w hs _ (.inl rfl)
  · replace h := cond_f b4 h
    refine At.nar [1, 2] [0] (st' := ⟨[(1, u8 p1), (2, .ptr 0 0)], [.blk 53 (T_api_Frame.pvs p0)]⟩) (by kernel_rfl) ?_
    refine At.skip (norm ?_)
    refine At.seq ?_
    obtain ⟨y8, hy8, h⟩ := bind_some h
    refine At.region_end [1, 2, 5, 6] [0] _ (st' := ⟨[(1, u8 p1), (2, .ptr 0 0), (5, sv y8.1), (6, i64 y8.2)], [.blk 53 (T_api_Frame.pvs p0)]⟩) (tips := [(1, { pc := some { ρ := [], n0 := 0, res := .tup [sv y8.1, i64 y8.2], σ' := [], e := [] } })]) (by kernel_rfl) (allc (C_frame_Put p0 y8 hy8) all0) (norm ?_)
    refine At.seq ?_
    obtain ⟨y10, hy10, h⟩ := bind_some h
    refine At.region_end [1, 5, 6, 7, 8] [] _ (st' := ⟨[(1, u8 p1), (5, sv y8.1), (6, i64 y8.2), (7, sv y10.1), (8, i64 y10.2)], []⟩) (tips := [(1, { pc := some { ρ := [], n0 := 0, res := .tup [sv y10.1, i64 y10.2], σ' := [], e := [] } })]) (by kernel_rfl) (allc (C_retraceref04_Bytes p0 y10 hy10) all0) (norm ?_)
    refine At.seq ?_
    obtain ⟨g13, h⟩ := grd_some h
    obtain ⟨y14, hy14, h⟩ := bind_some h
    refine At.region_end [5, 6, 7, 8, 9, 10] [] _ (st' := ⟨[(5, sv y8.1), (6, i64 y8.2), (7, sv y10.1), (8, i64 y10.2), (9, sv y14.1), (10, i64 y14.2)], []⟩) (tips := [(3, { form := some (((List.replicate (Int.toNat (w64 (1048577 + (w64 p1)))) (0 : Int))).length, encL (eInt .u8) (List.replicate (Int.toNat (w64 (1048577 + (w64 p1)))) (0 : Int))) }), (4, { orc := .nums (List.replicate (Int.toNat (w64 (1048577 + (w64 p1)))) (0 : Int)) }), (6, { pc := some { ρ := [], n0 := 0, res := .tup [sv y14.1, i64 y14.2], σ' := [], e := [] } })]) (by kernel_rfl) (allc (len_rep (Int.toNat (w64 (1048577 + (w64 p1)))) (0 : Int)) (allc (encL_rep (eInt .u8) (0 : Int) (d := .int .u8 0) rfl (Int.toNat (w64 (1048577 + (w64 p1))))) (allc g13 (allc (encL_map .u8 (List.replicate (Int.toNat (w64 (1048577 + (w64 p1)))) (0 : Int))) (allc (rfl : ((List.replicate (Int.toNat (w64 (1048577 + (w64 p1)))) (0 : Int))).length = ((List.replicate (Int.toNat (w64 (1048577 + (w64 p1)))) (0 : Int))).length) (allc (C_frame_Put (⟨5, (strOfNums (List.replicate (Int.toNat (w64 (1048577 + (w64 p1)))) (0 : Int)))⟩ : T_api_Frame) y14 hy14) all0)))))) (norm ?_)
    refine At.seqJ (S := Bool) (fun s => ⟨[(4, bo s)], []⟩) (fun s => F_retracelaw04_FramePuts_J1 s = some r) ?_ ?_
    · rcases tf (y8.1.toList == y10.1.toList) with b21 | b21
      · replace h := cond_t b21 h
        rcases tf (y8.2 == y10.2) with b22 | b22
        · replace h := cond_t b22 h
          rcases tf (y14.1.toList == (⟨#[]⟩ : ByteArray).toList) with b23 | b23
          · replace h := cond_t b23 h
            rcases tf (y14.2 == 5) with b24 | b24
            · replace h := cond_t b24 h
              obtain ⟨y25, hy25, h⟩ := bind_some h
              refine At.region_end [4] [] _ (st' := ⟨[(4, bo y25)], []⟩) (tips := [(3, { orc := .val (.bool true) }), (8, { orc := .val (.bool true) }), (12, { orc := .val (.bool true) }), (16, { orc := .val (.bool true) }), (17, { pc := some { ρ := [], n0 := 0, res := bo y25, σ' := [], e := [] } })]) (by kernel_rfl) (allc (congrArg D.bool b21) (allc (congrArg D.bool b22) (allc (congrArg D.bool b23) (allc (congrArg D.bool b24) (allc (C_retracelaw04_live y25 hy25) all0))))) (fun a w hs => ⟨y25, h, hs⟩)
            · replace h := cond_f b24 h
              refine At.region_end [4] [] _ (st' := ⟨[(4, bo false)], []⟩) (tips := [(3, { orc := .val (.bool true) }), (8, { orc := .val (.bool true) }), (12, { orc := .val (.bool true) }), (16, { orc := .val (.bool false) })]) (by kernel_rfl) (allc (congrArg D.bool b21) (allc (congrArg D.bool b22) (allc (congrArg D.bool b23) (allc (congrArg D.bool b24) all0)))) (fun a w hs => ⟨false, h, hs⟩)
          · replace h := cond_f b23 h
            refine At.region_end [4] [] _ (st' := ⟨[(4, bo false)], []⟩) (tips := [(3, { orc := .val (.bool true) }), (8, { orc := .val (.bool true) }), (12, { orc := .val (.bool false) })]) (by kernel_rfl) (allc (congrArg D.bool b21) (allc (congrArg D.bool b22) (allc (congrArg D.bool b23) all0))) (fun a w hs => ⟨false, h, hs⟩)
        · replace h := cond_f b22 h
          refine At.region_end [4] [] _ (st' := ⟨[(4, bo false)], []⟩) (tips := [(3, { orc := .val (.bool true) }), (8, { orc := .val (.bool false) })]) (by kernel_rfl) (allc (congrArg D.bool b21) (allc (congrArg D.bool b22) all0)) (fun a w hs => ⟨false, h, hs⟩)
      · replace h := cond_f b21 h
        refine At.region_end [4] [] _ (st' := ⟨[(4, bo false)], []⟩) (tips := [(3, { orc := .val (.bool false) })]) (by kernel_rfl) (allc (congrArg D.bool b21) all0) (fun a w hs => ⟨false, h, hs⟩)
    · intro x20 h
      replace h : F_retracelaw04_FramePuts_J1 x20 = some r := h
      rw [F_retracelaw04_FramePuts_J1] at h
      obtain rfl := some_eq h
      exact At.ret fun a w hs => ret_ok hR (ρ := []) (gs := []) (by kernel_rfl) all0 (by kernel_rfl) rfl rfl a w hs _ (.inl rfl)
set_option maxRecDepth 100000 in
theorem C_retraceref04_Next (p0 : ByteArray) (p1 : Int) (r : T_retraceref04_Got) (h : F_retraceref04_Next p0 p1 = some r) : FnOK Try.prog 35 [sv p0, i64 p1] [] (.agg (T_retraceref04_Got.pvs r)) [] [] := by
  rw [F_retraceref04_Next] at h
  refine FnOK.intro Try.func35 rfl (by kernel_rfl) (by kernel_rfl) fun E gv R hR => ?_
  refine At.seq ?_
  refine At.region_end [0, 1, 4] [0] _ (st' := ⟨[(0, sv p0), (1, i64 p1), (4, .ptr 0 0)], [.blk 62 [i64 0, sv (⟨#[]⟩ : ByteArray), i64 0, i64 0]]⟩) (tips := []) (by kernel_rfl) all0 (norm ?_)
  refine At.seq ?_
  refine At.seqJ (S := Bool) (fun s => ⟨[(0, sv p0), (1, i64 p1), (4, .ptr 0 0), (15, bo s)], [.blk 62 [i64 0, sv (⟨#[]⟩ : ByteArray), i64 0, i64 0]]⟩) (fun s => F_retraceref04_Next_J1 p0 p1 s = some r) ?_ ?_
  · rcases tf (decide (p1 < 0)) with b42 | b42
    · replace h := cond_t b42 h
      refine At.region_end [0, 1, 4, 15] [0] _ (st' := ⟨[(0, sv p0), (1, i64 p1), (4, .ptr 0 0), (15, bo true)], [.blk 62 [i64 0, sv (⟨#[]⟩ : ByteArray), i64 0, i64 0]]⟩) (tips := [(2, { orc := .val (.bool true) })]) (by kernel_rfl) (allc (congrArg D.bool b42) all0) (fun a w hs => ⟨true, h, hs⟩)
    · replace h := cond_f b42 h
      refine At.region_end [0, 1, 4, 15] [0] _ (st' := ⟨[(0, sv p0), (1, i64 p1), (4, .ptr 0 0), (15, bo (decide ((p0.size : Int) < p1)))], [.blk 62 [i64 0, sv (⟨#[]⟩ : ByteArray), i64 0, i64 0]]⟩) (tips := [(2, { orc := .val (.bool false) })]) (by kernel_rfl) (allc (congrArg D.bool b42) all0) (fun a w hs => ⟨(decide ((p0.size : Int) < p1)), h, hs⟩)
  · intro x6 h
    replace h : F_retraceref04_Next_J1 p0 p1 x6 = some r := h
    rw [F_retraceref04_Next_J1] at h
    refine At.cond x6 (by kernel_rfl) (fun b7 => ?_) (fun b7 => ?_)
    · replace h := cond_t b7 h
      refine At.seq ?_
      refine At.region_end [4] [0] _ (st' := ⟨[(4, .ptr 0 0)], [.blk 62 [i64 0, sv (⟨#[]⟩ : ByteArray), i64 0, i64 1]]⟩) (tips := []) (by kernel_rfl) all0 (norm ?_)
      obtain rfl := some_eq h
      exact At.ret fun a w hs => ret_ok hR (ρ := []) (gs := []) (by kernel_rfl) all0 (by kernel_rfl) rfl rfl a w hs _ (.inl rfl)
    · replace h := cond_f b7 h
      refine At.nar [0, 1, 4] [0] (st' := ⟨[(0, sv p0), (1, i64 p1), (4, .ptr 0 0)], [.blk 62 [i64 0, sv (⟨#[]⟩ : ByteArray), i64 0, i64 0]]⟩) (by kernel_rfl) ?_
      refine At.skip (norm ?_)
      refine At.seq ?_
      refine At.seq ?_
      refine At.region_end [0, 1, 4, 20] [0] _ (st' := ⟨[(0, sv p0), (1, i64 p1), (4, .ptr 0 0), (20, bo (p1 == (p0.size : Int)))], [.blk 62 [i64 0, sv (⟨#[]⟩ : ByteArray), i64 0, i64 0]]⟩) (tips := []) (by kernel_rfl) all0 (norm ?_)
      refine At.cond (p1 == (p0.size : Int)) (by kernel_rfl) (fun b9 => ?_) (fun b9 => ?_)
      · replace h := cond_t b9 h
        refine At.seq ?_
        refine At.region_end [4] [0] _ (st' := ⟨[(4, .ptr 0 0)], [.blk 62 [i64 0, sv (⟨#[]⟩ : ByteArray), i64 0, i64 2]]⟩) (tips := []) (by kernel_rfl) all0 (norm ?_)
        obtain rfl := some_eq h
        exact At.ret fun a w hs => ret_ok hR (ρ := []) (gs := []) (by kernel_rfl) all0 (by kernel_rfl) rfl rfl a w hs _ (.inl rfl)
      · replace h := cond_f b9 h
        refine At.nar [0, 1, 4] [0] (st' := ⟨[(0, sv p0), (1, i64 p1), (4, .ptr 0 0)], [.blk 62 [i64 0, sv (⟨#[]⟩ : ByteArray), i64 0, i64 0]]⟩) (by kernel_rfl) ?_
        refine At.skip (norm ?_)
        refine At.seq ?_
        obtain ⟨y11, hy11, h⟩ := bind_some h
        refine At.region_end [0, 1, 4, 5] [0, 1] _ (st' := ⟨[(0, sv p0), (1, i64 p1), (4, .ptr 0 0), (5, .ptr 1 0)], [.blk 62 [i64 0, sv (⟨#[]⟩ : ByteArray), i64 0, i64 0], .blk 106 (T_retraceref01_Got.pvs y11)]⟩) (tips := [(3, { pc := some { ρ := [], n0 := 0, res := .agg (T_retraceref01_Got.pvs y11), σ' := [], e := [] } })]) (by kernel_rfl) (allc (C_retraceref01_Get p0 (w64 (p1 + 1)) y11 hy11) all0) (norm ?_)
        refine At.seq ?_
        refine At.seq ?_
        refine At.region_end [0, 1, 4, 5, 28] [0, 1] _ (st' := ⟨[(0, sv p0), (1, i64 p1), (4, .ptr 0 0), (5, .ptr 1 0), (28, bo (y11.E != 0))], [.blk 62 [i64 0, sv (⟨#[]⟩ : ByteArray), i64 0, i64 0], .blk 106 (T_retraceref01_Got.pvs y11)]⟩) (tips := []) (by kernel_rfl) all0 (norm ?_)
        refine At.cond (y11.E != 0) (by kernel_rfl) (fun b13 => ?_) (fun b13 => ?_)
        · replace h := cond_t b13 h
          refine At.seq ?_
          refine At.region_end [4] [0] _ (st' := ⟨[(4, .ptr 0 0)], [.blk 62 [i64 0, sv (⟨#[]⟩ : ByteArray), i64 0, i64 y11.E]]⟩) (tips := []) (by kernel_rfl) all0 (norm ?_)
          obtain rfl := some_eq h
          exact At.ret fun a w hs => ret_ok hR (ρ := []) (gs := []) (by kernel_rfl) all0 (by kernel_rfl) rfl rfl a w hs _ (.inl rfl)
        · replace h := cond_f b13 h
          refine At.nar [0, 1, 4, 5] [0, 1] (st' := ⟨[(0, sv p0), (1, i64 p1), (4, .ptr 0 0), (5, .ptr 1 0)], [.blk 62 [i64 0, sv (⟨#[]⟩ : ByteArray), i64 0, i64 0], .blk 106 (T_retraceref01_Got.pvs y11)]⟩) (by kernel_rfl) ?_
          refine At.skip (norm ?_)
          refine At.seq ?_
          refine At.seq ?_
          refine At.region_end [0, 1, 4, 5, 34] [0, 1] _ (st' := ⟨[(0, sv p0), (1, i64 p1), (4, .ptr 0 0), (5, .ptr 1 0), (34, bo (decide (1048576 < y11.U)))], [.blk 62 [i64 0, sv (⟨#[]⟩ : ByteArray), i64 0, i64 0], .blk 106 (T_retraceref01_Got.pvs y11)]⟩) (tips := []) (by kernel_rfl) all0 (norm ?_)
          refine At.cond (decide (1048576 < y11.U)) (by kernel_rfl) (fun b15 => ?_) (fun b15 => ?_)
          · replace h := cond_t b15 h
            refine At.seq ?_
            refine At.region_end [4] [0] _ (st' := ⟨[(4, .ptr 0 0)], [.blk 62 [i64 0, sv (⟨#[]⟩ : ByteArray), i64 0, i64 5]]⟩) (tips := []) (by kernel_rfl) all0 (norm ?_)
            obtain rfl := some_eq h
            exact At.ret fun a w hs => ret_ok hR (ρ := []) (gs := []) (by kernel_rfl) all0 (by kernel_rfl) rfl rfl a w hs _ (.inl rfl)
          · replace h := cond_f b15 h
            refine At.nar [0, 1, 4, 5] [0, 1] (st' := ⟨[(0, sv p0), (1, i64 p1), (4, .ptr 0 0), (5, .ptr 1 0)], [.blk 62 [i64 0, sv (⟨#[]⟩ : ByteArray), i64 0, i64 0], .blk 106 (T_retraceref01_Got.pvs y11)]⟩) (by kernel_rfl) ?_
            refine At.skip (norm ?_)
            refine At.seq ?_
            obtain ⟨g17, h⟩ := grd_some h
            refine At.region_end [0, 1, 4, 5, 6] [0, 1] _ (st' := ⟨[(0, sv p0), (1, i64 p1), (4, .ptr 0 0), (5, .ptr 1 0), (6, sv (p0.extract (Int.toNat y11.Next) (Int.toNat (p0.size : Int))))], [.blk 62 [i64 0, sv (⟨#[]⟩ : ByteArray), i64 0, i64 0], .blk 106 (T_retraceref01_Got.pvs y11)]⟩) (tips := []) (by kernel_rfl) (allc g17 all0) (norm ?_)
            refine At.seq ?_
            refine At.region_end [0, 1, 4, 5, 6, 7] [0, 1] _ (st' := ⟨[(0, sv p0), (1, i64 p1), (4, .ptr 0 0), (5, .ptr 1 0), (6, sv (p0.extract (Int.toNat y11.Next) (Int.toNat (p0.size : Int)))), (7, i64 (w64 y11.U))], [.blk 62 [i64 0, sv (⟨#[]⟩ : ByteArray), i64 0, i64 0], .blk 106 (T_retraceref01_Got.pvs y11)]⟩) (tips := []) (by kernel_rfl) all0 (norm ?_)
            refine At.seq ?_
            refine At.seq ?_
            refine At.region_end [0, 1, 4, 5, 6, 7, 47] [0, 1] _ (st' := ⟨[(0, sv p0), (1, i64 p1), (4, .ptr 0 0), (5, .ptr 1 0), (6, sv (p0.extract (Int.toNat y11.Next) (Int.toNat (p0.size : Int)))), (7, i64 (w64 y11.U)), (47, bo (decide (((p0.extract (Int.toNat y11.Next) (Int.toNat (p0.size : Int))).size : Int) < (w64 ((w64 y11.U) + 4)))))], [.blk 62 [i64 0, sv (⟨#[]⟩ : ByteArray), i64 0, i64 0], .blk 106 (T_retraceref01_Got.pvs y11)]⟩) (tips := []) (by kernel_rfl) all0 (norm ?_)
            refine At.cond (decide (((p0.extract (Int.toNat y11.Next) (Int.toNat (p0.size : Int))).size : Int) < (w64 ((w64 y11.U) + 4)))) (by kernel_rfl) (fun b19 => ?_) (fun b19 => ?_)
            · replace h := cond_t b19 h
              refine At.seq ?_
              refine At.region_end [4] [0] _ (st' := ⟨[(4, .ptr 0 0)], [.blk 62 [i64 0, sv (⟨#[]⟩ : ByteArray), i64 0, i64 2]]⟩) (tips := []) (by kernel_rfl) all0 (norm ?_)
              obtain rfl := some_eq h
              exact At.ret fun a w hs => ret_ok hR (ρ := []) (gs := []) (by kernel_rfl) all0 (by kernel_rfl) rfl rfl a w hs _ (.inl rfl)
            · replace h := cond_f b19 h
              refine At.nar [0, 1, 4, 5, 6, 7] [0, 1] (st' := ⟨[(0, sv p0), (1, i64 p1), (4, .ptr 0 0), (5, .ptr 1 0), (6, sv (p0.extract (Int.toNat y11.Next) (Int.toNat (p0.size : Int)))), (7, i64 (w64 y11.U))], [.blk 62 [i64 0, sv (⟨#[]⟩ : ByteArray), i64 0, i64 0], .blk 106 (T_retraceref01_Got.pvs y11)]⟩) (by kernel_rfl) ?_
              refine At.skip (norm ?_)
              refine At.seq ?_
              refine At.seq ?_
              obtain ⟨g33, h⟩ := grd_some h
              obtain ⟨y34, hy34, h⟩ := bind_some h
              obtain ⟨y35, hy35, h⟩ := bind_some h
              obtain ⟨g36, h⟩ := grd_some h
              refine At.draw_end mixedOrd 0 [0, 1, 4, 5, 6, 7, 63] [0, 1] _ (st' := ⟨[(0, sv p0), (1, i64 p1), (4, .ptr 0 0), (5, .ptr 1 0), (6, sv (p0.extract (Int.toNat y11.Next) (Int.toNat (p0.size : Int)))), (7, i64 (w64 y11.U)), (63, bo (!(y35.toList == ((p0.extract (Int.toNat y11.Next) (Int.toNat (p0.size : Int))).extract (Int.toNat (w64 y11.U)) (Int.toNat (w64 ((w64 y11.U) + 4)))).toList)))], [.blk 62 [i64 0, sv (⟨#[]⟩ : ByteArray), i64 0, i64 0], .blk 106 (T_retraceref01_Got.pvs y11)]⟩) (tips := [(2, { r := 2 }), (3, { T := [1], r := 2 }), (7, { tip := { pc := some { ρ := [], n0 := 0, res := u32 y34, σ' := [], e := [] } }, r := 2 }), (8, { tip := { pc := some { ρ := [], n0 := 0, res := sv y35, σ' := [], e := [] } }, r := 2 })]) (by kernel_rfl) (allc g33 (allc (C_retraceref02_Sum (p0.extract (Int.toNat p1) (Int.toNat (w64 (y11.Next + (w64 y11.U))))) y34 hy34) (allc (C_retraceref02_Bytes y34 y35 hy35) (allc g36 all0)))) (norm ?_)
              refine At.cond (!(y35.toList == ((p0.extract (Int.toNat y11.Next) (Int.toNat (p0.size : Int))).extract (Int.toNat (w64 y11.U)) (Int.toNat (w64 ((w64 y11.U) + 4)))).toList)) (by kernel_rfl) (fun b37 => ?_) (fun b37 => ?_)
              · replace h := cond_t b37 h
                refine At.seq ?_
                refine At.region_end [4] [0] _ (st' := ⟨[(4, .ptr 0 0)], [.blk 62 [i64 0, sv (⟨#[]⟩ : ByteArray), i64 0, i64 4]]⟩) (tips := []) (by kernel_rfl) all0 (norm ?_)
                obtain rfl := some_eq h
                exact At.ret fun a w hs => ret_ok hR (ρ := []) (gs := []) (by kernel_rfl) all0 (by kernel_rfl) rfl rfl a w hs _ (.inl rfl)
              · replace h := cond_f b37 h
                refine At.nar [0, 1, 4, 5, 6, 7] [0, 1] (st' := ⟨[(0, sv p0), (1, i64 p1), (4, .ptr 0 0), (5, .ptr 1 0), (6, sv (p0.extract (Int.toNat y11.Next) (Int.toNat (p0.size : Int)))), (7, i64 (w64 y11.U))], [.blk 62 [i64 0, sv (⟨#[]⟩ : ByteArray), i64 0, i64 0], .blk 106 (T_retraceref01_Got.pvs y11)]⟩) (by kernel_rfl) ?_
                refine At.skip (norm ?_)
                refine At.seq ?_
                obtain ⟨y40, hy40, h⟩ := bind_some h
                obtain ⟨g41, h⟩ := grd_some h
                refine At.draw_end mixedOrd 0 [4] [0] _ (st' := ⟨[(4, .ptr 0 0)], [.blk 62 [i64 (w64 y40), sv ((p0.extract (Int.toNat y11.Next) (Int.toNat (p0.size : Int))).extract (Int.toNat 0) (Int.toNat (w64 y11.U))), i64 (w64 ((w64 (y11.Next + (w64 y11.U))) + 4)), i64 0]]⟩) (tips := [(2, { tip := { orc := .val (.int .u8 y40) } }), (3, { r := 2 }), (8, { r := 2 }), (9, { T := [1], r := 2 }), (14, { T := [0], r := 2 })]) (by kernel_rfl) (allc hy40 (allc g41 all0)) (norm ?_)
                obtain rfl := some_eq h
                exact At.ret fun a w hs => ret_ok hR (ρ := []) (gs := []) (by kernel_rfl) all0 (by kernel_rfl) rfl rfl a w hs _ (.inl rfl)
set_option maxRecDepth 100000 in
theorem C_retracelaw04_FrameNext (p0 : ByteArray) (p1 : Int) (r : Bool) (h : F_retracelaw04_FrameNext p0 p1 = some r) : FnOK Try.prog 8 [sv p0, i64 p1] [] (bo r) [] [] := by
  rw [F_retracelaw04_FrameNext] at h
  refine FnOK.intro Try.func8 rfl (by kernel_rfl) (by kernel_rfl) fun E gv R hR => ?_
  refine At.seq ?_
  refine At.region_end [0, 1] [] _ (st' := ⟨[(0, sv p0), (1, i64 p1)], []⟩) (tips := []) (by kernel_rfl) all0 (norm ?_)
  refine At.seq ?_
  refine At.seq ?_
  refine At.region_end [0, 1, 11] [] _ (st' := ⟨[(0, sv p0), (1, i64 p1), (11, bo (decide (3000 < (p0.size : Int))))], []⟩) (tips := []) (by kernel_rfl) all0 (norm ?_)
  refine At.cond (decide (3000 < (p0.size : Int))) (by kernel_rfl) (fun b4 => ?_) (fun b4 => ?_)
  · replace h := cond_t b4 h
    refine At.seq ?_
    obtain ⟨y6, hy6, h⟩ := bind_some h
    refine At.region_end [4] [] _ (st' := ⟨[(4, bo y6)], []⟩) (tips := [(0, { pc := some { ρ := [], n0 := 0, res := bo y6, σ' := [], e := [] } })]) (by kernel_rfl) (allc (C_retracelaw04_live y6 hy6) all0) (norm ?_)
    obtain rfl := some_eq h
    exact At.ret fun a w hs => ret_ok hR (ρ := []) (gs := []) (by kernel_rfl) all0 (by kernel_rfl) rfl rfl a w hs _ (.inl rfl)
  · replace h := cond_f b4 h
    refine At.nar [0, 1] [] (st' := ⟨[(0, sv p0), (1, i64 p1)], []⟩) (by kernel_rfl) ?_
    refine At.skip (norm ?_)
    refine At.seq ?_
    obtain ⟨y8, hy8, h⟩ := bind_some h
    refine At.region_end [0, 1, 5, 6, 7] [0] _ (st' := ⟨[(0, sv p0), (1, i64 p1), (5, .ptr 0 0), (6, i64 y8.2.1), (7, i64 y8.2.2)], [.blk 53 (T_api_Frame.pvs y8.1)]⟩) (tips := [(2, { pc := some { ρ := [], n0 := 0, res := .tup [.agg (T_api_Frame.pvs y8.1), i64 y8.2.1, i64 y8.2.2], σ' := [], e := [] } })]) (by kernel_rfl) (allc (C_frame_Next p0 p1 y8 hy8) all0) (norm ?_)
    refine At.seq ?_
    obtain ⟨y10, hy10, h⟩ := bind_some h
    refine At.region_end [5, 6, 7, 8] [0, 1] _ (st' := ⟨[(5, .ptr 0 0), (6, i64 y8.2.1), (7, i64 y8.2.2), (8, .ptr 1 0)], [.blk 53 (T_api_Frame.pvs y8.1), .blk 62 (T_retraceref04_Got.pvs y10)]⟩) (tips := [(2, { pc := some { ρ := [], n0 := 0, res := .agg (T_retraceref04_Got.pvs y10), σ' := [], e := [] } })]) (by kernel_rfl) (allc (C_retraceref04_Next p0 p1 y10 hy10) all0) (norm ?_)
    refine At.seqJ (S := Bool) (fun s => ⟨[(4, bo s)], []⟩) (fun s => F_retracelaw04_FrameNext_J1 s = some r) ?_ ?_
    · rcases tf ((y8.1.Kind == y10.F.Kind) && ((y8.1.Data.toList == y10.F.Data.toList) && true)) with b16 | b16
      · replace h := cond_t b16 h
        rcases tf (y8.2.1 == y10.Next) with b17 | b17
        · replace h := cond_t b17 h
          rcases tf (y8.2.2 == y10.E) with b18 | b18
          · replace h := cond_t b18 h
            obtain ⟨y19, hy19, h⟩ := bind_some h
            refine At.region_end [4] [] _ (st' := ⟨[(4, bo y19)], []⟩) (tips := [(4, { orc := .val (.bool true) }), (10, { orc := .val (.bool true) }), (16, { orc := .val (.bool true) }), (17, { pc := some { ρ := [], n0 := 0, res := bo y19, σ' := [], e := [] } })]) (by kernel_rfl) (allc (congrArg D.bool b16) (allc (congrArg D.bool b17) (allc (congrArg D.bool b18) (allc (C_retracelaw04_live y19 hy19) all0)))) (fun a w hs => ⟨y19, h, hs⟩)
          · replace h := cond_f b18 h
            refine At.region_end [4] [] _ (st' := ⟨[(4, bo false)], []⟩) (tips := [(4, { orc := .val (.bool true) }), (10, { orc := .val (.bool true) }), (16, { orc := .val (.bool false) })]) (by kernel_rfl) (allc (congrArg D.bool b16) (allc (congrArg D.bool b17) (allc (congrArg D.bool b18) all0))) (fun a w hs => ⟨false, h, hs⟩)
        · replace h := cond_f b17 h
          refine At.region_end [4] [] _ (st' := ⟨[(4, bo false)], []⟩) (tips := [(4, { orc := .val (.bool true) }), (10, { orc := .val (.bool false) })]) (by kernel_rfl) (allc (congrArg D.bool b16) (allc (congrArg D.bool b17) all0)) (fun a w hs => ⟨false, h, hs⟩)
      · replace h := cond_f b16 h
        refine At.region_end [4] [] _ (st' := ⟨[(4, bo false)], []⟩) (tips := [(4, { orc := .val (.bool false) })]) (by kernel_rfl) (allc (congrArg D.bool b16) all0) (fun a w hs => ⟨false, h, hs⟩)
    · intro x15 h
      replace h : F_retracelaw04_FrameNext_J1 x15 = some r := h
      rw [F_retracelaw04_FrameNext_J1] at h
      obtain rfl := some_eq h
      exact At.ret fun a w hs => ret_ok hR (ρ := []) (gs := []) (by kernel_rfl) all0 (by kernel_rfl) rfl rfl a w hs _ (.inl rfl)
set_option maxRecDepth 100000 in
theorem C_retracelaw04_FrameBack (p0 : ByteArray) (p1 : T_api_Frame) (p2 : ByteArray) (r : Bool) (h : F_retracelaw04_FrameBack p0 p1 p2 = some r) : FnOK Try.prog 9 [sv p0, .agg (T_api_Frame.pvs p1), sv p2] [] (bo r) [] [] := by
  rw [F_retracelaw04_FrameBack] at h
  refine FnOK.intro Try.func9 rfl (by kernel_rfl) (by kernel_rfl) fun E gv R hR => ?_
  refine At.seq ?_
  refine At.region_end [0, 2, 4] [0] _ (st' := ⟨[(0, sv p0), (2, sv p2), (4, .ptr 0 0)], [.blk 53 (T_api_Frame.pvs p1)]⟩) (tips := []) (by kernel_rfl) all0 (norm ?_)
  refine At.seq ?_
  refine At.seqJ (S := Bool) (fun s => ⟨[(0, sv p0), (2, sv p2), (4, .ptr 0 0), (30, bo s)], [.blk 53 (T_api_Frame.pvs p1)]⟩) (fun s => F_retracelaw04_FrameBack_J1 p0 p1 p2 s = some r) ?_ ?_
  · rcases tf (decide (300 < (p0.size : Int))) with b78 | b78
    · replace h := cond_t b78 h
      refine At.region_end [0, 2, 4, 30] [0] _ (st' := ⟨[(0, sv p0), (2, sv p2), (4, .ptr 0 0), (30, bo true)], [.blk 53 (T_api_Frame.pvs p1)]⟩) (tips := [(3, { orc := .val (.bool true) })]) (by kernel_rfl) (allc (congrArg D.bool b78) all0) (fun a w hs => ⟨true, h, hs⟩)
    · replace h := cond_f b78 h
      rcases tf (decide (300 < (p1.Data.size : Int))) with b79 | b79
      · replace h := cond_t b79 h
        refine At.region_end [0, 2, 4, 30] [0] _ (st' := ⟨[(0, sv p0), (2, sv p2), (4, .ptr 0 0), (30, bo true)], [.blk 53 (T_api_Frame.pvs p1)]⟩) (tips := [(3, { orc := .val (.bool false) }), (9, { orc := .val (.bool true) })]) (by kernel_rfl) (allc (congrArg D.bool b78) (allc (congrArg D.bool b79) all0)) (fun a w hs => ⟨true, h, hs⟩)
      · replace h := cond_f b79 h
        refine At.region_end [0, 2, 4, 30] [0] _ (st' := ⟨[(0, sv p0), (2, sv p2), (4, .ptr 0 0), (30, bo (decide (300 < (p2.size : Int))))], [.blk 53 (T_api_Frame.pvs p1)]⟩) (tips := [(3, { orc := .val (.bool false) }), (9, { orc := .val (.bool false) })]) (by kernel_rfl) (allc (congrArg D.bool b78) (allc (congrArg D.bool b79) all0)) (fun a w hs => ⟨(decide (300 < (p2.size : Int))), h, hs⟩)
  · intro x11 h
    replace h : F_retracelaw04_FrameBack_J1 p0 p1 p2 x11 = some r := h
    rw [F_retracelaw04_FrameBack_J1] at h
    refine At.cond x11 (by kernel_rfl) (fun b12 => ?_) (fun b12 => ?_)
    · replace h := cond_t b12 h
      refine At.seq ?_
      obtain ⟨y14, hy14, h⟩ := bind_some h
      refine At.region_end [6] [] _ (st' := ⟨[(6, bo y14)], []⟩) (tips := [(0, { pc := some { ρ := [], n0 := 0, res := bo y14, σ' := [], e := [] } })]) (by kernel_rfl) (allc (C_retracelaw04_live y14 hy14) all0) (norm ?_)
      obtain rfl := some_eq h
      exact At.ret fun a w hs => ret_ok hR (ρ := []) (gs := []) (by kernel_rfl) all0 (by kernel_rfl) rfl rfl a w hs _ (.inl rfl)
    · replace h := cond_f b12 h
      refine At.nar [0, 2, 4] [0] (st' := ⟨[(0, sv p0), (2, sv p2), (4, .ptr 0 0)], [.blk 53 (T_api_Frame.pvs p1)]⟩) (by kernel_rfl) ?_
      refine At.skip (norm ?_)
      refine At.seq ?_
      obtain ⟨y16, hy16, h⟩ := bind_some h
      refine At.region_end [0, 2, 4, 7, 8] [0] _ (st' := ⟨[(0, sv p0), (2, sv p2), (4, .ptr 0 0), (7, sv y16.1), (8, i64 y16.2)], [.blk 53 (T_api_Frame.pvs p1)]⟩) (tips := [(1, { pc := some { ρ := [], n0 := 0, res := .tup [sv y16.1, i64 y16.2], σ' := [], e := [] } })]) (by kernel_rfl) (allc (C_frame_Put p1 y16 hy16) all0) (norm ?_)
      refine At.seq ?_
      refine At.seq ?_
      refine At.region_end [0, 2, 4, 7, 38] [0] _ (st' := ⟨[(0, sv p0), (2, sv p2), (4, .ptr 0 0), (7, sv y16.1), (38, bo (y16.2 != 0))], [.blk 53 (T_api_Frame.pvs p1)]⟩) (tips := []) (by kernel_rfl) all0 (norm ?_)
      refine At.cond (y16.2 != 0) (by kernel_rfl) (fun b29 => ?_) (fun b29 => ?_)
      · replace h := cond_t b29 h
        refine At.seqJ (S := Bool) (fun s => ⟨[(6, bo s)], []⟩) (fun s => F_retracelaw04_FrameBack_J2 s = some r) ?_ ?_
        · rcases tf (y16.1.toList == (⟨#[]⟩ : ByteArray).toList) with b36 | b36
          · replace h := cond_t b36 h
            rcases tf (decide (p1.Kind < 0)) with b37 | b37
            · replace h := cond_t b37 h
              obtain ⟨y38, hy38, h⟩ := bind_some h
              refine At.region_end [6] [] _ (st' := ⟨[(6, bo y38)], []⟩) (tips := [(2, { orc := .val (.bool true) }), (6, { orc := .val (.bool true) }), (13, { pc := some { ρ := [], n0 := 0, res := bo y38, σ' := [], e := [] } })]) (by kernel_rfl) (allc (congrArg D.bool b36) (allc (congrArg D.bool b37) (allc (C_retracelaw04_live y38 hy38) all0))) (fun a w hs => ⟨y38, h, hs⟩)
            · replace h := cond_f b37 h
              rcases tf (decide (255 < p1.Kind)) with b39 | b39
              · replace h := cond_t b39 h
                obtain ⟨y40, hy40, h⟩ := bind_some h
                refine At.region_end [6] [] _ (st' := ⟨[(6, bo y40)], []⟩) (tips := [(2, { orc := .val (.bool true) }), (6, { orc := .val (.bool false) }), (12, { orc := .val (.bool true) }), (13, { pc := some { ρ := [], n0 := 0, res := bo y40, σ' := [], e := [] } })]) (by kernel_rfl) (allc (congrArg D.bool b36) (allc (congrArg D.bool b37) (allc (congrArg D.bool b39) (allc (C_retracelaw04_live y40 hy40) all0)))) (fun a w hs => ⟨y40, h, hs⟩)
              · replace h := cond_f b39 h
                refine At.region_end [6] [] _ (st' := ⟨[(6, bo false)], []⟩) (tips := [(2, { orc := .val (.bool true) }), (6, { orc := .val (.bool false) }), (12, { orc := .val (.bool false) })]) (by kernel_rfl) (allc (congrArg D.bool b36) (allc (congrArg D.bool b37) (allc (congrArg D.bool b39) all0))) (fun a w hs => ⟨false, h, hs⟩)
          · replace h := cond_f b36 h
            refine At.region_end [6] [] _ (st' := ⟨[(6, bo false)], []⟩) (tips := [(2, { orc := .val (.bool false) })]) (by kernel_rfl) (allc (congrArg D.bool b36) all0) (fun a w hs => ⟨false, h, hs⟩)
        · intro x35 h
          replace h : F_retracelaw04_FrameBack_J2 x35 = some r := h
          rw [F_retracelaw04_FrameBack_J2] at h
          obtain rfl := some_eq h
          exact At.ret fun a w hs => ret_ok hR (ρ := []) (gs := []) (by kernel_rfl) all0 (by kernel_rfl) rfl rfl a w hs _ (.inl rfl)
      · replace h := cond_f b29 h
        refine At.nar [0, 2, 4, 7] [0] (st' := ⟨[(0, sv p0), (2, sv p2), (4, .ptr 0 0), (7, sv y16.1)], [.blk 53 (T_api_Frame.pvs p1)]⟩) (by kernel_rfl) ?_
        refine At.skip (norm ?_)
        refine At.seq ?_
        obtain ⟨g44, h⟩ := grd_some h
        obtain ⟨g45, h⟩ := grd_some h
        obtain ⟨y46, hy46, h⟩ := bind_some h
        refine At.region_end [0, 2, 4, 7, 9, 10, 11] [0, 1] _ (st' := ⟨[(0, sv p0), (2, sv p2), (4, .ptr 0 0), (7, sv y16.1), (9, .ptr 1 0), (10, i64 y46.2.1), (11, i64 y46.2.2)], [.blk 53 (T_api_Frame.pvs p1), .blk 53 (T_api_Frame.pvs y46.1)]⟩) (tips := [(7, { pc := some { ρ := [], n0 := 0, res := .tup [.agg (T_api_Frame.pvs y46.1), i64 y46.2.1, i64 y46.2.2], σ' := [], e := [] } })]) (by kernel_rfl) (allc g44 (allc g45 (allc (C_frame_Next ((p0 ++ y16.1) ++ p2) (p0.size : Int) y46 hy46) all0))) (norm ?_)
        refine At.seq ?_
        refine At.seqJ (S := Bool) (fun s => ⟨[(2, sv p2), (81, bo s)], []⟩) (fun s => F_retracelaw04_FrameBack_J3 p2 s = some r) ?_ ?_
        · rcases tf (!((y46.1.Kind == p1.Kind) && ((y46.1.Data.toList == p1.Data.toList) && true))) with b76 | b76
          · replace h := cond_t b76 h
            refine At.region_end [2, 81] [] _ (st' := ⟨[(2, sv p2), (81, bo true)], []⟩) (tips := [(3, { orc := .val (.bool true) })]) (by kernel_rfl) (allc (congrArg D.bool b76) all0) (fun a w hs => ⟨true, h, hs⟩)
          · replace h := cond_f b76 h
            rcases tf (y46.2.1 != (w64 ((p0.size : Int) + (y16.1.size : Int)))) with b77 | b77
            · replace h := cond_t b77 h
              refine At.region_end [2, 81] [] _ (st' := ⟨[(2, sv p2), (81, bo true)], []⟩) (tips := [(3, { orc := .val (.bool false) }), (12, { orc := .val (.bool true) })]) (by kernel_rfl) (allc (congrArg D.bool b76) (allc (congrArg D.bool b77) all0)) (fun a w hs => ⟨true, h, hs⟩)
            · replace h := cond_f b77 h
              refine At.region_end [2, 81] [] _ (st' := ⟨[(2, sv p2), (81, bo (y46.2.2 != 0))], []⟩) (tips := [(3, { orc := .val (.bool false) }), (12, { orc := .val (.bool false) })]) (by kernel_rfl) (allc (congrArg D.bool b76) (allc (congrArg D.bool b77) all0)) (fun a w hs => ⟨(y46.2.2 != 0), h, hs⟩)
        · intro x55 h
          replace h : F_retracelaw04_FrameBack_J3 p2 x55 = some r := h
          rw [F_retracelaw04_FrameBack_J3] at h
          refine At.cond x55 (by kernel_rfl) (fun b56 => ?_) (fun b56 => ?_)
          · replace h := cond_t b56 h
            refine At.seq ?_
            refine At.region_end [6] [] _ (st' := ⟨[(6, bo false)], []⟩) (tips := []) (by kernel_rfl) all0 (norm ?_)
            obtain rfl := some_eq h
            exact At.ret fun a w hs => ret_ok hR (ρ := []) (gs := []) (by kernel_rfl) all0 (by kernel_rfl) rfl rfl a w hs _ (.inl rfl)
          · replace h := cond_f b56 h
            refine At.nar [2] [] (st' := ⟨[(2, sv p2)], []⟩) (by kernel_rfl) ?_
            refine At.skip (norm ?_)
            refine At.seq ?_
            obtain ⟨y58, hy58, h⟩ := bind_some h
            refine At.region_end [2, 12, 13, 14] [0] _ (st' := ⟨[(2, sv p2), (12, .ptr 0 0), (13, i64 y58.2.1), (14, i64 y58.2.2)], [.blk 53 (T_api_Frame.pvs y58.1)]⟩) (tips := [(1, { pc := some { ρ := [], n0 := 0, res := .tup [.agg (T_api_Frame.pvs y58.1), i64 y58.2.1, i64 y58.2.2], σ' := [], e := [] } })]) (by kernel_rfl) (allc (C_frame_Next p2 0 y58 hy58) all0) (norm ?_)
            refine At.seq ?_
            obtain ⟨y60, hy60, h⟩ := bind_some h
            refine At.region_end [2, 13, 14, 15] [] _ (st' := ⟨[(2, sv p2), (13, i64 y58.2.1), (14, i64 y58.2.2), (15, sv y60.1)], []⟩) (tips := [(1, { pc := some { ρ := [], n0 := 0, res := .tup [sv y60.1, i64 y60.2], σ' := [], e := [] } })]) (by kernel_rfl) (allc (C_frame_Put y58.1 y60 hy60) all0) (norm ?_)
            refine At.seqJ (S := Bool) (fun s => ⟨[(6, bo s)], []⟩) (fun s => F_retracelaw04_FrameBack_J4 s = some r) ?_ ?_
            · rcases tf (y58.2.2 != 0) with b69 | b69
              · replace h := cond_t b69 h
                obtain ⟨y70, hy70, h⟩ := bind_some h
                refine At.region_end [6] [] _ (st' := ⟨[(6, bo y70)], []⟩) (tips := [(2, { orc := .val (.bool true) }), (20, { pc := some { ρ := [], n0 := 0, res := bo y70, σ' := [], e := [] } })]) (by kernel_rfl) (allc (congrArg D.bool b69) (allc (C_retracelaw04_live y70 hy70) all0)) (fun a w hs => ⟨y70, h, hs⟩)
              · replace h := cond_f b69 h
                rcases tf (decide (0 ≤ y58.2.1)) with b71 | b71
                · replace h := cond_t b71 h
                  rcases tf (decide (y58.2.1 ≤ (p2.size : Int))) with b72 | b72
                  · replace h := cond_t b72 h
                    obtain ⟨g73, h⟩ := grd_some h
                    rcases tf (y60.1.toList == (p2.extract (Int.toNat 0) (Int.toNat y58.2.1)).toList) with b74 | b74
                    · replace h := cond_t b74 h
                      obtain ⟨y75, hy75, h⟩ := bind_some h
                      refine At.region_end [6] [] _ (st' := ⟨[(6, bo y75)], []⟩) (tips := [(2, { orc := .val (.bool false) }), (5, { orc := .val (.bool true) }), (11, { orc := .val (.bool true) }), (19, { orc := .val (.bool true) }), (20, { pc := some { ρ := [], n0 := 0, res := bo y75, σ' := [], e := [] } })]) (by kernel_rfl) (allc (congrArg D.bool b69) (allc (congrArg D.bool b71) (allc (congrArg D.bool b72) (allc g73 (allc (congrArg D.bool b74) (allc (C_retracelaw04_live y75 hy75) all0)))))) (fun a w hs => ⟨y75, h, hs⟩)
                    · replace h := cond_f b74 h
                      refine At.region_end [6] [] _ (st' := ⟨[(6, bo false)], []⟩) (tips := [(2, { orc := .val (.bool false) }), (5, { orc := .val (.bool true) }), (11, { orc := .val (.bool true) }), (19, { orc := .val (.bool false) })]) (by kernel_rfl) (allc (congrArg D.bool b69) (allc (congrArg D.bool b71) (allc (congrArg D.bool b72) (allc g73 (allc (congrArg D.bool b74) all0))))) (fun a w hs => ⟨false, h, hs⟩)
                  · replace h := cond_f b72 h
                    refine At.region_end [6] [] _ (st' := ⟨[(6, bo false)], []⟩) (tips := [(2, { orc := .val (.bool false) }), (5, { orc := .val (.bool true) }), (11, { orc := .val (.bool false) })]) (by kernel_rfl) (allc (congrArg D.bool b69) (allc (congrArg D.bool b71) (allc (congrArg D.bool b72) all0))) (fun a w hs => ⟨false, h, hs⟩)
                · replace h := cond_f b71 h
                  refine At.region_end [6] [] _ (st' := ⟨[(6, bo false)], []⟩) (tips := [(2, { orc := .val (.bool false) }), (5, { orc := .val (.bool false) })]) (by kernel_rfl) (allc (congrArg D.bool b69) (allc (congrArg D.bool b71) all0)) (fun a w hs => ⟨false, h, hs⟩)
            · intro x68 h
              replace h : F_retracelaw04_FrameBack_J4 x68 = some r := h
              rw [F_retracelaw04_FrameBack_J4] at h
              obtain rfl := some_eq h
              exact At.ret fun a w hs => ret_ok hR (ρ := []) (gs := []) (by kernel_rfl) all0 (by kernel_rfl) rfl rfl a w hs _ (.inl rfl)
set_option maxRecDepth 100000 in
theorem C_frame_Each (p0 : ByteArray) (r : ByteArray) (h : F_frame_Each p0 = some r) : FnOK Try.prog 40 [sv p0] [] (.fn (.func 78) [] [.ptr 0 0]) [.blk 9 [sv r]] [] := by
  rw [F_frame_Each] at h
  refine FnOK.intro Try.func40 rfl (by kernel_rfl) (by kernel_rfl) fun E gv R hR => ?_
  refine At.seq ?_
  refine At.region_end [1] [0] _ (st' := ⟨[(1, .ptr 0 0)], [.blk 9 [sv p0]]⟩) (tips := []) (by kernel_rfl) all0 (norm ?_)
  refine At.seq ?_
  refine At.region_end [2] [0] _ (st' := ⟨[(2, .fn (.func 78) [] [.ptr 0 0])], [.blk 9 [sv p0]]⟩) (tips := []) (by kernel_rfl) all0 (norm ?_)
  obtain rfl := some_eq h
  exact At.ret fun a w hs => ret_ok hR (ρ := [0]) (gs := []) (by kernel_rfl) all0 (by kernel_rfl) rfl rfl a w hs _ (.inl rfl)
set_option maxRecDepth 100000 in
theorem C_R_frame_All_0 (p0 : Int) (p1 : T_api_Frame) (o1_0 : ByteArray) (o4_0 : Int) (o3 : (List T_api_Frame)) (r : Int × (List T_api_Frame)) (h : F_R_frame_All_0 p0 p1 o1_0 o4_0 o3 = some r) : RdOK Try.prog 0 [i64 p0, .agg (T_api_Frame.pvs p1)] [.loop #[14, 15] as_frame_All_0 bd_frame_All_0 43 [1, 5, 6] [.ptr 1 0, .ptr 2 0, .ptr 4 0] .ready none, .blk 9 [sv o1_0], .blk 66 [.row 3 (o3).length], .row 53 2 (encL T_api_Frame.enc o3), .blk 3 [i64 o4_0]] (bo true) [.loop #[14, 15] as_frame_All_0 bd_frame_All_0 43 [1, 5, 6] [.ptr 1 0, .ptr 2 0, .ptr 4 0] .ready none, .blk 9 [sv o1_0], .blk 66 [.row 3 (r.2).length], .row 53 2 (encL T_api_Frame.enc r.2), .blk 3 [i64 r.1]] [1, 3, 5, 6, 7, 9] := by
  rw [F_R_frame_All_0] at h
  refine RdOK.intro (i := 0) rfl (by kernel_rfl) fun E gv l R hR => ?_
  refine At.eqv (st2 := ⟨[(14, i64 p0), (15, .agg (T_api_Frame.pvs p1)), (1, .ptr 1 0), (5, .ptr 2 0), (6, .ptr 4 0)], [.loop #[14, 15] as_frame_All_0 bd_frame_All_0 43 [1, 5, 6] [.ptr 1 0, .ptr 2 0, .ptr 4 0] .ready none, .blk 9 [sv o1_0], .blk 66 [.row 3 (o3).length], .row 53 2 (encL T_api_Frame.enc o3), .blk 3 [i64 o4_0], .ghost (gv 0) (.ptr 0 0), .ghost (gv 1) (.ptr 1 0), .ghost (gv 2) (.ptr 2 0), .ghost (gv 3) (.row 3 0), .ghost (gv 4) (.ptr 4 0), .ghost (yieldV l) (.yld 0)]⟩) rfl ?_
  refine At.seq ?_
  refine At.region_end [1, 5, 6, 7, 15] [0, 1, 2, 3, 4, 5, 6, 7, 8, 9, 10] _ (st' := ⟨[(1, .ptr 1 0), (5, .ptr 2 0), (6, .ptr 4 0), (7, i64 p0), (15, .agg (T_api_Frame.pvs p1))], [.loop #[14, 15] as_frame_All_0 bd_frame_All_0 43 [1, 5, 6] [.ptr 1 0, .ptr 2 0, .ptr 4 0] .ready none, .blk 9 [sv o1_0], .blk 66 [.row 3 (o3).length], .row 53 2 (encL T_api_Frame.enc o3), .blk 3 [i64 o4_0], .ghost (gv 0) (.ptr 0 0), .ghost (gv 1) (.ptr 1 0), .ghost (gv 2) (.ptr 2 0), .ghost (gv 3) (.row 3 0), .ghost (gv 4) (.ptr 4 0), .ghost (yieldV l) (.yld 0)]⟩) (tips := []) (by kernel_rfl) all0 (norm ?_)
  refine At.region_end [1, 5, 6, 7, 8] [0, 1, 2, 3, 4, 5, 6, 7, 8, 9, 10, 11] _ (st' := ⟨[(1, .ptr 1 0), (5, .ptr 2 0), (6, .ptr 4 0), (7, i64 p0), (8, .ptr 11 0)], [.loop #[14, 15] as_frame_All_0 bd_frame_All_0 43 [1, 5, 6] [.ptr 1 0, .ptr 2 0, .ptr 4 0] .ready none, .blk 9 [sv o1_0], .blk 66 [.row 3 (o3).length], .row 53 2 (encL T_api_Frame.enc o3), .blk 3 [i64 o4_0], .ghost (gv 0) (.ptr 0 0), .ghost (gv 1) (.ptr 1 0), .ghost (gv 2) (.ptr 2 0), .ghost (gv 3) (.row 3 0), .ghost (gv 4) (.ptr 4 0), .ghost (yieldV l) (.yld 0), .blk 53 (T_api_Frame.pvs p1)]⟩) (tips := []) (by kernel_rfl) all0 (begin_ok (i := 0) (k := 10) (st' := ⟨[(1, .ptr 1 0), (5, .ptr 2 0), (6, .ptr 4 0), (7, i64 p0), (8, .ptr 11 0)], [.loop #[14, 15] as_frame_All_0 bd_frame_All_0 43 [1, 5, 6] [.ptr 1 0, .ptr 2 0, .ptr 4 0] .busy none, .blk 9 [sv o1_0], .blk 66 [.row 3 (o3).length], .row 53 2 (encL T_api_Frame.enc o3), .blk 3 [i64 o4_0], .ghost (gv 0) (.ptr 0 0), .ghost (gv 1) (.ptr 1 0), .ghost (gv 2) (.ptr 2 0), .ghost (gv 3) (.row 3 0), .ghost (gv 4) (.ptr 4 0), .ghost (yieldV l) (.yld 0), .blk 53 (T_api_Frame.pvs p1)]⟩) (by kernel_rfl) rfl ?_)
  refine At.block ?_
  refine At.seq ?_
  obtain ⟨g2, h⟩ := grd_some h
  refine At.region_end [1, 6, 7] [0, 1, 2, 3, 4, 5, 6, 7, 8, 9, 10] _ (st' := ⟨[(1, .ptr 1 0), (6, .ptr 4 0), (7, i64 p0)], [.loop #[14, 15] as_frame_All_0 bd_frame_All_0 43 [1, 5, 6] [.ptr 1 0, .ptr 2 0, .ptr 4 0] .busy none, .blk 9 [sv o1_0], .blk 66 [.row 3 ((o3 ++ [p1])).length], .row 53 2 (encL T_api_Frame.enc (o3 ++ [p1])), .blk 3 [i64 o4_0], .ghost (gv 0) (.ptr 0 0), .ghost (gv 1) (.ptr 1 0), .ghost (gv 2) (.ptr 2 0), .ghost (gv 3) (.undef), .ghost (gv 4) (.ptr 4 0), .ghost (yieldV l) (.yld 0)]⟩) (tips := [(3, { form := some ((o3 ++ [p1]).length, encL T_api_Frame.enc (o3 ++ [p1])) })]) (by kernel_rfl) (allc (len_app o3 ([p1])) (allc (encL_app T_api_Frame.enc o3 ([p1])) (allc (app_ok T_api_Frame.enc_len (by decide) g2) (allc (encL_len T_api_Frame.enc_len ([p1])) all0)))) (norm ?_)
  obtain ⟨y3, hy3, h⟩ := bind_some h
  obtain rfl := some_eq h
  refine At.region_end [] [0, 1, 2, 3, 4, 5, 6, 7, 8, 9, 10] _ (st' := ⟨[], [.loop #[14, 15] as_frame_All_0 bd_frame_All_0 43 [1, 5, 6] [.ptr 1 0, .ptr 2 0, .ptr 4 0] .busy none, .blk 9 [sv o1_0], .blk 66 [.row 3 ((o3 ++ [p1])).length], .row 53 2 (encL T_api_Frame.enc (o3 ++ [p1])), .blk 3 [i64 y3.2.1], .ghost (gv 0) (.ptr 0 0), .ghost (gv 1) (.ptr 1 0), .ghost (gv 2) (.ptr 2 0), .ghost (gv 3) (.undef), .ghost (gv 4) (.ptr 4 0), .ghost (yieldV l) (.yld 0)]⟩) (tips := [(2, { pc := some { ρ := [], n0 := 0, res := .tup [.agg (T_api_Frame.pvs y3.1), i64 y3.2.1, i64 y3.2.2], σ' := [], e := [] } })]) (by kernel_rfl) (allc (C_frame_Next o1_0 p0 y3 hy3) all0) (round_fin hR (i := 0) (k := 10) (ρ := [0, 1, 2, 3, 4]) (jump := none) (gs := [.ghost (gv 0) (.ptr 0 0), .ghost (gv 1) (.ptr 1 0), .ghost (gv 2) (.ptr 2 0), .ghost (gv 3) (.undef), .ghost (gv 4) (.ptr 4 0)]) (by kernel_rfl) rfl (by kernel_rfl) rfl rfl rfl)
set_option maxRecDepth 100000 in
theorem C_frame_Each_1 (o1_0 : ByteArray) (o4_0 : Int) (o5_0 : ByteArray) (o3 : (List T_api_Frame)) (r : Int × (List T_api_Frame)) (h : F_frame_Each_1 o1_0 o4_0 o5_0 o3 = some r) : FnOK Try.prog 78 [.yld 0, .ptr 5 0] [.loop #[14, 15] as_frame_All_0 bd_frame_All_0 43 [1, 5, 6] [.ptr 1 0, .ptr 2 0, .ptr 4 0] .ready none, .blk 9 [sv o1_0], .blk 66 [.row 3 (o3).length], .row 53 2 (encL T_api_Frame.enc o3), .blk 3 [i64 o4_0], .blk 9 [sv o5_0]] (.tup []) [.loop #[14, 15] as_frame_All_0 bd_frame_All_0 43 [1, 5, 6] [.ptr 1 0, .ptr 2 0, .ptr 4 0] .ready none, .blk 9 [sv o1_0], .blk 66 [.row 3 (r.2).length], .row 53 2 (encL T_api_Frame.enc r.2), .blk 3 [i64 r.1], .blk 9 [sv o5_0]] [1, 3, 5, 6, 7, 9, 11] := by
  rw [F_frame_Each_1] at h
  refine FnOK.intro Try.func78 rfl (by kernel_rfl) (by kernel_rfl) fun E gv R hR => ?_
  refine At.seq ?_
  refine At.region_end [0, 1, 3] [0, 1, 2, 3, 4, 5, 6, 7, 8, 9, 10, 11] _ (st' := ⟨[(0, .yld 0), (1, .ptr 5 0), (3, i64 0)], [.loop #[14, 15] as_frame_All_0 bd_frame_All_0 43 [1, 5, 6] [.ptr 1 0, .ptr 2 0, .ptr 4 0] .ready none, .blk 9 [sv o1_0], .blk 66 [.row 3 (o3).length], .row 53 2 (encL T_api_Frame.enc o3), .blk 3 [i64 o4_0], .blk 9 [sv o5_0], .ghost (gv 0) (.ptr 0 0), .ghost (gv 1) (.ptr 1 0), .ghost (gv 2) (.ptr 2 0), .ghost (gv 3) (.row 3 0), .ghost (gv 4) (.ptr 4 0), .ghost (gv 5) (.ptr 5 0)]⟩) (tips := []) (by kernel_rfl) all0 (norm ?_)
  refine At.block ?_
  refine At.edNar [.hideG 9] [0, 1, 3] [0, 1, 2, 3, 4, 5, 6, 7, 8, 9, 10, 11] (st' := ⟨[(0, .yld 0), (1, .ptr 5 0), (3, i64 0)], [.loop #[14, 15] as_frame_All_0 bd_frame_All_0 43 [1, 5, 6] [.ptr 1 0, .ptr 2 0, .ptr 4 0] .ready none, .blk 9 [sv o1_0], .blk 66 [.row 3 (o3).length], .row 53 2 (encL T_api_Frame.enc o3), .blk 3 [i64 o4_0], .blk 9 [sv o5_0], .ghost (gv 0) (.ptr 0 0), .ghost (gv 1) (.ptr 1 0), .ghost (gv 2) (.ptr 2 0), .ghost (gv 3) (.undef), .ghost (gv 4) (.ptr 4 0), .ghost (gv 5) (.ptr 5 0)]⟩) (by kernel_rfl) ?_
  refine At.loop (fun s : (Int × (List T_api_Frame) × Int) => F_frame_Each_1_L2 o1_0 o5_0 s.1 s.2.1 s.2.2) (fun s : (Int × (List T_api_Frame) × Int) => ⟨[(0, .yld 0), (1, .ptr 5 0), (3, i64 s.1)], [.loop #[14, 15] as_frame_All_0 bd_frame_All_0 43 [1, 5, 6] [.ptr 1 0, .ptr 2 0, .ptr 4 0] .ready none, .blk 9 [sv o1_0], .blk 66 [.row 3 (s.2.1).length], .row 53 2 (encL T_api_Frame.enc s.2.1), .blk 3 [i64 s.2.2], .blk 9 [sv o5_0], .ghost (gv 0) (.ptr 0 0), .ghost (gv 1) (.ptr 1 0), .ghost (gv 2) (.ptr 2 0), .ghost (gv 3) (.undef), .ghost (gv 4) (.ptr 4 0), .ghost (gv 5) (.ptr 5 0)]⟩) r (0, o3, o4_0) h ?_
  rintro ⟨x1, x2, x3⟩ oo4 h f5
  replace h : F_frame_Each_1_L2 o1_0 o5_0 x1 x2 x3 = some oo4 := h
  rw [F_frame_Each_1_L2] at h
  refine At.block ?_
  refine At.seq ?_
  obtain ⟨y7, hy7, h⟩ := bind_some h
  refine At.region_end [0, 1, 3, 4, 5, 6] [0, 1, 2, 3, 4, 5, 6, 7, 8, 9, 10, 11, 12] _ (st' := ⟨[(0, .yld 0), (1, .ptr 5 0), (3, i64 x1), (4, .ptr 12 0), (5, i64 y7.2.1), (6, i64 y7.2.2)], [.loop #[14, 15] as_frame_All_0 bd_frame_All_0 43 [1, 5, 6] [.ptr 1 0, .ptr 2 0, .ptr 4 0] .ready none, .blk 9 [sv o1_0], .blk 66 [.row 3 (x2).length], .row 53 2 (encL T_api_Frame.enc x2), .blk 3 [i64 x3], .blk 9 [sv o5_0], .ghost (gv 0) (.ptr 0 0), .ghost (gv 1) (.ptr 1 0), .ghost (gv 2) (.ptr 2 0), .ghost (gv 3) (.undef), .ghost (gv 4) (.ptr 4 0), .ghost (gv 5) (.ptr 5 0), .blk 53 (T_api_Frame.pvs y7.1)]⟩) (tips := [(2, { pc := some { ρ := [], n0 := 0, res := .tup [.agg (T_api_Frame.pvs y7.1), i64 y7.2.1, i64 y7.2.2], σ' := [], e := [] } })]) (by kernel_rfl) (allc (C_frame_Next o5_0 x1 y7 hy7) all0) (norm ?_)
  refine At.seq ?_
  refine At.seqJ (S := Bool × (List T_api_Frame) × Int) (fun s => ⟨[(0, .yld 0), (1, .ptr 5 0), (5, i64 y7.2.1), (22, bo s.1)], [.loop #[14, 15] as_frame_All_0 bd_frame_All_0 43 [1, 5, 6] [.ptr 1 0, .ptr 2 0, .ptr 4 0] .ready none, .blk 9 [sv o1_0], .blk 66 [.row 3 (s.2.1).length], .row 53 2 (encL T_api_Frame.enc s.2.1), .blk 3 [i64 s.2.2], .blk 9 [sv o5_0], .ghost (gv 0) (.ptr 0 0), .ghost (gv 1) (.ptr 1 0), .ghost (gv 2) (.ptr 2 0), .ghost (gv 3) (.undef), .ghost (gv 4) (.ptr 4 0), .ghost (gv 5) (.ptr 5 0)]⟩) (fun s => F_frame_Each_1_J1 y7 s.1 s.2.1 s.2.2 = some oo4) ?_ ?_
  · rcases tf (y7.2.2 != 0) with b24 | b24
    · replace h := cond_t b24 h
      refine At.region_end [0, 1, 5, 22] [0, 1, 2, 3, 4, 5, 6, 7, 8, 9, 10, 11] _ (st' := ⟨[(0, .yld 0), (1, .ptr 5 0), (5, i64 y7.2.1), (22, bo true)], [.loop #[14, 15] as_frame_All_0 bd_frame_All_0 43 [1, 5, 6] [.ptr 1 0, .ptr 2 0, .ptr 4 0] .ready none, .blk 9 [sv o1_0], .blk 66 [.row 3 (x2).length], .row 53 2 (encL T_api_Frame.enc x2), .blk 3 [i64 x3], .blk 9 [sv o5_0], .ghost (gv 0) (.ptr 0 0), .ghost (gv 1) (.ptr 1 0), .ghost (gv 2) (.ptr 2 0), .ghost (gv 3) (.undef), .ghost (gv 4) (.ptr 4 0), .ghost (gv 5) (.ptr 5 0)]⟩) (tips := [(2, { orc := .val (.bool true) })]) (by kernel_rfl) (allc (congrArg D.bool b24) all0) (fun a w hs => ⟨(true, x2, x3), h, hs⟩)
    · replace h := cond_f b24 h
      obtain ⟨y25, hy25, h⟩ := bind_some h
      refine At.region_end [0, 1, 5, 22] [0, 1, 2, 3, 4, 5, 6, 7, 8, 9, 10, 11] _ (st' := ⟨[(0, .yld 0), (1, .ptr 5 0), (5, i64 y7.2.1), (22, bo false)], [.loop #[14, 15] as_frame_All_0 bd_frame_All_0 43 [1, 5, 6] [.ptr 1 0, .ptr 2 0, .ptr 4 0] .ready none, .blk 9 [sv o1_0], .blk 66 [.row 3 (y25.2).length], .row 53 2 (encL T_api_Frame.enc y25.2), .blk 3 [i64 y25.1], .blk 9 [sv o5_0], .ghost (gv 0) (.ptr 0 0), .ghost (gv 1) (.ptr 1 0), .ghost (gv 2) (.ptr 2 0), .ghost (gv 3) (.undef), .ghost (gv 4) (.ptr 4 0), .ghost (gv 5) (.ptr 5 0)]⟩) (tips := [(2, { orc := .val (.bool false) }), (6, { pc := some { ρ := [0, 1, 2, 3, 4], n0 := 5, res := bo true, σ' := [.loop #[14, 15] as_frame_All_0 bd_frame_All_0 43 [1, 5, 6] [.ptr 1 0, .ptr 2 0, .ptr 4 0] .ready none, .blk 9 [sv o1_0], .blk 66 [.row 3 (y25.2).length], .row 53 2 (encL T_api_Frame.enc y25.2), .blk 3 [i64 y25.1]], e := [1, 3, 5, 6, 7, 9] } })]) (by kernel_rfl) (allc (congrArg D.bool b24) (allc (C_R_frame_All_0 x1 y7.1 o1_0 x3 x2 y25 hy25) all0)) (fun a w hs => ⟨(false, y25.2, y25.1), h, hs⟩)
  · rintro ⟨x18, x19, x20⟩ h
    replace h : F_frame_Each_1_J1 y7 x18 x19 x20 = some oo4 := h
    rw [F_frame_Each_1_J1] at h
    refine At.cond x18 (by kernel_rfl) (fun b21 => ?_) (fun b21 => ?_)
    · replace h := cond_t b21 h
      obtain ⟨r22, h, e23⟩ := map_inr h
      rw [f5 _ e23] at h
      refine At.edNar [] [] [0, 1, 2, 3, 4, 5, 6, 7, 8, 9, 10, 11] (st' := ⟨[], [.loop #[14, 15] as_frame_All_0 bd_frame_All_0 43 [1, 5, 6] [.ptr 1 0, .ptr 2 0, .ptr 4 0] .ready none, .blk 9 [sv o1_0], .blk 66 [.row 3 (x19).length], .row 53 2 (encL T_api_Frame.enc x19), .blk 3 [i64 x20], .blk 9 [sv o5_0], .ghost (gv 0) (.ptr 0 0), .ghost (gv 1) (.ptr 1 0), .ghost (gv 2) (.ptr 2 0), .ghost (gv 3) (.undef), .ghost (gv 4) (.ptr 4 0), .ghost (gv 5) (.ptr 5 0)]⟩) (by kernel_rfl) ?_
      obtain rfl := some_eq h
      exact At.ret fun a w hs => ret_ok hR (ρ := [0, 1, 2, 3, 4, 5]) (gs := [.ghost (gv 0) (.ptr 0 0), .ghost (gv 1) (.ptr 1 0), .ghost (gv 2) (.ptr 2 0), .ghost (gv 3) (.undef), .ghost (gv 4) (.ptr 4 0), .ghost (gv 5) (.ptr 5 0)]) (by kernel_rfl) all0 (by kernel_rfl) rfl rfl a w hs _ (.inl rfl)
    · replace h := cond_f b21 h
      refine At.nar [0, 1, 5] [0, 1, 2, 3, 4, 5, 6, 7, 8, 9, 10, 11] (st' := ⟨[(0, .yld 0), (1, .ptr 5 0), (5, i64 y7.2.1)], [.loop #[14, 15] as_frame_All_0 bd_frame_All_0 43 [1, 5, 6] [.ptr 1 0, .ptr 2 0, .ptr 4 0] .ready none, .blk 9 [sv o1_0], .blk 66 [.row 3 (x19).length], .row 53 2 (encL T_api_Frame.enc x19), .blk 3 [i64 x20], .blk 9 [sv o5_0], .ghost (gv 0) (.ptr 0 0), .ghost (gv 1) (.ptr 1 0), .ghost (gv 2) (.ptr 2 0), .ghost (gv 3) (.undef), .ghost (gv 4) (.ptr 4 0), .ghost (gv 5) (.ptr 5 0)]⟩) (by kernel_rfl) ?_
      refine At.skip (norm ?_)
      refine At.region_end [0, 1, 3] [0, 1, 2, 3, 4, 5, 6, 7, 8, 9, 10, 11] _ (st' := ⟨[(0, .yld 0), (1, .ptr 5 0), (3, i64 y7.2.1)], [.loop #[14, 15] as_frame_All_0 bd_frame_All_0 43 [1, 5, 6] [.ptr 1 0, .ptr 2 0, .ptr 4 0] .ready none, .blk 9 [sv o1_0], .blk 66 [.row 3 (x19).length], .row 53 2 (encL T_api_Frame.enc x19), .blk 3 [i64 x20], .blk 9 [sv o5_0], .ghost (gv 0) (.ptr 0 0), .ghost (gv 1) (.ptr 1 0), .ghost (gv 2) (.ptr 2 0), .ghost (gv 3) (.undef), .ghost (gv 4) (.ptr 4 0), .ghost (gv 5) (.ptr 5 0)]⟩) (tips := []) (by kernel_rfl) all0 (fun a w hs => ⟨_, (some_eq h).symm, hs⟩)
set_option maxRecDepth 100000 in
theorem C_frame_All (p0 : ByteArray) (r : (List T_api_Frame) × Int × Int) (h : F_frame_All p0 = some r) : FnOK Try.prog 36 [sv p0] [] (.tup [.row 0 (r.1).length, i64 r.2.1, i64 r.2.2]) [.row 53 2 (encL T_api_Frame.enc r.1)] [] := by
  rw [F_frame_All] at h
  refine FnOK.intro Try.func36 rfl (by kernel_rfl) (by kernel_rfl) fun E gv R hR => ?_
  refine At.seq ?_
  refine At.region_end [1, 2, 3, 4] [0] _ (st' := ⟨[(1, .ptr 0 0), (2, .d (.list true 0 [])), (3, i64 0), (4, i64 0)], [.blk 9 [sv p0]]⟩) (tips := []) (by kernel_rfl) all0 (norm ?_)
  refine At.seq ?_
  refine At.region_end [1, 2, 3, 4, 5] [0, 1] _ (st' := ⟨[(1, .ptr 0 0), (2, .d (.list true 0 [])), (3, i64 0), (4, i64 0), (5, .ptr 1 0)], [.blk 9 [sv p0], .blk 66 [.d (.list true 0 [])]]⟩) (tips := []) (by kernel_rfl) all0 (norm ?_)
  refine At.seq ?_
  refine At.region_end [1, 2, 3, 4, 5, 6] [0, 1, 2] _ (st' := ⟨[(1, .ptr 0 0), (2, .d (.list true 0 [])), (3, i64 0), (4, i64 0), (5, .ptr 1 0), (6, .ptr 2 0)], [.blk 9 [sv p0], .blk 66 [.d (.list true 0 [])], .blk 3 [i64 0]]⟩) (tips := []) (by kernel_rfl) all0 (norm ?_)
  refine At.seq ?_
  refine At.seq ?_
  obtain ⟨y5, hy5, h⟩ := bind_some h
  refine At.region_end [1, 2, 3, 4, 5, 6, 13] [0, 1, 2, 3] _ (st' := ⟨[(1, .ptr 0 0), (2, .d (.list true 0 [])), (3, i64 0), (4, i64 0), (5, .ptr 1 0), (6, .ptr 2 0), (13, .fn (.func 78) [] [.ptr 3 0])], [.blk 9 [sv p0], .blk 66 [.d (.list true 0 [])], .blk 3 [i64 0], .blk 9 [sv y5]]⟩) (tips := [(1, { pc := some { ρ := [3], n0 := 0, res := .fn (.func 78) [] [.ptr 0 0], σ' := [.blk 9 [sv y5]], e := [] } })]) (by kernel_rfl) (allc (C_frame_Each p0 y5 hy5) all0) (norm ?_)
  refine At.block ?_
  refine At.eds [.ownO 1 0 53 2] (st' := ⟨[(1, .ptr 0 0), (2, .d (.list true 0 [])), (3, i64 0), (4, i64 0), (5, .ptr 1 0), (6, .ptr 2 0), (13, .fn (.func 78) [] [.ptr 3 0])], [.blk 9 [sv p0], .blk 66 [.row 4 ([] : List T_api_Frame).length], .blk 3 [i64 0], .blk 9 [sv y5], .row 53 2 (encL T_api_Frame.enc ([]))]⟩) (by kernel_rfl) ?_
  obtain ⟨y6, hy6, h⟩ := bind_some h
  refine At.range (pc := { ρ := [6, 0, 1, 4, 2, 3], n0 := 6, res := .tup [], σ' := [.loop #[14, 15] as_frame_All_0 bd_frame_All_0 43 [1, 5, 6] [.ptr 1 0, .ptr 2 0, .ptr 4 0] .ready none, .blk 9 [sv p0], .blk 66 [.row 3 (y6.2).length], .row 53 2 (encL T_api_Frame.enc y6.2), .blk 3 [i64 y6.1], .blk 9 [sv y5]], e := [1, 3, 5, 6, 7, 9, 11] }) [1, 5, 6] (st' := ⟨[(1, .ptr 0 0), (2, .d (.list true 0 [])), (3, i64 0), (4, i64 0), (5, .ptr 1 0), (6, .ptr 2 0), (13, .fn (.func 78) [] [.ptr 3 0])], [.blk 9 [sv p0], .blk 66 [.row 4 (y6.2).length], .blk 3 [i64 y6.1], .blk 9 [sv y5], .row 53 2 (encL T_api_Frame.enc y6.2), .mark, .dead]⟩) (jump := none) (by kernel_rfl) (allc (C_frame_Each_1 p0 0 y5 ([] : List T_api_Frame) y6 hy6) all0) (nark [1, 5, 6] [5, 0, 1, 4, 2] (st' := ⟨[(1, .ptr 1 0), (5, .ptr 2 0), (6, .ptr 4 0)], [.mark, .blk 9 [sv p0], .blk 66 [.row 3 (y6.2).length], .row 53 2 (encL T_api_Frame.enc y6.2), .blk 3 [i64 y6.1]]⟩) (by kernel_rfl) (norm ?_))
  refine At.seq ?_
  refine At.seq ?_
  refine At.region_end [1, 5, 6, 30] [0, 1, 2, 3, 4] _ (st' := ⟨[(1, .ptr 1 0), (5, .ptr 2 0), (6, .ptr 4 0), (30, bo (y6.1 == (p0.size : Int)))], [.mark, .blk 9 [sv p0], .blk 66 [.row 3 (y6.2).length], .row 53 2 (encL T_api_Frame.enc y6.2), .blk 3 [i64 y6.1]]⟩) (tips := []) (by kernel_rfl) all0 (norm ?_)
  refine At.cond (y6.1 == (p0.size : Int)) (by kernel_rfl) (fun b8 => ?_) (fun b8 => ?_)
  · replace h := cond_t b8 h
    refine At.seq ?_
    refine At.draw_end mixedOrd 0 [2, 3, 4] [0, 3] _ (st' := ⟨[(2, .row 1 (y6.2).length), (3, i64 y6.1), (4, i64 0)], [.mark, .row 53 2 (encL T_api_Frame.enc y6.2)]⟩) (tips := [(0, { T := [2], r := 5 }), (1, { T := [4], r := 5 }), (2, { r := 5 })]) (by kernel_rfl) all0 (norm ?_)
    obtain rfl := some_eq h
    exact At.ret fun a w hs => ret_ok hR (ρ := [1]) (gs := []) (by kernel_rfl) all0 (by kernel_rfl) rfl rfl a w hs _ (.inl rfl)
  · replace h := cond_f b8 h
    refine At.nar [1, 5, 6] [0, 1, 2, 3, 4] (st' := ⟨[(1, .ptr 1 0), (5, .ptr 2 0), (6, .ptr 4 0)], [.mark, .blk 9 [sv p0], .blk 66 [.row 3 (y6.2).length], .row 53 2 (encL T_api_Frame.enc y6.2), .blk 3 [i64 y6.1]]⟩) (by kernel_rfl) ?_
    refine At.skip (norm ?_)
    refine At.seq ?_
    obtain ⟨y10, hy10, h⟩ := bind_some h
    refine At.region_end [5, 6, 11] [0, 2, 3, 4] _ (st' := ⟨[(5, .ptr 1 0), (6, .ptr 3 0), (11, i64 y10.2.2)], [.mark, .blk 66 [.row 2 (y6.2).length], .row 53 2 (encL T_api_Frame.enc y6.2), .blk 3 [i64 y6.1]]⟩) (tips := [(2, { pc := some { ρ := [], n0 := 0, res := .tup [.agg (T_api_Frame.pvs y10.1), i64 y10.2.1, i64 y10.2.2], σ' := [], e := [] } })]) (by kernel_rfl) (allc (C_frame_Next p0 y6.1 y10 hy10) all0) (norm ?_)
    refine At.seq ?_
    refine At.draw_end mixedOrd 0 [2, 3, 4] [0, 2] _ (st' := ⟨[(2, .row 1 (y6.2).length), (3, i64 y6.1), (4, i64 y10.2.2)], [.mark, .row 53 2 (encL T_api_Frame.enc y6.2)]⟩) (tips := [(0, { T := [1], r := 4 }), (1, { T := [3], r := 4 }), (3, { r := 4 })]) (by kernel_rfl) all0 (norm ?_)
    obtain rfl := some_eq h
    exact At.ret fun a w hs => ret_ok hR (ρ := [1]) (gs := []) (by kernel_rfl) all0 (by kernel_rfl) rfl rfl a w hs _ (.inl rfl)
set_option maxRecDepth 100000 in
theorem C_retraceref04_All (p0 : ByteArray) (r : T_retraceref04_List) (h : F_retraceref04_All p0 = some r) : FnOK Try.prog 37 [sv p0] [] (.agg (T_retraceref04_List.pvs r)) [] [] := by
  rw [F_retraceref04_All] at h
  refine FnOK.intro Try.func37 rfl (by kernel_rfl) (by kernel_rfl) fun E gv R hR => ?_
  refine At.seq ?_
  refine At.region_end [0, 2] [0] _ (st' := ⟨[(0, sv p0), (2, .ptr 0 0)], [.blk 70 [.d (.list true 0 []), i64 0, i64 0]]⟩) (tips := []) (by kernel_rfl) all0 (norm ?_)
  refine At.seq ?_
  refine At.region_end [0, 2, 3] [0, 1] _ (st' := ⟨[(0, sv p0), (2, .ptr 0 0), (3, .ptr 1 0)], [.blk 70 [.d (.list true 0 []), i64 0, i64 0], .blk 70 [.d (.list true 0 []), i64 0, i64 0]]⟩) (tips := []) (by kernel_rfl) all0 (norm ?_)
  refine At.seq ?_
  refine At.block ?_
  refine At.edNar [.ownO 1 0 53 2] [0, 2, 3] [0, 1, 2] (st' := ⟨[(0, sv p0), (2, .ptr 0 0), (3, .ptr 1 0)], [.blk 70 [.d (.list true 0 []), i64 0, i64 0], .blk 70 [.row 2 ([] : List T_api_Frame).length, i64 0, i64 0], .row 53 2 (encL T_api_Frame.enc ([]))]⟩) (by kernel_rfl) ?_
  refine At.loop (fun s : (Int × (List T_api_Frame)) => F_retraceref04_All_L1 p0 s.1 s.2) (fun s : (Int × (List T_api_Frame)) => ⟨[(0, sv p0), (2, .ptr 0 0), (3, .ptr 1 0)], [.blk 70 [.d (.list true 0 []), i64 0, i64 0], .blk 70 [.row 2 (s.2).length, i64 s.1, i64 0], .row 53 2 (encL T_api_Frame.enc s.2)]⟩) r (0, ([] : (List T_api_Frame))) h ?_
  rintro ⟨x17, x18⟩ oo19 h f20
  replace h : F_retraceref04_All_L1 p0 x17 x18 = some oo19 := h
  rw [F_retraceref04_All_L1] at h
  refine At.seq ?_
  refine At.seq ?_
  refine At.region_end [0, 2, 3, 9] [0, 1, 2] _ (st' := ⟨[(0, sv p0), (2, .ptr 0 0), (3, .ptr 1 0), (9, bo (decide (x17 < (p0.size : Int))))], [.blk 70 [.d (.list true 0 []), i64 0, i64 0], .blk 70 [.row 2 (x18).length, i64 x17, i64 0], .row 53 2 (encL T_api_Frame.enc x18)]⟩) (tips := []) (by kernel_rfl) all0 (norm ?_)
  refine At.cond (decide (x17 < (p0.size : Int))) (by kernel_rfl) (fun b22 => ?_) (fun b22 => ?_)
  · replace h := cond_t b22 h
    refine At.nar [0, 2, 3] [0, 1, 2] (st' := ⟨[(0, sv p0), (2, .ptr 0 0), (3, .ptr 1 0)], [.blk 70 [.d (.list true 0 []), i64 0, i64 0], .blk 70 [.row 2 (x18).length, i64 x17, i64 0], .row 53 2 (encL T_api_Frame.enc x18)]⟩) (by kernel_rfl) ?_
    refine At.skip (norm ?_)
    refine At.block ?_
    refine At.seq ?_
    obtain ⟨y24, hy24, h⟩ := bind_some h
    refine At.region_end [0, 2, 3, 4] [0, 1, 2, 3] _ (st' := ⟨[(0, sv p0), (2, .ptr 0 0), (3, .ptr 1 0), (4, .ptr 3 0)], [.blk 70 [.d (.list true 0 []), i64 0, i64 0], .blk 70 [.row 2 (x18).length, i64 x17, i64 0], .row 53 2 (encL T_api_Frame.enc x18), .blk 62 (T_retraceref04_Got.pvs y24)]⟩) (tips := [(3, { pc := some { ρ := [], n0 := 0, res := .agg (T_retraceref04_Got.pvs y24), σ' := [], e := [] } })]) (by kernel_rfl) (allc (C_retraceref04_Next p0 x17 y24 hy24) all0) (norm ?_)
    refine At.seq ?_
    refine At.seq ?_
    refine At.region_end [0, 2, 3, 4, 16] [0, 1, 2, 3] _ (st' := ⟨[(0, sv p0), (2, .ptr 0 0), (3, .ptr 1 0), (4, .ptr 3 0), (16, bo (y24.E != 0))], [.blk 70 [.d (.list true 0 []), i64 0, i64 0], .blk 70 [.row 2 (x18).length, i64 x17, i64 0], .row 53 2 (encL T_api_Frame.enc x18), .blk 62 (T_retraceref04_Got.pvs y24)]⟩) (tips := []) (by kernel_rfl) all0 (norm ?_)
    refine At.cond (y24.E != 0) (by kernel_rfl) (fun b26 => ?_) (fun b26 => ?_)
    · replace h := cond_t b26 h
      refine At.seq ?_
      refine At.region_end [2, 3] [0, 1, 2] _ (st' := ⟨[(2, .ptr 0 0), (3, .ptr 1 0)], [.blk 70 [.d (.list true 0 []), i64 0, i64 0], .blk 70 [.row 2 (x18).length, i64 x17, i64 y24.E], .row 53 2 (encL T_api_Frame.enc x18)]⟩) (tips := []) (by kernel_rfl) all0 (norm ?_)
      refine At.seq ?_
      refine At.region_end [2] [0, 2] _ (st' := ⟨[(2, .ptr 0 0)], [.blk 70 [.row 1 (x18).length, i64 x17, i64 y24.E], .row 53 2 (encL T_api_Frame.enc x18)]⟩) (tips := []) (by kernel_rfl) all0 (norm ?_)
      obtain ⟨r27, h, e28⟩ := map_inr h
      rw [f20 _ e28] at h
      refine At.edNar [.settle 1] [2] [0] (st' := ⟨[(2, .ptr 0 0)], [.blk 70 [lv T_api_Frame.enc x18, i64 x17, i64 y24.E]]⟩) (by kernel_rfl) ?_
      obtain rfl := some_eq h
      exact At.ret fun a w hs => ret_ok hR (ρ := []) (gs := []) (by kernel_rfl) all0 (by kernel_rfl) rfl rfl a w hs _ (.inl rfl)
    · replace h := cond_f b26 h
      refine At.nar [0, 2, 3, 4] [0, 1, 2, 3] (st' := ⟨[(0, sv p0), (2, .ptr 0 0), (3, .ptr 1 0), (4, .ptr 3 0)], [.blk 70 [.d (.list true 0 []), i64 0, i64 0], .blk 70 [.row 2 (x18).length, i64 x17, i64 0], .row 53 2 (encL T_api_Frame.enc x18), .blk 62 (T_retraceref04_Got.pvs y24)]⟩) (by kernel_rfl) ?_
      refine At.skip (norm ?_)
      refine At.seq ?_
      obtain ⟨g30, h⟩ := grd_some h
      refine At.region_end [0, 2, 3, 4] [0, 1, 2, 3] _ (st' := ⟨[(0, sv p0), (2, .ptr 0 0), (3, .ptr 1 0), (4, .ptr 3 0)], [.blk 70 [.d (.list true 0 []), i64 0, i64 0], .blk 70 [.row 2 ((x18 ++ [y24.F])).length, i64 x17, i64 0], .row 53 2 (encL T_api_Frame.enc (x18 ++ [y24.F])), .blk 62 (T_retraceref04_Got.pvs y24)]⟩) (tips := [(5, { form := some ((x18 ++ [y24.F]).length, encL T_api_Frame.enc (x18 ++ [y24.F])) })]) (by kernel_rfl) (allc (len_app x18 ([y24.F])) (allc (encL_app T_api_Frame.enc x18 ([y24.F])) (allc (app_ok T_api_Frame.enc_len (by decide) g30) (allc (encL_len T_api_Frame.enc_len ([y24.F])) all0)))) (norm ?_)
      refine At.region_end [0, 2, 3] [0, 1, 2] _ (st' := ⟨[(0, sv p0), (2, .ptr 0 0), (3, .ptr 1 0)], [.blk 70 [.d (.list true 0 []), i64 0, i64 0], .blk 70 [.row 2 ((x18 ++ [y24.F])).length, i64 y24.Next, i64 0], .row 53 2 (encL T_api_Frame.enc (x18 ++ [y24.F]))]⟩) (tips := []) (by kernel_rfl) all0 (fun a w hs => ⟨_, (some_eq h).symm, hs⟩)
  · replace h := cond_f b22 h
    refine At.nar [2, 3] [0, 1, 2] (st' := ⟨[(2, .ptr 0 0), (3, .ptr 1 0)], [.blk 70 [.d (.list true 0 []), i64 0, i64 0], .blk 70 [.row 2 (x18).length, i64 x17, i64 0], .row 53 2 (encL T_api_Frame.enc x18)]⟩) (by kernel_rfl) ?_
    obtain ⟨r31, h, e32⟩ := map_inr h
    rw [f20 _ e32] at h
    refine At.exit (norm ?_)
    refine At.seq ?_
    refine At.region_end [2] [0, 2] _ (st' := ⟨[(2, .ptr 0 0)], [.blk 70 [.row 1 (x18).length, i64 x17, i64 0], .row 53 2 (encL T_api_Frame.enc x18)]⟩) (tips := []) (by kernel_rfl) all0 (norm ?_)
    refine At.edNar [.settle 1] [2] [0] (st' := ⟨[(2, .ptr 0 0)], [.blk 70 [lv T_api_Frame.enc x18, i64 x17, i64 0]]⟩) (by kernel_rfl) ?_
    obtain rfl := some_eq h
    exact At.ret fun a w hs => ret_ok hR (ρ := []) (gs := []) (by kernel_rfl) all0 (by kernel_rfl) rfl rfl a w hs _ (.inl rfl)
set_option maxRecDepth 100000 in
theorem C_retraceref04_Same (p0 : (List T_api_Frame)) (p1 : (List T_api_Frame)) (r : Bool) (h : F_retraceref04_Same p0 p1 = some r) : FnOK Try.prog 38 [lv T_api_Frame.enc p0, lv T_api_Frame.enc p1] [] (bo r) [] [] := by
  rw [F_retraceref04_Same] at h
  refine FnOK.intro Try.func38 rfl (by kernel_rfl) (by kernel_rfl) fun E gv R hR => ?_
  refine At.seq ?_
  refine At.region_end [0, 1] [] _ (st' := ⟨[(0, lv T_api_Frame.enc p0), (1, lv T_api_Frame.enc p1)], []⟩) (tips := []) (by kernel_rfl) all0 (norm ?_)
  refine At.seq ?_
  refine At.seq ?_
  refine At.region_end [0, 1, 10] [] _ (st' := ⟨[(0, lv T_api_Frame.enc p0), (1, lv T_api_Frame.enc p1), (10, bo (((p0).length : Int) != ((p1).length : Int)))], []⟩) (tips := []) (by kernel_rfl) all0 (norm ?_)
  refine At.cond (((p0).length : Int) != ((p1).length : Int)) (by kernel_rfl) (fun b2 => ?_) (fun b2 => ?_)
  · replace h := cond_t b2 h
    refine At.seq ?_
    refine At.region_end [4] [] _ (st' := ⟨[(4, bo false)], []⟩) (tips := []) (by kernel_rfl) all0 (norm ?_)
    obtain rfl := some_eq h
    exact At.ret fun a w hs => ret_ok hR (ρ := []) (gs := []) (by kernel_rfl) all0 (by kernel_rfl) rfl rfl a w hs _ (.inl rfl)
  · replace h := cond_f b2 h
    refine At.nar [0, 1] [] (st' := ⟨[(0, lv T_api_Frame.enc p0), (1, lv T_api_Frame.enc p1)], []⟩) (by kernel_rfl) ?_
    refine At.skip (norm ?_)
    refine At.seq ?_
    refine At.seq ?_
    refine At.region_end [0, 1, 5] [] _ (st' := ⟨[(0, lv T_api_Frame.enc p0), (1, lv T_api_Frame.enc p1), (5, i64 0)], []⟩) (tips := []) (by kernel_rfl) all0 (norm ?_)
    refine At.block ?_
    refine At.loop (fun s : (Int) => F_retraceref04_Same_L1 p0 p1 s) (fun s : (Int) => ⟨[(0, lv T_api_Frame.enc p0), (1, lv T_api_Frame.enc p1), (5, i64 s)], []⟩) r 0 h ?_
    intro x22 oo23 h f24
    replace h : F_retraceref04_Same_L1 p0 p1 x22 = some oo23 := h
    rw [F_retraceref04_Same_L1] at h
    refine At.seq ?_
    refine At.seq ?_
    refine At.region_end [0, 1, 5, 14] [] _ (st' := ⟨[(0, lv T_api_Frame.enc p0), (1, lv T_api_Frame.enc p1), (5, i64 x22), (14, bo (decide (x22 < ((p0).length : Int))))], []⟩) (tips := []) (by kernel_rfl) all0 (norm ?_)
    refine At.cond (decide (x22 < ((p0).length : Int))) (by kernel_rfl) (fun b26 => ?_) (fun b26 => ?_)
    · replace h := cond_t b26 h
      refine At.nar [0, 1, 5] [] (st' := ⟨[(0, lv T_api_Frame.enc p0), (1, lv T_api_Frame.enc p1), (5, i64 x22)], []⟩) (by kernel_rfl) ?_
      refine At.skip (norm ?_)
      refine At.seq ?_
      refine At.block ?_
      refine At.seq ?_
      obtain ⟨y34, hy34, h⟩ := bind_some h
      obtain ⟨y35, hy35, h⟩ := bind_some h
      refine At.draw_end mixedOrd 0 [0, 1, 5, 25] [] _ (st' := ⟨[(0, lv T_api_Frame.enc p0), (1, lv T_api_Frame.enc p1), (5, i64 x22), (25, bo (!((y34.Kind == y35.Kind) && ((y34.Data.toList == y35.Data.toList) && true))))], []⟩) (tips := [(2, { tip := { orc := .cells (T_api_Frame.enc y34) } }), (6, { tip := { orc := .cells (T_api_Frame.enc y35) } })]) (by kernel_rfl) (allc (elemAt_of T_api_Frame.enc_len hy34) (allc (elemAt_of T_api_Frame.enc_len hy35) all0)) (norm ?_)
      refine At.cond (!((y34.Kind == y35.Kind) && ((y34.Data.toList == y35.Data.toList) && true))) (by kernel_rfl) (fun b36 => ?_) (fun b36 => ?_)
      · replace h := cond_t b36 h
        refine At.seq ?_
        refine At.region_end [4] [] _ (st' := ⟨[(4, bo false)], []⟩) (tips := []) (by kernel_rfl) all0 (norm ?_)
        obtain ⟨r37, h, e38⟩ := map_inr h
        rw [f24 _ e38] at h
        obtain rfl := some_eq h
        exact At.ret fun a w hs => ret_ok hR (ρ := []) (gs := []) (by kernel_rfl) all0 (by kernel_rfl) rfl rfl a w hs _ (.inl rfl)
      · replace h := cond_f b36 h
        refine At.nar [0, 1, 5] [] (st' := ⟨[(0, lv T_api_Frame.enc p0), (1, lv T_api_Frame.enc p1), (5, i64 x22)], []⟩) (by kernel_rfl) ?_
        refine At.skip (norm ?_)
        refine At.region_end [0, 1, 5] [] _ (st' := ⟨[(0, lv T_api_Frame.enc p0), (1, lv T_api_Frame.enc p1), (5, i64 (w64 (x22 + 1)))], []⟩) (tips := []) (by kernel_rfl) all0 (fun a w hs => ⟨_, (some_eq h).symm, hs⟩)
    · replace h := cond_f b26 h
      refine At.nar [] [] (st' := ⟨[], []⟩) (by kernel_rfl) ?_
      obtain ⟨r39, h, e40⟩ := map_inr h
      rw [f24 _ e40] at h
      refine At.exit (norm ?_)
      refine At.seq ?_
      refine At.region_end [4] [] _ (st' := ⟨[(4, bo true)], []⟩) (tips := []) (by kernel_rfl) all0 (norm ?_)
      obtain rfl := some_eq h
      exact At.ret fun a w hs => ret_ok hR (ρ := []) (gs := []) (by kernel_rfl) all0 (by kernel_rfl) rfl rfl a w hs _ (.inl rfl)
set_option maxRecDepth 100000 in
theorem C_retraceref04_Joined (p0 : (List T_api_Frame)) (r : ByteArray × (List Int)) (h : F_retraceref04_Joined p0 = some r) : FnOK Try.prog 39 [lv T_api_Frame.enc p0] [] (.tup [sv r.1, .row 0 (r.2).length]) [.row 3 1 (encL (eInt .i64) r.2)] [] := by
  rw [F_retraceref04_Joined] at h
  refine FnOK.intro Try.func39 rfl (by kernel_rfl) (by kernel_rfl) fun E gv R hR => ?_
  refine At.seq ?_
  refine At.region_end [0] [] _ (st' := ⟨[(0, lv T_api_Frame.enc p0)], []⟩) (tips := []) (by kernel_rfl) all0 (norm ?_)
  refine At.seq ?_
  refine At.region_end [0, 4] [] _ (st' := ⟨[(0, lv T_api_Frame.enc p0), (4, sv (⟨#[]⟩ : ByteArray))], []⟩) (tips := []) (by kernel_rfl) all0 (norm ?_)
  refine At.seq ?_
  refine At.region_end [0, 4, 5] [] _ (st' := ⟨[(0, lv T_api_Frame.enc p0), (4, sv (⟨#[]⟩ : ByteArray)), (5, .d (.list true 0 []))], []⟩) (tips := []) (by kernel_rfl) all0 (norm ?_)
  refine At.seq ?_
  refine At.seq ?_
  refine At.region_end [0, 4, 5, 6] [] _ (st' := ⟨[(0, lv T_api_Frame.enc p0), (4, sv (⟨#[]⟩ : ByteArray)), (5, .d (.list true 0 [])), (6, i64 0)], []⟩) (tips := []) (by kernel_rfl) all0 (norm ?_)
  refine At.block ?_
  refine At.edNar [.ownS 5 3 1] [0, 4, 5, 6] [0] (st' := ⟨[(0, lv T_api_Frame.enc p0), (4, sv (⟨#[]⟩ : ByteArray)), (5, .row 0 ([] : List Int).length), (6, i64 0)], [.row 3 1 (encL (eInt .i64) ([]))]⟩) (by kernel_rfl) ?_
  refine At.loop (fun s : (ByteArray × Int × (List Int)) => F_retraceref04_Joined_L1 p0 s.1 s.2.1 s.2.2) (fun s : (ByteArray × Int × (List Int)) => ⟨[(0, lv T_api_Frame.enc p0), (4, sv s.1), (5, .row 0 (s.2.2).length), (6, i64 s.2.1)], [.row 3 1 (encL (eInt .i64) s.2.2)]⟩) r ((⟨#[]⟩ : ByteArray), 0, ([] : (List Int))) h ?_
  rintro ⟨x24, x25, x26⟩ oo27 h f28
  replace h : F_retraceref04_Joined_L1 p0 x24 x25 x26 = some oo27 := h
  rw [F_retraceref04_Joined_L1] at h
  refine At.seq ?_
  refine At.seq ?_
  refine At.region_end [0, 4, 5, 6, 12] [0] _ (st' := ⟨[(0, lv T_api_Frame.enc p0), (4, sv x24), (5, .row 0 (x26).length), (6, i64 x25), (12, bo (decide (x25 < ((p0).length : Int))))], [.row 3 1 (encL (eInt .i64) x26)]⟩) (tips := []) (by kernel_rfl) all0 (norm ?_)
  refine At.cond (decide (x25 < ((p0).length : Int))) (by kernel_rfl) (fun b30 => ?_) (fun b30 => ?_)
  · replace h := cond_t b30 h
    refine At.nar [0, 4, 5, 6] [0] (st' := ⟨[(0, lv T_api_Frame.enc p0), (4, sv x24), (5, .row 0 (x26).length), (6, i64 x25)], [.row 3 1 (encL (eInt .i64) x26)]⟩) (by kernel_rfl) ?_
    refine At.skip (norm ?_)
    refine At.seq ?_
    refine At.block ?_
    refine At.seq ?_
    obtain ⟨g39, h⟩ := grd_some h
    refine At.region_end [0, 4, 5, 6] [0] _ (st' := ⟨[(0, lv T_api_Frame.enc p0), (4, sv x24), (5, .row 0 ((x26 ++ [(x24.size : Int)])).length), (6, i64 x25)], [.row 3 1 (encL (eInt .i64) (x26 ++ [(x24.size : Int)]))]⟩) (tips := [(4, { form := some ((x26 ++ [(x24.size : Int)]).length, encL (eInt .i64) (x26 ++ [(x24.size : Int)])) })]) (by kernel_rfl) (allc (len_app x26 ([(x24.size : Int)])) (allc (encL_app (eInt .i64) x26 ([(x24.size : Int)])) (allc (app_ok (he_int .i64) (by decide) g39) (allc (encL_len (he_int .i64) ([(x24.size : Int)])) all0)))) (norm ?_)
    refine At.seq ?_
    obtain ⟨y42, hy42, h⟩ := bind_some h
    obtain ⟨y43, hy43, h⟩ := bind_some h
    refine At.region_end [0, 4, 5, 6, 7] [0] _ (st' := ⟨[(0, lv T_api_Frame.enc p0), (4, sv x24), (5, .row 0 ((x26 ++ [(x24.size : Int)])).length), (6, i64 x25), (7, sv y43.1)], [.row 3 1 (encL (eInt .i64) (x26 ++ [(x24.size : Int)]))]⟩) (tips := [(2, { orc := .cells (T_api_Frame.enc y42) }), (4, { pc := some { ρ := [], n0 := 0, res := .tup [sv y43.1, i64 y43.2], σ' := [], e := [] } })]) (by kernel_rfl) (allc (elemAt_of T_api_Frame.enc_len hy42) (allc (C_retraceref04_Bytes y42 y43 hy43) all0)) (norm ?_)
    obtain ⟨g44, h⟩ := grd_some h
    refine At.region_end [0, 4, 5, 6] [0] _ (st' := ⟨[(0, lv T_api_Frame.enc p0), (4, sv (x24 ++ y43.1)), (5, .row 0 ((x26 ++ [(x24.size : Int)])).length), (6, i64 x25)], [.row 3 1 (encL (eInt .i64) (x26 ++ [(x24.size : Int)]))]⟩) (tips := []) (by kernel_rfl) (allc g44 all0) (norm ?_)
    refine At.region_end [0, 4, 5, 6] [0] _ (st' := ⟨[(0, lv T_api_Frame.enc p0), (4, sv (x24 ++ y43.1)), (5, .row 0 ((x26 ++ [(x24.size : Int)])).length), (6, i64 (w64 (x25 + 1)))], [.row 3 1 (encL (eInt .i64) (x26 ++ [(x24.size : Int)]))]⟩) (tips := []) (by kernel_rfl) all0 (fun a w hs => ⟨_, (some_eq h).symm, hs⟩)
  · replace h := cond_f b30 h
    refine At.nar [4, 5] [0] (st' := ⟨[(4, sv x24), (5, .row 0 (x26).length)], [.row 3 1 (encL (eInt .i64) x26)]⟩) (by kernel_rfl) ?_
    obtain ⟨r45, h, e46⟩ := map_inr h
    rw [f28 _ e46] at h
    refine At.exit (norm ?_)
    refine At.seq ?_
    obtain ⟨g48, h⟩ := grd_some h
    refine At.region_end [2, 3] [0] _ (st' := ⟨[(2, sv x24), (3, .row 0 ((x26 ++ [(x24.size : Int)])).length)], [.row 3 1 (encL (eInt .i64) (x26 ++ [(x24.size : Int)]))]⟩) (tips := [(5, { form := some ((x26 ++ [(x24.size : Int)]).length, encL (eInt .i64) (x26 ++ [(x24.size : Int)])) })]) (by kernel_rfl) (allc (len_app x26 ([(x24.size : Int)])) (allc (encL_app (eInt .i64) x26 ([(x24.size : Int)])) (allc (app_ok (he_int .i64) (by decide) g48) (allc (encL_len (he_int .i64) ([(x24.size : Int)])) all0)))) (norm ?_)
    obtain rfl := some_eq h
    exact At.ret fun a w hs => ret_ok hR (ρ := [0]) (gs := []) (by kernel_rfl) all0 (by kernel_rfl) rfl rfl a w hs _ (.inl rfl)
end Go.Ab
