import Derived.Test.YtgihgmnmefbjbaaGreatGZ
namespace Go.Ab
open Go.Proofs
set_option linter.unusedVariables false
set_option maxRecDepth 100000 in
theorem C_retracelaw22_large (p0 : T_api_Code) (p1 : T_api_Proc) (r : Bool) (h : F_retracelaw22_large p0 p1 = some r) : FnOK Tryz.prog 7 [.agg (T_api_Code.pvs p0), .agg (T_api_Proc.pvs p1)] [] (bo r) [] [] := by
  rw [F_retracelaw22_large] at h
  refine FnOK.intro Tryz.func7 rfl (by kernel_rfl) (by kernel_rfl) fun E gv R hR => ?_
  refine At.seq ?_
  refine At.rg [2, 3] [0, 1] [] (by kernel_rfl) all0 (norm ?_)
  refine At.seqJ (S := Bool) (fun s => ⟨[(4, bo s)], []⟩) (fun s => F_retracelaw22_large_J1 s = some r) ?_ ?_
  · rcases tf (decide (150 < ((p0.Ins).length : Int))) with b6 | b6
    · replace h := cond_t b6 h
      refine At.rg [4] [] [(4, { orc := .val (.bool true) })] (by kernel_rfl) (allc (congrArg D.bool b6) all0) (edq (l := []) (ks := [4]) (ρ := []) (st' := ⟨[(4, bo true)], []⟩) (by kernel_rfl) (fun a w hs => ⟨true, h, hs⟩))
    · replace h := cond_f b6 h
      rcases tf (decide (40 < ((p0.Defs).length : Int))) with b7 | b7
      · replace h := cond_t b7 h
        refine At.rg [4] [] [(4, { orc := .val (.bool false) }), (10, { orc := .val (.bool true) })] (by kernel_rfl) (allc (congrArg D.bool b6) (allc (congrArg D.bool b7) all0)) (edq (l := []) (ks := [4]) (ρ := []) (st' := ⟨[(4, bo true)], []⟩) (by kernel_rfl) (fun a w hs => ⟨true, h, hs⟩))
      · replace h := cond_f b7 h
        rcases tf (decide (80 < ((p0.Chans).length : Int))) with b8 | b8
        · replace h := cond_t b8 h
          refine At.rg [4] [] [(4, { orc := .val (.bool false) }), (10, { orc := .val (.bool false) }), (16, { orc := .val (.bool true) })] (by kernel_rfl) (allc (congrArg D.bool b6) (allc (congrArg D.bool b7) (allc (congrArg D.bool b8) all0))) (edq (l := []) (ks := [4]) (ρ := []) (st' := ⟨[(4, bo true)], []⟩) (by kernel_rfl) (fun a w hs => ⟨true, h, hs⟩))
        · replace h := cond_f b8 h
          rcases tf (decide (40 < ((p1.Vars).length : Int))) with b9 | b9
          · replace h := cond_t b9 h
            refine At.rg [4] [] [(4, { orc := .val (.bool false) }), (10, { orc := .val (.bool false) }), (16, { orc := .val (.bool false) }), (22, { orc := .val (.bool true) })] (by kernel_rfl) (allc (congrArg D.bool b6) (allc (congrArg D.bool b7) (allc (congrArg D.bool b8) (allc (congrArg D.bool b9) all0)))) (edq (l := []) (ks := [4]) (ρ := []) (st' := ⟨[(4, bo true)], []⟩) (by kernel_rfl) (fun a w hs => ⟨true, h, hs⟩))
          · replace h := cond_f b9 h
            refine At.rg [4] [] [(4, { orc := .val (.bool false) }), (10, { orc := .val (.bool false) }), (16, { orc := .val (.bool false) }), (22, { orc := .val (.bool false) })] (by kernel_rfl) (allc (congrArg D.bool b6) (allc (congrArg D.bool b7) (allc (congrArg D.bool b8) (allc (congrArg D.bool b9) all0)))) (edq (l := []) (ks := [4]) (ρ := []) (st' := ⟨[(4, bo (decide (40 < ((p1.Alts).length : Int))))], []⟩) (by kernel_rfl) (fun a w hs => ⟨(decide (40 < ((p1.Alts).length : Int))), h, hs⟩))
  · intro x5 h
    replace h : F_retracelaw22_large_J1 x5 = some r := h
    rw [F_retracelaw22_large_J1] at h
    obtain rfl := some_eq h
    exact At.ret fun a w hs => ret_ok hR (ρ := []) (gs := []) (by kernel_rfl) all0 (by kernel_rfl) rfl rfl a w hs _ (.inl rfl)
set_option maxRecDepth 100000 in
theorem C_retraceref08_Letter (p0 : Int) (r : Bool) (h : F_retraceref08_Letter p0 = some r) : FnOK Tryz.prog 79 [u8 p0] [] (bo r) [] [] := by
  rw [F_retraceref08_Letter] at h
  refine FnOK.intro Tryz.func79 rfl (by kernel_rfl) (by kernel_rfl) fun E gv R hR => ?_
  refine At.seq ?_
  refine At.rg [0] [] [] (by kernel_rfl) all0 (norm ?_)
  refine At.seqJ (S := Bool) (fun s => ⟨[(2, bo s)], []⟩) (fun s => F_retraceref08_Letter_J1 s = some r) ?_ ?_
  · rcases tf (decide (97 ≤ p0)) with b8 | b8
    · replace h := cond_t b8 h
      rcases tf (decide (p0 ≤ 122)) with b9 | b9
      · replace h := cond_t b9 h
        refine At.rg [2] [] [(2, { orc := .val (.bool true) }), (6, { orc := .val (.bool true) })] (by kernel_rfl) (allc (congrArg D.bool b8) (allc (congrArg D.bool b9) all0)) (edq (l := []) (ks := [2]) (ρ := []) (st' := ⟨[(2, bo true)], []⟩) (by kernel_rfl) (fun a w hs => ⟨true, h, hs⟩))
      · replace h := cond_f b9 h
        rcases tf (decide (65 ≤ p0)) with b10 | b10
        · replace h := cond_t b10 h
          rcases tf (decide (p0 ≤ 90)) with b11 | b11
          · replace h := cond_t b11 h
            refine At.rg [2] [] [(2, { orc := .val (.bool true) }), (6, { orc := .val (.bool false) }), (9, { orc := .val (.bool true) }), (14, { orc := .val (.bool true) })] (by kernel_rfl) (allc (congrArg D.bool b8) (allc (congrArg D.bool b9) (allc (congrArg D.bool b10) (allc (congrArg D.bool b11) all0)))) (edq (l := []) (ks := [2]) (ρ := []) (st' := ⟨[(2, bo true)], []⟩) (by kernel_rfl) (fun a w hs => ⟨true, h, hs⟩))
          · replace h := cond_f b11 h
            refine At.rg [2] [] [(2, { orc := .val (.bool true) }), (6, { orc := .val (.bool false) }), (9, { orc := .val (.bool true) }), (14, { orc := .val (.bool false) })] (by kernel_rfl) (allc (congrArg D.bool b8) (allc (congrArg D.bool b9) (allc (congrArg D.bool b10) (allc (congrArg D.bool b11) all0)))) (edq (l := []) (ks := [2]) (ρ := []) (st' := ⟨[(2, bo (p0 == 95))], []⟩) (by kernel_rfl) (fun a w hs => ⟨(p0 == 95), h, hs⟩))
        · replace h := cond_f b10 h
          refine At.rg [2] [] [(2, { orc := .val (.bool true) }), (6, { orc := .val (.bool false) }), (9, { orc := .val (.bool false) })] (by kernel_rfl) (allc (congrArg D.bool b8) (allc (congrArg D.bool b9) (allc (congrArg D.bool b10) all0))) (edq (l := []) (ks := [2]) (ρ := []) (st' := ⟨[(2, bo (p0 == 95))], []⟩) (by kernel_rfl) (fun a w hs => ⟨(p0 == 95), h, hs⟩))
    · replace h := cond_f b8 h
      rcases tf (decide (65 ≤ p0)) with b12 | b12
      · replace h := cond_t b12 h
        rcases tf (decide (p0 ≤ 90)) with b13 | b13
        · replace h := cond_t b13 h
          refine At.rg [2] [] [(2, { orc := .val (.bool false) }), (9, { orc := .val (.bool true) }), (14, { orc := .val (.bool true) })] (by kernel_rfl) (allc (congrArg D.bool b8) (allc (congrArg D.bool b12) (allc (congrArg D.bool b13) all0))) (edq (l := []) (ks := [2]) (ρ := []) (st' := ⟨[(2, bo true)], []⟩) (by kernel_rfl) (fun a w hs => ⟨true, h, hs⟩))
        · replace h := cond_f b13 h
          refine At.rg [2] [] [(2, { orc := .val (.bool false) }), (9, { orc := .val (.bool true) }), (14, { orc := .val (.bool false) })] (by kernel_rfl) (allc (congrArg D.bool b8) (allc (congrArg D.bool b12) (allc (congrArg D.bool b13) all0))) (edq (l := []) (ks := [2]) (ρ := []) (st' := ⟨[(2, bo (p0 == 95))], []⟩) (by kernel_rfl) (fun a w hs => ⟨(p0 == 95), h, hs⟩))
      · replace h := cond_f b12 h
        refine At.rg [2] [] [(2, { orc := .val (.bool false) }), (9, { orc := .val (.bool false) })] (by kernel_rfl) (allc (congrArg D.bool b8) (allc (congrArg D.bool b12) all0)) (edq (l := []) (ks := [2]) (ρ := []) (st' := ⟨[(2, bo (p0 == 95))], []⟩) (by kernel_rfl) (fun a w hs => ⟨(p0 == 95), h, hs⟩))
  · intro x7 h
    replace h : F_retraceref08_Letter_J1 x7 = some r := h
    rw [F_retraceref08_Letter_J1] at h
    obtain rfl := some_eq h
    exact At.ret fun a w hs => ret_ok hR (ρ := []) (gs := []) (by kernel_rfl) all0 (by kernel_rfl) rfl rfl a w hs _ (.inl rfl)
set_option maxRecDepth 100000 in
theorem C_retraceref08_Digit (p0 : Int) (r : Bool) (h : F_retraceref08_Digit p0 = some r) : FnOK Tryz.prog 80 [u8 p0] [] (bo r) [] [] := by
  rw [F_retraceref08_Digit] at h
  refine FnOK.intro Tryz.func80 rfl (by kernel_rfl) (by kernel_rfl) fun E gv R hR => ?_
  refine At.seq ?_
  refine At.rg [0] [] [] (by kernel_rfl) all0 (norm ?_)
  refine At.seqJ (S := Bool) (fun s => ⟨[(2, bo s)], []⟩) (fun s => F_retraceref08_Digit_J1 s = some r) ?_ ?_
  · rcases tf (decide (48 ≤ p0)) with b3 | b3
    · replace h := cond_t b3 h
      refine At.rg [2] [] [(2, { orc := .val (.bool true) })] (by kernel_rfl) (allc (congrArg D.bool b3) all0) (edq (l := []) (ks := [2]) (ρ := []) (st' := ⟨[(2, bo (decide (p0 ≤ 57)))], []⟩) (by kernel_rfl) (fun a w hs => ⟨(decide (p0 ≤ 57)), h, hs⟩))
    · replace h := cond_f b3 h
      refine At.rg [2] [] [(2, { orc := .val (.bool false) })] (by kernel_rfl) (allc (congrArg D.bool b3) all0) (edq (l := []) (ks := [2]) (ρ := []) (st' := ⟨[(2, bo false)], []⟩) (by kernel_rfl) (fun a w hs => ⟨false, h, hs⟩))
  · intro x2 h
    replace h : F_retraceref08_Digit_J1 x2 = some r := h
    rw [F_retraceref08_Digit_J1] at h
    obtain rfl := some_eq h
    exact At.ret fun a w hs => ret_ok hR (ρ := []) (gs := []) (by kernel_rfl) all0 (by kernel_rfl) rfl rfl a w hs _ (.inl rfl)
set_option maxRecDepth 100000 in
theorem C_retraceref08_Words  (r : (List ByteArray)) (h : F_retraceref08_Words  = some r) : FnOK Tryz.prog 82 [] [] (.row 0 (r).length) [.row 9 1 (encL eStr r)] [] := by
  rw [F_retraceref08_Words] at h
  refine FnOK.intro Tryz.func82 rfl (by kernel_rfl) (by kernel_rfl) fun E gv R hR => ?_
  refine At.seq ?_
  refine At.rg [] [] [] (by kernel_rfl) all0 (norm ?_)
  refine At.seq ?_
  refine At.rg [0] [0] [] (by kernel_rfl) all0 (norm ?_)
  obtain rfl := some_eq h
  exact At.ret fun a w hs => ret_ok hR (ρ := [0]) (gs := []) (by kernel_rfl) all0 (by kernel_rfl) rfl rfl a w hs _ (.inl rfl)
set_option maxRecDepth 100000 in
theorem C_retraceref08_In (p1 : ByteArray) (o0 : (List ByteArray)) (r : Bool) (h : F_retraceref08_In p1 o0 = some r) : FnOK Tryz.prog 81 [.row 0 (o0).length, sv p1] [.row 9 1 (encL eStr o0)] (bo r) [.row 9 1 (encL eStr o0)] [0] := by
  rw [F_retraceref08_In] at h
  refine FnOK.intro Tryz.func81 rfl (by kernel_rfl) (by kernel_rfl) fun E gv R hR => ?_
  refine At.seq ?_
  refine At.rg [0, 1] [0, 1] [] (by kernel_rfl) all0 (norm ?_)
  refine At.seq ?_
  refine At.seq ?_
  refine At.rg [0, 1, 5] [0, 1] [] (by kernel_rfl) all0 (norm ?_)
  refine At.block ?_
  refine At.nar [0, 1, 5] [0, 1] (st' := ⟨[(0, .row 0 (o0).length), (1, sv p1), (5, i64 0)], [.row 9 1 (encL eStr o0), .ghost (gv 0) (.row 0 0)]⟩) (by kernel_rfl) ?_
  refine At.loop (fun s : (Int) => F_retraceref08_In_L1 p1 o0 s) (fun s : (Int) => ⟨[(0, .row 0 (o0).length), (1, sv p1), (5, i64 s)], [.row 9 1 (encL eStr o0), .ghost (gv 0) (.row 0 0)]⟩) r 0 h ?_
  intro x16 oo17 h f18
  replace h : F_retraceref08_In_L1 p1 o0 x16 = some oo17 := h
  rw [F_retraceref08_In_L1] at h
  refine At.seq ?_
  refine At.seq ?_
  refine At.rg [0, 1, 5, 9] [0, 1] [] (by kernel_rfl) all0 (norm ?_)
  refine At.cond (decide (x16 < ((o0).length : Int))) (by kernel_rfl) (fun b20 => ?_) (fun b20 => ?_)
  · replace h := cond_t b20 h
    refine At.nr [0, 1, 5] [0, 1] (by kernel_rfl) ?_
    refine At.skip (norm ?_)
    refine At.seq ?_
    refine At.block ?_
    refine At.seq ?_
    obtain ⟨y25, hy25, h⟩ := bind_some h
    refine At.rg [0, 1, 5, 17] [0, 1] [(3, { orc := .val (.str y25) })] (by kernel_rfl) (allc ((rAt_of he_str (d := .str y25) hy25 rfl).1) (allc ((rAt_of he_str (d := .str y25) hy25 rfl).2) all0)) (norm ?_)
    refine At.cond (y25.toList == p1.toList) (by kernel_rfl) (fun b26 => ?_) (fun b26 => ?_)
    · replace h := cond_t b26 h
      refine At.seq ?_
      refine At.rg [4] [0, 1] [] (by kernel_rfl) all0 (norm ?_)
      obtain ⟨r27, h, e28⟩ := map_inr h
      rw [f18 _ e28] at h
      obtain rfl := some_eq h
      exact At.ret fun a w hs => ret_ok hR (ρ := [0]) (gs := [.ghost (gv 0) (.row 0 0)]) (by kernel_rfl) all0 (by kernel_rfl) rfl rfl a w hs _ (.inl rfl)
    · replace h := cond_f b26 h
      refine At.nr [0, 1, 5] [0, 1] (by kernel_rfl) ?_
      refine At.skip (norm ?_)
      refine At.rg [0, 1, 5] [0, 1] [] (by kernel_rfl) all0 (edq (l := []) (ks := [0, 1, 5]) (ρ := [0, 1]) (st' := ⟨[(0, .row 0 (o0).length), (1, sv p1), (5, i64 (w64 (x16 + 1)))], [.row 9 1 (encL eStr o0), .ghost (gv 0) (.row 0 0)]⟩) (by kernel_rfl) (fun a w hs => ⟨_, (some_eq h).symm, hs⟩))
  · replace h := cond_f b20 h
    refine At.nr [] [0, 1] (by kernel_rfl) ?_
    obtain ⟨r29, h, e30⟩ := map_inr h
    rw [f18 _ e30] at h
    refine At.exit (norm ?_)
    refine At.seq ?_
    refine At.rg [4] [0, 1] [] (by kernel_rfl) all0 (norm ?_)
    obtain rfl := some_eq h
    exact At.ret fun a w hs => ret_ok hR (ρ := [0]) (gs := [.ghost (gv 0) (.row 0 0)]) (by kernel_rfl) all0 (by kernel_rfl) rfl rfl a w hs _ (.inl rfl)
set_option maxRecDepth 100000 in
theorem C_retraceref08_Name (p0 : ByteArray) (r : Bool) (h : F_retraceref08_Name p0 = some r) : FnOK Tryz.prog 59 [sv p0] [] (bo r) [] [] := by
  rw [F_retraceref08_Name] at h
  refine FnOK.intro Tryz.func59 rfl (by kernel_rfl) (by kernel_rfl) fun E gv R hR => ?_
  refine At.seq ?_
  refine At.rg [0] [] [] (by kernel_rfl) all0 (norm ?_)
  refine At.seq ?_
  refine At.seq ?_
  refine At.rg [0, 3] [] [] (by kernel_rfl) all0 (norm ?_)
  refine At.block ?_
  refine At.nar [0, 3] [] (st' := ⟨[(0, sv p0), (3, i64 0)], []⟩) (by kernel_rfl) ?_
  refine At.loop (fun s : (Int) => F_retraceref08_Name_L3 p0 s) (fun s : (Int) => ⟨[(0, sv p0), (3, i64 s)], []⟩) r 0 h ?_
  intro x38 oo39 h f40
  replace h : F_retraceref08_Name_L3 p0 x38 = some oo39 := h
  rw [F_retraceref08_Name_L3] at h
  refine At.seq ?_
  refine At.seq ?_
  refine At.rg [0, 3, 7] [] [] (by kernel_rfl) all0 (norm ?_)
  refine At.cond (decide (x38 < (p0.size : Int))) (by kernel_rfl) (fun b42 => ?_) (fun b42 => ?_)
  · replace h := cond_t b42 h
    refine At.nr [0, 3] [] (by kernel_rfl) ?_
    refine At.skip (norm ?_)
    refine At.seq ?_
    refine At.block ?_
    refine At.seqJ (S := Bool) (fun s => ⟨[(0, sv p0), (3, i64 x38), (25, bo s)], []⟩) (fun s => F_retraceref08_Name_J1 x38 s = some oo39) ?_ ?_
    · obtain ⟨y67, hy67, h⟩ := bind_some h
      obtain ⟨y68, hy68, h⟩ := bind_some h
      rcases tf (!y68) with b69 | b69
      · replace h := cond_t b69 h
        rcases tf (x38 == 0) with b70 | b70
        · replace h := cond_t b70 h
          refine At.rg [0, 3, 25] [] [(2, { orc := .val (.int .u8 y67) }), (3, { pc := some { ρ := [], n0 := 0, res := bo y68, σ' := [], e := [] } }), (5, { orc := .val (.bool true) }), (8, { orc := .val (.bool true) })] (by kernel_rfl) (allc hy67 (allc (C_retraceref08_Letter y67 y68 hy68) (allc (congrArg D.bool b69) (allc (congrArg D.bool b70) all0)))) (edq (l := []) (ks := [0, 3, 25]) (ρ := []) (st' := ⟨[(0, sv p0), (3, i64 x38), (25, bo true)], []⟩) (by kernel_rfl) (fun a w hs => ⟨true, h, hs⟩))
        · replace h := cond_f b70 h
          obtain ⟨y71, hy71, h⟩ := bind_some h
          obtain ⟨y72, hy72, h⟩ := bind_some h
          refine At.rg [0, 3, 25] [] [(2, { orc := .val (.int .u8 y67) }), (3, { pc := some { ρ := [], n0 := 0, res := bo y68, σ' := [], e := [] } }), (5, { orc := .val (.bool true) }), (8, { orc := .val (.bool false) }), (11, { orc := .val (.int .u8 y71) }), (12, { pc := some { ρ := [], n0 := 0, res := bo y72, σ' := [], e := [] } })] (by kernel_rfl) (allc hy67 (allc (C_retraceref08_Letter y67 y68 hy68) (allc (congrArg D.bool b69) (allc (congrArg D.bool b70) (allc hy71 (allc (C_retraceref08_Digit y71 y72 hy72) all0)))))) (edq (l := []) (ks := [0, 3, 25]) (ρ := []) (st' := ⟨[(0, sv p0), (3, i64 x38), (25, bo (!y72))], []⟩) (by kernel_rfl) (fun a w hs => ⟨(!y72), h, hs⟩))
      · replace h := cond_f b69 h
        refine At.rg [0, 3, 25] [] [(2, { orc := .val (.int .u8 y67) }), (3, { pc := some { ρ := [], n0 := 0, res := bo y68, σ' := [], e := [] } }), (5, { orc := .val (.bool false) })] (by kernel_rfl) (allc hy67 (allc (C_retraceref08_Letter y67 y68 hy68) (allc (congrArg D.bool b69) all0))) (edq (l := []) (ks := [0, 3, 25]) (ρ := []) (st' := ⟨[(0, sv p0), (3, i64 x38), (25, bo false)], []⟩) (by kernel_rfl) (fun a w hs => ⟨false, h, hs⟩))
    · intro x63 h
      replace h : F_retraceref08_Name_J1 x38 x63 = some oo39 := h
      rw [F_retraceref08_Name_J1] at h
      refine At.cond x63 (by kernel_rfl) (fun b64 => ?_) (fun b64 => ?_)
      · replace h := cond_t b64 h
        refine At.seq ?_
        refine At.rg [2] [] [] (by kernel_rfl) all0 (norm ?_)
        obtain ⟨r65, h, e66⟩ := map_inr h
        rw [f40 _ e66] at h
        obtain rfl := some_eq h
        exact At.ret fun a w hs => ret_ok hR (ρ := []) (gs := []) (by kernel_rfl) all0 (by kernel_rfl) rfl rfl a w hs _ (.inl rfl)
      · replace h := cond_f b64 h
        refine At.nr [0, 3] [] (by kernel_rfl) ?_
        refine At.skip (norm ?_)
        refine At.rg [0, 3] [] [] (by kernel_rfl) all0 (edq (l := []) (ks := [0, 3]) (ρ := []) (st' := ⟨[(0, sv p0), (3, i64 (w64 (x38 + 1)))], []⟩) (by kernel_rfl) (fun a w hs => ⟨_, (some_eq h).symm, hs⟩))
  · replace h := cond_f b42 h
    refine At.nr [0] [] (by kernel_rfl) ?_
    obtain ⟨r73, h, e74⟩ := map_inr h
    rw [f40 _ e74] at h
    refine At.exit (norm ?_)
    refine At.seqJ (S := Bool) (fun s => ⟨[(2, bo s)], []⟩) (fun s => F_retraceref08_Name_J2 s = some r) ?_ ?_
    · rcases tf (decide (1 ≤ (p0.size : Int))) with b80 | b80
      · replace h := cond_t b80 h
        rcases tf (decide ((p0.size : Int) ≤ 16)) with b81 | b81
        · replace h := cond_t b81 h
          obtain ⟨y82, hy82, h⟩ := bind_some h
          obtain ⟨y83, hy83, h⟩ := bind_some h
          refine At.rg [2] [] [(3, { orc := .val (.bool true) }), (8, { orc := .val (.bool true) }), (9, { pc := some { ρ := [0], n0 := 0, res := .row 0 (y82).length, σ' := [.row 9 1 (encL eStr y82)], e := [] } }), (11, { pc := some { ρ := [0], n0 := 1, res := bo y83, σ' := [.row 9 1 (encL eStr y82)], e := [0] } })] (by kernel_rfl) (allc (congrArg D.bool b80) (allc (congrArg D.bool b81) (allc (C_retraceref08_Words y82 hy82) (allc (C_retraceref08_In p0 y82 y83 hy83) all0)))) (edq (l := []) (ks := [2]) (ρ := []) (st' := ⟨[(2, bo (!y83))], []⟩) (by kernel_rfl) (fun a w hs => ⟨(!y83), h, hs⟩))
        · replace h := cond_f b81 h
          refine At.rg [2] [] [(3, { orc := .val (.bool true) }), (8, { orc := .val (.bool false) })] (by kernel_rfl) (allc (congrArg D.bool b80) (allc (congrArg D.bool b81) all0)) (edq (l := []) (ks := [2]) (ρ := []) (st' := ⟨[(2, bo false)], []⟩) (by kernel_rfl) (fun a w hs => ⟨false, h, hs⟩))
      · replace h := cond_f b80 h
        refine At.rg [2] [] [(3, { orc := .val (.bool false) })] (by kernel_rfl) (allc (congrArg D.bool b80) all0) (edq (l := []) (ks := [2]) (ρ := []) (st' := ⟨[(2, bo false)], []⟩) (by kernel_rfl) (fun a w hs => ⟨false, h, hs⟩))
    · intro x79 h
      replace h : F_retraceref08_Name_J2 x79 = some r := h
      rw [F_retraceref08_Name_J2] at h
      obtain rfl := some_eq h
      exact At.ret fun a w hs => ret_ok hR (ρ := []) (gs := []) (by kernel_rfl) all0 (by kernel_rfl) rfl rfl a w hs _ (.inl rfl)
set_option maxRecDepth 100000 in
theorem C_retraceref20_tables (p0 : T_api_Code) (r : Bool) (h : F_retraceref20_tables p0 = some r) : FnOK Tryz.prog 38 [.agg (T_api_Code.pvs p0)] [] (bo r) [] [] := by
  rw [F_retraceref20_tables] at h
  refine FnOK.intro Tryz.func38 rfl (by kernel_rfl) (by kernel_rfl) fun E gv R hR => ?_
  refine At.seq ?_
  refine At.rg [1] [0] [] (by kernel_rfl) all0 (norm ?_)
  refine At.seq ?_
  refine At.rg [1, 3] [0] [] (by kernel_rfl) all0 (norm ?_)
  refine At.seq ?_
  refine At.seqJ (S := Bool) (fun s => ⟨[(1, .ptr 0 0), (3, i64 ((p0.Defs).length : Int)), (44, bo s)], [.blk 26 (T_api_Code.pvs p0)]⟩) (fun s => F_retraceref20_tables_J1 p0 s = some r) ?_ ?_
  · rcases tf (decide (((p0.Defs).length : Int) < 1)) with b527 | b527
    · replace h := cond_t b527 h
      refine At.rg [1, 3, 44] [0] [(2, { orc := .val (.bool true) })] (by kernel_rfl) (allc (congrArg D.bool b527) all0) (edq (l := []) (ks := [1, 3, 44]) (ρ := [0]) (st' := ⟨[(1, .ptr 0 0), (3, i64 ((p0.Defs).length : Int)), (44, bo true)], [.blk 26 (T_api_Code.pvs p0)]⟩) (by kernel_rfl) (fun a w hs => ⟨true, h, hs⟩))
    · replace h := cond_f b527 h
      rcases tf (decide (32 < ((p0.Defs).length : Int))) with b528 | b528
      · replace h := cond_t b528 h
        refine At.rg [1, 3, 44] [0] [(2, { orc := .val (.bool false) }), (6, { orc := .val (.bool true) })] (by kernel_rfl) (allc (congrArg D.bool b527) (allc (congrArg D.bool b528) all0)) (edq (l := []) (ks := [1, 3, 44]) (ρ := [0]) (st' := ⟨[(1, .ptr 0 0), (3, i64 ((p0.Defs).length : Int)), (44, bo true)], [.blk 26 (T_api_Code.pvs p0)]⟩) (by kernel_rfl) (fun a w hs => ⟨true, h, hs⟩))
      · replace h := cond_f b528 h
        rcases tf (decide (65536 < ((p0.Ins).length : Int))) with b529 | b529
        · replace h := cond_t b529 h
          refine At.rg [1, 3, 44] [0] [(2, { orc := .val (.bool false) }), (6, { orc := .val (.bool false) }), (12, { orc := .val (.bool true) })] (by kernel_rfl) (allc (congrArg D.bool b527) (allc (congrArg D.bool b528) (allc (congrArg D.bool b529) all0))) (edq (l := []) (ks := [1, 3, 44]) (ρ := [0]) (st' := ⟨[(1, .ptr 0 0), (3, i64 ((p0.Defs).length : Int)), (44, bo true)], [.blk 26 (T_api_Code.pvs p0)]⟩) (by kernel_rfl) (fun a w hs => ⟨true, h, hs⟩))
        · replace h := cond_f b529 h
          rcases tf (decide (p0.Main < 0)) with b530 | b530
          · replace h := cond_t b530 h
            refine At.rg [1, 3, 44] [0] [(2, { orc := .val (.bool false) }), (6, { orc := .val (.bool false) }), (12, { orc := .val (.bool false) }), (17, { orc := .val (.bool true) })] (by kernel_rfl) (allc (congrArg D.bool b527) (allc (congrArg D.bool b528) (allc (congrArg D.bool b529) (allc (congrArg D.bool b530) all0)))) (edq (l := []) (ks := [1, 3, 44]) (ρ := [0]) (st' := ⟨[(1, .ptr 0 0), (3, i64 ((p0.Defs).length : Int)), (44, bo true)], [.blk 26 (T_api_Code.pvs p0)]⟩) (by kernel_rfl) (fun a w hs => ⟨true, h, hs⟩))
          · replace h := cond_f b530 h
            rcases tf (decide (((p0.Defs).length : Int) ≤ p0.Main)) with b531 | b531
            · replace h := cond_t b531 h
              refine At.rg [1, 3, 44] [0] [(2, { orc := .val (.bool false) }), (6, { orc := .val (.bool false) }), (12, { orc := .val (.bool false) }), (17, { orc := .val (.bool false) }), (23, { orc := .val (.bool true) })] (by kernel_rfl) (allc (congrArg D.bool b527) (allc (congrArg D.bool b528) (allc (congrArg D.bool b529) (allc (congrArg D.bool b530) (allc (congrArg D.bool b531) all0))))) (edq (l := []) (ks := [1, 3, 44]) (ρ := [0]) (st' := ⟨[(1, .ptr 0 0), (3, i64 ((p0.Defs).length : Int)), (44, bo true)], [.blk 26 (T_api_Code.pvs p0)]⟩) (by kernel_rfl) (fun a w hs => ⟨true, h, hs⟩))
            · replace h := cond_f b531 h
              obtain ⟨y532, hy532, h⟩ := bind_some h
              refine At.rg [1, 3, 44] [0] [(2, { orc := .val (.bool false) }), (6, { orc := .val (.bool false) }), (12, { orc := .val (.bool false) }), (17, { orc := .val (.bool false) }), (23, { orc := .val (.bool false) }), (28, { orc := .cells (T_api_Def.enc y532) })] (by kernel_rfl) (allc (congrArg D.bool b527) (allc (congrArg D.bool b528) (allc (congrArg D.bool b529) (allc (congrArg D.bool b530) (allc (congrArg D.bool b531) (allc (elemAt_of T_api_Def.enc_len hy532) all0)))))) (edq (l := []) (ks := [1, 3, 44]) (ρ := [0]) (st' := ⟨[(1, .ptr 0 0), (3, i64 ((p0.Defs).length : Int)), (44, bo (y532.Params != 0))], [.blk 26 (T_api_Code.pvs p0)]⟩) (by kernel_rfl) (fun a w hs => ⟨(y532.Params != 0), h, hs⟩))
  · intro x21 h
    replace h : F_retraceref20_tables_J1 p0 x21 = some r := h
    rw [F_retraceref20_tables_J1] at h
    refine At.cond x21 (by kernel_rfl) (fun b22 => ?_) (fun b22 => ?_)
    · replace h := cond_t b22 h
      refine At.seq ?_
      refine At.rg [2] [] [] (by kernel_rfl) all0 (norm ?_)
      obtain rfl := some_eq h
      exact At.ret fun a w hs => ret_ok hR (ρ := []) (gs := []) (by kernel_rfl) all0 (by kernel_rfl) rfl rfl a w hs _ (.inl rfl)
    · replace h := cond_f b22 h
      refine At.nr [1, 3] [0] (by kernel_rfl) ?_
      refine At.skip (norm ?_)
      refine At.seq ?_
      refine At.seq ?_
      refine At.rg [1, 3, 4] [0] [] (by kernel_rfl) all0 (norm ?_)
      refine At.block ?_
      refine At.nar [1, 3, 4] [0] (st' := ⟨[(1, .ptr 0 0), (3, i64 ((p0.Defs).length : Int)), (4, i64 0)], [.blk 26 (T_api_Code.pvs p0)]⟩) (by kernel_rfl) ?_
      refine At.loop (fun s : (Int) => F_retraceref20_tables_L7 p0 s) (fun s : (Int) => ⟨[(1, .ptr 0 0), (3, i64 ((p0.Defs).length : Int)), (4, i64 s)], [.blk 26 (T_api_Code.pvs p0)]⟩) r 0 h ?_
      intro x210 oo211 h f212
      replace h : F_retraceref20_tables_L7 p0 x210 = some oo211 := h
      rw [F_retraceref20_tables_L7] at h
      refine At.seq ?_
      refine At.seq ?_
      refine At.rg [1, 3, 4, 47] [0] [] (by kernel_rfl) all0 (norm ?_)
      refine At.cond (decide (x210 < ((p0.Defs).length : Int))) (by kernel_rfl) (fun b214 => ?_) (fun b214 => ?_)
      · replace h := cond_t b214 h
        refine At.nr [1, 3, 4] [0] (by kernel_rfl) ?_
        refine At.skip (norm ?_)
        refine At.seq ?_
        refine At.block ?_
        refine At.seq ?_
        obtain ⟨y304, hy304, h⟩ := bind_some h
        refine At.rg [1, 3, 4, 5] [0, 1] [(3, { orc := .cells (T_api_Def.enc y304) })] (by kernel_rfl) (allc (elemAt_of T_api_Def.enc_len hy304) all0) (norm ?_)
        refine At.seq ?_
        refine At.seqJ (S := Bool) (fun s => ⟨[(1, .ptr 0 0), (3, i64 ((p0.Defs).length : Int)), (4, i64 x210), (5, .ptr 1 0), (101, bo s)], [.blk 26 (T_api_Code.pvs p0), .blk 57 (T_api_Def.pvs y304)]⟩) (fun s => F_retraceref20_tables_J2 x210 y304 s = some oo211) ?_ ?_
        · rcases tf (!(y304.Name.toList == (⟨#[109, 97, 105, 110]⟩ : ByteArray).toList)) with b376 | b376
          · replace h := cond_t b376 h
            obtain ⟨y377, hy377, h⟩ := bind_some h
            rcases tf (!y377) with b378 | b378
            · replace h := cond_t b378 h
              refine At.dg mixedOrd 0 [1, 3, 4, 5, 101] [0, 1] [(0, { r := 2 }), (1, { T := [1], r := 2 }), (3, { tip := { orc := .val (.bool true) } }), (4, { r := 2 }), (5, { T := [1], r := 2 }), (6, { tip := { pc := some { ρ := [], n0 := 0, res := bo y377, σ' := [], e := [] } }, r := 2 }), (9, { tip := { orc := .val (.bool true) } }), (10, { r := 2 }), (15, { r := 2 }), (17, { r := 2 }), (19, { r := 2 }), (26, { r := 2 }), (35, { r := 2 }), (37, { r := 2 })] (by kernel_rfl) (allc (congrArg D.bool b376) (allc (C_retraceref08_Name y304.Name y377 hy377) (allc (congrArg D.bool b378) all0))) (edq (l := []) (ks := [1, 3, 4, 5, 101]) (ρ := [0, 1]) (st' := ⟨[(1, .ptr 0 0), (3, i64 ((p0.Defs).length : Int)), (4, i64 x210), (5, .ptr 1 0), (101, bo true)], [.blk 26 (T_api_Code.pvs p0), .blk 57 (T_api_Def.pvs y304)]⟩) (by kernel_rfl) (fun a w hs => ⟨true, h, hs⟩))
            · replace h := cond_f b378 h
              rcases tf (decide (y304.Entry < 0)) with b379 | b379
              · replace h := cond_t b379 h
                refine At.dg mixedOrd 0 [1, 3, 4, 5, 101] [0, 1] [(0, { r := 2 }), (1, { T := [1], r := 2 }), (3, { tip := { orc := .val (.bool true) } }), (4, { r := 2 }), (5, { T := [1], r := 2 }), (6, { tip := { pc := some { ρ := [], n0 := 0, res := bo y377, σ' := [], e := [] } }, r := 2 }), (9, { tip := { orc := .val (.bool false) } }), (10, { r := 2 }), (11, { T := [1], r := 2 }), (14, { tip := { orc := .val (.bool true) } }), (15, { r := 2 }), (17, { r := 2 }), (19, { r := 2 }), (26, { r := 2 }), (35, { r := 2 }), (37, { r := 2 })] (by kernel_rfl) (allc (congrArg D.bool b376) (allc (C_retraceref08_Name y304.Name y377 hy377) (allc (congrArg D.bool b378) (allc (congrArg D.bool b379) all0)))) (edq (l := []) (ks := [1, 3, 4, 5, 101]) (ρ := [0, 1]) (st' := ⟨[(1, .ptr 0 0), (3, i64 ((p0.Defs).length : Int)), (4, i64 x210), (5, .ptr 1 0), (101, bo true)], [.blk 26 (T_api_Code.pvs p0), .blk 57 (T_api_Def.pvs y304)]⟩) (by kernel_rfl) (fun a w hs => ⟨true, h, hs⟩))
              · replace h := cond_f b379 h
                rcases tf (decide (((p0.Ins).length : Int) ≤ y304.Entry)) with b380 | b380
                · replace h := cond_t b380 h
                  refine At.dg mixedOrd 0 [1, 3, 4, 5, 101] [0, 1] [(0, { r := 2 }), (1, { T := [1], r := 2 }), (3, { tip := { orc := .val (.bool true) } }), (4, { r := 2 }), (5, { T := [1], r := 2 }), (6, { tip := { pc := some { ρ := [], n0 := 0, res := bo y377, σ' := [], e := [] } }, r := 2 }), (9, { tip := { orc := .val (.bool false) } }), (10, { r := 2 }), (11, { T := [1], r := 2 }), (14, { tip := { orc := .val (.bool false) } }), (15, { r := 2 }), (16, { T := [1], r := 2 }), (17, { r := 2 }), (18, { T := [0], r := 2 }), (19, { r := 2 }), (22, { tip := { orc := .val (.bool true) } }), (26, { r := 2 }), (35, { r := 2 }), (37, { r := 2 })] (by kernel_rfl) (allc (congrArg D.bool b376) (allc (C_retraceref08_Name y304.Name y377 hy377) (allc (congrArg D.bool b378) (allc (congrArg D.bool b379) (allc (congrArg D.bool b380) all0))))) (edq (l := []) (ks := [1, 3, 4, 5, 101]) (ρ := [0, 1]) (st' := ⟨[(1, .ptr 0 0), (3, i64 ((p0.Defs).length : Int)), (4, i64 x210), (5, .ptr 1 0), (101, bo true)], [.blk 26 (T_api_Code.pvs p0), .blk 57 (T_api_Def.pvs y304)]⟩) (by kernel_rfl) (fun a w hs => ⟨true, h, hs⟩))
                · replace h := cond_f b380 h
                  rcases tf (x210 == 0) with b381 | b381
                  · replace h := cond_t b381 h
                    rcases tf (y304.Entry != 0) with b382 | b382
                    · replace h := cond_t b382 h
                      refine At.dg mixedOrd 0 [1, 3, 4, 5, 101] [0, 1] [(0, { r := 2 }), (1, { T := [1], r := 2 }), (3, { tip := { orc := .val (.bool true) } }), (4, { r := 2 }), (5, { T := [1], r := 2 }), (6, { tip := { pc := some { ρ := [], n0 := 0, res := bo y377, σ' := [], e := [] } }, r := 2 }), (9, { tip := { orc := .val (.bool false) } }), (10, { r := 2 }), (11, { T := [1], r := 2 }), (14, { tip := { orc := .val (.bool false) } }), (15, { r := 2 }), (16, { T := [1], r := 2 }), (17, { r := 2 }), (18, { T := [0], r := 2 }), (19, { r := 2 }), (22, { tip := { orc := .val (.bool false) } }), (25, { tip := { orc := .val (.bool true) } }), (26, { r := 2 }), (27, { T := [1], r := 2 }), (31, { tip := { orc := .val (.bool true) } }), (35, { r := 2 }), (37, { r := 2 })] (by kernel_rfl) (allc (congrArg D.bool b376) (allc (C_retraceref08_Name y304.Name y377 hy377) (allc (congrArg D.bool b378) (allc (congrArg D.bool b379) (allc (congrArg D.bool b380) (allc (congrArg D.bool b381) (allc (congrArg D.bool b382) all0))))))) (edq (l := []) (ks := [1, 3, 4, 5, 101]) (ρ := [0, 1]) (st' := ⟨[(1, .ptr 0 0), (3, i64 ((p0.Defs).length : Int)), (4, i64 x210), (5, .ptr 1 0), (101, bo true)], [.blk 26 (T_api_Code.pvs p0), .blk 57 (T_api_Def.pvs y304)]⟩) (by kernel_rfl) (fun a w hs => ⟨true, h, hs⟩))
                    · replace h := cond_f b382 h
                      rcases tf (decide (0 < x210)) with b383 | b383
                      · replace h := cond_t b383 h
                        obtain ⟨y384, hy384, h⟩ := bind_some h
                        refine At.dg mixedOrd 0 [1, 3, 4, 5, 101] [0, 1] [(0, { r := 2 }), (1, { T := [1], r := 2 }), (3, { tip := { orc := .val (.bool true) } }), (4, { r := 2 }), (5, { T := [1], r := 2 }), (6, { tip := { pc := some { ρ := [], n0 := 0, res := bo y377, σ' := [], e := [] } }, r := 2 }), (9, { tip := { orc := .val (.bool false) } }), (10, { r := 2 }), (11, { T := [1], r := 2 }), (14, { tip := { orc := .val (.bool false) } }), (15, { r := 2 }), (16, { T := [1], r := 2 }), (17, { r := 2 }), (18, { T := [0], r := 2 }), (19, { r := 2 }), (22, { tip := { orc := .val (.bool false) } }), (25, { tip := { orc := .val (.bool true) } }), (26, { r := 2 }), (27, { T := [1], r := 2 }), (31, { tip := { orc := .val (.bool false) } }), (34, { tip := { orc := .val (.bool true) } }), (35, { r := 2 }), (36, { T := [1], r := 2 }), (37, { r := 2 }), (38, { T := [0], r := 2 }), (41, { tip := { orc := .cells (T_api_Def.enc y384) } })] (by kernel_rfl) (allc (congrArg D.bool b376) (allc (C_retraceref08_Name y304.Name y377 hy377) (allc (congrArg D.bool b378) (allc (congrArg D.bool b379) (allc (congrArg D.bool b380) (allc (congrArg D.bool b381) (allc (congrArg D.bool b382) (allc (congrArg D.bool b383) (allc (elemAt_of T_api_Def.enc_len hy384) all0))))))))) (edq (l := []) (ks := [1, 3, 4, 5, 101]) (ρ := [0, 1]) (st' := ⟨[(1, .ptr 0 0), (3, i64 ((p0.Defs).length : Int)), (4, i64 x210), (5, .ptr 1 0), (101, bo (decide (y304.Entry ≤ y384.Entry)))], [.blk 26 (T_api_Code.pvs p0), .blk 57 (T_api_Def.pvs y304)]⟩) (by kernel_rfl) (fun a w hs => ⟨(decide (y304.Entry ≤ y384.Entry)), h, hs⟩))
                      · replace h := cond_f b383 h
                        refine At.dg mixedOrd 0 [1, 3, 4, 5, 101] [0, 1] [(0, { r := 2 }), (1, { T := [1], r := 2 }), (3, { tip := { orc := .val (.bool true) } }), (4, { r := 2 }), (5, { T := [1], r := 2 }), (6, { tip := { pc := some { ρ := [], n0 := 0, res := bo y377, σ' := [], e := [] } }, r := 2 }), (9, { tip := { orc := .val (.bool false) } }), (10, { r := 2 }), (11, { T := [1], r := 2 }), (14, { tip := { orc := .val (.bool false) } }), (15, { r := 2 }), (16, { T := [1], r := 2 }), (17, { r := 2 }), (18, { T := [0], r := 2 }), (19, { r := 2 }), (22, { tip := { orc := .val (.bool false) } }), (25, { tip := { orc := .val (.bool true) } }), (26, { r := 2 }), (27, { T := [1], r := 2 }), (31, { tip := { orc := .val (.bool false) } }), (34, { tip := { orc := .val (.bool false) } }), (35, { r := 2 }), (37, { r := 2 })] (by kernel_rfl) (allc (congrArg D.bool b376) (allc (C_retraceref08_Name y304.Name y377 hy377) (allc (congrArg D.bool b378) (allc (congrArg D.bool b379) (allc (congrArg D.bool b380) (allc (congrArg D.bool b381) (allc (congrArg D.bool b382) (allc (congrArg D.bool b383) all0)))))))) (edq (l := []) (ks := [1, 3, 4, 5, 101]) (ρ := [0, 1]) (st' := ⟨[(1, .ptr 0 0), (3, i64 ((p0.Defs).length : Int)), (4, i64 x210), (5, .ptr 1 0), (101, bo false)], [.blk 26 (T_api_Code.pvs p0), .blk 57 (T_api_Def.pvs y304)]⟩) (by kernel_rfl) (fun a w hs => ⟨false, h, hs⟩))
                  · replace h := cond_f b381 h
                    rcases tf (decide (0 < x210)) with b385 | b385
                    · replace h := cond_t b385 h
                      obtain ⟨y386, hy386, h⟩ := bind_some h
                      refine At.dg mixedOrd 0 [1, 3, 4, 5, 101] [0, 1] [(0, { r := 2 }), (1, { T := [1], r := 2 }), (3, { tip := { orc := .val (.bool true) } }), (4, { r := 2 }), (5, { T := [1], r := 2 }), (6, { tip := { pc := some { ρ := [], n0 := 0, res := bo y377, σ' := [], e := [] } }, r := 2 }), (9, { tip := { orc := .val (.bool false) } }), (10, { r := 2 }), (11, { T := [1], r := 2 }), (14, { tip := { orc := .val (.bool false) } }), (15, { r := 2 }), (16, { T := [1], r := 2 }), (17, { r := 2 }), (18, { T := [0], r := 2 }), (19, { r := 2 }), (22, { tip := { orc := .val (.bool false) } }), (25, { tip := { orc := .val (.bool false) } }), (26, { r := 2 }), (34, { tip := { orc := .val (.bool true) } }), (35, { r := 2 }), (36, { T := [1], r := 2 }), (37, { r := 2 }), (38, { T := [0], r := 2 }), (41, { tip := { orc := .cells (T_api_Def.enc y386) } })] (by kernel_rfl) (allc (congrArg D.bool b376) (allc (C_retraceref08_Name y304.Name y377 hy377) (allc (congrArg D.bool b378) (allc (congrArg D.bool b379) (allc (congrArg D.bool b380) (allc (congrArg D.bool b381) (allc (congrArg D.bool b385) (allc (elemAt_of T_api_Def.enc_len hy386) all0)))))))) (edq (l := []) (ks := [1, 3, 4, 5, 101]) (ρ := [0, 1]) (st' := ⟨[(1, .ptr 0 0), (3, i64 ((p0.Defs).length : Int)), (4, i64 x210), (5, .ptr 1 0), (101, bo (decide (y304.Entry ≤ y386.Entry)))], [.blk 26 (T_api_Code.pvs p0), .blk 57 (T_api_Def.pvs y304)]⟩) (by kernel_rfl) (fun a w hs => ⟨(decide (y304.Entry ≤ y386.Entry)), h, hs⟩))
                    · replace h := cond_f b385 h
                      refine At.dg mixedOrd 0 [1, 3, 4, 5, 101] [0, 1] [(0, { r := 2 }), (1, { T := [1], r := 2 }), (3, { tip := { orc := .val (.bool true) } }), (4, { r := 2 }), (5, { T := [1], r := 2 }), (6, { tip := { pc := some { ρ := [], n0 := 0, res := bo y377, σ' := [], e := [] } }, r := 2 }), (9, { tip := { orc := .val (.bool false) } }), (10, { r := 2 }), (11, { T := [1], r := 2 }), (14, { tip := { orc := .val (.bool false) } }), (15, { r := 2 }), (16, { T := [1], r := 2 }), (17, { r := 2 }), (18, { T := [0], r := 2 }), (19, { r := 2 }), (22, { tip := { orc := .val (.bool false) } }), (25, { tip := { orc := .val (.bool false) } }), (26, { r := 2 }), (34, { tip := { orc := .val (.bool false) } }), (35, { r := 2 }), (37, { r := 2 })] (by kernel_rfl) (allc (congrArg D.bool b376) (allc (C_retraceref08_Name y304.Name y377 hy377) (allc (congrArg D.bool b378) (allc (congrArg D.bool b379) (allc (congrArg D.bool b380) (allc (congrArg D.bool b381) (allc (congrArg D.bool b385) all0))))))) (edq (l := []) (ks := [1, 3, 4, 5, 101]) (ρ := [0, 1]) (st' := ⟨[(1, .ptr 0 0), (3, i64 ((p0.Defs).length : Int)), (4, i64 x210), (5, .ptr 1 0), (101, bo false)], [.blk 26 (T_api_Code.pvs p0), .blk 57 (T_api_Def.pvs y304)]⟩) (by kernel_rfl) (fun a w hs => ⟨false, h, hs⟩))
          · replace h := cond_f b376 h
            rcases tf (decide (y304.Entry < 0)) with b387 | b387
            · replace h := cond_t b387 h
              refine At.dg mixedOrd 0 [1, 3, 4, 5, 101] [0, 1] [(0, { r := 2 }), (1, { T := [1], r := 2 }), (3, { tip := { orc := .val (.bool false) } }), (4, { r := 2 }), (6, { r := 2 }), (10, { r := 2 }), (11, { T := [1], r := 2 }), (14, { tip := { orc := .val (.bool true) } }), (15, { r := 2 }), (17, { r := 2 }), (19, { r := 2 }), (26, { r := 2 }), (35, { r := 2 }), (37, { r := 2 })] (by kernel_rfl) (allc (congrArg D.bool b376) (allc (congrArg D.bool b387) all0)) (edq (l := []) (ks := [1, 3, 4, 5, 101]) (ρ := [0, 1]) (st' := ⟨[(1, .ptr 0 0), (3, i64 ((p0.Defs).length : Int)), (4, i64 x210), (5, .ptr 1 0), (101, bo true)], [.blk 26 (T_api_Code.pvs p0), .blk 57 (T_api_Def.pvs y304)]⟩) (by kernel_rfl) (fun a w hs => ⟨true, h, hs⟩))
            · replace h := cond_f b387 h
              rcases tf (decide (((p0.Ins).length : Int) ≤ y304.Entry)) with b388 | b388
              · replace h := cond_t b388 h
                refine At.dg mixedOrd 0 [1, 3, 4, 5, 101] [0, 1] [(0, { r := 2 }), (1, { T := [1], r := 2 }), (3, { tip := { orc := .val (.bool false) } }), (4, { r := 2 }), (6, { r := 2 }), (10, { r := 2 }), (11, { T := [1], r := 2 }), (14, { tip := { orc := .val (.bool false) } }), (15, { r := 2 }), (16, { T := [1], r := 2 }), (17, { r := 2 }), (18, { T := [0], r := 2 }), (19, { r := 2 }), (22, { tip := { orc := .val (.bool true) } }), (26, { r := 2 }), (35, { r := 2 }), (37, { r := 2 })] (by kernel_rfl) (allc (congrArg D.bool b376) (allc (congrArg D.bool b387) (allc (congrArg D.bool b388) all0))) (edq (l := []) (ks := [1, 3, 4, 5, 101]) (ρ := [0, 1]) (st' := ⟨[(1, .ptr 0 0), (3, i64 ((p0.Defs).length : Int)), (4, i64 x210), (5, .ptr 1 0), (101, bo true)], [.blk 26 (T_api_Code.pvs p0), .blk 57 (T_api_Def.pvs y304)]⟩) (by kernel_rfl) (fun a w hs => ⟨true, h, hs⟩))
              · replace h := cond_f b388 h
                rcases tf (x210 == 0) with b389 | b389
                · replace h := cond_t b389 h
                  rcases tf (y304.Entry != 0) with b390 | b390
                  · replace h := cond_t b390 h
                    refine At.dg mixedOrd 0 [1, 3, 4, 5, 101] [0, 1] [(0, { r := 2 }), (1, { T := [1], r := 2 }), (3, { tip := { orc := .val (.bool false) } }), (4, { r := 2 }), (6, { r := 2 }), (10, { r := 2 }), (11, { T := [1], r := 2 }), (14, { tip := { orc := .val (.bool false) } }), (15, { r := 2 }), (16, { T := [1], r := 2 }), (17, { r := 2 }), (18, { T := [0], r := 2 }), (19, { r := 2 }), (22, { tip := { orc := .val (.bool false) } }), (25, { tip := { orc := .val (.bool true) } }), (26, { r := 2 }), (27, { T := [1], r := 2 }), (31, { tip := { orc := .val (.bool true) } }), (35, { r := 2 }), (37, { r := 2 })] (by kernel_rfl) (allc (congrArg D.bool b376) (allc (congrArg D.bool b387) (allc (congrArg D.bool b388) (allc (congrArg D.bool b389) (allc (congrArg D.bool b390) all0))))) (edq (l := []) (ks := [1, 3, 4, 5, 101]) (ρ := [0, 1]) (st' := ⟨[(1, .ptr 0 0), (3, i64 ((p0.Defs).length : Int)), (4, i64 x210), (5, .ptr 1 0), (101, bo true)], [.blk 26 (T_api_Code.pvs p0), .blk 57 (T_api_Def.pvs y304)]⟩) (by kernel_rfl) (fun a w hs => ⟨true, h, hs⟩))
                  · replace h := cond_f b390 h
                    rcases tf (decide (0 < x210)) with b391 | b391
                    · replace h := cond_t b391 h
                      obtain ⟨y392, hy392, h⟩ := bind_some h
                      refine At.dg mixedOrd 0 [1, 3, 4, 5, 101] [0, 1] [(0, { r := 2 }), (1, { T := [1], r := 2 }), (3, { tip := { orc := .val (.bool false) } }), (4, { r := 2 }), (6, { r := 2 }), (10, { r := 2 }), (11, { T := [1], r := 2 }), (14, { tip := { orc := .val (.bool false) } }), (15, { r := 2 }), (16, { T := [1], r := 2 }), (17, { r := 2 }), (18, { T := [0], r := 2 }), (19, { r := 2 }), (22, { tip := { orc := .val (.bool false) } }), (25, { tip := { orc := .val (.bool true) } }), (26, { r := 2 }), (27, { T := [1], r := 2 }), (31, { tip := { orc := .val (.bool false) } }), (34, { tip := { orc := .val (.bool true) } }), (35, { r := 2 }), (36, { T := [1], r := 2 }), (37, { r := 2 }), (38, { T := [0], r := 2 }), (41, { tip := { orc := .cells (T_api_Def.enc y392) } })] (by kernel_rfl) (allc (congrArg D.bool b376) (allc (congrArg D.bool b387) (allc (congrArg D.bool b388) (allc (congrArg D.bool b389) (allc (congrArg D.bool b390) (allc (congrArg D.bool b391) (allc (elemAt_of T_api_Def.enc_len hy392) all0))))))) (edq (l := []) (ks := [1, 3, 4, 5, 101]) (ρ := [0, 1]) (st' := ⟨[(1, .ptr 0 0), (3, i64 ((p0.Defs).length : Int)), (4, i64 x210), (5, .ptr 1 0), (101, bo (decide (y304.Entry ≤ y392.Entry)))], [.blk 26 (T_api_Code.pvs p0), .blk 57 (T_api_Def.pvs y304)]⟩) (by kernel_rfl) (fun a w hs => ⟨(decide (y304.Entry ≤ y392.Entry)), h, hs⟩))
                    · replace h := cond_f b391 h
                      refine At.dg mixedOrd 0 [1, 3, 4, 5, 101] [0, 1] [(0, { r := 2 }), (1, { T := [1], r := 2 }), (3, { tip := { orc := .val (.bool false) } }), (4, { r := 2 }), (6, { r := 2 }), (10, { r := 2 }), (11, { T := [1], r := 2 }), (14, { tip := { orc := .val (.bool false) } }), (15, { r := 2 }), (16, { T := [1], r := 2 }), (17, { r := 2 }), (18, { T := [0], r := 2 }), (19, { r := 2 }), (22, { tip := { orc := .val (.bool false) } }), (25, { tip := { orc := .val (.bool true) } }), (26, { r := 2 }), (27, { T := [1], r := 2 }), (31, { tip := { orc := .val (.bool false) } }), (34, { tip := { orc := .val (.bool false) } }), (35, { r := 2 }), (37, { r := 2 })] (by kernel_rfl) (allc (congrArg D.bool b376) (allc (congrArg D.bool b387) (allc (congrArg D.bool b388) (allc (congrArg D.bool b389) (allc (congrArg D.bool b390) (allc (congrArg D.bool b391) all0)))))) (edq (l := []) (ks := [1, 3, 4, 5, 101]) (ρ := [0, 1]) (st' := ⟨[(1, .ptr 0 0), (3, i64 ((p0.Defs).length : Int)), (4, i64 x210), (5, .ptr 1 0), (101, bo false)], [.blk 26 (T_api_Code.pvs p0), .blk 57 (T_api_Def.pvs y304)]⟩) (by kernel_rfl) (fun a w hs => ⟨false, h, hs⟩))
                · replace h := cond_f b389 h
                  rcases tf (decide (0 < x210)) with b393 | b393
                  · replace h := cond_t b393 h
                    obtain ⟨y394, hy394, h⟩ := bind_some h
                    refine At.dg mixedOrd 0 [1, 3, 4, 5, 101] [0, 1] [(0, { r := 2 }), (1, { T := [1], r := 2 }), (3, { tip := { orc := .val (.bool false) } }), (4, { r := 2 }), (6, { r := 2 }), (10, { r := 2 }), (11, { T := [1], r := 2 }), (14, { tip := { orc := .val (.bool false) } }), (15, { r := 2 }), (16, { T := [1], r := 2 }), (17, { r := 2 }), (18, { T := [0], r := 2 }), (19, { r := 2 }), (22, { tip := { orc := .val (.bool false) } }), (25, { tip := { orc := .val (.bool false) } }), (26, { r := 2 }), (34, { tip := { orc := .val (.bool true) } }), (35, { r := 2 }), (36, { T := [1], r := 2 }), (37, { r := 2 }), (38, { T := [0], r := 2 }), (41, { tip := { orc := .cells (T_api_Def.enc y394) } })] (by kernel_rfl) (allc (congrArg D.bool b376) (allc (congrArg D.bool b387) (allc (congrArg D.bool b388) (allc (congrArg D.bool b389) (allc (congrArg D.bool b393) (allc (elemAt_of T_api_Def.enc_len hy394) all0)))))) (edq (l := []) (ks := [1, 3, 4, 5, 101]) (ρ := [0, 1]) (st' := ⟨[(1, .ptr 0 0), (3, i64 ((p0.Defs).length : Int)), (4, i64 x210), (5, .ptr 1 0), (101, bo (decide (y304.Entry ≤ y394.Entry)))], [.blk 26 (T_api_Code.pvs p0), .blk 57 (T_api_Def.pvs y304)]⟩) (by kernel_rfl) (fun a w hs => ⟨(decide (y304.Entry ≤ y394.Entry)), h, hs⟩))
                  · replace h := cond_f b393 h
                    refine At.dg mixedOrd 0 [1, 3, 4, 5, 101] [0, 1] [(0, { r := 2 }), (1, { T := [1], r := 2 }), (3, { tip := { orc := .val (.bool false) } }), (4, { r := 2 }), (6, { r := 2 }), (10, { r := 2 }), (11, { T := [1], r := 2 }), (14, { tip := { orc := .val (.bool false) } }), (15, { r := 2 }), (16, { T := [1], r := 2 }), (17, { r := 2 }), (18, { T := [0], r := 2 }), (19, { r := 2 }), (22, { tip := { orc := .val (.bool false) } }), (25, { tip := { orc := .val (.bool false) } }), (26, { r := 2 }), (34, { tip := { orc := .val (.bool false) } }), (35, { r := 2 }), (37, { r := 2 })] (by kernel_rfl) (allc (congrArg D.bool b376) (allc (congrArg D.bool b387) (allc (congrArg D.bool b388) (allc (congrArg D.bool b389) (allc (congrArg D.bool b393) all0))))) (edq (l := []) (ks := [1, 3, 4, 5, 101]) (ρ := [0, 1]) (st' := ⟨[(1, .ptr 0 0), (3, i64 ((p0.Defs).length : Int)), (4, i64 x210), (5, .ptr 1 0), (101, bo false)], [.blk 26 (T_api_Code.pvs p0), .blk 57 (T_api_Def.pvs y304)]⟩) (by kernel_rfl) (fun a w hs => ⟨false, h, hs⟩))
        · intro x364 h
          replace h : F_retraceref20_tables_J2 x210 y304 x364 = some oo211 := h
          rw [F_retraceref20_tables_J2] at h
          refine At.cond x364 (by kernel_rfl) (fun b365 => ?_) (fun b365 => ?_)
          · replace h := cond_t b365 h
            refine At.seq ?_
            refine At.rg [2] [] [] (by kernel_rfl) all0 (norm ?_)
            obtain ⟨r366, h, e367⟩ := map_inr h
            rw [f212 _ e367] at h
            obtain rfl := some_eq h
            exact At.ret fun a w hs => ret_ok hR (ρ := []) (gs := []) (by kernel_rfl) all0 (by kernel_rfl) rfl rfl a w hs _ (.inl rfl)
          · replace h := cond_f b365 h
            refine At.nr [1, 3, 4, 5] [0, 1] (by kernel_rfl) ?_
            refine At.skip (norm ?_)
            refine At.seqJ (S := Bool) (fun s => ⟨[(1, .ptr 0 0), (3, i64 ((p0.Defs).length : Int)), (4, i64 x210), (116, bo s)], [.blk 26 (T_api_Code.pvs p0)]⟩) (fun s => F_retraceref20_tables_J3 x210 s = some oo211) ?_ ?_
            · rcases tf (decide (y304.Params < 0)) with b374 | b374
              · replace h := cond_t b374 h
                refine At.rg [1, 3, 4, 116] [0] [(3, { orc := .val (.bool true) })] (by kernel_rfl) (allc (congrArg D.bool b374) all0) (edq (l := []) (ks := [1, 3, 4, 116]) (ρ := [0]) (st' := ⟨[(1, .ptr 0 0), (3, i64 ((p0.Defs).length : Int)), (4, i64 x210), (116, bo true)], [.blk 26 (T_api_Code.pvs p0)]⟩) (by kernel_rfl) (fun a w hs => ⟨true, h, hs⟩))
              · replace h := cond_f b374 h
                rcases tf (decide (y304.Vars < y304.Params)) with b375 | b375
                · replace h := cond_t b375 h
                  refine At.rg [1, 3, 4, 116] [0] [(3, { orc := .val (.bool false) }), (10, { orc := .val (.bool true) })] (by kernel_rfl) (allc (congrArg D.bool b374) (allc (congrArg D.bool b375) all0)) (edq (l := []) (ks := [1, 3, 4, 116]) (ρ := [0]) (st' := ⟨[(1, .ptr 0 0), (3, i64 ((p0.Defs).length : Int)), (4, i64 x210), (116, bo true)], [.blk 26 (T_api_Code.pvs p0)]⟩) (by kernel_rfl) (fun a w hs => ⟨true, h, hs⟩))
                · replace h := cond_f b375 h
                  refine At.rg [1, 3, 4, 116] [0] [(3, { orc := .val (.bool false) }), (10, { orc := .val (.bool false) })] (by kernel_rfl) (allc (congrArg D.bool b374) (allc (congrArg D.bool b375) all0)) (edq (l := []) (ks := [1, 3, 4, 116]) (ρ := [0]) (st' := ⟨[(1, .ptr 0 0), (3, i64 ((p0.Defs).length : Int)), (4, i64 x210), (116, bo (decide (16 < y304.Vars)))], [.blk 26 (T_api_Code.pvs p0)]⟩) (by kernel_rfl) (fun a w hs => ⟨(decide (16 < y304.Vars)), h, hs⟩))
            · intro x370 h
              replace h : F_retraceref20_tables_J3 x210 x370 = some oo211 := h
              rw [F_retraceref20_tables_J3] at h
              refine At.cond x370 (by kernel_rfl) (fun b371 => ?_) (fun b371 => ?_)
              · replace h := cond_t b371 h
                refine At.seq ?_
                refine At.rg [2] [] [] (by kernel_rfl) all0 (norm ?_)
                obtain ⟨r372, h, e373⟩ := map_inr h
                rw [f212 _ e373] at h
                obtain rfl := some_eq h
                exact At.ret fun a w hs => ret_ok hR (ρ := []) (gs := []) (by kernel_rfl) all0 (by kernel_rfl) rfl rfl a w hs _ (.inl rfl)
              · replace h := cond_f b371 h
                refine At.nr [1, 3, 4] [0] (by kernel_rfl) ?_
                refine At.skip (norm ?_)
                refine At.rg [1, 3, 4] [0] [] (by kernel_rfl) all0 (edq (l := []) (ks := [1, 3, 4]) (ρ := [0]) (st' := ⟨[(1, .ptr 0 0), (3, i64 ((p0.Defs).length : Int)), (4, i64 (w64 (x210 + 1)))], [.blk 26 (T_api_Code.pvs p0)]⟩) (by kernel_rfl) (fun a w hs => ⟨_, (some_eq h).symm, hs⟩))
      · replace h := cond_f b214 h
        refine At.nr [1] [0] (by kernel_rfl) ?_
        obtain ⟨r395, h, e396⟩ := map_inr h
        rw [f212 _ e396] at h
        refine At.exit (norm ?_)
        refine At.seq ?_
        refine At.rg [1, 6] [0] [] (by kernel_rfl) all0 (norm ?_)
        refine At.seq ?_
        refine At.seq ?_
        refine At.rg [1, 6, 7] [0] [] (by kernel_rfl) all0 (norm ?_)
        refine At.block ?_
        refine At.nar [1, 6, 7] [0] (st' := ⟨[(1, .ptr 0 0), (6, i64 0), (7, i64 0)], [.blk 26 (T_api_Code.pvs p0)]⟩) (by kernel_rfl) ?_
        refine At.loop (fun s : (Int × Int) => F_retraceref20_tables_L6 p0 s.1 s.2) (fun s : (Int × Int) => ⟨[(1, .ptr 0 0), (6, i64 s.1), (7, i64 s.2)], [.blk 26 (T_api_Code.pvs p0)]⟩) r (0, 0) h ?_
        rintro ⟨x462, x463⟩ oo464 h f465
        replace h : F_retraceref20_tables_L6 p0 x462 x463 = some oo464 := h
        rw [F_retraceref20_tables_L6] at h
        refine At.seq ?_
        refine At.seq ?_
        refine At.rg [1, 6, 7, 121] [0] [] (by kernel_rfl) all0 (norm ?_)
        refine At.cond (decide (x463 < ((p0.Chans).length : Int))) (by kernel_rfl) (fun b467 => ?_) (fun b467 => ?_)
        · replace h := cond_t b467 h
          refine At.nr [1, 6, 7] [0] (by kernel_rfl) ?_
          refine At.skip (norm ?_)
          refine At.seqJ (S := Int) (fun s => ⟨[(1, .ptr 0 0), (6, i64 s), (7, i64 x463)], [.blk 26 (T_api_Code.pvs p0)]⟩) (fun s => F_retraceref20_tables_J4 x463 s = some oo464) ?_ ?_
          · refine At.block ?_
            refine At.seq ?_
            obtain ⟨y497, hy497, h⟩ := bind_some h
            refine At.rg [1, 6, 7, 8] [0, 1] [(3, { orc := .cells (T_api_Chan.enc y497) })] (by kernel_rfl) (allc (elemAt_of T_api_Chan.enc_len hy497) all0) (norm ?_)
            refine At.seq ?_
            refine At.seqJ (S := Bool) (fun s => ⟨[(1, .ptr 0 0), (6, i64 x462), (7, i64 x463), (8, .ptr 1 0), (152, bo s)], [.blk 26 (T_api_Code.pvs p0), .blk 65 (T_api_Chan.pvs y497)]⟩) (fun s => F_retraceref20_tables_J5 x462 x463 y497 s = some oo464) ?_ ?_
            · obtain ⟨y520, hy520, h⟩ := bind_some h
              rcases tf (!y520) with b521 | b521
              · replace h := cond_t b521 h
                refine At.rg [1, 6, 7, 8, 152] [0, 1] [(2, { pc := some { ρ := [], n0 := 0, res := bo y520, σ' := [], e := [] } }), (4, { orc := .val (.bool true) })] (by kernel_rfl) (allc (C_retraceref08_Name y497.Name y520 hy520) (allc (congrArg D.bool b521) all0)) (edq (l := []) (ks := [1, 6, 7, 8, 152]) (ρ := [0, 1]) (st' := ⟨[(1, .ptr 0 0), (6, i64 x462), (7, i64 x463), (8, .ptr 1 0), (152, bo true)], [.blk 26 (T_api_Code.pvs p0), .blk 65 (T_api_Chan.pvs y497)]⟩) (by kernel_rfl) (fun a w hs => ⟨true, h, hs⟩))
              · replace h := cond_f b521 h
                rcases tf (decide (y497.Size < 0)) with b522 | b522
                · replace h := cond_t b522 h
                  refine At.rg [1, 6, 7, 8, 152] [0, 1] [(2, { pc := some { ρ := [], n0 := 0, res := bo y520, σ' := [], e := [] } }), (4, { orc := .val (.bool false) }), (9, { orc := .val (.bool true) })] (by kernel_rfl) (allc (C_retraceref08_Name y497.Name y520 hy520) (allc (congrArg D.bool b521) (allc (congrArg D.bool b522) all0))) (edq (l := []) (ks := [1, 6, 7, 8, 152]) (ρ := [0, 1]) (st' := ⟨[(1, .ptr 0 0), (6, i64 x462), (7, i64 x463), (8, .ptr 1 0), (152, bo true)], [.blk 26 (T_api_Code.pvs p0), .blk 65 (T_api_Chan.pvs y497)]⟩) (by kernel_rfl) (fun a w hs => ⟨true, h, hs⟩))
                · replace h := cond_f b522 h
                  rcases tf (decide (16 < y497.Size)) with b523 | b523
                  · replace h := cond_t b523 h
                    refine At.rg [1, 6, 7, 8, 152] [0, 1] [(2, { pc := some { ρ := [], n0 := 0, res := bo y520, σ' := [], e := [] } }), (4, { orc := .val (.bool false) }), (9, { orc := .val (.bool false) }), (14, { orc := .val (.bool true) })] (by kernel_rfl) (allc (C_retraceref08_Name y497.Name y520 hy520) (allc (congrArg D.bool b521) (allc (congrArg D.bool b522) (allc (congrArg D.bool b523) all0)))) (edq (l := []) (ks := [1, 6, 7, 8, 152]) (ρ := [0, 1]) (st' := ⟨[(1, .ptr 0 0), (6, i64 x462), (7, i64 x463), (8, .ptr 1 0), (152, bo true)], [.blk 26 (T_api_Code.pvs p0), .blk 65 (T_api_Chan.pvs y497)]⟩) (by kernel_rfl) (fun a w hs => ⟨true, h, hs⟩))
                  · replace h := cond_f b523 h
                    rcases tf (y497.Base != x462) with b524 | b524
                    · replace h := cond_t b524 h
                      refine At.rg [1, 6, 7, 8, 152] [0, 1] [(2, { pc := some { ρ := [], n0 := 0, res := bo y520, σ' := [], e := [] } }), (4, { orc := .val (.bool false) }), (9, { orc := .val (.bool false) }), (14, { orc := .val (.bool false) }), (20, { orc := .val (.bool true) })] (by kernel_rfl) (allc (C_retraceref08_Name y497.Name y520 hy520) (allc (congrArg D.bool b521) (allc (congrArg D.bool b522) (allc (congrArg D.bool b523) (allc (congrArg D.bool b524) all0))))) (edq (l := []) (ks := [1, 6, 7, 8, 152]) (ρ := [0, 1]) (st' := ⟨[(1, .ptr 0 0), (6, i64 x462), (7, i64 x463), (8, .ptr 1 0), (152, bo true)], [.blk 26 (T_api_Code.pvs p0), .blk 65 (T_api_Chan.pvs y497)]⟩) (by kernel_rfl) (fun a w hs => ⟨true, h, hs⟩))
                    · replace h := cond_f b524 h
                      refine At.rg [1, 6, 7, 8, 152] [0, 1] [(2, { pc := some { ρ := [], n0 := 0, res := bo y520, σ' := [], e := [] } }), (4, { orc := .val (.bool false) }), (9, { orc := .val (.bool false) }), (14, { orc := .val (.bool false) }), (20, { orc := .val (.bool false) })] (by kernel_rfl) (allc (C_retraceref08_Name y497.Name y520 hy520) (allc (congrArg D.bool b521) (allc (congrArg D.bool b522) (allc (congrArg D.bool b523) (allc (congrArg D.bool b524) all0))))) (edq (l := []) (ks := [1, 6, 7, 8, 152]) (ρ := [0, 1]) (st' := ⟨[(1, .ptr 0 0), (6, i64 x462), (7, i64 x463), (8, .ptr 1 0), (152, bo (decide (64 ≤ x462)))], [.blk 26 (T_api_Code.pvs p0), .blk 65 (T_api_Chan.pvs y497)]⟩) (by kernel_rfl) (fun a w hs => ⟨(decide (64 ≤ x462)), h, hs⟩))
            · intro x515 h
              replace h : F_retraceref20_tables_J5 x462 x463 y497 x515 = some oo464 := h
              rw [F_retraceref20_tables_J5] at h
              refine At.cond x515 (by kernel_rfl) (fun b516 => ?_) (fun b516 => ?_)
              · replace h := cond_t b516 h
                refine At.seq ?_
                refine At.rg [2] [] [] (by kernel_rfl) all0 (norm ?_)
                obtain ⟨r517, h, e518⟩ := map_inr h
                rw [f465 _ e518] at h
                obtain rfl := some_eq h
                exact At.ret fun a w hs => ret_ok hR (ρ := []) (gs := []) (by kernel_rfl) all0 (by kernel_rfl) rfl rfl a w hs _ (.inl rfl)
              · replace h := cond_f b516 h
                refine At.nr [1, 6, 7, 8] [0, 1] (by kernel_rfl) ?_
                refine At.skip (norm ?_)
                refine At.seq ?_
                refine At.rg [1, 6, 7, 8] [0, 1] [] (by kernel_rfl) all0 (norm ?_)
                refine At.seq ?_
                refine At.rg [1, 6, 7, 159] [0] [] (by kernel_rfl) all0 (norm ?_)
                refine At.cond (y497.Size == 0) (by kernel_rfl) (fun b519 => ?_) (fun b519 => ?_)
                · replace h := cond_t b519 h
                  refine At.rg [1, 6, 7] [0] [] (by kernel_rfl) all0 (edq (l := []) (ks := [1, 6, 7]) (ρ := [0]) (st' := ⟨[(1, .ptr 0 0), (6, i64 (w64 ((w64 (x462 + y497.Size)) + 1))), (7, i64 x463)], [.blk 26 (T_api_Code.pvs p0)]⟩) (by kernel_rfl) (fun a w hs => ⟨(w64 ((w64 (x462 + y497.Size)) + 1)), h, hs⟩))
                · replace h := cond_f b519 h
                  refine At.nr [1, 6, 7] [0] (by kernel_rfl) ?_
                  refine At.skip (edq (l := []) (ks := [1, 6, 7]) (ρ := [0]) (st' := ⟨[(1, .ptr 0 0), (6, i64 (w64 (x462 + y497.Size))), (7, i64 x463)], [.blk 26 (T_api_Code.pvs p0)]⟩) (by kernel_rfl) (fun a w hs => ⟨(w64 (x462 + y497.Size)), h, hs⟩))
          · intro x495 h
            replace h : F_retraceref20_tables_J4 x463 x495 = some oo464 := h
            rw [F_retraceref20_tables_J4] at h
            refine At.rg [1, 6, 7] [0] [] (by kernel_rfl) all0 (edq (l := []) (ks := [1, 6, 7]) (ρ := [0]) (st' := ⟨[(1, .ptr 0 0), (6, i64 x495), (7, i64 (w64 (x463 + 1)))], [.blk 26 (T_api_Code.pvs p0)]⟩) (by kernel_rfl) (fun a w hs => ⟨_, (some_eq h).symm, hs⟩))
        · replace h := cond_f b467 h
          refine At.nr [6] [] (by kernel_rfl) ?_
          obtain ⟨r525, h, e526⟩ := map_inr h
          rw [f465 _ e526] at h
          refine At.exit (norm ?_)
          refine At.seq ?_
          refine At.rg [2] [] [] (by kernel_rfl) all0 (norm ?_)
          obtain rfl := some_eq h
          exact At.ret fun a w hs => ret_ok hR (ρ := []) (gs := []) (by kernel_rfl) all0 (by kernel_rfl) rfl rfl a w hs _ (.inl rfl)
set_option maxRecDepth 100000 in
theorem C_retraceref20_To (p0 : T_api_Code) (p1 : Int) (r : Int) (h : F_retraceref20_To p0 p1 = some r) : FnOK Tryz.prog 39 [.agg (T_api_Code.pvs p0), i64 p1] [] (i64 r) [] [] := by
  rw [F_retraceref20_To] at h
  refine FnOK.intro Tryz.func39 rfl (by kernel_rfl) (by kernel_rfl) fun E gv R hR => ?_
  refine At.seq ?_
  refine At.rg [1, 2] [0] [] (by kernel_rfl) all0 (norm ?_)
  refine At.seq ?_
  refine At.seq ?_
  refine At.rg [1, 2, 10] [0] [] (by kernel_rfl) all0 (norm ?_)
  refine At.cond (decide ((w64 (p1 + 1)) < ((p0.Defs).length : Int))) (by kernel_rfl) (fun b4 => ?_) (fun b4 => ?_)
  · replace h := cond_t b4 h
    refine At.seq ?_
    obtain ⟨y6, hy6, h⟩ := bind_some h
    refine At.rg [4] [] [(4, { orc := .cells (T_api_Def.enc y6) })] (by kernel_rfl) (allc (elemAt_of T_api_Def.enc_len hy6) all0) (norm ?_)
    obtain rfl := some_eq h
    exact At.ret fun a w hs => ret_ok hR (ρ := []) (gs := []) (by kernel_rfl) all0 (by kernel_rfl) rfl rfl a w hs _ (.inl rfl)
  · replace h := cond_f b4 h
    refine At.nr [2] [0] (by kernel_rfl) ?_
    refine At.skip (norm ?_)
    refine At.seq ?_
    refine At.rg [4] [] [] (by kernel_rfl) all0 (norm ?_)
    obtain rfl := some_eq h
    exact At.ret fun a w hs => ret_ok hR (ρ := []) (gs := []) (by kernel_rfl) all0 (by kernel_rfl) rfl rfl a w hs _ (.inl rfl)
set_option maxRecDepth 100000 in
theorem C_retraceref16_Nums (p0 : Int) (r : Int) (h : F_retraceref16_Nums p0 = some r) : FnOK Tryz.prog 83 [i64 p0] [] (i64 r) [] [] := by
  rw [F_retraceref16_Nums] at h
  refine FnOK.intro Tryz.func83 rfl (by kernel_rfl) (by kernel_rfl) fun E gv R hR => ?_
  refine At.seq ?_
  refine At.rg [0] [] [] (by kernel_rfl) all0 (norm ?_)
  refine At.seq ?_
  refine At.seq ?_
  refine At.rg [3] [] [] (by kernel_rfl) all0 (norm ?_)
  refine At.block ?_
  refine At.seqJ (S := Bool) (fun s => ⟨[(3, i64 p0), (4, bo s)], []⟩) (fun s => F_retraceref16_Nums_J1 p0 s = some r) ?_ ?_
  · refine At.seq ?_
    refine At.rg [3, 4] [] [] (by kernel_rfl) all0 (norm ?_)
    refine At.cond (p0 == 9) (by kernel_rfl) (fun b63 => ?_) (fun b63 => ?_)
    · replace h := cond_t b63 h
      refine At.skip (edq (l := []) (ks := [3, 4]) (ρ := []) (st' := ⟨[(3, i64 p0), (4, bo (p0 == 9))], []⟩) (by kernel_rfl) (fun a w hs => ⟨(p0 == 9), h, hs⟩))
    · replace h := cond_f b63 h
      refine At.seq ?_
      refine At.rg [3, 4] [] [] (by kernel_rfl) all0 (norm ?_)
      refine At.cond (p0 == 14) (by kernel_rfl) (fun b64 => ?_) (fun b64 => ?_)
      · replace h := cond_t b64 h
        refine At.skip (edq (l := []) (ks := [3, 4]) (ρ := []) (st' := ⟨[(3, i64 p0), (4, bo (p0 == 14))], []⟩) (by kernel_rfl) (fun a w hs => ⟨(p0 == 14), h, hs⟩))
      · replace h := cond_f b64 h
        refine At.rg [3, 4] [] [] (by kernel_rfl) all0 (edq (l := []) (ks := [3, 4]) (ρ := []) (st' := ⟨[(3, i64 p0), (4, bo (p0 == 19))], []⟩) (by kernel_rfl) (fun a w hs => ⟨(p0 == 19), h, hs⟩))
  · intro x35 h
    replace h : F_retraceref16_Nums_J1 p0 x35 = some r := h
    rw [F_retraceref16_Nums_J1] at h
    refine At.cond x35 (by kernel_rfl) (fun b36 => ?_) (fun b36 => ?_)
    · replace h := cond_t b36 h
      refine At.seq ?_
      refine At.rg [2] [] [] (by kernel_rfl) all0 (norm ?_)
      obtain rfl := some_eq h
      exact At.ret fun a w hs => ret_ok hR (ρ := []) (gs := []) (by kernel_rfl) all0 (by kernel_rfl) rfl rfl a w hs _ (.inl rfl)
    · replace h := cond_f b36 h
      refine At.seqJ (S := Bool) (fun s => ⟨[(8, bo s)], []⟩) (fun s => F_retraceref16_Nums_J2 s = some r) ?_ ?_
      · refine At.seq ?_
        refine At.rg [3, 8] [] [] (by kernel_rfl) all0 (norm ?_)
        refine At.cond (p0 == 1) (by kernel_rfl) (fun b51 => ?_) (fun b51 => ?_)
        · replace h := cond_t b51 h
          refine At.nr [8] [] (by kernel_rfl) ?_
          refine At.skip (edq (l := []) (ks := [8]) (ρ := []) (st' := ⟨[(8, bo (p0 == 1))], []⟩) (by kernel_rfl) (fun a w hs => ⟨(p0 == 1), h, hs⟩))
        · replace h := cond_f b51 h
          refine At.seq ?_
          refine At.rg [3, 8] [] [] (by kernel_rfl) all0 (norm ?_)
          refine At.cond (p0 == 2) (by kernel_rfl) (fun b52 => ?_) (fun b52 => ?_)
          · replace h := cond_t b52 h
            refine At.nr [8] [] (by kernel_rfl) ?_
            refine At.skip (edq (l := []) (ks := [8]) (ρ := []) (st' := ⟨[(8, bo (p0 == 2))], []⟩) (by kernel_rfl) (fun a w hs => ⟨(p0 == 2), h, hs⟩))
          · replace h := cond_f b52 h
            refine At.seq ?_
            refine At.rg [3, 8] [] [] (by kernel_rfl) all0 (norm ?_)
            refine At.cond (p0 == 3) (by kernel_rfl) (fun b53 => ?_) (fun b53 => ?_)
            · replace h := cond_t b53 h
              refine At.nr [8] [] (by kernel_rfl) ?_
              refine At.skip (edq (l := []) (ks := [8]) (ρ := []) (st' := ⟨[(8, bo (p0 == 3))], []⟩) (by kernel_rfl) (fun a w hs => ⟨(p0 == 3), h, hs⟩))
            · replace h := cond_f b53 h
              refine At.seq ?_
              refine At.rg [3, 8] [] [] (by kernel_rfl) all0 (norm ?_)
              refine At.cond (p0 == 4) (by kernel_rfl) (fun b54 => ?_) (fun b54 => ?_)
              · replace h := cond_t b54 h
                refine At.nr [8] [] (by kernel_rfl) ?_
                refine At.skip (edq (l := []) (ks := [8]) (ρ := []) (st' := ⟨[(8, bo (p0 == 4))], []⟩) (by kernel_rfl) (fun a w hs => ⟨(p0 == 4), h, hs⟩))
              · replace h := cond_f b54 h
                refine At.seq ?_
                refine At.rg [3, 8] [] [] (by kernel_rfl) all0 (norm ?_)
                refine At.cond (p0 == 5) (by kernel_rfl) (fun b55 => ?_) (fun b55 => ?_)
                · replace h := cond_t b55 h
                  refine At.nar [8] [] (st' := ⟨[(8, bo (p0 == 5))], []⟩) (by kernel_rfl) ?_
                  refine At.skip (fun a w hs => ⟨(p0 == 5), h, hs⟩)
                · replace h := cond_f b55 h
                  refine At.seq ?_
                  refine At.region_end [3, 8] [] _ (st' := ⟨[(3, i64 p0), (8, bo (p0 == 6))], []⟩) (tips := []) (by kernel_rfl) all0 (norm ?_)
                  refine At.cond (p0 == 6) (by kernel_rfl) (fun b56 => ?_) (fun b56 => ?_)
                  · replace h := cond_t b56 h
                    refine At.nr [8] [] (by kernel_rfl) ?_
                    refine At.skip (edq (l := []) (ks := [8]) (ρ := []) (st' := ⟨[(8, bo (p0 == 6))], []⟩) (by kernel_rfl) (fun a w hs => ⟨(p0 == 6), h, hs⟩))
                  · replace h := cond_f b56 h
                    refine At.seq ?_
                    refine At.rg [3, 8] [] [] (by kernel_rfl) all0 (norm ?_)
                    refine At.cond (p0 == 7) (by kernel_rfl) (fun b57 => ?_) (fun b57 => ?_)
                    · replace h := cond_t b57 h
                      refine At.nr [8] [] (by kernel_rfl) ?_
                      refine At.skip (edq (l := []) (ks := [8]) (ρ := []) (st' := ⟨[(8, bo (p0 == 7))], []⟩) (by kernel_rfl) (fun a w hs => ⟨(p0 == 7), h, hs⟩))
                    · replace h := cond_f b57 h
                      refine At.seq ?_
                      refine At.rg [3, 8] [] [] (by kernel_rfl) all0 (norm ?_)
                      refine At.cond (p0 == 8) (by kernel_rfl) (fun b58 => ?_) (fun b58 => ?_)
                      · replace h := cond_t b58 h
                        refine At.nr [8] [] (by kernel_rfl) ?_
                        refine At.skip (edq (l := []) (ks := [8]) (ρ := []) (st' := ⟨[(8, bo (p0 == 8))], []⟩) (by kernel_rfl) (fun a w hs => ⟨(p0 == 8), h, hs⟩))
                      · replace h := cond_f b58 h
                        refine At.seq ?_
                        refine At.rg [3, 8] [] [] (by kernel_rfl) all0 (norm ?_)
                        refine At.cond (p0 == 11) (by kernel_rfl) (fun b59 => ?_) (fun b59 => ?_)
                        · replace h := cond_t b59 h
                          refine At.nr [8] [] (by kernel_rfl) ?_
                          refine At.skip (edq (l := []) (ks := [8]) (ρ := []) (st' := ⟨[(8, bo (p0 == 11))], []⟩) (by kernel_rfl) (fun a w hs => ⟨(p0 == 11), h, hs⟩))
                        · replace h := cond_f b59 h
                          refine At.seq ?_
                          refine At.rg [3, 8] [] [] (by kernel_rfl) all0 (norm ?_)
                          refine At.cond (p0 == 12) (by kernel_rfl) (fun b60 => ?_) (fun b60 => ?_)
                          · replace h := cond_t b60 h
                            refine At.nr [8] [] (by kernel_rfl) ?_
                            refine At.skip (edq (l := []) (ks := [8]) (ρ := []) (st' := ⟨[(8, bo (p0 == 12))], []⟩) (by kernel_rfl) (fun a w hs => ⟨(p0 == 12), h, hs⟩))
                          · replace h := cond_f b60 h
                            refine At.seq ?_
                            refine At.rg [3, 8] [] [] (by kernel_rfl) all0 (norm ?_)
                            refine At.cond (p0 == 20) (by kernel_rfl) (fun b61 => ?_) (fun b61 => ?_)
                            · replace h := cond_t b61 h
                              refine At.nar [8] [] (st' := ⟨[(8, bo (p0 == 20))], []⟩) (by kernel_rfl) ?_
                              refine At.skip (fun a w hs => ⟨(p0 == 20), h, hs⟩)
                            · replace h := cond_f b61 h
                              refine At.seq ?_
                              refine At.region_end [3, 8] [] _ (st' := ⟨[(3, i64 p0), (8, bo (p0 == 21))], []⟩) (tips := []) (by kernel_rfl) all0 (norm ?_)
                              refine At.cond (p0 == 21) (by kernel_rfl) (fun b62 => ?_) (fun b62 => ?_)
                              · replace h := cond_t b62 h
                                refine At.nr [8] [] (by kernel_rfl) ?_
                                refine At.skip (edq (l := []) (ks := [8]) (ρ := []) (st' := ⟨[(8, bo (p0 == 21))], []⟩) (by kernel_rfl) (fun a w hs => ⟨(p0 == 21), h, hs⟩))
                              · replace h := cond_f b62 h
                                refine At.rg [8] [] [] (by kernel_rfl) all0 (edq (l := []) (ks := [8]) (ρ := []) (st' := ⟨[(8, bo (p0 == 22))], []⟩) (by kernel_rfl) (fun a w hs => ⟨(p0 == 22), h, hs⟩))
      · intro x49 h
        replace h : F_retraceref16_Nums_J2 x49 = some r := h
        rw [F_retraceref16_Nums_J2] at h
        refine At.cond x49 (by kernel_rfl) (fun b50 => ?_) (fun b50 => ?_)
        · replace h := cond_t b50 h
          refine At.seq ?_
          refine At.rg [2] [] [] (by kernel_rfl) all0 (norm ?_)
          obtain rfl := some_eq h
          exact At.ret fun a w hs => ret_ok hR (ρ := []) (gs := []) (by kernel_rfl) all0 (by kernel_rfl) rfl rfl a w hs _ (.inl rfl)
        · replace h := cond_f b50 h
          refine At.nr [] [] (by kernel_rfl) ?_
          refine At.skip (norm ?_)
          refine At.seq ?_
          refine At.rg [2] [] [] (by kernel_rfl) all0 (norm ?_)
          obtain rfl := some_eq h
          exact At.ret fun a w hs => ret_ok hR (ρ := []) (gs := []) (by kernel_rfl) all0 (by kernel_rfl) rfl rfl a w hs _ (.inl rfl)
set_option maxRecDepth 100000 in
theorem C_retraceref16_Right (p0 : T_api_Ins) (r : Bool) (h : F_retraceref16_Right p0 = some r) : FnOK Tryz.prog 60 [.agg (T_api_Ins.pvs p0)] [] (bo r) [] [] := by
  rw [F_retraceref16_Right] at h
  refine FnOK.intro Tryz.func60 rfl (by kernel_rfl) (by kernel_rfl) fun E gv R hR => ?_
  refine At.seq ?_
  refine At.rg [1] [0] [] (by kernel_rfl) all0 (norm ?_)
  refine At.seq ?_
  obtain ⟨y2, hy2, h⟩ := bind_some h
  refine At.rg [1, 3] [0] [(2, { pc := some { ρ := [], n0 := 0, res := i64 y2, σ' := [], e := [] } })] (by kernel_rfl) (allc (C_retraceref16_Nums p0.Op y2 hy2) all0) (norm ?_)
  refine At.seq ?_
  refine At.seqJ (S := Bool) (fun s => ⟨[(1, .ptr 0 0), (32, bo s)], [.blk 70 (T_api_Ins.pvs p0)]⟩) (fun s => F_retraceref16_Right_J1 p0 s = some r) ?_ ?_
  · rcases tf (decide (p0.Op < 1)) with b53 | b53
    · replace h := cond_t b53 h
      refine At.rg [1, 32] [0] [(3, { orc := .val (.bool true) })] (by kernel_rfl) (allc (congrArg D.bool b53) all0) (edq (l := []) (ks := [1, 32]) (ρ := [0]) (st' := ⟨[(1, .ptr 0 0), (32, bo true)], [.blk 70 (T_api_Ins.pvs p0)]⟩) (by kernel_rfl) (fun a w hs => ⟨true, h, hs⟩))
    · replace h := cond_f b53 h
      rcases tf (decide (25 < p0.Op)) with b54 | b54
      · replace h := cond_t b54 h
        refine At.rg [1, 32] [0] [(3, { orc := .val (.bool false) }), (8, { orc := .val (.bool true) })] (by kernel_rfl) (allc (congrArg D.bool b53) (allc (congrArg D.bool b54) all0)) (edq (l := []) (ks := [1, 32]) (ρ := [0]) (st' := ⟨[(1, .ptr 0 0), (32, bo true)], [.blk 70 (T_api_Ins.pvs p0)]⟩) (by kernel_rfl) (fun a w hs => ⟨true, h, hs⟩))
      · replace h := cond_f b54 h
        rcases tf (y2 == 0) with b55 | b55
        · replace h := cond_t b55 h
          rcases tf (p0.A != 0) with b56 | b56
          · replace h := cond_t b56 h
            refine At.rg [1, 32] [0] [(3, { orc := .val (.bool false) }), (8, { orc := .val (.bool false) }), (11, { orc := .val (.bool true) }), (17, { orc := .val (.bool true) })] (by kernel_rfl) (allc (congrArg D.bool b53) (allc (congrArg D.bool b54) (allc (congrArg D.bool b55) (allc (congrArg D.bool b56) all0)))) (edq (l := []) (ks := [1, 32]) (ρ := [0]) (st' := ⟨[(1, .ptr 0 0), (32, bo true)], [.blk 70 (T_api_Ins.pvs p0)]⟩) (by kernel_rfl) (fun a w hs => ⟨true, h, hs⟩))
          · replace h := cond_f b56 h
            rcases tf (decide (y2 < 2)) with b57 | b57
            · replace h := cond_t b57 h
              refine At.rg [1, 32] [0] [(3, { orc := .val (.bool false) }), (8, { orc := .val (.bool false) }), (11, { orc := .val (.bool true) }), (17, { orc := .val (.bool false) }), (20, { orc := .val (.bool true) })] (by kernel_rfl) (allc (congrArg D.bool b53) (allc (congrArg D.bool b54) (allc (congrArg D.bool b55) (allc (congrArg D.bool b56) (allc (congrArg D.bool b57) all0))))) (edq (l := []) (ks := [1, 32]) (ρ := [0]) (st' := ⟨[(1, .ptr 0 0), (32, bo (p0.B != 0))], [.blk 70 (T_api_Ins.pvs p0)]⟩) (by kernel_rfl) (fun a w hs => ⟨(p0.B != 0), h, hs⟩))
            · replace h := cond_f b57 h
              refine At.rg [1, 32] [0] [(3, { orc := .val (.bool false) }), (8, { orc := .val (.bool false) }), (11, { orc := .val (.bool true) }), (17, { orc := .val (.bool false) }), (20, { orc := .val (.bool false) })] (by kernel_rfl) (allc (congrArg D.bool b53) (allc (congrArg D.bool b54) (allc (congrArg D.bool b55) (allc (congrArg D.bool b56) (allc (congrArg D.bool b57) all0))))) (edq (l := []) (ks := [1, 32]) (ρ := [0]) (st' := ⟨[(1, .ptr 0 0), (32, bo false)], [.blk 70 (T_api_Ins.pvs p0)]⟩) (by kernel_rfl) (fun a w hs => ⟨false, h, hs⟩))
        · replace h := cond_f b55 h
          rcases tf (decide (y2 < 2)) with b58 | b58
          · replace h := cond_t b58 h
            refine At.rg [1, 32] [0] [(3, { orc := .val (.bool false) }), (8, { orc := .val (.bool false) }), (11, { orc := .val (.bool false) }), (20, { orc := .val (.bool true) })] (by kernel_rfl) (allc (congrArg D.bool b53) (allc (congrArg D.bool b54) (allc (congrArg D.bool b55) (allc (congrArg D.bool b58) all0)))) (edq (l := []) (ks := [1, 32]) (ρ := [0]) (st' := ⟨[(1, .ptr 0 0), (32, bo (p0.B != 0))], [.blk 70 (T_api_Ins.pvs p0)]⟩) (by kernel_rfl) (fun a w hs => ⟨(p0.B != 0), h, hs⟩))
          · replace h := cond_f b58 h
            refine At.rg [1, 32] [0] [(3, { orc := .val (.bool false) }), (8, { orc := .val (.bool false) }), (11, { orc := .val (.bool false) }), (20, { orc := .val (.bool false) })] (by kernel_rfl) (allc (congrArg D.bool b53) (allc (congrArg D.bool b54) (allc (congrArg D.bool b55) (allc (congrArg D.bool b58) all0)))) (edq (l := []) (ks := [1, 32]) (ρ := [0]) (st' := ⟨[(1, .ptr 0 0), (32, bo false)], [.blk 70 (T_api_Ins.pvs p0)]⟩) (by kernel_rfl) (fun a w hs => ⟨false, h, hs⟩))
  · intro x23 h
    replace h : F_retraceref16_Right_J1 p0 x23 = some r := h
    rw [F_retraceref16_Right_J1] at h
    refine At.cond x23 (by kernel_rfl) (fun b24 => ?_) (fun b24 => ?_)
    · replace h := cond_t b24 h
      refine At.seq ?_
      refine At.rg [2] [] [] (by kernel_rfl) all0 (norm ?_)
      obtain rfl := some_eq h
      exact At.ret fun a w hs => ret_ok hR (ρ := []) (gs := []) (by kernel_rfl) all0 (by kernel_rfl) rfl rfl a w hs _ (.inl rfl)
    · replace h := cond_f b24 h
      refine At.nr [1] [0] (by kernel_rfl) ?_
      refine At.skip (norm ?_)
      refine At.seq ?_
      refine At.seqJ (S := Bool) (fun s => ⟨[(55, bo s)], []⟩) (fun s => F_retraceref16_Right_J2 s = some r) ?_ ?_
      · rcases tf (p0.Op == 14) with b47 | b47
        · replace h := cond_t b47 h
          rcases tf (decide (p0.B < 0)) with b48 | b48
          · replace h := cond_t b48 h
            refine At.rg [55] [] [(3, { orc := .val (.bool true) }), (8, { orc := .val (.bool true) })] (by kernel_rfl) (allc (congrArg D.bool b47) (allc (congrArg D.bool b48) all0)) (edq (l := []) (ks := [55]) (ρ := []) (st' := ⟨[(55, bo true)], []⟩) (by kernel_rfl) (fun a w hs => ⟨true, h, hs⟩))
          · replace h := cond_f b48 h
            rcases tf (p0.Op == 5) with b49 | b49
            · replace h := cond_t b49 h
              rcases tf (decide (p0.A < 3)) with b50 | b50
              · replace h := cond_t b50 h
                refine At.rg [55] [] [(3, { orc := .val (.bool true) }), (8, { orc := .val (.bool false) }), (12, { orc := .val (.bool true) }), (16, { orc := .val (.bool true) })] (by kernel_rfl) (allc (congrArg D.bool b47) (allc (congrArg D.bool b48) (allc (congrArg D.bool b49) (allc (congrArg D.bool b50) all0)))) (edq (l := []) (ks := [55]) (ρ := []) (st' := ⟨[(55, bo true)], []⟩) (by kernel_rfl) (fun a w hs => ⟨true, h, hs⟩))
              · replace h := cond_f b50 h
                refine At.rg [55] [] [(3, { orc := .val (.bool true) }), (8, { orc := .val (.bool false) }), (12, { orc := .val (.bool true) }), (16, { orc := .val (.bool false) })] (by kernel_rfl) (allc (congrArg D.bool b47) (allc (congrArg D.bool b48) (allc (congrArg D.bool b49) (allc (congrArg D.bool b50) all0)))) (edq (l := []) (ks := [55]) (ρ := []) (st' := ⟨[(55, bo (decide (17 < p0.A)))], []⟩) (by kernel_rfl) (fun a w hs => ⟨(decide (17 < p0.A)), h, hs⟩))
            · replace h := cond_f b49 h
              refine At.rg [55] [] [(3, { orc := .val (.bool true) }), (8, { orc := .val (.bool false) }), (12, { orc := .val (.bool false) })] (by kernel_rfl) (allc (congrArg D.bool b47) (allc (congrArg D.bool b48) (allc (congrArg D.bool b49) all0))) (edq (l := []) (ks := [55]) (ρ := []) (st' := ⟨[(55, bo false)], []⟩) (by kernel_rfl) (fun a w hs => ⟨false, h, hs⟩))
        · replace h := cond_f b47 h
          rcases tf (p0.Op == 5) with b51 | b51
          · replace h := cond_t b51 h
            rcases tf (decide (p0.A < 3)) with b52 | b52
            · replace h := cond_t b52 h
              refine At.rg [55] [] [(3, { orc := .val (.bool false) }), (12, { orc := .val (.bool true) }), (16, { orc := .val (.bool true) })] (by kernel_rfl) (allc (congrArg D.bool b47) (allc (congrArg D.bool b51) (allc (congrArg D.bool b52) all0))) (edq (l := []) (ks := [55]) (ρ := []) (st' := ⟨[(55, bo true)], []⟩) (by kernel_rfl) (fun a w hs => ⟨true, h, hs⟩))
            · replace h := cond_f b52 h
              refine At.rg [55] [] [(3, { orc := .val (.bool false) }), (12, { orc := .val (.bool true) }), (16, { orc := .val (.bool false) })] (by kernel_rfl) (allc (congrArg D.bool b47) (allc (congrArg D.bool b51) (allc (congrArg D.bool b52) all0))) (edq (l := []) (ks := [55]) (ρ := []) (st' := ⟨[(55, bo (decide (17 < p0.A)))], []⟩) (by kernel_rfl) (fun a w hs => ⟨(decide (17 < p0.A)), h, hs⟩))
          · replace h := cond_f b51 h
            refine At.rg [55] [] [(3, { orc := .val (.bool false) }), (12, { orc := .val (.bool false) })] (by kernel_rfl) (allc (congrArg D.bool b47) (allc (congrArg D.bool b51) all0)) (edq (l := []) (ks := [55]) (ρ := []) (st' := ⟨[(55, bo false)], []⟩) (by kernel_rfl) (fun a w hs => ⟨false, h, hs⟩))
      · intro x45 h
        replace h : F_retraceref16_Right_J2 x45 = some r := h
        rw [F_retraceref16_Right_J2] at h
        refine At.cond x45 (by kernel_rfl) (fun b46 => ?_) (fun b46 => ?_)
        · replace h := cond_t b46 h
          refine At.seq ?_
          refine At.rg [2] [] [] (by kernel_rfl) all0 (norm ?_)
          obtain rfl := some_eq h
          exact At.ret fun a w hs => ret_ok hR (ρ := []) (gs := []) (by kernel_rfl) all0 (by kernel_rfl) rfl rfl a w hs _ (.inl rfl)
        · replace h := cond_f b46 h
          refine At.nr [] [] (by kernel_rfl) ?_
          refine At.skip (norm ?_)
          refine At.seq ?_
          refine At.rg [2] [] [] (by kernel_rfl) all0 (norm ?_)
          obtain rfl := some_eq h
          exact At.ret fun a w hs => ret_ok hR (ρ := []) (gs := []) (by kernel_rfl) all0 (by kernel_rfl) rfl rfl a w hs _ (.inl rfl)
set_option maxRecDepth 100000 in
theorem C_retraceref20_channel (p0 : T_api_Code) (p1 : Int) (p2 : Int) (r : Bool) (h : F_retraceref20_channel p0 p1 p2 = some r) : FnOK Tryz.prog 61 [.agg (T_api_Code.pvs p0), i64 p1, i64 p2] [] (bo r) [] [] := by
  rw [F_retraceref20_channel] at h
  refine FnOK.intro Tryz.func61 rfl (by kernel_rfl) (by kernel_rfl) fun E gv R hR => ?_
  refine At.seq ?_
  refine At.rg [1, 2, 3] [0] [] (by kernel_rfl) all0 (norm ?_)
  refine At.seq ?_
  refine At.seq ?_
  refine At.rg [1, 2, 3, 7] [0] [] (by kernel_rfl) all0 (norm ?_)
  refine At.block ?_
  refine At.nar [1, 2, 3, 7] [0] (st' := ⟨[(1, i64 p1), (2, i64 p2), (3, .ptr 0 0), (7, i64 0)], [.blk 26 (T_api_Code.pvs p0)]⟩) (by kernel_rfl) ?_
  refine At.loop (fun s : (Int) => F_retraceref20_channel_L2 p0 p1 p2 s) (fun s : (Int) => ⟨[(1, i64 p1), (2, i64 p2), (3, .ptr 0 0), (7, i64 s)], [.blk 26 (T_api_Code.pvs p0)]⟩) r 0 h ?_
  intro x26 oo27 h f28
  replace h : F_retraceref20_channel_L2 p0 p1 p2 x26 = some oo27 := h
  rw [F_retraceref20_channel_L2] at h
  refine At.seq ?_
  refine At.seq ?_
  refine At.rg [1, 2, 3, 7, 12] [0] [] (by kernel_rfl) all0 (norm ?_)
  refine At.cond (decide (x26 < ((p0.Chans).length : Int))) (by kernel_rfl) (fun b30 => ?_) (fun b30 => ?_)
  · replace h := cond_t b30 h
    refine At.nr [1, 2, 3, 7] [0] (by kernel_rfl) ?_
    refine At.skip (norm ?_)
    refine At.seq ?_
    refine At.block ?_
    refine At.seqJ (S := Bool) (fun s => ⟨[(1, i64 p1), (2, i64 p2), (3, .ptr 0 0), (7, i64 x26), (32, bo s)], [.blk 26 (T_api_Code.pvs p0)]⟩) (fun s => F_retraceref20_channel_J1 x26 s = some oo27) ?_ ?_
    · obtain ⟨y46, hy46, h⟩ := bind_some h
      rcases tf (y46.Base == p1) with b47 | b47
      · replace h := cond_t b47 h
        obtain ⟨y48, hy48, h⟩ := bind_some h
        refine At.rg [1, 2, 3, 7, 32] [0] [(3, { orc := .cells (T_api_Chan.enc y46) }), (8, { orc := .val (.bool true) }), (12, { orc := .cells (T_api_Chan.enc y48) })] (by kernel_rfl) (allc (elemAt_of T_api_Chan.enc_len hy46) (allc (congrArg D.bool b47) (allc (elemAt_of T_api_Chan.enc_len hy48) all0))) (edq (l := []) (ks := [1, 2, 3, 7, 32]) (ρ := [0]) (st' := ⟨[(1, i64 p1), (2, i64 p2), (3, .ptr 0 0), (7, i64 x26), (32, bo (y48.Size == p2))], [.blk 26 (T_api_Code.pvs p0)]⟩) (by kernel_rfl) (fun a w hs => ⟨(y48.Size == p2), h, hs⟩))
      · replace h := cond_f b47 h
        refine At.rg [1, 2, 3, 7, 32] [0] [(3, { orc := .cells (T_api_Chan.enc y46) }), (8, { orc := .val (.bool false) })] (by kernel_rfl) (allc (elemAt_of T_api_Chan.enc_len hy46) (allc (congrArg D.bool b47) all0)) (edq (l := []) (ks := [1, 2, 3, 7, 32]) (ρ := [0]) (st' := ⟨[(1, i64 p1), (2, i64 p2), (3, .ptr 0 0), (7, i64 x26), (32, bo false)], [.blk 26 (T_api_Code.pvs p0)]⟩) (by kernel_rfl) (fun a w hs => ⟨false, h, hs⟩))
    · intro x42 h
      replace h : F_retraceref20_channel_J1 x26 x42 = some oo27 := h
      rw [F_retraceref20_channel_J1] at h
      refine At.cond x42 (by kernel_rfl) (fun b43 => ?_) (fun b43 => ?_)
      · replace h := cond_t b43 h
        refine At.seq ?_
        refine At.rg [6] [] [] (by kernel_rfl) all0 (norm ?_)
        obtain ⟨r44, h, e45⟩ := map_inr h
        rw [f28 _ e45] at h
        obtain rfl := some_eq h
        exact At.ret fun a w hs => ret_ok hR (ρ := []) (gs := []) (by kernel_rfl) all0 (by kernel_rfl) rfl rfl a w hs _ (.inl rfl)
      · replace h := cond_f b43 h
        refine At.nr [1, 2, 3, 7] [0] (by kernel_rfl) ?_
        refine At.skip (norm ?_)
        refine At.rg [1, 2, 3, 7] [0] [] (by kernel_rfl) all0 (edq (l := []) (ks := [1, 2, 3, 7]) (ρ := [0]) (st' := ⟨[(1, i64 p1), (2, i64 p2), (3, .ptr 0 0), (7, i64 (w64 (x26 + 1)))], [.blk 26 (T_api_Code.pvs p0)]⟩) (by kernel_rfl) (fun a w hs => ⟨_, (some_eq h).symm, hs⟩))
  · replace h := cond_f b30 h
    refine At.nr [] [] (by kernel_rfl) ?_
    obtain ⟨r49, h, e50⟩ := map_inr h
    rw [f28 _ e50] at h
    refine At.exit (norm ?_)
    refine At.seq ?_
    refine At.rg [6] [] [] (by kernel_rfl) all0 (norm ?_)
    obtain rfl := some_eq h
    exact At.ret fun a w hs => ret_ok hR (ρ := []) (gs := []) (by kernel_rfl) all0 (by kernel_rfl) rfl rfl a w hs _ (.inl rfl)
set_option maxRecDepth 100000 in
theorem C_retraceref17_Which (p0 : Int) (r : Int) (h : F_retraceref17_Which p0 = some r) : FnOK Tryz.prog 84 [i64 p0] [] (i64 r) [] [] := by
  rw [F_retraceref17_Which] at h
  refine FnOK.intro Tryz.func84 rfl (by kernel_rfl) (by kernel_rfl) fun E gv R hR => ?_
  refine At.seq ?_
  refine At.rg [0] [] [] (by kernel_rfl) all0 (norm ?_)
  refine At.seq ?_
  refine At.seq ?_
  refine At.rg [0, 4] [] [] (by kernel_rfl) all0 (norm ?_)
  refine At.cond (p0 == 19) (by kernel_rfl) (fun b2 => ?_) (fun b2 => ?_)
  · replace h := cond_t b2 h
    refine At.seq ?_
    refine At.rg [2] [] [] (by kernel_rfl) all0 (norm ?_)
    obtain rfl := some_eq h
    exact At.ret fun a w hs => ret_ok hR (ρ := []) (gs := []) (by kernel_rfl) all0 (by kernel_rfl) rfl rfl a w hs _ (.inl rfl)
  · replace h := cond_f b2 h
    refine At.nr [0] [] (by kernel_rfl) ?_
    refine At.skip (norm ?_)
    refine At.seq ?_
    refine At.seqJ (S := Bool) (fun s => ⟨[(26, bo s)], []⟩) (fun s => F_retraceref17_Which_J1 s = some r) ?_ ?_
    · rcases tf (p0 == 6) with b22 | b22
      · replace h := cond_t b22 h
        refine At.rg [26] [] [(2, { orc := .val (.bool true) })] (by kernel_rfl) (allc (congrArg D.bool b22) all0) (edq (l := []) (ks := [26]) (ρ := []) (st' := ⟨[(26, bo true)], []⟩) (by kernel_rfl) (fun a w hs => ⟨true, h, hs⟩))
      · replace h := cond_f b22 h
        rcases tf (p0 == 7) with b23 | b23
        · replace h := cond_t b23 h
          refine At.rg [26] [] [(2, { orc := .val (.bool false) }), (6, { orc := .val (.bool true) })] (by kernel_rfl) (allc (congrArg D.bool b22) (allc (congrArg D.bool b23) all0)) (edq (l := []) (ks := [26]) (ρ := []) (st' := ⟨[(26, bo true)], []⟩) (by kernel_rfl) (fun a w hs => ⟨true, h, hs⟩))
        · replace h := cond_f b23 h
          rcases tf (p0 == 8) with b24 | b24
          · replace h := cond_t b24 h
            refine At.rg [26] [] [(2, { orc := .val (.bool false) }), (6, { orc := .val (.bool false) }), (10, { orc := .val (.bool true) })] (by kernel_rfl) (allc (congrArg D.bool b22) (allc (congrArg D.bool b23) (allc (congrArg D.bool b24) all0))) (edq (l := []) (ks := [26]) (ρ := []) (st' := ⟨[(26, bo true)], []⟩) (by kernel_rfl) (fun a w hs => ⟨true, h, hs⟩))
          · replace h := cond_f b24 h
            rcases tf (p0 == 20) with b25 | b25
            · replace h := cond_t b25 h
              refine At.rg [26] [] [(2, { orc := .val (.bool false) }), (6, { orc := .val (.bool false) }), (10, { orc := .val (.bool false) }), (14, { orc := .val (.bool true) })] (by kernel_rfl) (allc (congrArg D.bool b22) (allc (congrArg D.bool b23) (allc (congrArg D.bool b24) (allc (congrArg D.bool b25) all0)))) (edq (l := []) (ks := [26]) (ρ := []) (st' := ⟨[(26, bo true)], []⟩) (by kernel_rfl) (fun a w hs => ⟨true, h, hs⟩))
            · replace h := cond_f b25 h
              rcases tf (p0 == 21) with b26 | b26
              · replace h := cond_t b26 h
                refine At.rg [26] [] [(2, { orc := .val (.bool false) }), (6, { orc := .val (.bool false) }), (10, { orc := .val (.bool false) }), (14, { orc := .val (.bool false) }), (18, { orc := .val (.bool true) })] (by kernel_rfl) (allc (congrArg D.bool b22) (allc (congrArg D.bool b23) (allc (congrArg D.bool b24) (allc (congrArg D.bool b25) (allc (congrArg D.bool b26) all0))))) (edq (l := []) (ks := [26]) (ρ := []) (st' := ⟨[(26, bo true)], []⟩) (by kernel_rfl) (fun a w hs => ⟨true, h, hs⟩))
              · replace h := cond_f b26 h
                refine At.rg [26] [] [(2, { orc := .val (.bool false) }), (6, { orc := .val (.bool false) }), (10, { orc := .val (.bool false) }), (14, { orc := .val (.bool false) }), (18, { orc := .val (.bool false) })] (by kernel_rfl) (allc (congrArg D.bool b22) (allc (congrArg D.bool b23) (allc (congrArg D.bool b24) (allc (congrArg D.bool b25) (allc (congrArg D.bool b26) all0))))) (edq (l := []) (ks := [26]) (ρ := []) (st' := ⟨[(26, bo (p0 == 22))], []⟩) (by kernel_rfl) (fun a w hs => ⟨(p0 == 22), h, hs⟩))
    · intro x20 h
      replace h : F_retraceref17_Which_J1 x20 = some r := h
      rw [F_retraceref17_Which_J1] at h
      refine At.cond x20 (by kernel_rfl) (fun b21 => ?_) (fun b21 => ?_)
      · replace h := cond_t b21 h
        refine At.seq ?_
        refine At.rg [2] [] [] (by kernel_rfl) all0 (norm ?_)
        obtain rfl := some_eq h
        exact At.ret fun a w hs => ret_ok hR (ρ := []) (gs := []) (by kernel_rfl) all0 (by kernel_rfl) rfl rfl a w hs _ (.inl rfl)
      · replace h := cond_f b21 h
        refine At.nr [] [] (by kernel_rfl) ?_
        refine At.skip (norm ?_)
        refine At.seq ?_
        refine At.rg [2] [] [] (by kernel_rfl) all0 (norm ?_)
        obtain rfl := some_eq h
        exact At.ret fun a w hs => ret_ok hR (ρ := []) (gs := []) (by kernel_rfl) all0 (by kernel_rfl) rfl rfl a w hs _ (.inl rfl)
set_option maxRecDepth 100000 in
theorem C_retraceref20_target (p0 : T_api_Ins) (r : Int × Bool) (h : F_retraceref20_target p0 = some r) : FnOK Tryz.prog 62 [.agg (T_api_Ins.pvs p0)] [] (.tup [i64 r.1, bo r.2]) [] [] := by
  rw [F_retraceref20_target] at h
  refine FnOK.intro Tryz.func62 rfl (by kernel_rfl) (by kernel_rfl) fun E gv R hR => ?_
  refine At.seq ?_
  refine At.rg [1] [0] [] (by kernel_rfl) all0 (norm ?_)
  refine At.seq ?_
  refine At.seq ?_
  obtain ⟨y6, hy6, h⟩ := bind_some h
  refine At.rg [1, 6] [0] [(2, { pc := some { ρ := [], n0 := 0, res := i64 y6, σ' := [], e := [] } })] (by kernel_rfl) (allc (C_retraceref17_Which p0.Op y6 hy6) all0) (norm ?_)
  refine At.block ?_
  refine At.seq ?_
  refine At.rg [1, 6, 7] [0] [] (by kernel_rfl) all0 (norm ?_)
  refine At.cond (y6 == 1) (by kernel_rfl) (fun b7 => ?_) (fun b7 => ?_)
  · replace h := cond_t b7 h
    refine At.seq ?_
    refine At.rg [2, 3] [] [] (by kernel_rfl) all0 (norm ?_)
    obtain rfl := some_eq h
    exact At.ret fun a w hs => ret_ok hR (ρ := []) (gs := []) (by kernel_rfl) all0 (by kernel_rfl) rfl rfl a w hs _ (.inl rfl)
  · replace h := cond_f b7 h
    refine At.seq ?_
    refine At.rg [1, 11] [0] [] (by kernel_rfl) all0 (norm ?_)
    refine At.cond (y6 == 2) (by kernel_rfl) (fun b8 => ?_) (fun b8 => ?_)
    · replace h := cond_t b8 h
      refine At.seq ?_
      refine At.rg [2, 3] [] [] (by kernel_rfl) all0 (norm ?_)
      obtain rfl := some_eq h
      exact At.ret fun a w hs => ret_ok hR (ρ := []) (gs := []) (by kernel_rfl) all0 (by kernel_rfl) rfl rfl a w hs _ (.inl rfl)
    · replace h := cond_f b8 h
      refine At.nr [] [] (by kernel_rfl) ?_
      refine At.skip (norm ?_)
      refine At.seq ?_
      refine At.region_end [2, 3] [] _ (st' := ⟨[(2, i64 0), (3, bo false)], []⟩) (tips := []) (by kernel_rfl) all0 (norm ?_)
      obtain rfl := some_eq h
      exact At.ret fun a w hs => ret_ok hR (ρ := []) (gs := []) (by kernel_rfl) all0 (by kernel_rfl) rfl rfl a w hs _ (.inl rfl)
set_option maxRecDepth 100000 in
theorem C_retraceref20_Chooses (p0 : Int) (r : Bool) (h : F_retraceref20_Chooses p0 = some r) : FnOK Tryz.prog 63 [i64 p0] [] (bo r) [] [] := by
  rw [F_retraceref20_Chooses] at h
  refine FnOK.intro Tryz.func63 rfl (by kernel_rfl) (by kernel_rfl) fun E gv R hR => ?_
  refine At.seq ?_
  refine At.rg [0] [] [] (by kernel_rfl) all0 (norm ?_)
  refine At.seqJ (S := Bool) (fun s => ⟨[(2, bo s)], []⟩) (fun s => F_retraceref20_Chooses_J1 s = some r) ?_ ?_
  · rcases tf (decide (19 ≤ p0)) with b3 | b3
    · replace h := cond_t b3 h
      refine At.rg [2] [] [(2, { orc := .val (.bool true) })] (by kernel_rfl) (allc (congrArg D.bool b3) all0) (edq (l := []) (ks := [2]) (ρ := []) (st' := ⟨[(2, bo (decide (p0 ≤ 22)))], []⟩) (by kernel_rfl) (fun a w hs => ⟨(decide (p0 ≤ 22)), h, hs⟩))
    · replace h := cond_f b3 h
      refine At.rg [2] [] [(2, { orc := .val (.bool false) })] (by kernel_rfl) (allc (congrArg D.bool b3) all0) (edq (l := []) (ks := [2]) (ρ := []) (st' := ⟨[(2, bo false)], []⟩) (by kernel_rfl) (fun a w hs => ⟨false, h, hs⟩))
  · intro x2 h
    replace h : F_retraceref20_Chooses_J1 x2 = some r := h
    rw [F_retraceref20_Chooses_J1] at h
    obtain rfl := some_eq h
    exact At.ret fun a w hs => ret_ok hR (ρ := []) (gs := []) (by kernel_rfl) all0 (by kernel_rfl) rfl rfl a w hs _ (.inl rfl)
set_option maxRecDepth 100000 in
theorem C_retraceref20_Settle (p0 : T_api_Code) (p1 : Int) (r : Int) (h : F_retraceref20_Settle p0 p1 = some r) : FnOK Tryz.prog 23 [.agg (T_api_Code.pvs p0), i64 p1] [] (i64 r) [] [] := by
  rw [F_retraceref20_Settle] at h
  refine FnOK.intro Tryz.func23 rfl (by kernel_rfl) (by kernel_rfl) fun E gv R hR => ?_
  refine At.seq ?_
  refine At.rg [1, 2] [0] [] (by kernel_rfl) all0 (norm ?_)
  refine At.seq ?_
  refine At.rg [1, 2, 5] [0] [] (by kernel_rfl) all0 (norm ?_)
  refine At.seq ?_
  refine At.seq ?_
  refine At.rg [1, 2, 5, 6] [0] [] (by kernel_rfl) all0 (norm ?_)
  refine At.block ?_
  refine At.nar [1, 2, 5, 6] [0] (st' := ⟨[(1, i64 p1), (2, .ptr 0 0), (5, i64 p1), (6, i64 0)], [.blk 26 (T_api_Code.pvs p0)]⟩) (by kernel_rfl) ?_
  refine At.loop (fun s : (Int × Int) => F_retraceref20_Settle_L2 p0 p1 s.1 s.2) (fun s : (Int × Int) => ⟨[(1, i64 p1), (2, .ptr 0 0), (5, i64 s.1), (6, i64 s.2)], [.blk 26 (T_api_Code.pvs p0)]⟩) r (p1, 0) h ?_
  rintro ⟨x45, x46⟩ oo47 h f48
  replace h : F_retraceref20_Settle_L2 p0 p1 x45 x46 = some oo47 := h
  rw [F_retraceref20_Settle_L2] at h
  refine At.seq ?_
  refine At.seq ?_
  refine At.rg [1, 2, 5, 6, 12] [0] [] (by kernel_rfl) all0 (norm ?_)
  refine At.cond (decide (x46 ≤ ((p0.Ins).length : Int))) (by kernel_rfl) (fun b50 => ?_) (fun b50 => ?_)
  · replace h := cond_t b50 h
    refine At.nr [1, 2, 5, 6] [0] (by kernel_rfl) ?_
    refine At.skip (norm ?_)
    refine At.seq ?_
    refine At.block ?_
    refine At.seq ?_
    refine At.seqJ (S := Bool) (fun s => ⟨[(1, i64 p1), (2, .ptr 0 0), (5, i64 x45), (6, i64 x46), (32, bo s)], [.blk 26 (T_api_Code.pvs p0)]⟩) (fun s => F_retraceref20_Settle_J1 p0 x45 x46 s = some oo47) ?_ ?_
    · rcases tf (decide (x45 < 0)) with b84 | b84
      · replace h := cond_t b84 h
        refine At.rg [1, 2, 5, 6, 32] [0] [(2, { orc := .val (.bool true) })] (by kernel_rfl) (allc (congrArg D.bool b84) all0) (edq (l := []) (ks := [1, 2, 5, 6, 32]) (ρ := [0]) (st' := ⟨[(1, i64 p1), (2, .ptr 0 0), (5, i64 x45), (6, i64 x46), (32, bo true)], [.blk 26 (T_api_Code.pvs p0)]⟩) (by kernel_rfl) (fun a w hs => ⟨true, h, hs⟩))
      · replace h := cond_f b84 h
        rcases tf (decide (((p0.Ins).length : Int) ≤ x45)) with b85 | b85
        · replace h := cond_t b85 h
          refine At.rg [1, 2, 5, 6, 32] [0] [(2, { orc := .val (.bool false) }), (9, { orc := .val (.bool true) })] (by kernel_rfl) (allc (congrArg D.bool b84) (allc (congrArg D.bool b85) all0)) (edq (l := []) (ks := [1, 2, 5, 6, 32]) (ρ := [0]) (st' := ⟨[(1, i64 p1), (2, .ptr 0 0), (5, i64 x45), (6, i64 x46), (32, bo true)], [.blk 26 (T_api_Code.pvs p0)]⟩) (by kernel_rfl) (fun a w hs => ⟨true, h, hs⟩))
        · replace h := cond_f b85 h
          obtain ⟨y86, hy86, h⟩ := bind_some h
          refine At.rg [1, 2, 5, 6, 32] [0] [(2, { orc := .val (.bool false) }), (9, { orc := .val (.bool false) }), (13, { orc := .cells (T_api_Ins.enc y86) })] (by kernel_rfl) (allc (congrArg D.bool b84) (allc (congrArg D.bool b85) (allc (elemAt_of T_api_Ins.enc_len hy86) all0))) (edq (l := []) (ks := [1, 2, 5, 6, 32]) (ρ := [0]) (st' := ⟨[(1, i64 p1), (2, .ptr 0 0), (5, i64 x45), (6, i64 x46), (32, bo (y86.Op != 6))], [.blk 26 (T_api_Code.pvs p0)]⟩) (by kernel_rfl) (fun a w hs => ⟨(y86.Op != 6), h, hs⟩))
    · intro x79 h
      replace h : F_retraceref20_Settle_J1 p0 x45 x46 x79 = some oo47 := h
      rw [F_retraceref20_Settle_J1] at h
      refine At.cond x79 (by kernel_rfl) (fun b80 => ?_) (fun b80 => ?_)
      · replace h := cond_t b80 h
        refine At.seq ?_
        refine At.rg [4] [] [] (by kernel_rfl) all0 (norm ?_)
        obtain ⟨r81, h, e82⟩ := map_inr h
        rw [f48 _ e82] at h
        obtain rfl := some_eq h
        exact At.ret fun a w hs => ret_ok hR (ρ := []) (gs := []) (by kernel_rfl) all0 (by kernel_rfl) rfl rfl a w hs _ (.inl rfl)
      · replace h := cond_f b80 h
        refine At.nr [1, 2, 5, 6] [0] (by kernel_rfl) ?_
        refine At.skip (norm ?_)
        obtain ⟨y83, hy83, h⟩ := bind_some h
        refine At.rg [1, 2, 5, 6] [0] [(3, { orc := .cells (T_api_Ins.enc y83) })] (by kernel_rfl) (allc (elemAt_of T_api_Ins.enc_len hy83) all0) (norm ?_)
        refine At.rg [1, 2, 5, 6] [0] [] (by kernel_rfl) all0 (edq (l := []) (ks := [1, 2, 5, 6]) (ρ := [0]) (st' := ⟨[(1, i64 p1), (2, .ptr 0 0), (5, i64 y83.A), (6, i64 (w64 (x46 + 1)))], [.blk 26 (T_api_Code.pvs p0)]⟩) (by kernel_rfl) (fun a w hs => ⟨_, (some_eq h).symm, hs⟩))
  · replace h := cond_f b50 h
    refine At.nr [1] [] (by kernel_rfl) ?_
    obtain ⟨r87, h, e88⟩ := map_inr h
    rw [f48 _ e88] at h
    refine At.exit (norm ?_)
    refine At.seq ?_
    refine At.rg [4] [] [] (by kernel_rfl) all0 (norm ?_)
    obtain rfl := some_eq h
    exact At.ret fun a w hs => ret_ok hR (ρ := []) (gs := []) (by kernel_rfl) all0 (by kernel_rfl) rfl rfl a w hs _ (.inl rfl)
set_option maxRecDepth 100000 in
theorem C_retraceref20_rests (p0 : T_api_Code) (p1 : Int) (p2 : Int) (r : Bool) (h : F_retraceref20_rests p0 p1 p2 = some r) : FnOK Tryz.prog 64 [.agg (T_api_Code.pvs p0), i64 p1, i64 p2] [] (bo r) [] [] := by
  rw [F_retraceref20_rests] at h
  refine FnOK.intro Tryz.func64 rfl (by kernel_rfl) (by kernel_rfl) fun E gv R hR => ?_
  refine At.seq ?_
  refine At.rg [1, 2, 3] [0] [] (by kernel_rfl) all0 (norm ?_)
  refine At.seq ?_
  obtain ⟨y2, hy2, h⟩ := bind_some h
  refine At.rg [1, 2, 3] [0] [(2, { pc := some { ρ := [], n0 := 0, res := i64 y2, σ' := [], e := [] } })] (by kernel_rfl) (allc (C_retraceref20_Settle p0 p2 y2 hy2) all0) (norm ?_)
  refine At.seqJ (S := Bool) (fun s => ⟨[(6, bo s)], []⟩) (fun s => F_retraceref20_rests_J1 s = some r) ?_ ?_
  · obtain ⟨y11, hy11, h⟩ := bind_some h
    rcases tf (decide (y11.Entry ≤ y2)) with b12 | b12
    · replace h := cond_t b12 h
      obtain ⟨y13, hy13, h⟩ := bind_some h
      rcases tf (decide (y2 < y13)) with b14 | b14
      · replace h := cond_t b14 h
        obtain ⟨y15, hy15, h⟩ := bind_some h
        rcases tf (y15.Op == 1) with b16 | b16
        · replace h := cond_t b16 h
          refine At.rg [6] [] [(4, { orc := .cells (T_api_Def.enc y11) }), (8, { orc := .val (.bool true) }), (12, { pc := some { ρ := [], n0 := 0, res := i64 y13, σ' := [], e := [] } }), (15, { orc := .val (.bool true) }), (19, { orc := .cells (T_api_Ins.enc y15) }), (23, { orc := .val (.bool true) })] (by kernel_rfl) (allc (elemAt_of T_api_Def.enc_len hy11) (allc (congrArg D.bool b12) (allc (C_retraceref20_To p0 p1 y13 hy13) (allc (congrArg D.bool b14) (allc (elemAt_of T_api_Ins.enc_len hy15) (allc (congrArg D.bool b16) all0)))))) (edq (l := []) (ks := [6]) (ρ := []) (st' := ⟨[(6, bo true)], []⟩) (by kernel_rfl) (fun a w hs => ⟨true, h, hs⟩))
        · replace h := cond_f b16 h
          obtain ⟨y17, hy17, h⟩ := bind_some h
          refine At.rg [6] [] [(4, { orc := .cells (T_api_Def.enc y11) }), (8, { orc := .val (.bool true) }), (12, { pc := some { ρ := [], n0 := 0, res := i64 y13, σ' := [], e := [] } }), (15, { orc := .val (.bool true) }), (19, { orc := .cells (T_api_Ins.enc y15) }), (23, { orc := .val (.bool false) }), (27, { orc := .cells (T_api_Ins.enc y17) })] (by kernel_rfl) (allc (elemAt_of T_api_Def.enc_len hy11) (allc (congrArg D.bool b12) (allc (C_retraceref20_To p0 p1 y13 hy13) (allc (congrArg D.bool b14) (allc (elemAt_of T_api_Ins.enc_len hy15) (allc (congrArg D.bool b16) (allc (elemAt_of T_api_Ins.enc_len hy17) all0))))))) (edq (l := []) (ks := [6]) (ρ := []) (st' := ⟨[(6, bo (y17.Op == 24))], []⟩) (by kernel_rfl) (fun a w hs => ⟨(y17.Op == 24), h, hs⟩))
      · replace h := cond_f b14 h
        refine At.rg [6] [] [(4, { orc := .cells (T_api_Def.enc y11) }), (8, { orc := .val (.bool true) }), (12, { pc := some { ρ := [], n0 := 0, res := i64 y13, σ' := [], e := [] } }), (15, { orc := .val (.bool false) })] (by kernel_rfl) (allc (elemAt_of T_api_Def.enc_len hy11) (allc (congrArg D.bool b12) (allc (C_retraceref20_To p0 p1 y13 hy13) (allc (congrArg D.bool b14) all0)))) (edq (l := []) (ks := [6]) (ρ := []) (st' := ⟨[(6, bo false)], []⟩) (by kernel_rfl) (fun a w hs => ⟨false, h, hs⟩))
    · replace h := cond_f b12 h
      refine At.rg [6] [] [(4, { orc := .cells (T_api_Def.enc y11) }), (8, { orc := .val (.bool false) })] (by kernel_rfl) (allc (elemAt_of T_api_Def.enc_len hy11) (allc (congrArg D.bool b12) all0)) (edq (l := []) (ks := [6]) (ρ := []) (st' := ⟨[(6, bo false)], []⟩) (by kernel_rfl) (fun a w hs => ⟨false, h, hs⟩))
  · intro x10 h
    replace h : F_retraceref20_rests_J1 x10 = some r := h
    rw [F_retraceref20_rests_J1] at h
    obtain rfl := some_eq h
    exact At.ret fun a w hs => ret_ok hR (ρ := []) (gs := []) (by kernel_rfl) all0 (by kernel_rfl) rfl rfl a w hs _ (.inl rfl)
set_option maxRecDepth 100000 in
theorem C_retraceref20_Acts (p0 : Int) (r : Bool) (h : F_retraceref20_Acts p0 = some r) : FnOK Tryz.prog 65 [i64 p0] [] (bo r) [] [] := by
  rw [F_retraceref20_Acts] at h
  refine FnOK.intro Tryz.func65 rfl (by kernel_rfl) (by kernel_rfl) fun E gv R hR => ?_
  refine At.seq ?_
  refine At.rg [0] [] [] (by kernel_rfl) all0 (norm ?_)
  refine At.seqJ (S := Bool) (fun s => ⟨[(2, bo s)], []⟩) (fun s => F_retraceref20_Acts_J1 s = some r) ?_ ?_
  · rcases tf (p0 == 4) with b6 | b6
    · replace h := cond_t b6 h
      refine At.rg [2] [] [(2, { orc := .val (.bool true) })] (by kernel_rfl) (allc (congrArg D.bool b6) all0) (edq (l := []) (ks := [2]) (ρ := []) (st' := ⟨[(2, bo true)], []⟩) (by kernel_rfl) (fun a w hs => ⟨true, h, hs⟩))
    · replace h := cond_f b6 h
      rcases tf (p0 == 10) with b7 | b7
      · replace h := cond_t b7 h
        refine At.rg [2] [] [(2, { orc := .val (.bool false) }), (6, { orc := .val (.bool true) })] (by kernel_rfl) (allc (congrArg D.bool b6) (allc (congrArg D.bool b7) all0)) (edq (l := []) (ks := [2]) (ρ := []) (st' := ⟨[(2, bo true)], []⟩) (by kernel_rfl) (fun a w hs => ⟨true, h, hs⟩))
      · replace h := cond_f b7 h
        rcases tf (p0 == 11) with b8 | b8
        · replace h := cond_t b8 h
          refine At.rg [2] [] [(2, { orc := .val (.bool false) }), (6, { orc := .val (.bool false) }), (10, { orc := .val (.bool true) })] (by kernel_rfl) (allc (congrArg D.bool b6) (allc (congrArg D.bool b7) (allc (congrArg D.bool b8) all0))) (edq (l := []) (ks := [2]) (ρ := []) (st' := ⟨[(2, bo true)], []⟩) (by kernel_rfl) (fun a w hs => ⟨true, h, hs⟩))
        · replace h := cond_f b8 h
          rcases tf (decide (12 ≤ p0)) with b9 | b9
          · replace h := cond_t b9 h
            refine At.rg [2] [] [(2, { orc := .val (.bool false) }), (6, { orc := .val (.bool false) }), (10, { orc := .val (.bool false) }), (13, { orc := .val (.bool true) })] (by kernel_rfl) (allc (congrArg D.bool b6) (allc (congrArg D.bool b7) (allc (congrArg D.bool b8) (allc (congrArg D.bool b9) all0)))) (edq (l := []) (ks := [2]) (ρ := []) (st' := ⟨[(2, bo (decide (p0 ≤ 17)))], []⟩) (by kernel_rfl) (fun a w hs => ⟨(decide (p0 ≤ 17)), h, hs⟩))
          · replace h := cond_f b9 h
            refine At.rg [2] [] [(2, { orc := .val (.bool false) }), (6, { orc := .val (.bool false) }), (10, { orc := .val (.bool false) }), (13, { orc := .val (.bool false) })] (by kernel_rfl) (allc (congrArg D.bool b6) (allc (congrArg D.bool b7) (allc (congrArg D.bool b8) (allc (congrArg D.bool b9) all0)))) (edq (l := []) (ks := [2]) (ρ := []) (st' := ⟨[(2, bo false)], []⟩) (by kernel_rfl) (fun a w hs => ⟨false, h, hs⟩))
  · intro x5 h
    replace h : F_retraceref20_Acts_J1 x5 = some r := h
    rw [F_retraceref20_Acts_J1] at h
    obtain rfl := some_eq h
    exact At.ret fun a w hs => ret_ok hR (ρ := []) (gs := []) (by kernel_rfl) all0 (by kernel_rfl) rfl rfl a w hs _ (.inl rfl)
set_option maxRecDepth 100000 in
theorem C_retraceref20_may (p0 : T_api_Code) (p1 : Int) (p2 : Int) (p3 : Int) (r : Bool) (h : F_retraceref20_may p0 p1 p2 p3 = some r) : FnOK Tryz.prog 40 [.agg (T_api_Code.pvs p0), i64 p1, i64 p2, i64 p3] [] (bo r) [] [] := by
  rw [F_retraceref20_may] at h
  refine FnOK.intro Tryz.func40 rfl (by kernel_rfl) (by kernel_rfl) fun E gv R hR => ?_
  refine At.seq ?_
  refine At.rg [1, 2, 3, 4] [0] [] (by kernel_rfl) all0 (norm ?_)
  refine At.seq ?_
  obtain ⟨y4, hy4, h⟩ := bind_some h
  obtain ⟨y5, hy5, h⟩ := bind_some h
  obtain ⟨y6, hy6, h⟩ := bind_some h
  refine At.dg mixedOrd 1 [1, 2, 3, 4, 9, 10, 11] [0, 1] [(0, { r := 1 }), (1, { T := [0], r := 1 }), (3, { tip := { orc := .cells (T_api_Ins.enc y4) } }), (5, { r := 1 }), (6, { T := [0], r := 1 }), (8, { tip := { orc := .cells (T_api_Def.enc y5) } }), (11, { T := [0], r := 1 }), (13, { tip := { pc := some { ρ := [], n0 := 0, res := i64 y6, σ' := [], e := [] } }, r := 1 }), (14, { r := 1 }), (15, { T := [1], r := 2 })] (by kernel_rfl) (allc (elemAt_of T_api_Ins.enc_len hy4) (allc (elemAt_of T_api_Def.enc_len hy5) (allc (C_retraceref20_To p0 p1 y6 hy6) all0))) (norm ?_)
  refine At.seq ?_
  refine At.seqJ (S := Bool) (fun s => ⟨[(1, i64 p1), (2, i64 p2), (3, i64 p3), (4, .ptr 0 0), (9, .ptr 1 0), (10, i64 y5.Entry), (11, i64 y6), (53, bo s)], [.blk 26 (T_api_Code.pvs p0), .blk 70 (T_api_Ins.pvs y4)]⟩) (fun s => F_retraceref20_may_J1 p0 p1 p2 p3 y4 y5 y6 s = some r) ?_ ?_
  · obtain ⟨y183, hy183, h⟩ := bind_some h
    rcases tf (!y183) with b184 | b184
    · replace h := cond_t b184 h
      refine At.rg [1, 2, 3, 4, 9, 10, 11, 53] [0, 1] [(1, { pc := some { ρ := [], n0 := 0, res := bo y183, σ' := [], e := [] } }), (3, { orc := .val (.bool true) })] (by kernel_rfl) (allc (C_retraceref16_Right y4 y183 hy183) (allc (congrArg D.bool b184) all0)) (edq (l := []) (ks := [1, 2, 3, 4, 9, 10, 11, 53]) (ρ := [0, 1]) (st' := ⟨[(1, i64 p1), (2, i64 p2), (3, i64 p3), (4, .ptr 0 0), (9, .ptr 1 0), (10, i64 y5.Entry), (11, i64 y6), (53, bo true)], [.blk 26 (T_api_Code.pvs p0), .blk 70 (T_api_Ins.pvs y4)]⟩) (by kernel_rfl) (fun a w hs => ⟨true, h, hs⟩))
    · replace h := cond_f b184 h
      rcases tf (y4.Op == 24) with b185 | b185
      · replace h := cond_t b185 h
        rcases tf (p2 != (w64 (y6 - 1))) with b186 | b186
        · replace h := cond_t b186 h
          refine At.rg [1, 2, 3, 4, 9, 10, 11, 53] [0, 1] [(1, { pc := some { ρ := [], n0 := 0, res := bo y183, σ' := [], e := [] } }), (3, { orc := .val (.bool false) }), (7, { orc := .val (.bool true) }), (14, { orc := .val (.bool true) })] (by kernel_rfl) (allc (C_retraceref16_Right y4 y183 hy183) (allc (congrArg D.bool b184) (allc (congrArg D.bool b185) (allc (congrArg D.bool b186) all0)))) (edq (l := []) (ks := [1, 2, 3, 4, 9, 10, 11, 53]) (ρ := [0, 1]) (st' := ⟨[(1, i64 p1), (2, i64 p2), (3, i64 p3), (4, .ptr 0 0), (9, .ptr 1 0), (10, i64 y5.Entry), (11, i64 y6), (53, bo true)], [.blk 26 (T_api_Code.pvs p0), .blk 70 (T_api_Ins.pvs y4)]⟩) (by kernel_rfl) (fun a w hs => ⟨true, h, hs⟩))
        · replace h := cond_f b186 h
          rcases tf (y4.Op != 24) with b187 | b187
          · replace h := cond_t b187 h
            refine At.rg [1, 2, 3, 4, 9, 10, 11, 53] [0, 1] [(1, { pc := some { ρ := [], n0 := 0, res := bo y183, σ' := [], e := [] } }), (3, { orc := .val (.bool false) }), (7, { orc := .val (.bool true) }), (14, { orc := .val (.bool false) }), (18, { orc := .val (.bool true) })] (by kernel_rfl) (allc (C_retraceref16_Right y4 y183 hy183) (allc (congrArg D.bool b184) (allc (congrArg D.bool b185) (allc (congrArg D.bool b186) (allc (congrArg D.bool b187) all0))))) (edq (l := []) (ks := [1, 2, 3, 4, 9, 10, 11, 53]) (ρ := [0, 1]) (st' := ⟨[(1, i64 p1), (2, i64 p2), (3, i64 p3), (4, .ptr 0 0), (9, .ptr 1 0), (10, i64 y5.Entry), (11, i64 y6), (53, bo (p2 == (w64 (y6 - 1))))], [.blk 26 (T_api_Code.pvs p0), .blk 70 (T_api_Ins.pvs y4)]⟩) (by kernel_rfl) (fun a w hs => ⟨(p2 == (w64 (y6 - 1))), h, hs⟩))
          · replace h := cond_f b187 h
            refine At.rg [1, 2, 3, 4, 9, 10, 11, 53] [0, 1] [(1, { pc := some { ρ := [], n0 := 0, res := bo y183, σ' := [], e := [] } }), (3, { orc := .val (.bool false) }), (7, { orc := .val (.bool true) }), (14, { orc := .val (.bool false) }), (18, { orc := .val (.bool false) })] (by kernel_rfl) (allc (C_retraceref16_Right y4 y183 hy183) (allc (congrArg D.bool b184) (allc (congrArg D.bool b185) (allc (congrArg D.bool b186) (allc (congrArg D.bool b187) all0))))) (edq (l := []) (ks := [1, 2, 3, 4, 9, 10, 11, 53]) (ρ := [0, 1]) (st' := ⟨[(1, i64 p1), (2, i64 p2), (3, i64 p3), (4, .ptr 0 0), (9, .ptr 1 0), (10, i64 y5.Entry), (11, i64 y6), (53, bo false)], [.blk 26 (T_api_Code.pvs p0), .blk 70 (T_api_Ins.pvs y4)]⟩) (by kernel_rfl) (fun a w hs => ⟨false, h, hs⟩))
      · replace h := cond_f b185 h
        rcases tf (y4.Op != 24) with b188 | b188
        · replace h := cond_t b188 h
          refine At.rg [1, 2, 3, 4, 9, 10, 11, 53] [0, 1] [(1, { pc := some { ρ := [], n0 := 0, res := bo y183, σ' := [], e := [] } }), (3, { orc := .val (.bool false) }), (7, { orc := .val (.bool false) }), (18, { orc := .val (.bool true) })] (by kernel_rfl) (allc (C_retraceref16_Right y4 y183 hy183) (allc (congrArg D.bool b184) (allc (congrArg D.bool b185) (allc (congrArg D.bool b188) all0)))) (edq (l := []) (ks := [1, 2, 3, 4, 9, 10, 11, 53]) (ρ := [0, 1]) (st' := ⟨[(1, i64 p1), (2, i64 p2), (3, i64 p3), (4, .ptr 0 0), (9, .ptr 1 0), (10, i64 y5.Entry), (11, i64 y6), (53, bo (p2 == (w64 (y6 - 1))))], [.blk 26 (T_api_Code.pvs p0), .blk 70 (T_api_Ins.pvs y4)]⟩) (by kernel_rfl) (fun a w hs => ⟨(p2 == (w64 (y6 - 1))), h, hs⟩))
        · replace h := cond_f b188 h
          refine At.rg [1, 2, 3, 4, 9, 10, 11, 53] [0, 1] [(1, { pc := some { ρ := [], n0 := 0, res := bo y183, σ' := [], e := [] } }), (3, { orc := .val (.bool false) }), (7, { orc := .val (.bool false) }), (18, { orc := .val (.bool false) })] (by kernel_rfl) (allc (C_retraceref16_Right y4 y183 hy183) (allc (congrArg D.bool b184) (allc (congrArg D.bool b185) (allc (congrArg D.bool b188) all0)))) (edq (l := []) (ks := [1, 2, 3, 4, 9, 10, 11, 53]) (ρ := [0, 1]) (st' := ⟨[(1, i64 p1), (2, i64 p2), (3, i64 p3), (4, .ptr 0 0), (9, .ptr 1 0), (10, i64 y5.Entry), (11, i64 y6), (53, bo false)], [.blk 26 (T_api_Code.pvs p0), .blk 70 (T_api_Ins.pvs y4)]⟩) (by kernel_rfl) (fun a w hs => ⟨false, h, hs⟩))
  · intro x27 h
    replace h : F_retraceref20_may_J1 p0 p1 p2 p3 y4 y5 y6 x27 = some r := h
    rw [F_retraceref20_may_J1] at h
    refine At.cond x27 (by kernel_rfl) (fun b28 => ?_) (fun b28 => ?_)
    · replace h := cond_t b28 h
      refine At.seq ?_
      refine At.rg [8] [] [] (by kernel_rfl) all0 (norm ?_)
      obtain rfl := some_eq h
      exact At.ret fun a w hs => ret_ok hR (ρ := []) (gs := []) (by kernel_rfl) all0 (by kernel_rfl) rfl rfl a w hs _ (.inl rfl)
    · replace h := cond_f b28 h
      refine At.nr [1, 2, 3, 4, 9, 10, 11] [0, 1] (by kernel_rfl) ?_
      refine At.skip (norm ?_)
      refine At.seq ?_
      refine At.seqJ (S := Bool) (fun s => ⟨[(1, i64 p1), (2, i64 p2), (4, .ptr 0 0), (9, .ptr 1 0), (10, i64 y5.Entry), (11, i64 y6), (77, bo s)], [.blk 26 (T_api_Code.pvs p0), .blk 70 (T_api_Ins.pvs y4)]⟩) (fun s => F_retraceref20_may_J2 p0 p1 p2 y4 y5 y6 s = some r) ?_ ?_
      · rcases tf (p2 == y5.Entry) with b177 | b177
        · replace h := cond_t b177 h
          rcases tf (y4.Op != 1) with b178 | b178
          · replace h := cond_t b178 h
            rcases tf (y4.Op != 24) with b179 | b179
            · replace h := cond_t b179 h
              refine At.rg [1, 2, 4, 9, 10, 11, 77] [0, 1] [(3, { orc := .val (.bool true) }), (8, { orc := .val (.bool true) }), (13, { orc := .val (.bool true) })] (by kernel_rfl) (allc (congrArg D.bool b177) (allc (congrArg D.bool b178) (allc (congrArg D.bool b179) all0))) (edq (l := []) (ks := [1, 2, 4, 9, 10, 11, 77]) (ρ := [0, 1]) (st' := ⟨[(1, i64 p1), (2, i64 p2), (4, .ptr 0 0), (9, .ptr 1 0), (10, i64 y5.Entry), (11, i64 y6), (77, bo true)], [.blk 26 (T_api_Code.pvs p0), .blk 70 (T_api_Ins.pvs y4)]⟩) (by kernel_rfl) (fun a w hs => ⟨true, h, hs⟩))
            · replace h := cond_f b179 h
              rcases tf (y4.Op == 1) with b180 | b180
              · replace h := cond_t b180 h
                refine At.rg [1, 2, 4, 9, 10, 11, 77] [0, 1] [(3, { orc := .val (.bool true) }), (8, { orc := .val (.bool true) }), (13, { orc := .val (.bool false) }), (17, { orc := .val (.bool true) })] (by kernel_rfl) (allc (congrArg D.bool b177) (allc (congrArg D.bool b178) (allc (congrArg D.bool b179) (allc (congrArg D.bool b180) all0)))) (edq (l := []) (ks := [1, 2, 4, 9, 10, 11, 77]) (ρ := [0, 1]) (st' := ⟨[(1, i64 p1), (2, i64 p2), (4, .ptr 0 0), (9, .ptr 1 0), (10, i64 y5.Entry), (11, i64 y6), (77, bo (y4.A != p3))], [.blk 26 (T_api_Code.pvs p0), .blk 70 (T_api_Ins.pvs y4)]⟩) (by kernel_rfl) (fun a w hs => ⟨(y4.A != p3), h, hs⟩))
              · replace h := cond_f b180 h
                refine At.rg [1, 2, 4, 9, 10, 11, 77] [0, 1] [(3, { orc := .val (.bool true) }), (8, { orc := .val (.bool true) }), (13, { orc := .val (.bool false) }), (17, { orc := .val (.bool false) })] (by kernel_rfl) (allc (congrArg D.bool b177) (allc (congrArg D.bool b178) (allc (congrArg D.bool b179) (allc (congrArg D.bool b180) all0)))) (edq (l := []) (ks := [1, 2, 4, 9, 10, 11, 77]) (ρ := [0, 1]) (st' := ⟨[(1, i64 p1), (2, i64 p2), (4, .ptr 0 0), (9, .ptr 1 0), (10, i64 y5.Entry), (11, i64 y6), (77, bo false)], [.blk 26 (T_api_Code.pvs p0), .blk 70 (T_api_Ins.pvs y4)]⟩) (by kernel_rfl) (fun a w hs => ⟨false, h, hs⟩))
          · replace h := cond_f b178 h
            rcases tf (y4.Op == 1) with b181 | b181
            · replace h := cond_t b181 h
              refine At.rg [1, 2, 4, 9, 10, 11, 77] [0, 1] [(3, { orc := .val (.bool true) }), (8, { orc := .val (.bool false) }), (17, { orc := .val (.bool true) })] (by kernel_rfl) (allc (congrArg D.bool b177) (allc (congrArg D.bool b178) (allc (congrArg D.bool b181) all0))) (edq (l := []) (ks := [1, 2, 4, 9, 10, 11, 77]) (ρ := [0, 1]) (st' := ⟨[(1, i64 p1), (2, i64 p2), (4, .ptr 0 0), (9, .ptr 1 0), (10, i64 y5.Entry), (11, i64 y6), (77, bo (y4.A != p3))], [.blk 26 (T_api_Code.pvs p0), .blk 70 (T_api_Ins.pvs y4)]⟩) (by kernel_rfl) (fun a w hs => ⟨(y4.A != p3), h, hs⟩))
            · replace h := cond_f b181 h
              refine At.rg [1, 2, 4, 9, 10, 11, 77] [0, 1] [(3, { orc := .val (.bool true) }), (8, { orc := .val (.bool false) }), (17, { orc := .val (.bool false) })] (by kernel_rfl) (allc (congrArg D.bool b177) (allc (congrArg D.bool b178) (allc (congrArg D.bool b181) all0))) (edq (l := []) (ks := [1, 2, 4, 9, 10, 11, 77]) (ρ := [0, 1]) (st' := ⟨[(1, i64 p1), (2, i64 p2), (4, .ptr 0 0), (9, .ptr 1 0), (10, i64 y5.Entry), (11, i64 y6), (77, bo false)], [.blk 26 (T_api_Code.pvs p0), .blk 70 (T_api_Ins.pvs y4)]⟩) (by kernel_rfl) (fun a w hs => ⟨false, h, hs⟩))
        · replace h := cond_f b177 h
          rcases tf (y4.Op == 1) with b182 | b182
          · replace h := cond_t b182 h
            refine At.rg [1, 2, 4, 9, 10, 11, 77] [0, 1] [(3, { orc := .val (.bool false) }), (17, { orc := .val (.bool true) })] (by kernel_rfl) (allc (congrArg D.bool b177) (allc (congrArg D.bool b182) all0)) (edq (l := []) (ks := [1, 2, 4, 9, 10, 11, 77]) (ρ := [0, 1]) (st' := ⟨[(1, i64 p1), (2, i64 p2), (4, .ptr 0 0), (9, .ptr 1 0), (10, i64 y5.Entry), (11, i64 y6), (77, bo (y4.A != p3))], [.blk 26 (T_api_Code.pvs p0), .blk 70 (T_api_Ins.pvs y4)]⟩) (by kernel_rfl) (fun a w hs => ⟨(y4.A != p3), h, hs⟩))
          · replace h := cond_f b182 h
            refine At.rg [1, 2, 4, 9, 10, 11, 77] [0, 1] [(3, { orc := .val (.bool false) }), (17, { orc := .val (.bool false) })] (by kernel_rfl) (allc (congrArg D.bool b177) (allc (congrArg D.bool b182) all0)) (edq (l := []) (ks := [1, 2, 4, 9, 10, 11, 77]) (ρ := [0, 1]) (st' := ⟨[(1, i64 p1), (2, i64 p2), (4, .ptr 0 0), (9, .ptr 1 0), (10, i64 y5.Entry), (11, i64 y6), (77, bo false)], [.blk 26 (T_api_Code.pvs p0), .blk 70 (T_api_Ins.pvs y4)]⟩) (by kernel_rfl) (fun a w hs => ⟨false, h, hs⟩))
      · intro x49 h
        replace h : F_retraceref20_may_J2 p0 p1 p2 y4 y5 y6 x49 = some r := h
        rw [F_retraceref20_may_J2] at h
        refine At.cond x49 (by kernel_rfl) (fun b50 => ?_) (fun b50 => ?_)
        · replace h := cond_t b50 h
          refine At.seq ?_
          refine At.rg [8] [] [] (by kernel_rfl) all0 (norm ?_)
          obtain rfl := some_eq h
          exact At.ret fun a w hs => ret_ok hR (ρ := []) (gs := []) (by kernel_rfl) all0 (by kernel_rfl) rfl rfl a w hs _ (.inl rfl)
        · replace h := cond_f b50 h
          refine At.nr [1, 2, 4, 9, 10, 11] [0, 1] (by kernel_rfl) ?_
          refine At.skip (norm ?_)
          refine At.seqJ (S := Bool) (fun s => ⟨[(1, i64 p1), (2, i64 p2), (4, .ptr 0 0), (9, .ptr 1 0), (10, i64 y5.Entry), (11, i64 y6), (12, bo s)], [.blk 26 (T_api_Code.pvs p0), .blk 70 (T_api_Ins.pvs y4)]⟩) (fun s => F_retraceref20_may_J3 p0 p1 p2 y4 y5 y6 s = some r) ?_ ?_
          · rcases tf (y4.Op == 3) with b173 | b173
            · replace h := cond_t b173 h
              refine At.rg [1, 2, 4, 9, 10, 11, 12] [0, 1] [(3, { orc := .val (.bool true) })] (by kernel_rfl) (allc (congrArg D.bool b173) all0) (edq (l := []) (ks := [1, 2, 4, 9, 10, 11, 12]) (ρ := [0, 1]) (st' := ⟨[(1, i64 p1), (2, i64 p2), (4, .ptr 0 0), (9, .ptr 1 0), (10, i64 y5.Entry), (11, i64 y6), (12, bo true)], [.blk 26 (T_api_Code.pvs p0), .blk 70 (T_api_Ins.pvs y4)]⟩) (by kernel_rfl) (fun a w hs => ⟨true, h, hs⟩))
            · replace h := cond_f b173 h
              rcases tf (y4.Op == 4) with b174 | b174
              · replace h := cond_t b174 h
                refine At.rg [1, 2, 4, 9, 10, 11, 12] [0, 1] [(3, { orc := .val (.bool false) }), (8, { orc := .val (.bool true) })] (by kernel_rfl) (allc (congrArg D.bool b173) (allc (congrArg D.bool b174) all0)) (edq (l := []) (ks := [1, 2, 4, 9, 10, 11, 12]) (ρ := [0, 1]) (st' := ⟨[(1, i64 p1), (2, i64 p2), (4, .ptr 0 0), (9, .ptr 1 0), (10, i64 y5.Entry), (11, i64 y6), (12, bo true)], [.blk 26 (T_api_Code.pvs p0), .blk 70 (T_api_Ins.pvs y4)]⟩) (by kernel_rfl) (fun a w hs => ⟨true, h, hs⟩))
              · replace h := cond_f b174 h
                rcases tf (y4.Op == 11) with b175 | b175
                · replace h := cond_t b175 h
                  refine At.rg [1, 2, 4, 9, 10, 11, 12] [0, 1] [(3, { orc := .val (.bool false) }), (8, { orc := .val (.bool false) }), (13, { orc := .val (.bool true) })] (by kernel_rfl) (allc (congrArg D.bool b173) (allc (congrArg D.bool b174) (allc (congrArg D.bool b175) all0))) (edq (l := []) (ks := [1, 2, 4, 9, 10, 11, 12]) (ρ := [0, 1]) (st' := ⟨[(1, i64 p1), (2, i64 p2), (4, .ptr 0 0), (9, .ptr 1 0), (10, i64 y5.Entry), (11, i64 y6), (12, bo true)], [.blk 26 (T_api_Code.pvs p0), .blk 70 (T_api_Ins.pvs y4)]⟩) (by kernel_rfl) (fun a w hs => ⟨true, h, hs⟩))
                · replace h := cond_f b175 h
                  rcases tf (y4.Op == 12) with b176 | b176
                  · replace h := cond_t b176 h
                    refine At.rg [1, 2, 4, 9, 10, 11, 12] [0, 1] [(3, { orc := .val (.bool false) }), (8, { orc := .val (.bool false) }), (13, { orc := .val (.bool false) }), (18, { orc := .val (.bool true) })] (by kernel_rfl) (allc (congrArg D.bool b173) (allc (congrArg D.bool b174) (allc (congrArg D.bool b175) (allc (congrArg D.bool b176) all0)))) (edq (l := []) (ks := [1, 2, 4, 9, 10, 11, 12]) (ρ := [0, 1]) (st' := ⟨[(1, i64 p1), (2, i64 p2), (4, .ptr 0 0), (9, .ptr 1 0), (10, i64 y5.Entry), (11, i64 y6), (12, bo true)], [.blk 26 (T_api_Code.pvs p0), .blk 70 (T_api_Ins.pvs y4)]⟩) (by kernel_rfl) (fun a w hs => ⟨true, h, hs⟩))
                  · replace h := cond_f b176 h
                    refine At.rg [1, 2, 4, 9, 10, 11, 12] [0, 1] [(3, { orc := .val (.bool false) }), (8, { orc := .val (.bool false) }), (13, { orc := .val (.bool false) }), (18, { orc := .val (.bool false) })] (by kernel_rfl) (allc (congrArg D.bool b173) (allc (congrArg D.bool b174) (allc (congrArg D.bool b175) (allc (congrArg D.bool b176) all0)))) (edq (l := []) (ks := [1, 2, 4, 9, 10, 11, 12]) (ρ := [0, 1]) (st' := ⟨[(1, i64 p1), (2, i64 p2), (4, .ptr 0 0), (9, .ptr 1 0), (10, i64 y5.Entry), (11, i64 y6), (12, bo (y4.Op == 19))], [.blk 26 (T_api_Code.pvs p0), .blk 70 (T_api_Ins.pvs y4)]⟩) (by kernel_rfl) (fun a w hs => ⟨(y4.Op == 19), h, hs⟩))
          · intro x55 h
            replace h : F_retraceref20_may_J3 p0 p1 p2 y4 y5 y6 x55 = some r := h
            rw [F_retraceref20_may_J3] at h
            refine At.seq ?_
            refine At.seqJ (S := Bool) (fun s => ⟨[(1, i64 p1), (2, i64 p2), (4, .ptr 0 0), (9, .ptr 1 0), (10, i64 y5.Entry), (11, i64 y6), (131, bo s)], [.blk 26 (T_api_Code.pvs p0), .blk 70 (T_api_Ins.pvs y4)]⟩) (fun s => F_retraceref20_may_J4 p0 p1 p2 y4 y5 y6 s = some r) ?_ ?_
            · rcases tf x55 with b165 | b165
              · replace h := cond_t b165 h
                rcases tf (decide (y4.A < 0)) with b166 | b166
                · replace h := cond_t b166 h
                  refine At.dg mixedOrd 0 [1, 2, 4, 9, 10, 11, 131] [0, 1] [(1, { tip := { orc := .val (.bool true) } }), (2, { r := 2 }), (3, { T := [1], r := 2 }), (5, { tip := { orc := .val (.bool true) } }), (6, { r := 2 }), (8, { r := 2 }), (18, { r := 2 }), (22, { T := [0], r := 2 }), (23, { r := 2 }), (25, { r := 2 }), (27, { r := 2 })] (by kernel_rfl) (allc (congrArg D.bool b165) (allc (congrArg D.bool b166) all0)) (edq (l := []) (ks := [1, 2, 4, 9, 10, 11, 131]) (ρ := [0, 1]) (st' := ⟨[(1, i64 p1), (2, i64 p2), (4, .ptr 0 0), (9, .ptr 1 0), (10, i64 y5.Entry), (11, i64 y6), (131, bo true)], [.blk 26 (T_api_Code.pvs p0), .blk 70 (T_api_Ins.pvs y4)]⟩) (by kernel_rfl) (fun a w hs => ⟨true, h, hs⟩))
                · replace h := cond_f b166 h
                  obtain ⟨y167, hy167, h⟩ := bind_some h
                  rcases tf (decide (y167.Vars ≤ y4.A)) with b168 | b168
                  · replace h := cond_t b168 h
                    refine At.dg mixedOrd 0 [1, 2, 4, 9, 10, 11, 131] [0, 1] [(1, { tip := { orc := .val (.bool true) } }), (2, { r := 2 }), (3, { T := [1], r := 2 }), (5, { tip := { orc := .val (.bool false) } }), (6, { r := 2 }), (7, { T := [1], r := 2 }), (8, { r := 2 }), (9, { T := [0], r := 2 }), (11, { tip := { orc := .cells (T_api_Def.enc y167) } }), (17, { tip := { orc := .val (.bool true) } }), (18, { r := 2 }), (22, { T := [0], r := 2 }), (23, { r := 2 }), (25, { r := 2 }), (27, { r := 2 })] (by kernel_rfl) (allc (congrArg D.bool b165) (allc (congrArg D.bool b166) (allc (elemAt_of T_api_Def.enc_len hy167) (allc (congrArg D.bool b168) all0)))) (edq (l := []) (ks := [1, 2, 4, 9, 10, 11, 131]) (ρ := [0, 1]) (st' := ⟨[(1, i64 p1), (2, i64 p2), (4, .ptr 0 0), (9, .ptr 1 0), (10, i64 y5.Entry), (11, i64 y6), (131, bo true)], [.blk 26 (T_api_Code.pvs p0), .blk 70 (T_api_Ins.pvs y4)]⟩) (by kernel_rfl) (fun a w hs => ⟨true, h, hs⟩))
                  · replace h := cond_f b168 h
                    rcases tf (y4.Op == 9) with b169 | b169
                    · replace h := cond_t b169 h
                      obtain ⟨y170, hy170, h⟩ := bind_some h
                      refine At.dg mixedOrd 0 [1, 2, 4, 9, 10, 11, 131] [0, 1] [(1, { tip := { orc := .val (.bool true) } }), (2, { r := 2 }), (3, { T := [1], r := 2 }), (5, { tip := { orc := .val (.bool false) } }), (6, { r := 2 }), (7, { T := [1], r := 2 }), (8, { r := 2 }), (9, { T := [0], r := 2 }), (11, { tip := { orc := .cells (T_api_Def.enc y167) } }), (17, { tip := { orc := .val (.bool false) } }), (18, { r := 2 }), (19, { T := [1], r := 2 }), (21, { tip := { orc := .val (.bool true) } }), (22, { T := [0], r := 2 }), (23, { r := 2 }), (24, { T := [1], r := 2 }), (25, { r := 2 }), (26, { T := [1], r := 2 }), (27, { tip := { pc := some { ρ := [], n0 := 0, res := bo y170, σ' := [], e := [] } }, r := 2 })] (by kernel_rfl) (allc (congrArg D.bool b165) (allc (congrArg D.bool b166) (allc (elemAt_of T_api_Def.enc_len hy167) (allc (congrArg D.bool b168) (allc (congrArg D.bool b169) (allc (C_retraceref20_channel p0 y4.A y4.B y170 hy170) all0)))))) (edq (l := []) (ks := [1, 2, 4, 9, 10, 11, 131]) (ρ := [0, 1]) (st' := ⟨[(1, i64 p1), (2, i64 p2), (4, .ptr 0 0), (9, .ptr 1 0), (10, i64 y5.Entry), (11, i64 y6), (131, bo (!y170))], [.blk 26 (T_api_Code.pvs p0), .blk 70 (T_api_Ins.pvs y4)]⟩) (by kernel_rfl) (fun a w hs => ⟨(!y170), h, hs⟩))
                    · replace h := cond_f b169 h
                      refine At.dg mixedOrd 0 [1, 2, 4, 9, 10, 11, 131] [0, 1] [(1, { tip := { orc := .val (.bool true) } }), (2, { r := 2 }), (3, { T := [1], r := 2 }), (5, { tip := { orc := .val (.bool false) } }), (6, { r := 2 }), (7, { T := [1], r := 2 }), (8, { r := 2 }), (9, { T := [0], r := 2 }), (11, { tip := { orc := .cells (T_api_Def.enc y167) } }), (17, { tip := { orc := .val (.bool false) } }), (18, { r := 2 }), (19, { T := [1], r := 2 }), (21, { tip := { orc := .val (.bool false) } }), (22, { T := [0], r := 2 }), (23, { r := 2 }), (25, { r := 2 }), (27, { r := 2 })] (by kernel_rfl) (allc (congrArg D.bool b165) (allc (congrArg D.bool b166) (allc (elemAt_of T_api_Def.enc_len hy167) (allc (congrArg D.bool b168) (allc (congrArg D.bool b169) all0))))) (edq (l := []) (ks := [1, 2, 4, 9, 10, 11, 131]) (ρ := [0, 1]) (st' := ⟨[(1, i64 p1), (2, i64 p2), (4, .ptr 0 0), (9, .ptr 1 0), (10, i64 y5.Entry), (11, i64 y6), (131, bo false)], [.blk 26 (T_api_Code.pvs p0), .blk 70 (T_api_Ins.pvs y4)]⟩) (by kernel_rfl) (fun a w hs => ⟨false, h, hs⟩))
              · replace h := cond_f b165 h
                rcases tf (y4.Op == 9) with b171 | b171
                · replace h := cond_t b171 h
                  obtain ⟨y172, hy172, h⟩ := bind_some h
                  refine At.dg mixedOrd 0 [1, 2, 4, 9, 10, 11, 131] [0, 1] [(1, { tip := { orc := .val (.bool false) } }), (2, { r := 2 }), (6, { r := 2 }), (8, { r := 2 }), (18, { r := 2 }), (19, { T := [1], r := 2 }), (21, { tip := { orc := .val (.bool true) } }), (22, { T := [0], r := 2 }), (23, { r := 2 }), (24, { T := [1], r := 2 }), (25, { r := 2 }), (26, { T := [1], r := 2 }), (27, { tip := { pc := some { ρ := [], n0 := 0, res := bo y172, σ' := [], e := [] } }, r := 2 })] (by kernel_rfl) (allc (congrArg D.bool b165) (allc (congrArg D.bool b171) (allc (C_retraceref20_channel p0 y4.A y4.B y172 hy172) all0))) (edq (l := []) (ks := [1, 2, 4, 9, 10, 11, 131]) (ρ := [0, 1]) (st' := ⟨[(1, i64 p1), (2, i64 p2), (4, .ptr 0 0), (9, .ptr 1 0), (10, i64 y5.Entry), (11, i64 y6), (131, bo (!y172))], [.blk 26 (T_api_Code.pvs p0), .blk 70 (T_api_Ins.pvs y4)]⟩) (by kernel_rfl) (fun a w hs => ⟨(!y172), h, hs⟩))
                · replace h := cond_f b171 h
                  refine At.dg mixedOrd 0 [1, 2, 4, 9, 10, 11, 131] [0, 1] [(1, { tip := { orc := .val (.bool false) } }), (2, { r := 2 }), (6, { r := 2 }), (8, { r := 2 }), (18, { r := 2 }), (19, { T := [1], r := 2 }), (21, { tip := { orc := .val (.bool false) } }), (22, { T := [0], r := 2 }), (23, { r := 2 }), (25, { r := 2 }), (27, { r := 2 })] (by kernel_rfl) (allc (congrArg D.bool b165) (allc (congrArg D.bool b171) all0)) (edq (l := []) (ks := [1, 2, 4, 9, 10, 11, 131]) (ρ := [0, 1]) (st' := ⟨[(1, i64 p1), (2, i64 p2), (4, .ptr 0 0), (9, .ptr 1 0), (10, i64 y5.Entry), (11, i64 y6), (131, bo false)], [.blk 26 (T_api_Code.pvs p0), .blk 70 (T_api_Ins.pvs y4)]⟩) (by kernel_rfl) (fun a w hs => ⟨false, h, hs⟩))
            · intro x82 h
              replace h : F_retraceref20_may_J4 p0 p1 p2 y4 y5 y6 x82 = some r := h
              rw [F_retraceref20_may_J4] at h
              refine At.cond x82 (by kernel_rfl) (fun b83 => ?_) (fun b83 => ?_)
              · replace h := cond_t b83 h
                refine At.seq ?_
                refine At.rg [8] [] [] (by kernel_rfl) all0 (norm ?_)
                obtain rfl := some_eq h
                exact At.ret fun a w hs => ret_ok hR (ρ := []) (gs := []) (by kernel_rfl) all0 (by kernel_rfl) rfl rfl a w hs _ (.inl rfl)
              · replace h := cond_f b83 h
                refine At.nr [1, 2, 4, 9, 10, 11] [0, 1] (by kernel_rfl) ?_
                refine At.skip (norm ?_)
                refine At.seq ?_
                refine At.seqJ (S := Bool) (fun s => ⟨[(1, i64 p1), (2, i64 p2), (4, .ptr 0 0), (9, .ptr 1 0), (10, i64 y5.Entry), (11, i64 y6), (159, bo s)], [.blk 26 (T_api_Code.pvs p0), .blk 70 (T_api_Ins.pvs y4)]⟩) (fun s => F_retraceref20_may_J5 p0 p1 p2 y4 y5 y6 s = some r) ?_ ?_
                · rcases tf (y4.Op == 14) with b161 | b161
                  · replace h := cond_t b161 h
                    rcases tf (decide (y4.A < 0)) with b162 | b162
                    · replace h := cond_t b162 h
                      refine At.dg mixedOrd 0 [1, 2, 4, 9, 10, 11, 159] [0, 1] [(0, { r := 2 }), (1, { T := [1], r := 2 }), (3, { tip := { orc := .val (.bool true) } }), (4, { r := 2 }), (5, { T := [1], r := 2 }), (7, { tip := { orc := .val (.bool true) } }), (8, { r := 2 }), (10, { r := 2 }), (12, { r := 2 }), (16, { r := 2 }), (18, { r := 2 }), (20, { r := 2 })] (by kernel_rfl) (allc (congrArg D.bool b161) (allc (congrArg D.bool b162) all0)) (edq (l := []) (ks := [1, 2, 4, 9, 10, 11, 159]) (ρ := [0, 1]) (st' := ⟨[(1, i64 p1), (2, i64 p2), (4, .ptr 0 0), (9, .ptr 1 0), (10, i64 y5.Entry), (11, i64 y6), (159, bo true)], [.blk 26 (T_api_Code.pvs p0), .blk 70 (T_api_Ins.pvs y4)]⟩) (by kernel_rfl) (fun a w hs => ⟨true, h, hs⟩))
                    · replace h := cond_f b162 h
                      rcases tf (decide (((p0.Defs).length : Int) ≤ y4.A)) with b163 | b163
                      · replace h := cond_t b163 h
                        refine At.dg mixedOrd 0 [1, 2, 4, 9, 10, 11, 159] [0, 1] [(0, { r := 2 }), (1, { T := [1], r := 2 }), (3, { tip := { orc := .val (.bool true) } }), (4, { r := 2 }), (5, { T := [1], r := 2 }), (7, { tip := { orc := .val (.bool false) } }), (8, { r := 2 }), (9, { T := [1], r := 2 }), (10, { r := 2 }), (11, { T := [0], r := 2 }), (12, { r := 2 }), (15, { tip := { orc := .val (.bool true) } }), (16, { r := 2 }), (18, { r := 2 }), (20, { r := 2 })] (by kernel_rfl) (allc (congrArg D.bool b161) (allc (congrArg D.bool b162) (allc (congrArg D.bool b163) all0))) (edq (l := []) (ks := [1, 2, 4, 9, 10, 11, 159]) (ρ := [0, 1]) (st' := ⟨[(1, i64 p1), (2, i64 p2), (4, .ptr 0 0), (9, .ptr 1 0), (10, i64 y5.Entry), (11, i64 y6), (159, bo true)], [.blk 26 (T_api_Code.pvs p0), .blk 70 (T_api_Ins.pvs y4)]⟩) (by kernel_rfl) (fun a w hs => ⟨true, h, hs⟩))
                      · replace h := cond_f b163 h
                        obtain ⟨y164, hy164, h⟩ := bind_some h
                        refine At.dg mixedOrd 0 [1, 2, 4, 9, 10, 11, 159] [0, 1] [(0, { r := 2 }), (1, { T := [1], r := 2 }), (3, { tip := { orc := .val (.bool true) } }), (4, { r := 2 }), (5, { T := [1], r := 2 }), (7, { tip := { orc := .val (.bool false) } }), (8, { r := 2 }), (9, { T := [1], r := 2 }), (10, { r := 2 }), (11, { T := [0], r := 2 }), (12, { r := 2 }), (15, { tip := { orc := .val (.bool false) } }), (16, { r := 2 }), (17, { T := [1], r := 2 }), (18, { r := 2 }), (19, { T := [0], r := 2 }), (20, { r := 2 }), (21, { T := [1], r := 2 }), (22, { tip := { orc := .cells (T_api_Def.enc y164) } })] (by kernel_rfl) (allc (congrArg D.bool b161) (allc (congrArg D.bool b162) (allc (congrArg D.bool b163) (allc (elemAt_of T_api_Def.enc_len hy164) all0)))) (edq (l := []) (ks := [1, 2, 4, 9, 10, 11, 159]) (ρ := [0, 1]) (st' := ⟨[(1, i64 p1), (2, i64 p2), (4, .ptr 0 0), (9, .ptr 1 0), (10, i64 y5.Entry), (11, i64 y6), (159, bo (y4.B != y164.Params))], [.blk 26 (T_api_Code.pvs p0), .blk 70 (T_api_Ins.pvs y4)]⟩) (by kernel_rfl) (fun a w hs => ⟨(y4.B != y164.Params), h, hs⟩))
                  · replace h := cond_f b161 h
                    refine At.dg mixedOrd 0 [1, 2, 4, 9, 10, 11, 159] [0, 1] [(0, { r := 2 }), (1, { T := [1], r := 2 }), (3, { tip := { orc := .val (.bool false) } }), (4, { r := 2 }), (8, { r := 2 }), (10, { r := 2 }), (12, { r := 2 }), (16, { r := 2 }), (18, { r := 2 }), (20, { r := 2 })] (by kernel_rfl) (allc (congrArg D.bool b161) all0) (edq (l := []) (ks := [1, 2, 4, 9, 10, 11, 159]) (ρ := [0, 1]) (st' := ⟨[(1, i64 p1), (2, i64 p2), (4, .ptr 0 0), (9, .ptr 1 0), (10, i64 y5.Entry), (11, i64 y6), (159, bo false)], [.blk 26 (T_api_Code.pvs p0), .blk 70 (T_api_Ins.pvs y4)]⟩) (by kernel_rfl) (fun a w hs => ⟨false, h, hs⟩))
                · intro x98 h
                  replace h : F_retraceref20_may_J5 p0 p1 p2 y4 y5 y6 x98 = some r := h
                  rw [F_retraceref20_may_J5] at h
                  refine At.cond x98 (by kernel_rfl) (fun b99 => ?_) (fun b99 => ?_)
                  · replace h := cond_t b99 h
                    refine At.seq ?_
                    refine At.rg [8] [] [] (by kernel_rfl) all0 (norm ?_)
                    obtain rfl := some_eq h
                    exact At.ret fun a w hs => ret_ok hR (ρ := []) (gs := []) (by kernel_rfl) all0 (by kernel_rfl) rfl rfl a w hs _ (.inl rfl)
                  · replace h := cond_f b99 h
                    refine At.nr [1, 2, 4, 9, 10, 11] [0, 1] (by kernel_rfl) ?_
                    refine At.skip (norm ?_)
                    refine At.seqJ (S := Unit) (fun s => ⟨[(1, i64 p1), (2, i64 p2), (4, .ptr 0 0), (9, .ptr 1 0)], [.blk 26 (T_api_Code.pvs p0), .blk 70 (T_api_Ins.pvs y4)]⟩) (fun s => F_retraceref20_may_J6 p0 p1 p2 y4 = some r) ?_ ?_
                    · refine At.seq ?_
                      obtain ⟨y135, hy135, h⟩ := bind_some h
                      refine At.rg [1, 2, 4, 9, 10, 11, 13, 14] [0, 1] [(1, { pc := some { ρ := [], n0 := 0, res := .tup [i64 y135.1, bo y135.2], σ' := [], e := [] } })] (by kernel_rfl) (allc (C_retraceref20_target y4 y135 hy135) all0) (norm ?_)
                      refine At.seq ?_
                      refine At.rg [1, 2, 4, 9, 10, 11, 13, 165] [0, 1] [] (by kernel_rfl) all0 (norm ?_)
                      refine At.cond y135.2 (by kernel_rfl) (fun b136 => ?_) (fun b136 => ?_)
                      · replace h := cond_t b136 h
                        refine At.seqJ (S := Bool) (fun s => ⟨[(1, i64 p1), (2, i64 p2), (4, .ptr 0 0), (9, .ptr 1 0), (199, bo s)], [.blk 26 (T_api_Code.pvs p0), .blk 70 (T_api_Ins.pvs y4)]⟩) (fun s => F_retraceref20_may_J8 p0 p1 p2 y4 s = some r) ?_ ?_
                        · rcases tf (decide (y135.1 < y5.Entry)) with b150 | b150
                          · replace h := cond_t b150 h
                            refine At.rg [1, 2, 4, 9, 199] [0, 1] [(3, { orc := .val (.bool true) })] (by kernel_rfl) (allc (congrArg D.bool b150) all0) (edq (l := []) (ks := [1, 2, 4, 9, 199]) (ρ := [0, 1]) (st' := ⟨[(1, i64 p1), (2, i64 p2), (4, .ptr 0 0), (9, .ptr 1 0), (199, bo true)], [.blk 26 (T_api_Code.pvs p0), .blk 70 (T_api_Ins.pvs y4)]⟩) (by kernel_rfl) (fun a w hs => ⟨true, h, hs⟩))
                          · replace h := cond_f b150 h
                            rcases tf (decide (y6 ≤ y135.1)) with b151 | b151
                            · replace h := cond_t b151 h
                              refine At.rg [1, 2, 4, 9, 199] [0, 1] [(3, { orc := .val (.bool false) }), (8, { orc := .val (.bool true) })] (by kernel_rfl) (allc (congrArg D.bool b150) (allc (congrArg D.bool b151) all0)) (edq (l := []) (ks := [1, 2, 4, 9, 199]) (ρ := [0, 1]) (st' := ⟨[(1, i64 p1), (2, i64 p2), (4, .ptr 0 0), (9, .ptr 1 0), (199, bo true)], [.blk 26 (T_api_Code.pvs p0), .blk 70 (T_api_Ins.pvs y4)]⟩) (by kernel_rfl) (fun a w hs => ⟨true, h, hs⟩))
                            · replace h := cond_f b151 h
                              rcases tf (decide (y135.1 ≤ p2)) with b152 | b152
                              · replace h := cond_t b152 h
                                obtain ⟨y153, hy153, h⟩ := bind_some h
                                rcases tf (y153.Op != 1) with b154 | b154
                                · replace h := cond_t b154 h
                                  refine At.rg [1, 2, 4, 9, 199] [0, 1] [(3, { orc := .val (.bool false) }), (8, { orc := .val (.bool false) }), (12, { orc := .val (.bool true) }), (16, { orc := .cells (T_api_Ins.enc y153) }), (22, { orc := .val (.bool true) })] (by kernel_rfl) (allc (congrArg D.bool b150) (allc (congrArg D.bool b151) (allc (congrArg D.bool b152) (allc (elemAt_of T_api_Ins.enc_len hy153) (allc (congrArg D.bool b154) all0))))) (edq (l := []) (ks := [1, 2, 4, 9, 199]) (ρ := [0, 1]) (st' := ⟨[(1, i64 p1), (2, i64 p2), (4, .ptr 0 0), (9, .ptr 1 0), (199, bo true)], [.blk 26 (T_api_Code.pvs p0), .blk 70 (T_api_Ins.pvs y4)]⟩) (by kernel_rfl) (fun a w hs => ⟨true, h, hs⟩))
                                · replace h := cond_f b154 h
                                  obtain ⟨y155, hy155, h⟩ := bind_some h
                                  rcases tf y155 with b156 | b156
                                  · replace h := cond_t b156 h
                                    obtain ⟨y157, hy157, h⟩ := bind_some h
                                    refine At.rg [1, 2, 4, 9, 199] [0, 1] [(3, { orc := .val (.bool false) }), (8, { orc := .val (.bool false) }), (12, { orc := .val (.bool true) }), (16, { orc := .cells (T_api_Ins.enc y153) }), (22, { orc := .val (.bool false) }), (25, { pc := some { ρ := [], n0 := 0, res := bo y155, σ' := [], e := [] } }), (26, { orc := .val (.bool true) }), (30, { pc := some { ρ := [], n0 := 0, res := bo y157, σ' := [], e := [] } })] (by kernel_rfl) (allc (congrArg D.bool b150) (allc (congrArg D.bool b151) (allc (congrArg D.bool b152) (allc (elemAt_of T_api_Ins.enc_len hy153) (allc (congrArg D.bool b154) (allc (C_retraceref20_Chooses y4.Op y155 hy155) (allc (congrArg D.bool b156) (allc (C_retraceref20_rests p0 p1 y135.1 y157 hy157) all0)))))))) (edq (l := []) (ks := [1, 2, 4, 9, 199]) (ρ := [0, 1]) (st' := ⟨[(1, i64 p1), (2, i64 p2), (4, .ptr 0 0), (9, .ptr 1 0), (199, bo (!y157))], [.blk 26 (T_api_Code.pvs p0), .blk 70 (T_api_Ins.pvs y4)]⟩) (by kernel_rfl) (fun a w hs => ⟨(!y157), h, hs⟩))
                                  · replace h := cond_f b156 h
                                    refine At.rg [1, 2, 4, 9, 199] [0, 1] [(3, { orc := .val (.bool false) }), (8, { orc := .val (.bool false) }), (12, { orc := .val (.bool true) }), (16, { orc := .cells (T_api_Ins.enc y153) }), (22, { orc := .val (.bool false) }), (25, { pc := some { ρ := [], n0 := 0, res := bo y155, σ' := [], e := [] } }), (26, { orc := .val (.bool false) })] (by kernel_rfl) (allc (congrArg D.bool b150) (allc (congrArg D.bool b151) (allc (congrArg D.bool b152) (allc (elemAt_of T_api_Ins.enc_len hy153) (allc (congrArg D.bool b154) (allc (C_retraceref20_Chooses y4.Op y155 hy155) (allc (congrArg D.bool b156) all0))))))) (edq (l := []) (ks := [1, 2, 4, 9, 199]) (ρ := [0, 1]) (st' := ⟨[(1, i64 p1), (2, i64 p2), (4, .ptr 0 0), (9, .ptr 1 0), (199, bo false)], [.blk 26 (T_api_Code.pvs p0), .blk 70 (T_api_Ins.pvs y4)]⟩) (by kernel_rfl) (fun a w hs => ⟨false, h, hs⟩))
                              · replace h := cond_f b152 h
                                obtain ⟨y158, hy158, h⟩ := bind_some h
                                rcases tf y158 with b159 | b159
                                · replace h := cond_t b159 h
                                  obtain ⟨y160, hy160, h⟩ := bind_some h
                                  refine At.rg [1, 2, 4, 9, 199] [0, 1] [(3, { orc := .val (.bool false) }), (8, { orc := .val (.bool false) }), (12, { orc := .val (.bool false) }), (25, { pc := some { ρ := [], n0 := 0, res := bo y158, σ' := [], e := [] } }), (26, { orc := .val (.bool true) }), (30, { pc := some { ρ := [], n0 := 0, res := bo y160, σ' := [], e := [] } })] (by kernel_rfl) (allc (congrArg D.bool b150) (allc (congrArg D.bool b151) (allc (congrArg D.bool b152) (allc (C_retraceref20_Chooses y4.Op y158 hy158) (allc (congrArg D.bool b159) (allc (C_retraceref20_rests p0 p1 y135.1 y160 hy160) all0)))))) (edq (l := []) (ks := [1, 2, 4, 9, 199]) (ρ := [0, 1]) (st' := ⟨[(1, i64 p1), (2, i64 p2), (4, .ptr 0 0), (9, .ptr 1 0), (199, bo (!y160))], [.blk 26 (T_api_Code.pvs p0), .blk 70 (T_api_Ins.pvs y4)]⟩) (by kernel_rfl) (fun a w hs => ⟨(!y160), h, hs⟩))
                                · replace h := cond_f b159 h
                                  refine At.rg [1, 2, 4, 9, 199] [0, 1] [(3, { orc := .val (.bool false) }), (8, { orc := .val (.bool false) }), (12, { orc := .val (.bool false) }), (25, { pc := some { ρ := [], n0 := 0, res := bo y158, σ' := [], e := [] } }), (26, { orc := .val (.bool false) })] (by kernel_rfl) (allc (congrArg D.bool b150) (allc (congrArg D.bool b151) (allc (congrArg D.bool b152) (allc (C_retraceref20_Chooses y4.Op y158 hy158) (allc (congrArg D.bool b159) all0))))) (edq (l := []) (ks := [1, 2, 4, 9, 199]) (ρ := [0, 1]) (st' := ⟨[(1, i64 p1), (2, i64 p2), (4, .ptr 0 0), (9, .ptr 1 0), (199, bo false)], [.blk 26 (T_api_Code.pvs p0), .blk 70 (T_api_Ins.pvs y4)]⟩) (by kernel_rfl) (fun a w hs => ⟨false, h, hs⟩))
                        · intro x148 h
                          replace h : F_retraceref20_may_J8 p0 p1 p2 y4 x148 = some r := h
                          rw [F_retraceref20_may_J8] at h
                          refine At.cond x148 (by kernel_rfl) (fun b149 => ?_) (fun b149 => ?_)
                          · replace h := cond_t b149 h
                            refine At.seq ?_
                            refine At.rg [8] [] [] (by kernel_rfl) all0 (norm ?_)
                            obtain rfl := some_eq h
                            exact At.ret fun a w hs => ret_ok hR (ρ := []) (gs := []) (by kernel_rfl) all0 (by kernel_rfl) rfl rfl a w hs _ (.inl rfl)
                          · replace h := cond_f b149 h
                            refine At.nr [1, 2, 4, 9] [0, 1] (by kernel_rfl) ?_
                            refine At.skip (edq (l := []) (ks := [1, 2, 4, 9]) (ρ := [0, 1]) (st' := ⟨[(1, i64 p1), (2, i64 p2), (4, .ptr 0 0), (9, .ptr 1 0)], [.blk 26 (T_api_Code.pvs p0), .blk 70 (T_api_Ins.pvs y4)]⟩) (by kernel_rfl) (fun a w hs => ⟨(), h, hs⟩))
                      · replace h := cond_f b136 h
                        refine At.nr [1, 2, 4, 9] [0, 1] (by kernel_rfl) ?_
                        refine At.skip (edq (l := []) (ks := [1, 2, 4, 9]) (ρ := [0, 1]) (st' := ⟨[(1, i64 p1), (2, i64 p2), (4, .ptr 0 0), (9, .ptr 1 0)], [.blk 26 (T_api_Code.pvs p0), .blk 70 (T_api_Ins.pvs y4)]⟩) (by kernel_rfl) (fun a w hs => ⟨(), h, hs⟩))
                    · intro _ h
                      replace h : F_retraceref20_may_J6 p0 p1 p2 y4 = some r := h
                      rw [F_retraceref20_may_J6] at h
                      refine At.seqJ (S := Bool) (fun s => ⟨[(8, bo s)], []⟩) (fun s => F_retraceref20_may_J7 s = some r) ?_ ?_
                      · obtain ⟨y131, hy131, h⟩ := bind_some h
                        rcases tf (!y131) with b132 | b132
                        · replace h := cond_t b132 h
                          refine At.rg [8] [] [(2, { pc := some { ρ := [], n0 := 0, res := bo y131, σ' := [], e := [] } }), (4, { orc := .val (.bool true) })] (by kernel_rfl) (allc (C_retraceref20_Acts y4.Op y131 hy131) (allc (congrArg D.bool b132) all0)) (edq (l := []) (ks := [8]) (ρ := []) (st' := ⟨[(8, bo true)], []⟩) (by kernel_rfl) (fun a w hs => ⟨true, h, hs⟩))
                        · replace h := cond_f b132 h
                          obtain ⟨y133, hy133, h⟩ := bind_some h
                          refine At.rg [8] [] [(2, { pc := some { ρ := [], n0 := 0, res := bo y131, σ' := [], e := [] } }), (4, { orc := .val (.bool false) }), (9, { pc := some { ρ := [], n0 := 0, res := bo y133, σ' := [], e := [] } })] (by kernel_rfl) (allc (C_retraceref20_Acts y4.Op y131 hy131) (allc (congrArg D.bool b132) (allc (C_retraceref20_rests p0 p1 (w64 (p2 + 1)) y133 hy133) all0))) (edq (l := []) (ks := [8]) (ρ := []) (st' := ⟨[(8, bo y133)], []⟩) (by kernel_rfl) (fun a w hs => ⟨y133, h, hs⟩))
                      · intro x130 h
                        replace h : F_retraceref20_may_J7 x130 = some r := h
                        rw [F_retraceref20_may_J7] at h
                        obtain rfl := some_eq h
                        exact At.ret fun a w hs => ret_ok hR (ρ := []) (gs := []) (by kernel_rfl) all0 (by kernel_rfl) rfl rfl a w hs _ (.inl rfl)
set_option maxRecDepth 100000 in
theorem C_retraceref15_Wide (p0 : Int) (r : Int) (h : F_retraceref15_Wide p0 = some r) : FnOK Tryz.prog 85 [i64 p0] [] (i64 r) [] [] := by
  rw [F_retraceref15_Wide] at h
  refine FnOK.intro Tryz.func85 rfl (by kernel_rfl) (by kernel_rfl) fun E gv R hR => ?_
  refine At.seq ?_
  refine At.rg [0] [] [] (by kernel_rfl) all0 (norm ?_)
  refine At.seq ?_
  refine At.seqJ (S := Bool) (fun s => ⟨[(0, i64 p0), (8, bo s)], []⟩) (fun s => F_retraceref15_Wide_J1 p0 s = some r) ?_ ?_
  · rcases tf (p0 == 3) with b16 | b16
    · replace h := cond_t b16 h
      refine At.rg [0, 8] [] [(2, { orc := .val (.bool true) })] (by kernel_rfl) (allc (congrArg D.bool b16) all0) (edq (l := []) (ks := [0, 8]) (ρ := []) (st' := ⟨[(0, i64 p0), (8, bo true)], []⟩) (by kernel_rfl) (fun a w hs => ⟨true, h, hs⟩))
    · replace h := cond_f b16 h
      refine At.rg [0, 8] [] [(2, { orc := .val (.bool false) })] (by kernel_rfl) (allc (congrArg D.bool b16) all0) (edq (l := []) (ks := [0, 8]) (ρ := []) (st' := ⟨[(0, i64 p0), (8, bo (p0 == 4))], []⟩) (by kernel_rfl) (fun a w hs => ⟨(p0 == 4), h, hs⟩))
  · intro x6 h
    replace h : F_retraceref15_Wide_J1 p0 x6 = some r := h
    rw [F_retraceref15_Wide_J1] at h
    refine At.cond x6 (by kernel_rfl) (fun b7 => ?_) (fun b7 => ?_)
    · replace h := cond_t b7 h
      refine At.seq ?_
      refine At.rg [2] [] [] (by kernel_rfl) all0 (norm ?_)
      obtain rfl := some_eq h
      exact At.ret fun a w hs => ret_ok hR (ρ := []) (gs := []) (by kernel_rfl) all0 (by kernel_rfl) rfl rfl a w hs _ (.inl rfl)
    · replace h := cond_f b7 h
      refine At.nr [0] [] (by kernel_rfl) ?_
      refine At.skip (norm ?_)
      refine At.seq ?_
      refine At.seqJ (S := Bool) (fun s => ⟨[(14, bo s)], []⟩) (fun s => F_retraceref15_Wide_J2 s = some r) ?_ ?_
      · rcases tf (decide (5 ≤ p0)) with b15 | b15
        · replace h := cond_t b15 h
          refine At.rg [14] [] [(2, { orc := .val (.bool true) })] (by kernel_rfl) (allc (congrArg D.bool b15) all0) (edq (l := []) (ks := [14]) (ρ := []) (st' := ⟨[(14, bo (decide (p0 ≤ 17)))], []⟩) (by kernel_rfl) (fun a w hs => ⟨(decide (p0 ≤ 17)), h, hs⟩))
        · replace h := cond_f b15 h
          refine At.rg [14] [] [(2, { orc := .val (.bool false) })] (by kernel_rfl) (allc (congrArg D.bool b15) all0) (edq (l := []) (ks := [14]) (ρ := []) (st' := ⟨[(14, bo false)], []⟩) (by kernel_rfl) (fun a w hs => ⟨false, h, hs⟩))
      · intro x13 h
        replace h : F_retraceref15_Wide_J2 x13 = some r := h
        rw [F_retraceref15_Wide_J2] at h
        refine At.cond x13 (by kernel_rfl) (fun b14 => ?_) (fun b14 => ?_)
        · replace h := cond_t b14 h
          refine At.seq ?_
          refine At.rg [2] [] [] (by kernel_rfl) all0 (norm ?_)
          obtain rfl := some_eq h
          exact At.ret fun a w hs => ret_ok hR (ρ := []) (gs := []) (by kernel_rfl) all0 (by kernel_rfl) rfl rfl a w hs _ (.inl rfl)
        · replace h := cond_f b14 h
          refine At.nr [] [] (by kernel_rfl) ?_
          refine At.skip (norm ?_)
          refine At.seq ?_
          refine At.rg [2] [] [] (by kernel_rfl) all0 (norm ?_)
          obtain rfl := some_eq h
          exact At.ret fun a w hs => ret_ok hR (ρ := []) (gs := []) (by kernel_rfl) all0 (by kernel_rfl) rfl rfl a w hs _ (.inl rfl)
set_option maxRecDepth 100000 in
theorem C_retraceref16_Takes (p0 : T_api_Ins) (r : Int) (h : F_retraceref16_Takes p0 = some r) : FnOK Tryz.prog 67 [.agg (T_api_Ins.pvs p0)] [] (i64 r) [] [] := by
  rw [F_retraceref16_Takes] at h
  refine FnOK.intro Tryz.func67 rfl (by kernel_rfl) (by kernel_rfl) fun E gv R hR => ?_
  refine At.seq ?_
  refine At.rg [1] [0] [] (by kernel_rfl) all0 (norm ?_)
  refine At.seq ?_
  refine At.seq ?_
  obtain ⟨y5, hy5, h⟩ := bind_some h
  refine At.rg [1, 5] [0] [(1, { pc := some { ρ := [], n0 := 0, res := bo y5, σ' := [], e := [] } })] (by kernel_rfl) (allc (C_retraceref16_Right p0 y5 hy5) all0) (norm ?_)
  refine At.cond (!y5) (by kernel_rfl) (fun b6 => ?_) (fun b6 => ?_)
  · replace h := cond_t b6 h
    refine At.seq ?_
    refine At.rg [2] [] [] (by kernel_rfl) all0 (norm ?_)
    obtain rfl := some_eq h
    exact At.ret fun a w hs => ret_ok hR (ρ := []) (gs := []) (by kernel_rfl) all0 (by kernel_rfl) rfl rfl a w hs _ (.inl rfl)
  · replace h := cond_f b6 h
    refine At.nr [1] [0] (by kernel_rfl) ?_
    refine At.skip (norm ?_)
    refine At.seqJ (S := Unit) (fun s => ⟨[], []⟩) (fun s => F_retraceref16_Takes_J1 = some r) ?_ ?_
    · refine At.seq ?_
      refine At.rg [1, 7] [0] [] (by kernel_rfl) all0 (norm ?_)
      refine At.block ?_
      refine At.seq ?_
      refine At.rg [1, 7, 8] [0] [] (by kernel_rfl) all0 (norm ?_)
      refine At.cond (p0.Op == 5) (by kernel_rfl) (fun b37 => ?_) (fun b37 => ?_)
      · replace h := cond_t b37 h
        refine At.seq ?_
        obtain ⟨y39, hy39, h⟩ := bind_some h
        refine At.region_end [2] [] _ (st' := ⟨[(2, i64 y39)], []⟩) (tips := [(2, { pc := some { ρ := [], n0 := 0, res := i64 y39, σ' := [], e := [] } })]) (by kernel_rfl) (allc (C_retraceref15_Wide p0.A y39 hy39) all0) (norm ?_)
        obtain rfl := some_eq h
        exact At.ret fun a w hs => ret_ok hR (ρ := []) (gs := []) (by kernel_rfl) all0 (by kernel_rfl) rfl rfl a w hs _ (.inl rfl)
      · replace h := cond_f b37 h
        refine At.seq ?_
        refine At.region_end [1, 7, 13] [0] _ (st' := ⟨[(1, .ptr 0 0), (7, i64 p0.Op), (13, bo (p0.Op == 14))], [.blk 70 (T_api_Ins.pvs p0)]⟩) (tips := []) (by kernel_rfl) all0 (norm ?_)
        refine At.cond (p0.Op == 14) (by kernel_rfl) (fun b40 => ?_) (fun b40 => ?_)
        · replace h := cond_t b40 h
          refine At.seq ?_
          refine At.rg [2] [] [] (by kernel_rfl) all0 (norm ?_)
          obtain rfl := some_eq h
          exact At.ret fun a w hs => ret_ok hR (ρ := []) (gs := []) (by kernel_rfl) all0 (by kernel_rfl) rfl rfl a w hs _ (.inl rfl)
        · replace h := cond_f b40 h
          refine At.seq ?_
          refine At.rg [1, 7, 17] [0] [] (by kernel_rfl) all0 (norm ?_)
          refine At.cond (p0.Op == 9) (by kernel_rfl) (fun b41 => ?_) (fun b41 => ?_)
          · replace h := cond_t b41 h
            refine At.seq ?_
            refine At.rg [21] [] [] (by kernel_rfl) all0 (norm ?_)
            refine At.cond (decide (0 < p0.B)) (by kernel_rfl) (fun b42 => ?_) (fun b42 => ?_)
            · replace h := cond_t b42 h
              refine At.seq ?_
              refine At.rg [2] [] [] (by kernel_rfl) all0 (norm ?_)
              obtain rfl := some_eq h
              exact At.ret fun a w hs => ret_ok hR (ρ := []) (gs := []) (by kernel_rfl) all0 (by kernel_rfl) rfl rfl a w hs _ (.inl rfl)
            · replace h := cond_f b42 h
              refine At.nr [] [] (by kernel_rfl) ?_
              refine At.skip (edq (l := []) (ks := []) (ρ := []) (st' := ⟨[], []⟩) (by kernel_rfl) (fun a w hs => ⟨(), h, hs⟩))
          · replace h := cond_f b41 h
            refine At.seqJ (S := Bool) (fun s => ⟨[(7, i64 p0.Op), (22, bo s)], []⟩) (fun s => F_retraceref16_Takes_J2 p0 s = some r) ?_ ?_
            · refine At.seq ?_
              refine At.rg [7, 22] [] [] (by kernel_rfl) all0 (norm ?_)
              refine At.cond (p0.Op == 10) (by kernel_rfl) (fun b66 => ?_) (fun b66 => ?_)
              · replace h := cond_t b66 h
                refine At.skip (edq (l := []) (ks := [7, 22]) (ρ := []) (st' := ⟨[(7, i64 p0.Op), (22, bo (p0.Op == 10))], []⟩) (by kernel_rfl) (fun a w hs => ⟨(p0.Op == 10), h, hs⟩))
              · replace h := cond_f b66 h
                refine At.rg [7, 22] [] [] (by kernel_rfl) all0 (edq (l := []) (ks := [7, 22]) (ρ := []) (st' := ⟨[(7, i64 p0.Op), (22, bo (p0.Op == 20))], []⟩) (by kernel_rfl) (fun a w hs => ⟨(p0.Op == 20), h, hs⟩))
            · intro x44 h
              replace h : F_retraceref16_Takes_J2 p0 x44 = some r := h
              rw [F_retraceref16_Takes_J2] at h
              refine At.cond x44 (by kernel_rfl) (fun b45 => ?_) (fun b45 => ?_)
              · replace h := cond_t b45 h
                refine At.seq ?_
                refine At.rg [2] [] [] (by kernel_rfl) all0 (norm ?_)
                obtain rfl := some_eq h
                exact At.ret fun a w hs => ret_ok hR (ρ := []) (gs := []) (by kernel_rfl) all0 (by kernel_rfl) rfl rfl a w hs _ (.inl rfl)
              · replace h := cond_f b45 h
                refine At.seqJ (S := Bool) (fun s => ⟨[(25, bo s)], []⟩) (fun s => F_retraceref16_Takes_J3 s = some r) ?_ ?_
                · refine At.seq ?_
                  refine At.rg [7, 25] [] [] (by kernel_rfl) all0 (norm ?_)
                  refine At.cond (p0.Op == 4) (by kernel_rfl) (fun b57 => ?_) (fun b57 => ?_)
                  · replace h := cond_t b57 h
                    refine At.nr [25] [] (by kernel_rfl) ?_
                    refine At.skip (edq (l := []) (ks := [25]) (ρ := []) (st' := ⟨[(25, bo (p0.Op == 4))], []⟩) (by kernel_rfl) (fun a w hs => ⟨(p0.Op == 4), h, hs⟩))
                  · replace h := cond_f b57 h
                    refine At.seq ?_
                    refine At.rg [7, 25] [] [] (by kernel_rfl) all0 (norm ?_)
                    refine At.cond (p0.Op == 7) (by kernel_rfl) (fun b58 => ?_) (fun b58 => ?_)
                    · replace h := cond_t b58 h
                      refine At.nr [25] [] (by kernel_rfl) ?_
                      refine At.skip (edq (l := []) (ks := [25]) (ρ := []) (st' := ⟨[(25, bo (p0.Op == 7))], []⟩) (by kernel_rfl) (fun a w hs => ⟨(p0.Op == 7), h, hs⟩))
                    · replace h := cond_f b58 h
                      refine At.seq ?_
                      refine At.rg [7, 25] [] [] (by kernel_rfl) all0 (norm ?_)
                      refine At.cond (p0.Op == 8) (by kernel_rfl) (fun b59 => ?_) (fun b59 => ?_)
                      · replace h := cond_t b59 h
                        refine At.nr [25] [] (by kernel_rfl) ?_
                        refine At.skip (edq (l := []) (ks := [25]) (ρ := []) (st' := ⟨[(25, bo (p0.Op == 8))], []⟩) (by kernel_rfl) (fun a w hs => ⟨(p0.Op == 8), h, hs⟩))
                      · replace h := cond_f b59 h
                        refine At.seq ?_
                        refine At.rg [7, 25] [] [] (by kernel_rfl) all0 (norm ?_)
                        refine At.cond (p0.Op == 11) (by kernel_rfl) (fun b60 => ?_) (fun b60 => ?_)
                        · replace h := cond_t b60 h
                          refine At.nr [25] [] (by kernel_rfl) ?_
                          refine At.skip (edq (l := []) (ks := [25]) (ρ := []) (st' := ⟨[(25, bo (p0.Op == 11))], []⟩) (by kernel_rfl) (fun a w hs => ⟨(p0.Op == 11), h, hs⟩))
                        · replace h := cond_f b60 h
                          refine At.seq ?_
                          refine At.rg [7, 25] [] [] (by kernel_rfl) all0 (norm ?_)
                          refine At.cond (p0.Op == 12) (by kernel_rfl) (fun b61 => ?_) (fun b61 => ?_)
                          · replace h := cond_t b61 h
                            refine At.nar [25] [] (st' := ⟨[(25, bo (p0.Op == 12))], []⟩) (by kernel_rfl) ?_
                            refine At.skip (fun a w hs => ⟨(p0.Op == 12), h, hs⟩)
                          · replace h := cond_f b61 h
                            refine At.seq ?_
                            refine At.region_end [7, 25] [] _ (st' := ⟨[(7, i64 p0.Op), (25, bo (p0.Op == 13))], []⟩) (tips := []) (by kernel_rfl) all0 (norm ?_)
                            refine At.cond (p0.Op == 13) (by kernel_rfl) (fun b62 => ?_) (fun b62 => ?_)
                            · replace h := cond_t b62 h
                              refine At.nr [25] [] (by kernel_rfl) ?_
                              refine At.skip (edq (l := []) (ks := [25]) (ρ := []) (st' := ⟨[(25, bo (p0.Op == 13))], []⟩) (by kernel_rfl) (fun a w hs => ⟨(p0.Op == 13), h, hs⟩))
                            · replace h := cond_f b62 h
                              refine At.seq ?_
                              refine At.rg [7, 25] [] [] (by kernel_rfl) all0 (norm ?_)
                              refine At.cond (p0.Op == 15) (by kernel_rfl) (fun b63 => ?_) (fun b63 => ?_)
                              · replace h := cond_t b63 h
                                refine At.nr [25] [] (by kernel_rfl) ?_
                                refine At.skip (edq (l := []) (ks := [25]) (ρ := []) (st' := ⟨[(25, bo (p0.Op == 15))], []⟩) (by kernel_rfl) (fun a w hs => ⟨(p0.Op == 15), h, hs⟩))
                              · replace h := cond_f b63 h
                                refine At.seq ?_
                                refine At.rg [7, 25] [] [] (by kernel_rfl) all0 (norm ?_)
                                refine At.cond (p0.Op == 16) (by kernel_rfl) (fun b64 => ?_) (fun b64 => ?_)
                                · replace h := cond_t b64 h
                                  refine At.nr [25] [] (by kernel_rfl) ?_
                                  refine At.skip (edq (l := []) (ks := [25]) (ρ := []) (st' := ⟨[(25, bo (p0.Op == 16))], []⟩) (by kernel_rfl) (fun a w hs => ⟨(p0.Op == 16), h, hs⟩))
                                · replace h := cond_f b64 h
                                  refine At.seq ?_
                                  refine At.rg [7, 25] [] [] (by kernel_rfl) all0 (norm ?_)
                                  refine At.cond (p0.Op == 19) (by kernel_rfl) (fun b65 => ?_) (fun b65 => ?_)
                                  · replace h := cond_t b65 h
                                    refine At.nr [25] [] (by kernel_rfl) ?_
                                    refine At.skip (edq (l := []) (ks := [25]) (ρ := []) (st' := ⟨[(25, bo (p0.Op == 19))], []⟩) (by kernel_rfl) (fun a w hs => ⟨(p0.Op == 19), h, hs⟩))
                                  · replace h := cond_f b65 h
                                    refine At.rg [25] [] [] (by kernel_rfl) all0 (edq (l := []) (ks := [25]) (ρ := []) (st' := ⟨[(25, bo (p0.Op == 21))], []⟩) (by kernel_rfl) (fun a w hs => ⟨(p0.Op == 21), h, hs⟩))
                · intro x55 h
                  replace h : F_retraceref16_Takes_J3 x55 = some r := h
                  rw [F_retraceref16_Takes_J3] at h
                  refine At.cond x55 (by kernel_rfl) (fun b56 => ?_) (fun b56 => ?_)
                  · replace h := cond_t b56 h
                    refine At.seq ?_
                    refine At.rg [2] [] [] (by kernel_rfl) all0 (norm ?_)
                    obtain rfl := some_eq h
                    exact At.ret fun a w hs => ret_ok hR (ρ := []) (gs := []) (by kernel_rfl) all0 (by kernel_rfl) rfl rfl a w hs _ (.inl rfl)
                  · replace h := cond_f b56 h
                    refine At.nr [] [] (by kernel_rfl) ?_
                    refine At.skip (edq (l := []) (ks := []) (ρ := []) (st' := ⟨[], []⟩) (by kernel_rfl) (fun a w hs => ⟨(), h, hs⟩))
    · intro _ h
      replace h : F_retraceref16_Takes_J1 = some r := h
      rw [F_retraceref16_Takes_J1] at h
      refine At.seq ?_
      refine At.rg [2] [] [] (by kernel_rfl) all0 (norm ?_)
      obtain rfl := some_eq h
      exact At.ret fun a w hs => ret_ok hR (ρ := []) (gs := []) (by kernel_rfl) all0 (by kernel_rfl) rfl rfl a w hs _ (.inl rfl)
set_option maxRecDepth 100000 in
theorem C_retraceref20_fits (p0 : T_api_Ins) (p1 : T_retraceref20_Is) (r : Bool) (h : F_retraceref20_fits p0 p1 = some r) : FnOK Tryz.prog 66 [.agg (T_api_Ins.pvs p0), .agg (T_retraceref20_Is.pvs p1)] [] (bo r) [] [] := by
  rw [F_retraceref20_fits] at h
  refine FnOK.intro Tryz.func66 rfl (by kernel_rfl) (by kernel_rfl) fun E gv R hR => ?_
  refine At.seq ?_
  refine At.rg [2, 3] [0, 1] [] (by kernel_rfl) all0 (norm ?_)
  refine At.seq ?_
  obtain ⟨y2, hy2, h⟩ := bind_some h
  refine At.dg mixedOrd 0 [2, 3, 5] [0, 1] [(0, { r := 2 }), (1, { T := [1], r := 2 }), (2, { T := [0], r := 2 }), (3, { tip := { pc := some { ρ := [], n0 := 0, res := i64 y2, σ' := [], e := [] } }, r := 2 })] (by kernel_rfl) (allc (C_retraceref16_Takes p0 y2 hy2) all0) (norm ?_)
  refine At.seq ?_
  refine At.seq ?_
  refine At.rg [2, 3, 5, 12] [0, 1] [] (by kernel_rfl) all0 (norm ?_)
  refine At.cond (decide ((w64 (p1.N - y2)) < 0)) (by kernel_rfl) (fun b4 => ?_) (fun b4 => ?_)
  · replace h := cond_t b4 h
    refine At.seq ?_
    refine At.rg [4] [] [] (by kernel_rfl) all0 (norm ?_)
    obtain rfl := some_eq h
    exact At.ret fun a w hs => ret_ok hR (ρ := []) (gs := []) (by kernel_rfl) all0 (by kernel_rfl) rfl rfl a w hs _ (.inl rfl)
  · replace h := cond_f b4 h
    refine At.nr [2, 3, 5] [0, 1] (by kernel_rfl) ?_
    refine At.skip (norm ?_)
    refine At.seq ?_
    refine At.seqJ (S := Bool) (fun s => ⟨[(2, .ptr 0 0), (3, .ptr 1 0), (5, i64 (w64 (p1.N - y2))), (25, bo s)], [.blk 70 (T_api_Ins.pvs p0), .blk 94 (T_retraceref20_Is.pvs p1)]⟩) (fun s => F_retraceref20_fits_J1 p0 p1 y2 s = some r) ?_ ?_
    · rcases tf (p0.Op == 1) with b59 | b59
      · replace h := cond_t b59 h
        refine At.rg [2, 3, 5, 25] [0, 1] [(3, { orc := .val (.bool true) })] (by kernel_rfl) (allc (congrArg D.bool b59) all0) (edq (l := []) (ks := [2, 3, 5, 25]) (ρ := [0, 1]) (st' := ⟨[(2, .ptr 0 0), (3, .ptr 1 0), (5, i64 (w64 (p1.N - y2))), (25, bo true)], [.blk 70 (T_api_Ins.pvs p0), .blk 94 (T_retraceref20_Is.pvs p1)]⟩) (by kernel_rfl) (fun a w hs => ⟨true, h, hs⟩))
      · replace h := cond_f b59 h
        rcases tf (p0.Op == 24) with b60 | b60
        · replace h := cond_t b60 h
          refine At.rg [2, 3, 5, 25] [0, 1] [(3, { orc := .val (.bool false) }), (8, { orc := .val (.bool true) })] (by kernel_rfl) (allc (congrArg D.bool b59) (allc (congrArg D.bool b60) all0)) (edq (l := []) (ks := [2, 3, 5, 25]) (ρ := [0, 1]) (st' := ⟨[(2, .ptr 0 0), (3, .ptr 1 0), (5, i64 (w64 (p1.N - y2))), (25, bo true)], [.blk 70 (T_api_Ins.pvs p0), .blk 94 (T_retraceref20_Is.pvs p1)]⟩) (by kernel_rfl) (fun a w hs => ⟨true, h, hs⟩))
        · replace h := cond_f b60 h
          refine At.rg [2, 3, 5, 25] [0, 1] [(3, { orc := .val (.bool false) }), (8, { orc := .val (.bool false) })] (by kernel_rfl) (allc (congrArg D.bool b59) (allc (congrArg D.bool b60) all0)) (edq (l := []) (ks := [2, 3, 5, 25]) (ρ := [0, 1]) (st' := ⟨[(2, .ptr 0 0), (3, .ptr 1 0), (5, i64 (w64 (p1.N - y2))), (25, bo (p0.Op == 25))], [.blk 70 (T_api_Ins.pvs p0), .blk 94 (T_retraceref20_Is.pvs p1)]⟩) (by kernel_rfl) (fun a w hs => ⟨(p0.Op == 25), h, hs⟩))
    · intro x16 h
      replace h : F_retraceref20_fits_J1 p0 p1 y2 x16 = some r := h
      rw [F_retraceref20_fits_J1] at h
      refine At.cond x16 (by kernel_rfl) (fun b17 => ?_) (fun b17 => ?_)
      · replace h := cond_t b17 h
        refine At.seqJ (S := Bool) (fun s => ⟨[(4, bo s)], []⟩) (fun s => F_retraceref20_fits_J2 s = some r) ?_ ?_
        · rcases tf (p1.N == 0) with b20 | b20
          · replace h := cond_t b20 h
            refine At.rg [4] [] [(3, { orc := .val (.bool true) })] (by kernel_rfl) (allc (congrArg D.bool b20) all0) (edq (l := []) (ks := [4]) (ρ := []) (st' := ⟨[(4, bo (!p1.Choose))], []⟩) (by kernel_rfl) (fun a w hs => ⟨(!p1.Choose), h, hs⟩))
          · replace h := cond_f b20 h
            refine At.rg [4] [] [(3, { orc := .val (.bool false) })] (by kernel_rfl) (allc (congrArg D.bool b20) all0) (edq (l := []) (ks := [4]) (ρ := []) (st' := ⟨[(4, bo false)], []⟩) (by kernel_rfl) (fun a w hs => ⟨false, h, hs⟩))
        · intro x19 h
          replace h : F_retraceref20_fits_J2 x19 = some r := h
          rw [F_retraceref20_fits_J2] at h
          obtain rfl := some_eq h
          exact At.ret fun a w hs => ret_ok hR (ρ := []) (gs := []) (by kernel_rfl) all0 (by kernel_rfl) rfl rfl a w hs _ (.inl rfl)
      · replace h := cond_f b17 h
        refine At.nr [2, 3, 5] [0, 1] (by kernel_rfl) ?_
        refine At.skip (norm ?_)
        refine At.seq ?_
        refine At.seq ?_
        refine At.rg [2, 3, 5, 36] [0, 1] [] (by kernel_rfl) all0 (norm ?_)
        refine At.cond (p0.Op == 23) (by kernel_rfl) (fun b25 => ?_) (fun b25 => ?_)
        · replace h := cond_t b25 h
          refine At.seqJ (S := Bool) (fun s => ⟨[(4, bo s)], []⟩) (fun s => F_retraceref20_fits_J3 s = some r) ?_ ?_
          · rcases tf (p1.N == 0) with b28 | b28
            · replace h := cond_t b28 h
              refine At.rg [4] [] [(3, { orc := .val (.bool true) })] (by kernel_rfl) (allc (congrArg D.bool b28) all0) (edq (l := []) (ks := [4]) (ρ := []) (st' := ⟨[(4, bo p1.Choose)], []⟩) (by kernel_rfl) (fun a w hs => ⟨p1.Choose, h, hs⟩))
            · replace h := cond_f b28 h
              refine At.rg [4] [] [(3, { orc := .val (.bool false) })] (by kernel_rfl) (allc (congrArg D.bool b28) all0) (edq (l := []) (ks := [4]) (ρ := []) (st' := ⟨[(4, bo false)], []⟩) (by kernel_rfl) (fun a w hs => ⟨false, h, hs⟩))
          · intro x27 h
            replace h : F_retraceref20_fits_J3 x27 = some r := h
            rw [F_retraceref20_fits_J3] at h
            obtain rfl := some_eq h
            exact At.ret fun a w hs => ret_ok hR (ρ := []) (gs := []) (by kernel_rfl) all0 (by kernel_rfl) rfl rfl a w hs _ (.inl rfl)
        · replace h := cond_f b25 h
          refine At.nr [2, 3, 5] [0, 1] (by kernel_rfl) ?_
          refine At.skip (norm ?_)
          refine At.seq ?_
          refine At.seq ?_
          obtain ⟨y36, hy36, h⟩ := bind_some h
          refine At.rg [2, 3, 5, 46] [0, 1] [(2, { pc := some { ρ := [], n0 := 0, res := bo y36, σ' := [], e := [] } })] (by kernel_rfl) (allc (C_retraceref20_Chooses p0.Op y36 hy36) all0) (norm ?_)
          refine At.cond y36 (by kernel_rfl) (fun b37 => ?_) (fun b37 => ?_)
          · replace h := cond_t b37 h
            refine At.seqJ (S := Bool) (fun s => ⟨[(4, bo s)], []⟩) (fun s => F_retraceref20_fits_J4 s = some r) ?_ ?_
            · rcases tf ((w64 (p1.N - y2)) == 0) with b40 | b40
              · replace h := cond_t b40 h
                refine At.rg [4] [] [(2, { orc := .val (.bool true) })] (by kernel_rfl) (allc (congrArg D.bool b40) all0) (edq (l := []) (ks := [4]) (ρ := []) (st' := ⟨[(4, bo p1.Choose)], []⟩) (by kernel_rfl) (fun a w hs => ⟨p1.Choose, h, hs⟩))
              · replace h := cond_f b40 h
                refine At.rg [4] [] [(2, { orc := .val (.bool false) })] (by kernel_rfl) (allc (congrArg D.bool b40) all0) (edq (l := []) (ks := [4]) (ρ := []) (st' := ⟨[(4, bo false)], []⟩) (by kernel_rfl) (fun a w hs => ⟨false, h, hs⟩))
            · intro x39 h
              replace h : F_retraceref20_fits_J4 x39 = some r := h
              rw [F_retraceref20_fits_J4] at h
              obtain rfl := some_eq h
              exact At.ret fun a w hs => ret_ok hR (ρ := []) (gs := []) (by kernel_rfl) all0 (by kernel_rfl) rfl rfl a w hs _ (.inl rfl)
          · replace h := cond_f b37 h
            refine At.nr [2, 3, 5] [0, 1] (by kernel_rfl) ?_
            refine At.skip (norm ?_)
            refine At.seq ?_
            refine At.seqJ (S := Bool) (fun s => ⟨[(3, .ptr 0 0), (5, i64 (w64 (p1.N - y2))), (60, bo s)], [.blk 94 (T_retraceref20_Is.pvs p1)]⟩) (fun s => F_retraceref20_fits_J5 p1 y2 s = some r) ?_ ?_
            · obtain ⟨y57, hy57, h⟩ := bind_some h
              rcases tf y57 with b58 | b58
              · replace h := cond_t b58 h
                refine At.region_end [3, 5, 60] [1] _ (st' := ⟨[(3, .ptr 0 0), (5, i64 (w64 (p1.N - y2))), (60, bo true)], [.blk 94 (T_retraceref20_Is.pvs p1)]⟩) (tips := [(2, { pc := some { ρ := [], n0 := 0, res := bo y57, σ' := [], e := [] } }), (3, { orc := .val (.bool true) })]) (by kernel_rfl) (allc (C_retraceref20_Acts p0.Op y57 hy57) (allc (congrArg D.bool b58) all0)) (fun a w hs => ⟨true, h, hs⟩)
              · replace h := cond_f b58 h
                refine At.region_end [3, 5, 60] [1] _ (st' := ⟨[(3, .ptr 0 0), (5, i64 (w64 (p1.N - y2))), (60, bo (p0.Op == 18))], [.blk 94 (T_retraceref20_Is.pvs p1)]⟩) (tips := [(2, { pc := some { ρ := [], n0 := 0, res := bo y57, σ' := [], e := [] } }), (3, { orc := .val (.bool false) })]) (by kernel_rfl) (allc (C_retraceref20_Acts p0.Op y57 hy57) (allc (congrArg D.bool b58) all0)) (fun a w hs => ⟨(p0.Op == 18), h, hs⟩)
            · intro x52 h
              replace h : F_retraceref20_fits_J5 p1 y2 x52 = some r := h
              rw [F_retraceref20_fits_J5] at h
              refine At.cond x52 (by kernel_rfl) (fun b53 => ?_) (fun b53 => ?_)
              · replace h := cond_t b53 h
                refine At.seqJ (S := Bool) (fun s => ⟨[(4, bo s)], []⟩) (fun s => F_retraceref20_fits_J6 s = some r) ?_ ?_
                · rcases tf ((w64 (p1.N - y2)) == 0) with b56 | b56
                  · replace h := cond_t b56 h
                    refine At.rg [4] [] [(2, { orc := .val (.bool true) })] (by kernel_rfl) (allc (congrArg D.bool b56) all0) (edq (l := []) (ks := [4]) (ρ := []) (st' := ⟨[(4, bo (!p1.Choose))], []⟩) (by kernel_rfl) (fun a w hs => ⟨(!p1.Choose), h, hs⟩))
                  · replace h := cond_f b56 h
                    refine At.rg [4] [] [(2, { orc := .val (.bool false) })] (by kernel_rfl) (allc (congrArg D.bool b56) all0) (edq (l := []) (ks := [4]) (ρ := []) (st' := ⟨[(4, bo false)], []⟩) (by kernel_rfl) (fun a w hs => ⟨false, h, hs⟩))
                · intro x55 h
                  replace h : F_retraceref20_fits_J6 x55 = some r := h
                  rw [F_retraceref20_fits_J6] at h
                  obtain rfl := some_eq h
                  exact At.ret fun a w hs => ret_ok hR (ρ := []) (gs := []) (by kernel_rfl) all0 (by kernel_rfl) rfl rfl a w hs _ (.inl rfl)
              · replace h := cond_f b53 h
                refine At.nr [] [] (by kernel_rfl) ?_
                refine At.skip (norm ?_)
                refine At.seq ?_
                refine At.rg [4] [] [] (by kernel_rfl) all0 (norm ?_)
                obtain rfl := some_eq h
                exact At.ret fun a w hs => ret_ok hR (ρ := []) (gs := []) (by kernel_rfl) all0 (by kernel_rfl) rfl rfl a w hs _ (.inl rfl)
set_option maxRecDepth 100000 in
theorem C_retraceref16_Gives (p0 : T_api_Ins) (r : Int) (h : F_retraceref16_Gives p0 = some r) : FnOK Tryz.prog 68 [.agg (T_api_Ins.pvs p0)] [] (i64 r) [] [] := by
  rw [F_retraceref16_Gives] at h
  refine FnOK.intro Tryz.func68 rfl (by kernel_rfl) (by kernel_rfl) fun E gv R hR => ?_
  refine At.seq ?_
  refine At.rg [1] [0] [] (by kernel_rfl) all0 (norm ?_)
  refine At.seq ?_
  refine At.seqJ (S := Bool) (fun s => ⟨[(24, bo s)], []⟩) (fun s => F_retraceref16_Gives_J1 s = some r) ?_ ?_
  · obtain ⟨y20, hy20, h⟩ := bind_some h
    rcases tf y20 with b21 | b21
    · replace h := cond_t b21 h
      rcases tf (p0.Op == 2) with b22 | b22
      · replace h := cond_t b22 h
        refine At.rg [24] [] [(1, { pc := some { ρ := [], n0 := 0, res := bo y20, σ' := [], e := [] } }), (2, { orc := .val (.bool true) }), (6, { orc := .val (.bool true) })] (by kernel_rfl) (allc (C_retraceref16_Right p0 y20 hy20) (allc (congrArg D.bool b21) (allc (congrArg D.bool b22) all0))) (edq (l := []) (ks := [24]) (ρ := []) (st' := ⟨[(24, bo true)], []⟩) (by kernel_rfl) (fun a w hs => ⟨true, h, hs⟩))
      · replace h := cond_f b22 h
        rcases tf (p0.Op == 3) with b23 | b23
        · replace h := cond_t b23 h
          refine At.rg [24] [] [(1, { pc := some { ρ := [], n0 := 0, res := bo y20, σ' := [], e := [] } }), (2, { orc := .val (.bool true) }), (6, { orc := .val (.bool false) }), (11, { orc := .val (.bool true) })] (by kernel_rfl) (allc (C_retraceref16_Right p0 y20 hy20) (allc (congrArg D.bool b21) (allc (congrArg D.bool b22) (allc (congrArg D.bool b23) all0)))) (edq (l := []) (ks := [24]) (ρ := []) (st' := ⟨[(24, bo true)], []⟩) (by kernel_rfl) (fun a w hs => ⟨true, h, hs⟩))
        · replace h := cond_f b23 h
          rcases tf (p0.Op == 5) with b24 | b24
          · replace h := cond_t b24 h
            refine At.rg [24] [] [(1, { pc := some { ρ := [], n0 := 0, res := bo y20, σ' := [], e := [] } }), (2, { orc := .val (.bool true) }), (6, { orc := .val (.bool false) }), (11, { orc := .val (.bool false) }), (16, { orc := .val (.bool true) })] (by kernel_rfl) (allc (C_retraceref16_Right p0 y20 hy20) (allc (congrArg D.bool b21) (allc (congrArg D.bool b22) (allc (congrArg D.bool b23) (allc (congrArg D.bool b24) all0))))) (edq (l := []) (ks := [24]) (ρ := []) (st' := ⟨[(24, bo true)], []⟩) (by kernel_rfl) (fun a w hs => ⟨true, h, hs⟩))
          · replace h := cond_f b24 h
            refine At.rg [24] [] [(1, { pc := some { ρ := [], n0 := 0, res := bo y20, σ' := [], e := [] } }), (2, { orc := .val (.bool true) }), (6, { orc := .val (.bool false) }), (11, { orc := .val (.bool false) }), (16, { orc := .val (.bool false) })] (by kernel_rfl) (allc (C_retraceref16_Right p0 y20 hy20) (allc (congrArg D.bool b21) (allc (congrArg D.bool b22) (allc (congrArg D.bool b23) (allc (congrArg D.bool b24) all0))))) (edq (l := []) (ks := [24]) (ρ := []) (st' := ⟨[(24, bo (p0.Op == 9))], []⟩) (by kernel_rfl) (fun a w hs => ⟨(p0.Op == 9), h, hs⟩))
    · replace h := cond_f b21 h
      refine At.rg [24] [] [(1, { pc := some { ρ := [], n0 := 0, res := bo y20, σ' := [], e := [] } }), (2, { orc := .val (.bool false) })] (by kernel_rfl) (allc (C_retraceref16_Right p0 y20 hy20) (allc (congrArg D.bool b21) all0)) (edq (l := []) (ks := [24]) (ρ := []) (st' := ⟨[(24, bo false)], []⟩) (by kernel_rfl) (fun a w hs => ⟨false, h, hs⟩))
  · intro x18 h
    replace h : F_retraceref16_Gives_J1 x18 = some r := h
    rw [F_retraceref16_Gives_J1] at h
    refine At.cond x18 (by kernel_rfl) (fun b19 => ?_) (fun b19 => ?_)
    · replace h := cond_t b19 h
      refine At.seq ?_
      refine At.rg [2] [] [] (by kernel_rfl) all0 (norm ?_)
      obtain rfl := some_eq h
      exact At.ret fun a w hs => ret_ok hR (ρ := []) (gs := []) (by kernel_rfl) all0 (by kernel_rfl) rfl rfl a w hs _ (.inl rfl)
    · replace h := cond_f b19 h
      refine At.nr [] [] (by kernel_rfl) ?_
      refine At.skip (norm ?_)
      refine At.seq ?_
      refine At.rg [2] [] [] (by kernel_rfl) all0 (norm ?_)
      obtain rfl := some_eq h
      exact At.ret fun a w hs => ret_ok hR (ρ := []) (gs := []) (by kernel_rfl) all0 (by kernel_rfl) rfl rfl a w hs _ (.inl rfl)
set_option maxRecDepth 100000 in
theorem C_retraceref20_meets (p1 : Int) (p2 : Int) (p3 : T_retraceref20_Is) (o0 : (List T_retraceref20_Is)) (r : ((List T_retraceref20_Is) × Bool) ⊕ ((List T_retraceref20_Is) × Bool)) (h : F_retraceref20_meets p1 p2 p3 o0 = some r) : FnOK Tryz.prog 69 [.row 0 (o0).length, i64 p1, i64 p2, .agg (T_retraceref20_Is.pvs p3)] [.row 94 3 (encL T_retraceref20_Is.enc o0)] ((Sum.elim (fun r => .tup [.row 0 (r.1).length, bo r.2]) (fun r => .tup [.row 1 (r.1).length, bo r.2])) r) ((Sum.elim (fun r => [.row 94 3 (encL T_retraceref20_Is.enc r.1)]) (fun r => [.row 94 3 (encL T_retraceref20_Is.enc o0), .row 94 3 (encL T_retraceref20_Is.enc r.1)])) r) [0] := by
  rw [F_retraceref20_meets] at h
  refine FnOK.intro Tryz.func69 rfl (by kernel_rfl) (by kernel_rfl) fun E gv R hR => ?_
  refine At.seq ?_
  refine At.rg [0, 1, 2, 7] [0, 1, 2] [] (by kernel_rfl) all0 (norm ?_)
  refine At.seq ?_
  refine At.seq ?_
  refine At.rg [0, 2, 7, 13] [0, 1, 2] [] (by kernel_rfl) all0 (norm ?_)
  refine At.cond (decide (p2 ≤ p1)) (by kernel_rfl) (fun b2 => ?_) (fun b2 => ?_)
  · replace h := cond_t b2 h
    refine At.seq ?_
    refine At.dg mixedOrd 0 [8, 9] [0, 1] [(0, { r := 3 }), (1, { T := [2], r := 3 }), (4, { r := 3 })] (by kernel_rfl) all0 (norm ?_)
    obtain rfl := some_eq h
    exact At.ret fun a w hs => ret_ok hR (ρ := [0]) (gs := [.ghost (gv 0) (.row 0 0)]) (by kernel_rfl) all0 (by kernel_rfl) rfl rfl a w hs _ (.inl rfl)
  · replace h := cond_f b2 h
    refine At.nr [0, 2, 7] [0, 1, 2] (by kernel_rfl) ?_
    refine At.skip (norm ?_)
    refine At.seq ?_
    refine At.seq ?_
    obtain ⟨y9, hy9, h⟩ := bind_some h
    refine At.rg [0, 2, 7, 22] [0, 1, 2] [(4, { orc := .val (.bool y9.Come) })] (by kernel_rfl) (allc (rEl hy9) (allc (rElV T_retraceref20_Is.enc_len hy9 0 (by decide) (d := .bool y9.Come) (by rfl)) all0)) (norm ?_)
    refine At.cond y9.Come (by kernel_rfl) (fun b10 => ?_) (fun b10 => ?_)
    · replace h := cond_t b10 h
      refine At.seq ?_
      obtain ⟨y12, hy12, h⟩ := bind_some h
      refine At.dg mixedOrd 0 [8, 9] [0, 1] [(0, { r := 3 }), (1, { r := 3 }), (3, { r := 3 }), (4, { tip := { orc := .cells [.bool y12.Come, .int .i64 y12.N, .bool y12.Choose] }, T := [0], r := 3 }), (5, { T := [2], r := 3 }), (7, { r := 3 })] (by kernel_rfl) (allc (rEl hy12) (allc (rElC T_retraceref20_Is.enc_len hy12 0 3 (by decide) (by rfl)) all0)) (norm ?_)
      obtain rfl := some_eq h
      exact At.ret fun a w hs => ret_ok hR (ρ := [0]) (gs := [.ghost (gv 0) (.row 0 0)]) (by kernel_rfl) all0 (by kernel_rfl) rfl rfl a w hs _ (.inl rfl)
    · replace h := cond_f b10 h
      refine At.nr [0, 2, 7] [0, 1, 2] (by kernel_rfl) ?_
      refine At.skip (norm ?_)
      refine At.seq ?_
      obtain ⟨g14, h⟩ := grd_some h
      refine At.region_end [2, 7, 10] [0, 1, 2, 3] _ (st' := ⟨[(2, i64 p2), (7, .ptr 2 0), (10, .row 3 ((([] : List T_retraceref20_Is) ++ o0)).length)], [.row 94 3 (encL T_retraceref20_Is.enc o0), .ghost (gv 0) (.row 0 0), .blk 94 (T_retraceref20_Is.pvs p3), .row 94 3 (encL T_retraceref20_Is.enc (([] : List T_retraceref20_Is) ++ o0))]⟩) (tips := [(2, { form := some ((([] : List T_retraceref20_Is) ++ o0).length, encL T_retraceref20_Is.enc (([] : List T_retraceref20_Is) ++ o0)) })]) (by kernel_rfl) (allc (len_app ([] : List T_retraceref20_Is) o0) (allc (encL_app T_retraceref20_Is.enc ([] : List T_retraceref20_Is) o0) (allc (app_ok T_retraceref20_Is.enc_len (by decide) g14) (allc (encL_len T_retraceref20_Is.enc_len o0) all0)))) (norm ?_)
      refine At.seq ?_
      obtain ⟨y16, hy16, h⟩ := bind_some h
      refine At.region_end [10] [0, 1, 3] _ (st' := ⟨[(10, .row 2 ((([] : List T_retraceref20_Is) ++ o0)).length)], [.row 94 3 (encL T_retraceref20_Is.enc o0), .ghost (gv 0) (.row 0 0), .row 94 3 (encL T_retraceref20_Is.enc (List.set (([] : List T_retraceref20_Is) ++ o0) (Int.toNat p2) p3))]⟩) (tips := [(4, { form := some (0, encL T_retraceref20_Is.enc (List.set (([] : List T_retraceref20_Is) ++ o0) (Int.toNat p2) p3)), obj := 3 })]) (by kernel_rfl) (allc (rEl hy16) (allc ((rSetM T_retraceref20_Is.enc_len hy16 0 p3 (vs := [.bool p3.Come, .int .i64 p3.N, .bool p3.Choose]) (by rfl) (Nat.le_of_ble_eq_true rfl)).1) (allc ((rSetM T_retraceref20_Is.enc_len hy16 0 p3 (vs := [.bool p3.Come, .int .i64 p3.N, .bool p3.Choose]) (by rfl) (Nat.le_of_ble_eq_true rfl)).2) all0))) (relen (st2 := ⟨[(10, .row 2 ((List.set (([] : List T_retraceref20_Is) ++ o0) (Int.toNat p2) p3)).length)], [.row 94 3 (encL T_retraceref20_Is.enc o0), .ghost (gv 0) (.row 0 0), .row 94 3 (encL T_retraceref20_Is.enc (List.set (([] : List T_retraceref20_Is) ++ o0) (Int.toNat p2) p3))]⟩) (by simp only [List.length_set]) (norm ?_))
      refine At.seq ?_
      refine At.rg [8, 9] [0, 1, 2] [] (by kernel_rfl) all0 (norm ?_)
      obtain rfl := some_eq h
      exact At.ret fun a w hs => ret_ok hR (ρ := [0, 2]) (gs := [.ghost (gv 0) (.row 0 0)]) (by kernel_rfl) all0 (by kernel_rfl) rfl rfl a w hs _ (.inl rfl)
set_option maxRecDepth 100000 in
theorem C_retraceref20_Flow (p0 : T_api_Code) (p1 : Int) (r : (List T_retraceref20_Is) × Int) (h : F_retraceref20_Flow p0 p1 = some r) : FnOK Tryz.prog 41 [.agg (T_api_Code.pvs p0), i64 p1] [] (.tup [.row 0 (r.1).length, i64 r.2]) [.row 94 3 (encL T_retraceref20_Is.enc r.1)] [] := by
  rw [F_retraceref20_Flow] at h
  refine FnOK.intro Tryz.func41 rfl (by kernel_rfl) (by kernel_rfl) fun E gv R hR => ?_
  refine At.seq ?_
  refine At.rg [1, 2] [0] [] (by kernel_rfl) all0 (norm ?_)
  refine At.seq ?_
  obtain ⟨g2, h⟩ := grd_some h
  refine At.rg [1, 2, 6] [0, 1] [(4, { form := some (((List.replicate (Int.toNat (w64 (((p0.Ins).length : Int) + 1))) (⟨false, 0, false⟩ : T_retraceref20_Is))).length, encL T_retraceref20_Is.enc (List.replicate (Int.toNat (w64 (((p0.Ins).length : Int) + 1))) (⟨false, 0, false⟩ : T_retraceref20_Is))) })] (by kernel_rfl) (allc (len_rep (Int.toNat (w64 (((p0.Ins).length : Int) + 1))) (⟨false, 0, false⟩ : T_retraceref20_Is)) (allc (encL_repM T_retraceref20_Is.enc (⟨false, 0, false⟩ : T_retraceref20_Is) rfl (Int.toNat (w64 (((p0.Ins).length : Int) + 1)))) (allc g2 all0))) (norm ?_)
  refine At.seq ?_
  obtain ⟨y5, hy5, h⟩ := bind_some h
  obtain ⟨y6, hy6, h⟩ := bind_some h
  refine At.region_end [1, 2, 6] [0, 1] _ (st' := ⟨[(1, i64 p1), (2, .ptr 0 0), (6, .row 1 ((List.replicate (Int.toNat (w64 (((p0.Ins).length : Int) + 1))) (⟨false, 0, false⟩ : T_retraceref20_Is))).length)], [.blk 26 (T_api_Code.pvs p0), .row 94 3 (encL T_retraceref20_Is.enc (List.set (List.replicate (Int.toNat (w64 (((p0.Ins).length : Int) + 1))) (⟨false, 0, false⟩ : T_retraceref20_Is)) (Int.toNat y5.Entry) (⟨true, y6.N, y6.Choose⟩ : T_retraceref20_Is)))]⟩) (tips := [(4, { orc := .cells (T_api_Def.enc y5) }), (9, { form := some (0, encL T_retraceref20_Is.enc (List.set (List.replicate (Int.toNat (w64 (((p0.Ins).length : Int) + 1))) (⟨false, 0, false⟩ : T_retraceref20_Is)) (Int.toNat y5.Entry) (⟨true, y6.N, y6.Choose⟩ : T_retraceref20_Is))), obj := 1 })]) (by kernel_rfl) (allc (elemAt_of T_api_Def.enc_len hy5) (allc (rEl hy6) (allc ((rSetM T_retraceref20_Is.enc_len hy6 0 (⟨true, y6.N, y6.Choose⟩ : T_retraceref20_Is) (vs := [.bool true]) (by rfl) (Nat.le_of_ble_eq_true rfl)).1) (allc ((rSetM T_retraceref20_Is.enc_len hy6 0 (⟨true, y6.N, y6.Choose⟩ : T_retraceref20_Is) (vs := [.bool true]) (by rfl) (Nat.le_of_ble_eq_true rfl)).2) all0)))) (relen (st2 := ⟨[(1, i64 p1), (2, .ptr 0 0), (6, .row 1 ((List.set (List.replicate (Int.toNat (w64 (((p0.Ins).length : Int) + 1))) (⟨false, 0, false⟩ : T_retraceref20_Is)) (Int.toNat y5.Entry) (⟨true, y6.N, y6.Choose⟩ : T_retraceref20_Is))).length)], [.blk 26 (T_api_Code.pvs p0), .row 94 3 (encL T_retraceref20_Is.enc (List.set (List.replicate (Int.toNat (w64 (((p0.Ins).length : Int) + 1))) (⟨false, 0, false⟩ : T_retraceref20_Is)) (Int.toNat y5.Entry) (⟨true, y6.N, y6.Choose⟩ : T_retraceref20_Is)))]⟩) (by simp only [List.length_set]) (norm ?_))
  refine At.seq ?_
  refine At.seq ?_
  obtain ⟨y227, hy227, h⟩ := bind_some h
  refine At.rg [1, 2, 6, 7] [0, 1] [(3, { orc := .cells (T_api_Def.enc y227) })] (by kernel_rfl) (allc (elemAt_of T_api_Def.enc_len hy227) all0) (norm ?_)
  refine At.block ?_
  refine At.nar [1, 2, 6, 7] [0, 1] (st' := ⟨[(1, i64 p1), (2, .ptr 0 0), (6, .row 1 ((List.set (List.replicate (Int.toNat (w64 (((p0.Ins).length : Int) + 1))) (⟨false, 0, false⟩ : T_retraceref20_Is)) (Int.toNat y5.Entry) (⟨true, y6.N, y6.Choose⟩ : T_retraceref20_Is))).length), (7, i64 y227.Entry)], [.blk 26 (T_api_Code.pvs p0), .row 94 3 (encL T_retraceref20_Is.enc (List.set (List.replicate (Int.toNat (w64 (((p0.Ins).length : Int) + 1))) (⟨false, 0, false⟩ : T_retraceref20_Is)) (Int.toNat y5.Entry) (⟨true, y6.N, y6.Choose⟩ : T_retraceref20_Is)))]⟩) (by kernel_rfl) ?_
  refine At.loop (fun s : (Int × (List T_retraceref20_Is)) => F_retraceref20_Flow_L8 p0 p1 s.1 s.2) (fun s : (Int × (List T_retraceref20_Is)) => ⟨[(1, i64 p1), (2, .ptr 0 0), (6, .row 1 (s.2).length), (7, i64 s.1)], [.blk 26 (T_api_Code.pvs p0), .row 94 3 (encL T_retraceref20_Is.enc s.2)]⟩) r (y227.Entry, (List.set (List.replicate (Int.toNat (w64 (((p0.Ins).length : Int) + 1))) (⟨false, 0, false⟩ : T_retraceref20_Is)) (Int.toNat y5.Entry) (⟨true, y6.N, y6.Choose⟩ : T_retraceref20_Is))) h ?_
  rintro ⟨x228, x229⟩ oo230 h f231
  replace h : F_retraceref20_Flow_L8 p0 p1 x228 x229 = some oo230 := h
  rw [F_retraceref20_Flow_L8] at h
  refine At.seq ?_
  refine At.seq ?_
  obtain ⟨y236, hy236, h⟩ := bind_some h
  refine At.rg [1, 2, 6, 7, 38] [0, 1] [(3, { pc := some { ρ := [], n0 := 0, res := i64 y236, σ' := [], e := [] } })] (by kernel_rfl) (allc (C_retraceref20_To p0 p1 y236 hy236) all0) (norm ?_)
  refine At.cond (decide (x228 < y236)) (by kernel_rfl) (fun b237 => ?_) (fun b237 => ?_)
  · replace h := cond_t b237 h
    refine At.nr [1, 2, 6, 7] [0, 1] (by kernel_rfl) ?_
    refine At.skip (norm ?_)
    refine At.seqJ (S := (List T_retraceref20_Is)) (fun s => ⟨[(1, i64 p1), (2, .ptr 0 0), (6, .row 1 (s).length), (7, i64 x228)], [.blk 26 (T_api_Code.pvs p0), .row 94 3 (encL T_retraceref20_Is.enc s)]⟩) (fun s => F_retraceref20_Flow_J1 x228 s = some oo230) ?_ ?_
    · refine At.block ?_
      refine At.seq ?_
      refine At.seqJ (S := Bool) (fun s => ⟨[(1, i64 p1), (2, .ptr 0 0), (6, .row 1 (x229).length), (7, i64 x228), (55, bo s)], [.blk 26 (T_api_Code.pvs p0), .row 94 3 (encL T_retraceref20_Is.enc x229)]⟩) (fun s => F_retraceref20_Flow_J2 p0 x228 x229 s = some oo230) ?_ ?_
      · obtain ⟨y440, hy440, h⟩ := bind_some h
        rcases tf (!y440.Come) with b441 | b441
        · replace h := cond_t b441 h
          obtain ⟨y442, hy442, h⟩ := bind_some h
          refine At.rg [1, 2, 6, 7, 55] [0, 1] [(4, { orc := .val (.bool y440.Come) }), (6, { orc := .val (.bool true) }), (10, { orc := .cells (T_api_Ins.enc y442) })] (by kernel_rfl) (allc (rEl hy440) (allc (rElV T_retraceref20_Is.enc_len hy440 0 (by decide) (d := .bool y440.Come) (by rfl)) (allc (congrArg D.bool b441) (allc (elemAt_of T_api_Ins.enc_len hy442) all0)))) (edq (l := []) (ks := [1, 2, 6, 7, 55]) (ρ := [0, 1]) (st' := ⟨[(1, i64 p1), (2, .ptr 0 0), (6, .row 1 (x229).length), (7, i64 x228), (55, bo (y442.Op != 1))], [.blk 26 (T_api_Code.pvs p0), .row 94 3 (encL T_retraceref20_Is.enc x229)]⟩) (by kernel_rfl) (fun a w hs => ⟨(y442.Op != 1), h, hs⟩))
        · replace h := cond_f b441 h
          refine At.rg [1, 2, 6, 7, 55] [0, 1] [(4, { orc := .val (.bool y440.Come) }), (6, { orc := .val (.bool false) })] (by kernel_rfl) (allc (rEl hy440) (allc (rElV T_retraceref20_Is.enc_len hy440 0 (by decide) (d := .bool y440.Come) (by rfl)) (allc (congrArg D.bool b441) all0))) (edq (l := []) (ks := [1, 2, 6, 7, 55]) (ρ := [0, 1]) (st' := ⟨[(1, i64 p1), (2, .ptr 0 0), (6, .row 1 (x229).length), (7, i64 x228), (55, bo false)], [.blk 26 (T_api_Code.pvs p0), .row 94 3 (encL T_retraceref20_Is.enc x229)]⟩) (by kernel_rfl) (fun a w hs => ⟨false, h, hs⟩))
      · intro x349 h
        replace h : F_retraceref20_Flow_J2 p0 x228 x229 x349 = some oo230 := h
        rw [F_retraceref20_Flow_J2] at h
        refine At.cond x349 (by kernel_rfl) (fun b350 => ?_) (fun b350 => ?_)
        · replace h := cond_t b350 h
          refine At.nr [1, 2, 6, 7] [0, 1] (by kernel_rfl) ?_
          refine At.exit (edq (l := []) (ks := [1, 2, 6, 7]) (ρ := [0, 1]) (st' := ⟨[(1, i64 p1), (2, .ptr 0 0), (6, .row 1 (x229).length), (7, i64 x228)], [.blk 26 (T_api_Code.pvs p0), .row 94 3 (encL T_retraceref20_Is.enc x229)]⟩) (by kernel_rfl) (fun a w hs => ⟨x229, h, hs⟩))
        · replace h := cond_f b350 h
          refine At.nr [1, 2, 6, 7] [0, 1] (by kernel_rfl) ?_
          refine At.skip (norm ?_)
          refine At.seq ?_
          obtain ⟨y352, hy352, h⟩ := bind_some h
          refine At.region_end [1, 2, 6, 7] [0, 1] _ (st' := ⟨[(1, i64 p1), (2, .ptr 0 0), (6, .row 1 (x229).length), (7, i64 x228)], [.blk 26 (T_api_Code.pvs p0), .row 94 3 (encL T_retraceref20_Is.enc (List.set x229 (Int.toNat x228) (⟨true, y352.N, y352.Choose⟩ : T_retraceref20_Is)))]⟩) (tips := [(4, { form := some (0, encL T_retraceref20_Is.enc (List.set x229 (Int.toNat x228) (⟨true, y352.N, y352.Choose⟩ : T_retraceref20_Is))), obj := 1 })]) (by kernel_rfl) (allc (rEl hy352) (allc ((rSetM T_retraceref20_Is.enc_len hy352 0 (⟨true, y352.N, y352.Choose⟩ : T_retraceref20_Is) (vs := [.bool true]) (by rfl) (Nat.le_of_ble_eq_true rfl)).1) (allc ((rSetM T_retraceref20_Is.enc_len hy352 0 (⟨true, y352.N, y352.Choose⟩ : T_retraceref20_Is) (vs := [.bool true]) (by rfl) (Nat.le_of_ble_eq_true rfl)).2) all0))) (relen (st2 := ⟨[(1, i64 p1), (2, .ptr 0 0), (6, .row 1 ((List.set x229 (Int.toNat x228) (⟨true, y352.N, y352.Choose⟩ : T_retraceref20_Is))).length), (7, i64 x228)], [.blk 26 (T_api_Code.pvs p0), .row 94 3 (encL T_retraceref20_Is.enc (List.set x229 (Int.toNat x228) (⟨true, y352.N, y352.Choose⟩ : T_retraceref20_Is)))]⟩) (by simp only [List.length_set]) (norm ?_))
          refine At.seq ?_
          obtain ⟨y354, hy354, h⟩ := bind_some h
          refine At.rg [1, 2, 6, 7, 8] [0, 1, 2] [(3, { orc := .cells (T_api_Ins.enc y354) })] (by kernel_rfl) (allc (elemAt_of T_api_Ins.enc_len hy354) all0) (norm ?_)
          refine At.seq ?_
          refine At.seq ?_
          obtain ⟨y362, hy362, h⟩ := bind_some h
          obtain ⟨y363, hy363, h⟩ := bind_some h
          refine At.dg mixedOrd 0 [1, 2, 6, 7, 8, 71] [0, 1, 2] [(0, { T := [2], r := 3 }), (1, { r := 3 }), (3, { r := 3 }), (4, { tip := { orc := .cells [.bool y362.Come, .int .i64 y362.N, .bool y362.Choose] }, T := [1], r := 3 }), (5, { tip := { pc := some { ρ := [], n0 := 0, res := bo y363, σ' := [], e := [] } }, r := 3 })] (by kernel_rfl) (allc (rEl hy362) (allc (rElC T_retraceref20_Is.enc_len hy362 0 3 (by decide) (by rfl)) (allc (C_retraceref20_fits y354 y362 y363 hy363) all0))) (norm ?_)
          refine At.cond (!y363) (by kernel_rfl) (fun b364 => ?_) (fun b364 => ?_)
          · replace h := cond_t b364 h
            refine At.seq ?_
            refine At.rg [4, 5] [1] [] (by kernel_rfl) all0 (norm ?_)
            obtain ⟨r365, h, e366⟩ := map_inr h
            rw [f231 _ e366] at h
            obtain rfl := some_eq h
            exact At.ret fun a w hs => ret_ok hR (ρ := [0]) (gs := []) (by kernel_rfl) all0 (by kernel_rfl) rfl rfl a w hs _ (.inl rfl)
          · replace h := cond_f b364 h
            refine At.nr [1, 2, 6, 7, 8] [0, 1, 2] (by kernel_rfl) ?_
            refine At.skip (norm ?_)
            refine At.seqJ (S := Int × Bool) (fun s => ⟨[(1, i64 p1), (2, .ptr 0 0), (6, .row 1 ((List.set x229 (Int.toNat x228) (⟨true, y352.N, y352.Choose⟩ : T_retraceref20_Is))).length), (7, i64 x228), (8, .ptr 2 0), (9, .ptr 3 0)], [.blk 26 (T_api_Code.pvs p0), .row 94 3 (encL T_retraceref20_Is.enc (List.set x229 (Int.toNat x228) (⟨true, y352.N, y352.Choose⟩ : T_retraceref20_Is))), .blk 70 (T_api_Ins.pvs y354), .blk 94 [bo true, i64 s.1, bo s.2]]⟩) (fun s => F_retraceref20_Flow_J3 x228 x229 y352 y354 s.1 s.2 = some oo230) ?_ ?_
            · obtain ⟨y435, hy435, h⟩ := bind_some h
              obtain ⟨y436, hy436, h⟩ := bind_some h
              obtain ⟨y437, hy437, h⟩ := bind_some h
              obtain ⟨y438, hy438, h⟩ := bind_some h
              rcases tf y438.Choose with b439 | b439
              · replace h := cond_t b439 h
                refine At.dg mixedOrd 1 [1, 2, 6, 7, 8, 9] [0, 1, 2, 3] [(0, { r := 3 }), (2, { r := 3 }), (3, { r := 3 }), (4, { tip := { orc := .val (.int .i64 y435.N) }, T := [1], r := 3 }), (5, { T := [2], r := 3 }), (6, { tip := { pc := some { ρ := [], n0 := 0, res := i64 y436, σ' := [], e := [] } }, r := 3 }), (8, { T := [2], r := 3 }), (9, { tip := { pc := some { ρ := [], n0 := 0, res := i64 y437, σ' := [], e := [] } }, r := 3 }), (11, { r := 3 }), (13, { r := 3 }), (14, { r := 3 }), (15, { tip := { orc := .val (.bool y438.Choose) }, T := [1], r := 3 }), (16, { tip := { orc := .val (.bool true) } }), (17, { r := 3 }), (22, { r := 3 }), (23, { T := [3], r := 4 })] (by kernel_rfl) (allc (rEl hy435) (allc (rElV T_retraceref20_Is.enc_len hy435 1 (by decide) (d := .int .i64 y435.N) (by rfl)) (allc (C_retraceref16_Takes y354 y436 hy436) (allc (C_retraceref16_Gives y354 y437 hy437) (allc (rEl hy438) (allc (rElV T_retraceref20_Is.enc_len hy438 2 (by decide) (d := .bool y438.Choose) (by rfl)) (allc (congrArg D.bool b439) all0))))))) (edq (l := []) (ks := [1, 2, 6, 7, 8, 9]) (ρ := [0, 1, 2, 3]) (st' := ⟨[(1, i64 p1), (2, .ptr 0 0), (6, .row 1 ((List.set x229 (Int.toNat x228) (⟨true, y352.N, y352.Choose⟩ : T_retraceref20_Is))).length), (7, i64 x228), (8, .ptr 2 0), (9, .ptr 3 0)], [.blk 26 (T_api_Code.pvs p0), .row 94 3 (encL T_retraceref20_Is.enc (List.set x229 (Int.toNat x228) (⟨true, y352.N, y352.Choose⟩ : T_retraceref20_Is))), .blk 70 (T_api_Ins.pvs y354), .blk 94 [bo true, i64 (w64 ((w64 (y435.N - y436)) + y437)), bo true]]⟩) (by kernel_rfl) (fun a w hs => ⟨((w64 ((w64 (y435.N - y436)) + y437)), true), h, hs⟩))
              · replace h := cond_f b439 h
                refine At.dg mixedOrd 1 [1, 2, 6, 7, 8, 9] [0, 1, 2, 3] [(0, { r := 3 }), (2, { r := 3 }), (3, { r := 3 }), (4, { tip := { orc := .val (.int .i64 y435.N) }, T := [1], r := 3 }), (5, { T := [2], r := 3 }), (6, { tip := { pc := some { ρ := [], n0 := 0, res := i64 y436, σ' := [], e := [] } }, r := 3 }), (8, { T := [2], r := 3 }), (9, { tip := { pc := some { ρ := [], n0 := 0, res := i64 y437, σ' := [], e := [] } }, r := 3 }), (11, { r := 3 }), (13, { r := 3 }), (14, { r := 3 }), (15, { tip := { orc := .val (.bool y438.Choose) }, T := [1], r := 3 }), (16, { tip := { orc := .val (.bool false) } }), (17, { r := 3 }), (18, { T := [2], r := 3 }), (22, { r := 3 }), (23, { T := [3], r := 4 })] (by kernel_rfl) (allc (rEl hy435) (allc (rElV T_retraceref20_Is.enc_len hy435 1 (by decide) (d := .int .i64 y435.N) (by rfl)) (allc (C_retraceref16_Takes y354 y436 hy436) (allc (C_retraceref16_Gives y354 y437 hy437) (allc (rEl hy438) (allc (rElV T_retraceref20_Is.enc_len hy438 2 (by decide) (d := .bool y438.Choose) (by rfl)) (allc (congrArg D.bool b439) all0))))))) (edq (l := []) (ks := [1, 2, 6, 7, 8, 9]) (ρ := [0, 1, 2, 3]) (st' := ⟨[(1, i64 p1), (2, .ptr 0 0), (6, .row 1 ((List.set x229 (Int.toNat x228) (⟨true, y352.N, y352.Choose⟩ : T_retraceref20_Is))).length), (7, i64 x228), (8, .ptr 2 0), (9, .ptr 3 0)], [.blk 26 (T_api_Code.pvs p0), .row 94 3 (encL T_retraceref20_Is.enc (List.set x229 (Int.toNat x228) (⟨true, y352.N, y352.Choose⟩ : T_retraceref20_Is))), .blk 70 (T_api_Ins.pvs y354), .blk 94 [bo true, i64 (w64 ((w64 (y435.N - y436)) + y437)), bo (y354.Op == 25)]]⟩) (by kernel_rfl) (fun a w hs => ⟨((w64 ((w64 (y435.N - y436)) + y437)), (y354.Op == 25)), h, hs⟩))
            · rintro ⟨x372, x373⟩ h
              replace h : F_retraceref20_Flow_J3 x228 x229 y352 y354 x372 x373 = some oo230 := h
              rw [F_retraceref20_Flow_J3] at h
              refine At.seq ?_
              refine At.rg [1, 2, 6, 7, 8, 9, 10] [0, 1, 2, 3] [] (by kernel_rfl) all0 (norm ?_)
              refine At.seqJ (S := Bool × (List T_retraceref20_Is)) (fun s => ⟨[(1, i64 p1), (2, .ptr 0 0), (6, .row 1 (s.2).length), (7, i64 x228), (8, .ptr 2 0), (9, .ptr 3 0), (10, bo s.1)], [.blk 26 (T_api_Code.pvs p0), .row 94 3 (encL T_retraceref20_Is.enc s.2), .blk 70 (T_api_Ins.pvs y354), .blk 94 [bo true, i64 x372, bo x373]]⟩) (fun s => F_retraceref20_Flow_J4 x228 y354 x372 x373 s.1 s.2 = some oo230) ?_ ?_
              · refine At.seq ?_
                obtain ⟨y422, hy422, h⟩ := bind_some h
                refine At.rg [1, 2, 6, 7, 8, 9, 10, 11, 12] [0, 1, 2, 3] [(1, { pc := some { ρ := [], n0 := 0, res := .tup [i64 y422.1, bo y422.2], σ' := [], e := [] } })] (by kernel_rfl) (allc (C_retraceref20_target y354 y422 hy422) all0) (norm ?_)
                refine At.seq ?_
                refine At.rg [1, 2, 6, 7, 8, 9, 10, 11, 101] [0, 1, 2, 3] [] (by kernel_rfl) all0 (norm ?_)
                refine At.cond y422.2 (by kernel_rfl) (fun b423 => ?_) (fun b423 => ?_)
                · replace h := cond_t b423 h
                  refine At.seq ?_
                  refine At.rg [1, 2, 6, 7, 8, 9, 11, 13] [0, 1, 2, 3, 4] [] (by kernel_rfl) all0 (norm ?_)
                  refine At.seqJ (S := Int × Bool) (fun s => ⟨[(1, i64 p1), (2, .ptr 0 0), (6, .row 1 ((List.set x229 (Int.toNat x228) (⟨true, y352.N, y352.Choose⟩ : T_retraceref20_Is))).length), (7, i64 x228), (8, .ptr 2 0), (9, .ptr 3 0), (11, i64 y422.1), (13, .ptr 4 0)], [.blk 26 (T_api_Code.pvs p0), .row 94 3 (encL T_retraceref20_Is.enc (List.set x229 (Int.toNat x228) (⟨true, y352.N, y352.Choose⟩ : T_retraceref20_Is))), .blk 70 (T_api_Ins.pvs y354), .blk 94 [bo true, i64 x372, bo x373], .blk 94 [bo true, i64 s.1, bo s.2]]⟩) (fun s => F_retraceref20_Flow_J7 x228 x229 y352 y354 x372 x373 y422 s.1 s.2 = some oo230) ?_ ?_
                  · refine At.seq ?_
                    obtain ⟨y433, hy433, h⟩ := bind_some h
                    refine At.rg [1, 2, 6, 7, 8, 9, 11, 13, 105] [0, 1, 2, 3, 4] [(2, { pc := some { ρ := [], n0 := 0, res := bo y433, σ' := [], e := [] } })] (by kernel_rfl) (allc (C_retraceref20_Chooses y354.Op y433 hy433) all0) (norm ?_)
                    refine At.cond y433 (by kernel_rfl) (fun b434 => ?_) (fun b434 => ?_)
                    · replace h := cond_t b434 h
                      refine At.region_end [1, 2, 6, 7, 8, 9, 11, 13] [0, 1, 2, 3, 4] _ (st' := ⟨[(1, i64 p1), (2, .ptr 0 0), (6, .row 1 ((List.set x229 (Int.toNat x228) (⟨true, y352.N, y352.Choose⟩ : T_retraceref20_Is))).length), (7, i64 x228), (8, .ptr 2 0), (9, .ptr 3 0), (11, i64 y422.1), (13, .ptr 4 0)], [.blk 26 (T_api_Code.pvs p0), .row 94 3 (encL T_retraceref20_Is.enc (List.set x229 (Int.toNat x228) (⟨true, y352.N, y352.Choose⟩ : T_retraceref20_Is))), .blk 70 (T_api_Ins.pvs y354), .blk 94 [bo true, i64 x372, bo x373], .blk 94 [bo true, i64 0, bo false]]⟩) (tips := []) (by kernel_rfl) all0 (fun a w hs => ⟨(0, false), h, hs⟩)
                    · replace h := cond_f b434 h
                      refine At.nar [1, 2, 6, 7, 8, 9, 11, 13] [0, 1, 2, 3, 4] (st' := ⟨[(1, i64 p1), (2, .ptr 0 0), (6, .row 1 ((List.set x229 (Int.toNat x228) (⟨true, y352.N, y352.Choose⟩ : T_retraceref20_Is))).length), (7, i64 x228), (8, .ptr 2 0), (9, .ptr 3 0), (11, i64 y422.1), (13, .ptr 4 0)], [.blk 26 (T_api_Code.pvs p0), .row 94 3 (encL T_retraceref20_Is.enc (List.set x229 (Int.toNat x228) (⟨true, y352.N, y352.Choose⟩ : T_retraceref20_Is))), .blk 70 (T_api_Ins.pvs y354), .blk 94 [bo true, i64 x372, bo x373], .blk 94 [bo true, i64 x372, bo x373]]⟩) (by kernel_rfl) ?_
                      refine At.skip (fun a w hs => ⟨(x372, x373), h, hs⟩)
                  · rintro ⟨x427, x428⟩ h
                    replace h : F_retraceref20_Flow_J7 x228 x229 y352 y354 x372 x373 y422 x427 x428 = some oo230 := h
                    rw [F_retraceref20_Flow_J7] at h
                    obtain ⟨y429, hy429, h⟩ := bind_some h
                    rcases y429 with y430 | y431
                    · replace h := el_inl h
                      refine At.rg [1, 2, 6, 7, 8, 9, 10] [0, 1, 2, 3] [(4, { pc := some { ρ := [1], n0 := 1, res := .tup [.row 0 (y430.1).length, bo y430.2], σ' := [.row 94 3 (encL T_retraceref20_Is.enc y430.1)], e := [0] } })] (by kernel_rfl) (allc (C_retraceref20_meets x228 y422.1 (⟨true, x427, x428⟩ : T_retraceref20_Is) (List.set x229 (Int.toNat x228) (⟨true, y352.N, y352.Choose⟩ : T_retraceref20_Is)) (.inl y430) hy429) all0) (edq (l := []) (ks := [1, 2, 6, 7, 8, 9, 10]) (ρ := [0, 1, 2, 3]) (st' := ⟨[(1, i64 p1), (2, .ptr 0 0), (6, .row 1 (y430.1).length), (7, i64 x228), (8, .ptr 2 0), (9, .ptr 3 0), (10, bo y430.2)], [.blk 26 (T_api_Code.pvs p0), .row 94 3 (encL T_retraceref20_Is.enc y430.1), .blk 70 (T_api_Ins.pvs y354), .blk 94 [bo true, i64 x372, bo x373]]⟩) (by kernel_rfl) (fun a w hs => ⟨(y430.2, y430.1), h, hs⟩))
                    · replace h := el_inr h
                      refine At.rg [1, 2, 6, 7, 8, 9, 10] [0, 5, 2, 3] [(4, { pc := some { ρ := [1, 5], n0 := 1, res := .tup [.row 1 (y431.1).length, bo y431.2], σ' := [.row 94 3 (encL T_retraceref20_Is.enc (List.set x229 (Int.toNat x228) (⟨true, y352.N, y352.Choose⟩ : T_retraceref20_Is))), .row 94 3 (encL T_retraceref20_Is.enc y431.1)], e := [0] } })] (by kernel_rfl) (allc (C_retraceref20_meets x228 y422.1 (⟨true, x427, x428⟩ : T_retraceref20_Is) (List.set x229 (Int.toNat x228) (⟨true, y352.N, y352.Choose⟩ : T_retraceref20_Is)) (.inr y431) hy429) all0) (edq (l := []) (ks := [1, 2, 6, 7, 8, 9, 10]) (ρ := [0, 1, 2, 3]) (st' := ⟨[(1, i64 p1), (2, .ptr 0 0), (6, .row 1 (y431.1).length), (7, i64 x228), (8, .ptr 2 0), (9, .ptr 3 0), (10, bo y431.2)], [.blk 26 (T_api_Code.pvs p0), .row 94 3 (encL T_retraceref20_Is.enc y431.1), .blk 70 (T_api_Ins.pvs y354), .blk 94 [bo true, i64 x372, bo x373]]⟩) (by kernel_rfl) (fun a w hs => ⟨(y431.2, y431.1), h, hs⟩))
                · replace h := cond_f b423 h
                  refine At.nr [1, 2, 6, 7, 8, 9, 10] [0, 1, 2, 3] (by kernel_rfl) ?_
                  refine At.skip (edq (l := []) (ks := [1, 2, 6, 7, 8, 9, 10]) (ρ := [0, 1, 2, 3]) (st' := ⟨[(1, i64 p1), (2, .ptr 0 0), (6, .row 1 ((List.set x229 (Int.toNat x228) (⟨true, y352.N, y352.Choose⟩ : T_retraceref20_Is))).length), (7, i64 x228), (8, .ptr 2 0), (9, .ptr 3 0), (10, bo true)], [.blk 26 (T_api_Code.pvs p0), .row 94 3 (encL T_retraceref20_Is.enc (List.set x229 (Int.toNat x228) (⟨true, y352.N, y352.Choose⟩ : T_retraceref20_Is))), .blk 70 (T_api_Ins.pvs y354), .blk 94 [bo true, i64 x372, bo x373]]⟩) (by kernel_rfl) (fun a w hs => ⟨(true, (List.set x229 (Int.toNat x228) (⟨true, y352.N, y352.Choose⟩ : T_retraceref20_Is))), h, hs⟩))
              · rintro ⟨x388, x389⟩ h
                replace h : F_retraceref20_Flow_J4 x228 y354 x372 x373 x388 x389 = some oo230 := h
                rw [F_retraceref20_Flow_J4] at h
                refine At.seq ?_
                refine At.seq ?_
                refine At.rg [1, 2, 6, 7, 8, 9, 10, 116] [0, 1, 2, 3] [] (by kernel_rfl) all0 (norm ?_)
                refine At.cond (!x388) (by kernel_rfl) (fun b391 => ?_) (fun b391 => ?_)
                · replace h := cond_t b391 h
                  refine At.seq ?_
                  refine At.rg [4, 5] [1] [] (by kernel_rfl) all0 (norm ?_)
                  obtain ⟨r392, h, e393⟩ := map_inr h
                  rw [f231 _ e393] at h
                  obtain rfl := some_eq h
                  exact At.ret fun a w hs => ret_ok hR (ρ := [0]) (gs := []) (by kernel_rfl) all0 (by kernel_rfl) rfl rfl a w hs _ (.inl rfl)
                · replace h := cond_f b391 h
                  refine At.nr [1, 2, 6, 7, 8, 9, 10] [0, 1, 2, 3] (by kernel_rfl) ?_
                  refine At.skip (norm ?_)
                  refine At.seqJ (S := Bool × (List T_retraceref20_Is)) (fun s => ⟨[(1, i64 p1), (2, .ptr 0 0), (6, .row 1 (s.2).length), (7, i64 x228), (10, bo s.1)], [.blk 26 (T_api_Code.pvs p0), .row 94 3 (encL T_retraceref20_Is.enc s.2)]⟩) (fun s => F_retraceref20_Flow_J5 x228 s.1 s.2 = some oo230) ?_ ?_
                  · refine At.seqJ (S := Bool) (fun s => ⟨[(1, i64 p1), (2, .ptr 0 0), (6, .row 1 (x389).length), (7, i64 x228), (9, .ptr 2 0), (10, bo x388), (136, bo s)], [.blk 26 (T_api_Code.pvs p0), .row 94 3 (encL T_retraceref20_Is.enc x389), .blk 94 [bo true, i64 x372, bo x373]]⟩) (fun s => F_retraceref20_Flow_J6 x228 x372 x373 x388 x389 s = some oo230) ?_ ?_
                    · rcases tf (y354.Op != 6) with b418 | b418
                      · replace h := cond_t b418 h
                        rcases tf (y354.Op != 18) with b419 | b419
                        · replace h := cond_t b419 h
                          rcases tf (y354.Op != 23) with b420 | b420
                          · replace h := cond_t b420 h
                            refine At.rg [1, 2, 6, 7, 9, 10, 136] [0, 1, 3] [(3, { orc := .val (.bool true) }), (8, { orc := .val (.bool true) }), (13, { orc := .val (.bool true) })] (by kernel_rfl) (allc (congrArg D.bool b418) (allc (congrArg D.bool b419) (allc (congrArg D.bool b420) all0))) (edq (l := []) (ks := [1, 2, 6, 7, 9, 10, 136]) (ρ := [0, 1, 2]) (st' := ⟨[(1, i64 p1), (2, .ptr 0 0), (6, .row 1 (x389).length), (7, i64 x228), (9, .ptr 2 0), (10, bo x388), (136, bo (y354.Op != 24))], [.blk 26 (T_api_Code.pvs p0), .row 94 3 (encL T_retraceref20_Is.enc x389), .blk 94 [bo true, i64 x372, bo x373]]⟩) (by kernel_rfl) (fun a w hs => ⟨(y354.Op != 24), h, hs⟩))
                          · replace h := cond_f b420 h
                            refine At.rg [1, 2, 6, 7, 9, 10, 136] [0, 1, 3] [(3, { orc := .val (.bool true) }), (8, { orc := .val (.bool true) }), (13, { orc := .val (.bool false) })] (by kernel_rfl) (allc (congrArg D.bool b418) (allc (congrArg D.bool b419) (allc (congrArg D.bool b420) all0))) (edq (l := []) (ks := [1, 2, 6, 7, 9, 10, 136]) (ρ := [0, 1, 2]) (st' := ⟨[(1, i64 p1), (2, .ptr 0 0), (6, .row 1 (x389).length), (7, i64 x228), (9, .ptr 2 0), (10, bo x388), (136, bo false)], [.blk 26 (T_api_Code.pvs p0), .row 94 3 (encL T_retraceref20_Is.enc x389), .blk 94 [bo true, i64 x372, bo x373]]⟩) (by kernel_rfl) (fun a w hs => ⟨false, h, hs⟩))
                        · replace h := cond_f b419 h
                          refine At.rg [1, 2, 6, 7, 9, 10, 136] [0, 1, 3] [(3, { orc := .val (.bool true) }), (8, { orc := .val (.bool false) })] (by kernel_rfl) (allc (congrArg D.bool b418) (allc (congrArg D.bool b419) all0)) (edq (l := []) (ks := [1, 2, 6, 7, 9, 10, 136]) (ρ := [0, 1, 2]) (st' := ⟨[(1, i64 p1), (2, .ptr 0 0), (6, .row 1 (x389).length), (7, i64 x228), (9, .ptr 2 0), (10, bo x388), (136, bo false)], [.blk 26 (T_api_Code.pvs p0), .row 94 3 (encL T_retraceref20_Is.enc x389), .blk 94 [bo true, i64 x372, bo x373]]⟩) (by kernel_rfl) (fun a w hs => ⟨false, h, hs⟩))
                      · replace h := cond_f b418 h
                        refine At.rg [1, 2, 6, 7, 9, 10, 136] [0, 1, 3] [(3, { orc := .val (.bool false) })] (by kernel_rfl) (allc (congrArg D.bool b418) all0) (edq (l := []) (ks := [1, 2, 6, 7, 9, 10, 136]) (ρ := [0, 1, 2]) (st' := ⟨[(1, i64 p1), (2, .ptr 0 0), (6, .row 1 (x389).length), (7, i64 x228), (9, .ptr 2 0), (10, bo x388), (136, bo false)], [.blk 26 (T_api_Code.pvs p0), .row 94 3 (encL T_retraceref20_Is.enc x389), .blk 94 [bo true, i64 x372, bo x373]]⟩) (by kernel_rfl) (fun a w hs => ⟨false, h, hs⟩))
                    · intro x413 h
                      replace h : F_retraceref20_Flow_J6 x228 x372 x373 x388 x389 x413 = some oo230 := h
                      rw [F_retraceref20_Flow_J6] at h
                      refine At.cond x413 (by kernel_rfl) (fun b414 => ?_) (fun b414 => ?_)
                      · replace h := cond_t b414 h
                        obtain ⟨y415, hy415, h⟩ := bind_some h
                        rcases y415 with y416 | y417
                        · replace h := el_inl h
                          refine At.rg [1, 2, 6, 7, 10] [0, 1] [(5, { pc := some { ρ := [1], n0 := 1, res := .tup [.row 0 (y416.1).length, bo y416.2], σ' := [.row 94 3 (encL T_retraceref20_Is.enc y416.1)], e := [0] } })] (by kernel_rfl) (allc (C_retraceref20_meets x228 (w64 (x228 + 1)) (⟨true, x372, x373⟩ : T_retraceref20_Is) x389 (.inl y416) hy415) all0) (edq (l := []) (ks := [1, 2, 6, 7, 10]) (ρ := [0, 1]) (st' := ⟨[(1, i64 p1), (2, .ptr 0 0), (6, .row 1 (y416.1).length), (7, i64 x228), (10, bo y416.2)], [.blk 26 (T_api_Code.pvs p0), .row 94 3 (encL T_retraceref20_Is.enc y416.1)]⟩) (by kernel_rfl) (fun a w hs => ⟨(y416.2, y416.1), h, hs⟩))
                        · replace h := el_inr h
                          refine At.rg [1, 2, 6, 7, 10] [0, 3] [(5, { pc := some { ρ := [1, 3], n0 := 1, res := .tup [.row 1 (y417.1).length, bo y417.2], σ' := [.row 94 3 (encL T_retraceref20_Is.enc x389), .row 94 3 (encL T_retraceref20_Is.enc y417.1)], e := [0] } })] (by kernel_rfl) (allc (C_retraceref20_meets x228 (w64 (x228 + 1)) (⟨true, x372, x373⟩ : T_retraceref20_Is) x389 (.inr y417) hy415) all0) (edq (l := []) (ks := [1, 2, 6, 7, 10]) (ρ := [0, 1]) (st' := ⟨[(1, i64 p1), (2, .ptr 0 0), (6, .row 1 (y417.1).length), (7, i64 x228), (10, bo y417.2)], [.blk 26 (T_api_Code.pvs p0), .row 94 3 (encL T_retraceref20_Is.enc y417.1)]⟩) (by kernel_rfl) (fun a w hs => ⟨(y417.2, y417.1), h, hs⟩))
                      · replace h := cond_f b414 h
                        refine At.nr [1, 2, 6, 7, 10] [0, 1] (by kernel_rfl) ?_
                        refine At.skip (edq (l := []) (ks := [1, 2, 6, 7, 10]) (ρ := [0, 1]) (st' := ⟨[(1, i64 p1), (2, .ptr 0 0), (6, .row 1 (x389).length), (7, i64 x228), (10, bo x388)], [.blk 26 (T_api_Code.pvs p0), .row 94 3 (encL T_retraceref20_Is.enc x389)]⟩) (by kernel_rfl) (fun a w hs => ⟨(x388, x389), h, hs⟩))
                  · rintro ⟨x405, x406⟩ h
                    replace h : F_retraceref20_Flow_J5 x228 x405 x406 = some oo230 := h
                    rw [F_retraceref20_Flow_J5] at h
                    refine At.seq ?_
                    refine At.rg [1, 2, 6, 7, 147] [0, 1] [] (by kernel_rfl) all0 (norm ?_)
                    refine At.cond (!x405) (by kernel_rfl) (fun b407 => ?_) (fun b407 => ?_)
                    · replace h := cond_t b407 h
                      refine At.seq ?_
                      refine At.rg [4, 5] [1] [] (by kernel_rfl) all0 (norm ?_)
                      obtain ⟨r408, h, e409⟩ := map_inr h
                      rw [f231 _ e409] at h
                      obtain rfl := some_eq h
                      exact At.ret fun a w hs => ret_ok hR (ρ := [0]) (gs := []) (by kernel_rfl) all0 (by kernel_rfl) rfl rfl a w hs _ (.inl rfl)
                    · replace h := cond_f b407 h
                      refine At.nr [1, 2, 6, 7] [0, 1] (by kernel_rfl) ?_
                      refine At.skip (edq (l := []) (ks := [1, 2, 6, 7]) (ρ := [0, 1]) (st' := ⟨[(1, i64 p1), (2, .ptr 0 0), (6, .row 1 (x406).length), (7, i64 x228)], [.blk 26 (T_api_Code.pvs p0), .row 94 3 (encL T_retraceref20_Is.enc x406)]⟩) (by kernel_rfl) (fun a w hs => ⟨x406, h, hs⟩))
    · intro x337 h
      replace h : F_retraceref20_Flow_J1 x228 x337 = some oo230 := h
      rw [F_retraceref20_Flow_J1] at h
      refine At.rg [1, 2, 6, 7] [0, 1] [] (by kernel_rfl) all0 (edq (l := []) (ks := [1, 2, 6, 7]) (ρ := [0, 1]) (st' := ⟨[(1, i64 p1), (2, .ptr 0 0), (6, .row 1 (x337).length), (7, i64 (w64 (x228 + 1)))], [.blk 26 (T_api_Code.pvs p0), .row 94 3 (encL T_retraceref20_Is.enc x337)]⟩) (by kernel_rfl) (fun a w hs => ⟨_, (some_eq h).symm, hs⟩))
  · replace h := cond_f b237 h
    refine At.nr [6] [1] (by kernel_rfl) ?_
    obtain ⟨r443, h, e444⟩ := map_inr h
    rw [f231 _ e444] at h
    refine At.exit (norm ?_)
    refine At.seq ?_
    refine At.rg [4, 5] [0] [] (by kernel_rfl) all0 (norm ?_)
    obtain rfl := some_eq h
    exact At.ret fun a w hs => ret_ok hR (ρ := [0]) (gs := []) (by kernel_rfl) all0 (by kernel_rfl) rfl rfl a w hs _ (.inl rfl)
set_option maxRecDepth 100000 in
theorem C_retraceref20_Check (p0 : T_api_Code) (r : (List Int)) (h : F_retraceref20_Check p0 = some r) : FnOK Tryz.prog 24 [.agg (T_api_Code.pvs p0)] [] (.dagg (encL (eInt .i64) r)) [] [] := by
  rw [F_retraceref20_Check] at h
  refine FnOK.intro Tryz.func24 rfl (by kernel_rfl) (by kernel_rfl) fun E gv R hR => ?_
  refine At.seq ?_
  refine At.rg [1, 2] [0, 1] [] (by kernel_rfl) all0 (norm ?_)
  refine At.seq ?_
  refine At.seq ?_
  obtain ⟨y7, hy7, h⟩ := bind_some h
  refine At.rg [1, 2, 11] [0, 1] [(1, { pc := some { ρ := [], n0 := 0, res := bo y7, σ' := [], e := [] } })] (by kernel_rfl) (allc (C_retraceref20_tables p0 y7 hy7) all0) (norm ?_)
  refine At.cond (!y7) (by kernel_rfl) (fun b8 => ?_) (fun b8 => ?_)
  · replace h := cond_t b8 h
    refine At.seq ?_
    obtain ⟨g10, h⟩ := grd_some h
    refine At.rg [2] [1] [] (by kernel_rfl) (allc (lenN (he_int .i64) ([0, 3] : List Int) g10.1) (allc (lenN (he_int .i64) (List.replicate 2 (0 : Int)) g10.2) all0)) (norm ?_)
    obtain ⟨g11, h⟩ := grd_some h
    obtain rfl := some_eq h
    exact At.ret fun a w hs => ret_ok hR (ρ := []) (gs := []) (by kernel_rfl) (allc (lenN (he_int .i64) ([0, 3] : List Int) g11) all0) (by kernel_rfl) rfl rfl a w hs _ (.inl rfl)
  · replace h := cond_f b8 h
    refine At.nr [1, 2] [0, 1] (by kernel_rfl) ?_
    refine At.skip (norm ?_)
    refine At.seq ?_
    refine At.rg [1, 2, 3] [0, 1] [] (by kernel_rfl) all0 (norm ?_)
    refine At.seq ?_
    refine At.seq ?_
    refine At.rg [1, 2, 3, 4] [0, 1] [] (by kernel_rfl) all0 (norm ?_)
    refine At.block ?_
    refine At.nar [1, 2, 3, 4] [0, 1] (st' := ⟨[(1, .ptr 0 0), (2, .ptr 1 0), (3, i64 0), (4, i64 0)], [.blk 26 (T_api_Code.pvs p0), .dblk 50 (encL (eInt .i64) (List.replicate 2 (0 : Int)))]⟩) (by kernel_rfl) ?_
    refine At.loop (fun s : (Int × Int) => F_retraceref20_Check_L4 p0 s.1 s.2) (fun s : (Int × Int) => ⟨[(1, .ptr 0 0), (2, .ptr 1 0), (3, i64 s.1), (4, i64 s.2)], [.blk 26 (T_api_Code.pvs p0), .dblk 50 (encL (eInt .i64) (List.replicate 2 (0 : Int)))]⟩) r (0, 0) h ?_
    rintro ⟨x108, x109⟩ oo110 h f111
    replace h : F_retraceref20_Check_L4 p0 x108 x109 = some oo110 := h
    rw [F_retraceref20_Check_L4] at h
    refine At.seq ?_
    refine At.seq ?_
    refine At.rg [1, 2, 3, 4, 17] [0, 1] [] (by kernel_rfl) all0 (norm ?_)
    refine At.cond (decide (x109 < ((p0.Defs).length : Int))) (by kernel_rfl) (fun b113 => ?_) (fun b113 => ?_)
    · replace h := cond_t b113 h
      refine At.nr [1, 2, 3, 4] [0, 1] (by kernel_rfl) ?_
      refine At.skip (norm ?_)
      refine At.seq ?_
      refine At.block ?_
      refine At.seq ?_
      obtain ⟨y158, hy158, h⟩ := bind_some h
      refine At.rg [1, 2, 3, 4, 5] [0, 1] [(3, { orc := .cells (T_api_Def.enc y158) })] (by kernel_rfl) (allc (elemAt_of T_api_Def.enc_len hy158) all0) (norm ?_)
      refine At.block ?_
      refine At.nar [1, 2, 3, 4, 5] [0, 1] (st' := ⟨[(1, .ptr 0 0), (2, .ptr 1 0), (3, i64 x108), (4, i64 x109), (5, i64 y158.Entry)], [.blk 26 (T_api_Code.pvs p0), .dblk 50 (encL (eInt .i64) (List.replicate 2 (0 : Int)))]⟩) (by kernel_rfl) ?_
      refine At.loop (fun s : (Int × Int) => F_retraceref20_Check_L2 p0 x109 s.1 s.2) (fun s : (Int × Int) => ⟨[(1, .ptr 0 0), (2, .ptr 1 0), (3, i64 s.1), (4, i64 x109), (5, i64 s.2)], [.blk 26 (T_api_Code.pvs p0), .dblk 50 (encL (eInt .i64) (List.replicate 2 (0 : Int)))]⟩) oo110 (x108, y158.Entry) h ?_
      rintro ⟨x159, x160⟩ oo161 h f162
      replace h : F_retraceref20_Check_L2 p0 x109 x159 x160 = some oo161 := h
      rw [F_retraceref20_Check_L2] at h
      refine At.seq ?_
      refine At.seq ?_
      obtain ⟨y167, hy167, h⟩ := bind_some h
      refine At.rg [1, 2, 3, 4, 5, 30] [0, 1] [(3, { pc := some { ρ := [], n0 := 0, res := i64 y167, σ' := [], e := [] } })] (by kernel_rfl) (allc (C_retraceref20_To p0 x109 y167 hy167) all0) (norm ?_)
      refine At.cond (decide (x160 < y167)) (by kernel_rfl) (fun b168 => ?_) (fun b168 => ?_)
      · replace h := cond_t b168 h
        refine At.nr [1, 2, 3, 4, 5] [0, 1] (by kernel_rfl) ?_
        refine At.skip (norm ?_)
        refine At.seqJ (S := Int) (fun s => ⟨[(1, .ptr 0 0), (2, .ptr 1 0), (3, i64 s), (4, i64 x109), (5, i64 x160)], [.blk 26 (T_api_Code.pvs p0), .dblk 50 (encL (eInt .i64) (List.replicate 2 (0 : Int)))]⟩) (fun s => F_retraceref20_Check_J1 x160 s = some oo161) ?_ ?_
        · refine At.block ?_
          refine At.seq ?_
          refine At.seq ?_
          obtain ⟨y189, hy189, h⟩ := bind_some h
          refine At.rg [1, 2, 3, 4, 5, 38] [0, 1] [(4, { pc := some { ρ := [], n0 := 0, res := bo y189, σ' := [], e := [] } })] (by kernel_rfl) (allc (C_retraceref20_may p0 x109 x160 x159 y189 hy189) all0) (norm ?_)
          refine At.cond (!y189) (by kernel_rfl) (fun b190 => ?_) (fun b190 => ?_)
          · replace h := cond_t b190 h
            refine At.seq ?_
            obtain ⟨g192, h⟩ := grd_some h
            refine At.rg [2] [1] [] (by kernel_rfl) (allc (lenN (he_int .i64) ([x160, 15] : List Int) g192.1) (allc (lenN (he_int .i64) (List.replicate 2 (0 : Int)) g192.2) all0)) (norm ?_)
            obtain ⟨r193, h, e194⟩ := map_inr h
            rw [f162 _ e194] at h
            obtain ⟨r195, h, e196⟩ := map_inr h
            rw [f111 _ e196] at h
            obtain ⟨g197, h⟩ := grd_some h
            obtain rfl := some_eq h
            exact At.ret fun a w hs => ret_ok hR (ρ := []) (gs := []) (by kernel_rfl) (allc (lenN (he_int .i64) ([x160, 15] : List Int) g197) all0) (by kernel_rfl) rfl rfl a w hs _ (.inl rfl)
          · replace h := cond_f b190 h
            refine At.nr [1, 2, 3, 4, 5] [0, 1] (by kernel_rfl) ?_
            refine At.skip (norm ?_)
            refine At.seq ?_
            obtain ⟨y199, hy199, h⟩ := bind_some h
            refine At.rg [1, 2, 3, 4, 5, 47] [0, 1] [(3, { orc := .cells (T_api_Ins.enc y199) })] (by kernel_rfl) (allc (elemAt_of T_api_Ins.enc_len hy199) all0) (norm ?_)
            refine At.cond (y199.Op == 1) (by kernel_rfl) (fun b200 => ?_) (fun b200 => ?_)
            · replace h := cond_t b200 h
              refine At.region_end [1, 2, 3, 4, 5] [0, 1] _ (st' := ⟨[(1, .ptr 0 0), (2, .ptr 1 0), (3, i64 (w64 (x159 + 1))), (4, i64 x109), (5, i64 x160)], [.blk 26 (T_api_Code.pvs p0), .dblk 50 (encL (eInt .i64) (List.replicate 2 (0 : Int)))]⟩) (tips := []) (by kernel_rfl) all0 (fun a w hs => ⟨(w64 (x159 + 1)), h, hs⟩)
            · replace h := cond_f b200 h
              refine At.nar [1, 2, 3, 4, 5] [0, 1] (st' := ⟨[(1, .ptr 0 0), (2, .ptr 1 0), (3, i64 x159), (4, i64 x109), (5, i64 x160)], [.blk 26 (T_api_Code.pvs p0), .dblk 50 (encL (eInt .i64) (List.replicate 2 (0 : Int)))]⟩) (by kernel_rfl) ?_
              refine At.skip (fun a w hs => ⟨x159, h, hs⟩)
        · intro x182 h
          replace h : F_retraceref20_Check_J1 x160 x182 = some oo161 := h
          rw [F_retraceref20_Check_J1] at h
          refine At.rg [1, 2, 3, 4, 5] [0, 1] [] (by kernel_rfl) all0 (edq (l := []) (ks := [1, 2, 3, 4, 5]) (ρ := [0, 1]) (st' := ⟨[(1, .ptr 0 0), (2, .ptr 1 0), (3, i64 x182), (4, i64 x109), (5, i64 (w64 (x160 + 1)))], [.blk 26 (T_api_Code.pvs p0), .dblk 50 (encL (eInt .i64) (List.replicate 2 (0 : Int)))]⟩) (by kernel_rfl) (fun a w hs => ⟨_, (some_eq h).symm, hs⟩))
      · replace h := cond_f b168 h
        refine At.nr [1, 2, 3, 4] [0, 1] (by kernel_rfl) ?_
        obtain ⟨r201, h, e202⟩ := map_inr h
        rw [f162 _ e202] at h
        refine At.exit (norm ?_)
        refine At.rg [1, 2, 3, 4] [0, 1] [] (by kernel_rfl) all0 (edq (l := []) (ks := [1, 2, 3, 4]) (ρ := [0, 1]) (st' := ⟨[(1, .ptr 0 0), (2, .ptr 1 0), (3, i64 x159), (4, i64 (w64 (x109 + 1)))], [.blk 26 (T_api_Code.pvs p0), .dblk 50 (encL (eInt .i64) (List.replicate 2 (0 : Int)))]⟩) (by kernel_rfl) (fun a w hs => ⟨_, (some_eq h).symm, hs⟩))
    · replace h := cond_f b113 h
      refine At.nr [1, 2, 3] [0, 1] (by kernel_rfl) ?_
      obtain ⟨r203, h, e204⟩ := map_inr h
      rw [f111 _ e204] at h
      refine At.exit (norm ?_)
      refine At.seq ?_
      refine At.seq ?_
      refine At.rg [1, 2, 53] [0, 1] [] (by kernel_rfl) all0 (norm ?_)
      refine At.cond (x108 != p0.Stmts) (by kernel_rfl) (fun b208 => ?_) (fun b208 => ?_)
      · replace h := cond_t b208 h
        refine At.seq ?_
        obtain ⟨g210, h⟩ := grd_some h
        refine At.rg [2] [1] [] (by kernel_rfl) (allc (lenN (he_int .i64) ([0, 3] : List Int) g210.1) (allc (lenN (he_int .i64) (List.replicate 2 (0 : Int)) g210.2) all0)) (norm ?_)
        obtain ⟨g211, h⟩ := grd_some h
        obtain rfl := some_eq h
        exact At.ret fun a w hs => ret_ok hR (ρ := []) (gs := []) (by kernel_rfl) (allc (lenN (he_int .i64) ([0, 3] : List Int) g211) all0) (by kernel_rfl) rfl rfl a w hs _ (.inl rfl)
      · replace h := cond_f b208 h
        refine At.nr [1, 2] [0, 1] (by kernel_rfl) ?_
        refine At.skip (norm ?_)
        refine At.seq ?_
        refine At.seq ?_
        refine At.rg [1, 2, 6] [0, 1] [] (by kernel_rfl) all0 (norm ?_)
        refine At.block ?_
        refine At.nar [1, 2, 6] [0, 1] (st' := ⟨[(1, .ptr 0 0), (2, .ptr 1 0), (6, i64 0)], [.blk 26 (T_api_Code.pvs p0), .dblk 50 (encL (eInt .i64) (List.replicate 2 (0 : Int)))]⟩) (by kernel_rfl) ?_
        refine At.loop (fun s : (Int) => F_retraceref20_Check_L3 p0 s) (fun s : (Int) => ⟨[(1, .ptr 0 0), (2, .ptr 1 0), (6, i64 s)], [.blk 26 (T_api_Code.pvs p0), .dblk 50 (encL (eInt .i64) (List.replicate 2 (0 : Int)))]⟩) r 0 h ?_
        intro x231 oo232 h f233
        replace h : F_retraceref20_Check_L3 p0 x231 = some oo232 := h
        rw [F_retraceref20_Check_L3] at h
        refine At.seq ?_
        refine At.seq ?_
        refine At.rg [1, 2, 6, 59] [0, 1] [] (by kernel_rfl) all0 (norm ?_)
        refine At.cond (decide (x231 < ((p0.Defs).length : Int))) (by kernel_rfl) (fun b235 => ?_) (fun b235 => ?_)
        · replace h := cond_t b235 h
          refine At.nr [1, 2, 6] [0, 1] (by kernel_rfl) ?_
          refine At.skip (norm ?_)
          refine At.seq ?_
          refine At.block ?_
          refine At.seq ?_
          obtain ⟨y242, hy242, h⟩ := bind_some h
          refine At.rg [1, 2, 6, 8] [0, 1] [(2, { pc := some { ρ := [2], n0 := 0, res := .tup [.row 0 (y242.1).length, i64 y242.2], σ' := [.row 94 3 (encL T_retraceref20_Is.enc y242.1)], e := [] } })] (by kernel_rfl) (allc (C_retraceref20_Flow p0 x231 y242 hy242) all0) (norm ?_)
          refine At.seq ?_
          refine At.rg [1, 2, 6, 8, 69] [0, 1] [] (by kernel_rfl) all0 (norm ?_)
          refine At.cond (decide (0 ≤ y242.2)) (by kernel_rfl) (fun b243 => ?_) (fun b243 => ?_)
          · replace h := cond_t b243 h
            refine At.seq ?_
            obtain ⟨g245, h⟩ := grd_some h
            refine At.rg [2] [1] [] (by kernel_rfl) (allc (lenN (he_int .i64) ([y242.2, 14] : List Int) g245.1) (allc (lenN (he_int .i64) (List.replicate 2 (0 : Int)) g245.2) all0)) (norm ?_)
            obtain ⟨r246, h, e247⟩ := map_inr h
            rw [f233 _ e247] at h
            obtain ⟨g248, h⟩ := grd_some h
            obtain rfl := some_eq h
            exact At.ret fun a w hs => ret_ok hR (ρ := []) (gs := []) (by kernel_rfl) (allc (lenN (he_int .i64) ([y242.2, 14] : List Int) g248) all0) (by kernel_rfl) rfl rfl a w hs _ (.inl rfl)
          · replace h := cond_f b243 h
            refine At.nr [1, 2, 6] [0, 1] (by kernel_rfl) ?_
            refine At.skip (norm ?_)
            refine At.region_end [1, 2, 6] [0, 1] _ (st' := ⟨[(1, .ptr 0 0), (2, .ptr 1 0), (6, i64 (w64 (x231 + 1)))], [.blk 26 (T_api_Code.pvs p0), .dblk 50 (encL (eInt .i64) (List.replicate 2 (0 : Int)))]⟩) (tips := []) (by kernel_rfl) all0 (fun a w hs => ⟨_, (some_eq h).symm, hs⟩)
        · replace h := cond_f b235 h
          refine At.nr [2] [1] (by kernel_rfl) ?_
          obtain ⟨r249, h, e250⟩ := map_inr h
          rw [f233 _ e250] at h
          refine At.exit (norm ?_)
          refine At.seq ?_
          obtain ⟨g252, h⟩ := grd_some h
          refine At.rg [2] [0] [] (by kernel_rfl) (allc (lenN (he_int .i64) ([0, 0] : List Int) g252.1) (allc (lenN (he_int .i64) (List.replicate 2 (0 : Int)) g252.2) all0)) (norm ?_)
          obtain ⟨g253, h⟩ := grd_some h
          obtain rfl := some_eq h
          exact At.ret fun a w hs => ret_ok hR (ρ := []) (gs := []) (by kernel_rfl) (allc (lenN (he_int .i64) ([0, 0] : List Int) g253) all0) (by kernel_rfl) rfl rfl a w hs _ (.inl rfl)
set_option maxRecDepth 100000 in
theorem C_retraceref20_Right (p0 : T_api_Code) (r : Bool) (h : F_retraceref20_Right p0 = some r) : FnOK Tryz.prog 8 [.agg (T_api_Code.pvs p0)] [] (bo r) [] [] := by
  rw [F_retraceref20_Right] at h
  refine FnOK.intro Tryz.func8 rfl (by kernel_rfl) (by kernel_rfl) fun E gv R hR => ?_
  refine At.seq ?_
  refine At.rg [1] [0] [] (by kernel_rfl) all0 (norm ?_)
  refine At.seq ?_
  obtain ⟨y3, hy3, h⟩ := bind_some h
  obtain ⟨g4, h⟩ := grd_some h
  refine At.rg [2] [] [(1, { pc := some { ρ := [], n0 := 0, res := .dagg (encL (eInt .i64) y3), σ' := [], e := [] } }), (3, { orc := .val (.bool (y3 == ([0, 0] : List Int))) })] (by kernel_rfl) (allc (C_retraceref20_Check p0 y3 hy3) (allc (eqTwo_ok .i64 g4) (allc (twoOK .i64 g4) all0))) (norm ?_)
  obtain rfl := some_eq h
  exact At.ret fun a w hs => ret_ok hR (ρ := []) (gs := []) (by kernel_rfl) all0 (by kernel_rfl) rfl rfl a w hs _ (.inl rfl)
theorem ran_Text : cF Tryz.prog 60 true 25 [.d (.str ⟨#[109, 97, 105, 110, 32, 123, 32, 125]⟩)] = some (.agg [.d (.list false 1 [.int .i64 24, .int .i64 0, .int .i64 0]), .d (.list false 1 [.str ⟨#[109, 97, 105, 110]⟩, .int .i64 0, .int .i64 0, .int .i64 0]), .d (.list true 0 []), i64 0, i64 0, i64 0, i64 0], []) := by kernel_rfl
theorem C_retraceref19_Text (p0 : ByteArray) (r : T_retraceref19_Got) (h : F_retraceref19_Text p0 = some r) : FnOK Tryz.prog 25 [sv p0] [] (.agg (T_retraceref19_Got.pvs r)) [] [] :=
  ran_ok (pv := fun r => .agg (T_retraceref19_Got.pvs r)) ran_Text rfl h
set_option maxRecDepth 100000 in
theorem C_proc_within (p0 : Int) (p1 : Int) (r : Bool) (h : F_proc_within p0 p1 = some r) : FnOK Tryz.prog 26 [i64 p0, i64 p1] [] (bo r) [] [] := by
  rw [F_proc_within] at h
  refine FnOK.intro Tryz.func26 rfl (by kernel_rfl) (by kernel_rfl) fun E gv R hR => ?_
  refine At.seq ?_
  refine At.rg [0, 1] [] [] (by kernel_rfl) all0 (norm ?_)
  refine At.seqJ (S := Bool) (fun s => ⟨[(4, bo s)], []⟩) (fun s => F_proc_within_J1 s = some r) ?_ ?_
  · rcases tf (decide (0 ≤ p0)) with b3 | b3
    · replace h := cond_t b3 h
      refine At.rg [4] [] [(2, { orc := .val (.bool true) })] (by kernel_rfl) (allc (congrArg D.bool b3) all0) (edq (l := []) (ks := [4]) (ρ := []) (st' := ⟨[(4, bo (decide (p0 ≤ p1)))], []⟩) (by kernel_rfl) (fun a w hs => ⟨(decide (p0 ≤ p1)), h, hs⟩))
    · replace h := cond_f b3 h
      refine At.rg [4] [] [(2, { orc := .val (.bool false) })] (by kernel_rfl) (allc (congrArg D.bool b3) all0) (edq (l := []) (ks := [4]) (ρ := []) (st' := ⟨[(4, bo false)], []⟩) (by kernel_rfl) (fun a w hs => ⟨false, h, hs⟩))
  · intro x2 h
    replace h : F_proc_within_J1 x2 = some r := h
    rw [F_proc_within_J1] at h
    obtain rfl := some_eq h
    exact At.ret fun a w hs => ret_ok hR (ρ := []) (gs := []) (by kernel_rfl) all0 (by kernel_rfl) rfl rfl a w hs _ (.inl rfl)
set_option maxRecDepth 100000 in
theorem C_slices_Clone_int_int (p0 : (List Int)) (r : (List Int)) (h : F_slices_Clone_int_int p0 = some r) : FnOK Tryz.prog 32 [lv (eInt .i64) p0] [] (.row 0 (r).length) [.row 3 1 (encL (eInt .i64) r)] [] := by
  rw [F_slices_Clone_int_int] at h
  refine FnOK.intro Tryz.func32 rfl (by kernel_rfl) (by kernel_rfl) fun E gv R hR => ?_
  refine At.seq ?_
  refine At.rg [0] [] [] (by kernel_rfl) all0 (norm ?_)
  refine At.seq ?_
  refine At.seq ?_
  refine At.nilEq (t0 := 0) (t3 := 3) (t4 := 4) (e := 3) (tt := false) (k := (p0).length) (xs := encL (eInt .i64) p0) rfl rfl rfl rfl rfl rfl (by decide) (by decide) (by kernel_rfl) (by kernel_rfl) ?_
  rintro (_ | _) hk
  · refine norm ?_
    refine At.nar [0, 4] [] (st' := ⟨[(0, lv (eInt .i64) p0), (4, bo false)], []⟩) (by kernel_rfl) ?_
    refine At.cond false (by kernel_rfl) (fun hb => by cases hb) (fun _ => ?_)
    refine At.nr [0] [] (by kernel_rfl) ?_
    refine At.skip (norm ?_)
    refine At.seq ?_
    obtain ⟨g2, h⟩ := grd_some h
    refine At.rg [2] [0] [(2, { form := some ((([] : List Int) ++ p0).length, encL (eInt .i64) (([] : List Int) ++ p0)) })] (by kernel_rfl) (allc (len_app ([] : List Int) p0) (allc (encL_app (eInt .i64) ([] : List Int) p0) (allc (app_ok (he_int .i64) (by decide) g2) (allc (encL_len (he_int .i64) p0) all0)))) (norm ?_)
    obtain rfl := some_eq h
    exact At.ret fun a w hs => ret_ok hR (ρ := [0]) (gs := []) (by kernel_rfl) all0 (by kernel_rfl) rfl rfl a w hs _ (.inl rfl)
  · obtain rfl := List.length_eq_zero_iff.1 (hk rfl)
    obtain ⟨_, h⟩ := grd_some h
    refine norm ?_
    refine At.nar [0, 4] [] (st' := ⟨[(0, lv (eInt .i64) ([] : List Int)), (4, bo true)], []⟩) (by kernel_rfl) ?_
    refine At.cond true (by kernel_rfl) (fun _ => ?_) (fun hb => by cases hb)
    refine At.seq ?_
    refine At.rg [2] [] [] (by kernel_rfl) all0 (norm ?_)
    refine At.en [.ownS 2 3 1] [2] [0] (by kernel_rfl) ?_
    obtain rfl := some_eq h
    exact At.ret fun a w hs => ret_ok hR (ρ := [0]) (gs := []) (by kernel_rfl) all0 (by kernel_rfl) rfl rfl a w hs _ (.inl rfl)
end Go.Ab
