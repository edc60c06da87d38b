import Derived.Test.YtholdfpblliiiaaGQ
namespace Go.Ab
open Go.Proofs
set_option linter.unusedVariables false
set_option maxRecDepth 100000
theorem C_retracelaw20_large (p0 : T_api_Code) (r : Bool) (h : F_retracelaw20_large p0 = some r) : FnOK Try.prog 5 [.agg (T_api_Code.pvs p0)] [] (bo r) [] [] := by
  refine fI Try.func5 rfl fun E gv R hR => ?_
  refine At.sR [1] [0] [] ?_
  refine At.seqJ (S := Bool) (fun s => ⟨[(2, bo s)], []⟩) (fun s => F_retracelaw20_large_J1 s = some r) ?_ ?_
  · rcases cs h with ⟨b4, h⟩ | ⟨b4, h⟩
    · exact At.rK [2] [] [bT 4 b4] fun _ _ i => ⟨true, h, i⟩
    · rcases cs h with ⟨b5, h⟩ | ⟨b5, h⟩
      · exact At.rK [2] [] [bT 4 b4, bT 10 b5] fun _ _ i => ⟨true, h, i⟩
      · exact At.rK [2] [] [bT 4 b4, bT 10 b5] fun _ _ i => ⟨(decide (80 < ((p0.Chans).length : Int))), h, i⟩
  · intro x3 h
    obtain rfl := sq h
    exact At.ret (At.rR hR [])
theorem C_token_letter (p0 : Int) (r : Bool) (h : F_token_letter p0 = some r) : FnOK Try.prog 48 [u8 p0] [] (bo r) [] [] := by
  refine fI Try.func48 rfl fun E gv R hR => ?_
  refine At.sR [0] [] [] ?_
  refine At.seqJ (S := Bool) (fun s => ⟨[(2, bo s)], []⟩) (fun s => F_token_letter_J1 s = some r) ?_ ?_
  · rcases cs h with ⟨b4, h⟩ | ⟨b4, h⟩
    · exact At.rK [2] [] [bT 2 b4] fun _ _ i => ⟨true, h, i⟩
    · rcases cs h with ⟨b5, h⟩ | ⟨b5, h⟩
      · exact At.rK [2] [] [bT 2 b4, bT 6 b5] fun _ _ i => ⟨(decide ((bits .or .u8 p0 32) ≤ 122)), h, i⟩
      · exact At.rK [2] [] [bT 2 b4, bT 6 b5] fun _ _ i => ⟨false, h, i⟩
  · intro x3 h
    obtain rfl := sq h
    exact At.ret (At.rR hR [])
theorem C_token_digit (p0 : Int) (r : Bool) (h : F_token_digit p0 = some r) : FnOK Try.prog 64 [u8 p0] [] (bo r) [] [] := by
  refine fI Try.func64 rfl fun E gv R hR => ?_
  refine At.sR [0] [] [] ?_
  refine At.seqJ (S := Bool) (fun s => ⟨[(2, bo s)], []⟩) (fun s => F_token_digit_J1 s = some r) ?_ ?_
  · rcases cs h with ⟨b3, h⟩ | ⟨b3, h⟩
    · exact At.rK [2] [] [bT 2 b3] fun _ _ i => ⟨(decide (p0 ≤ 57)), h, i⟩
    · exact At.rK [2] [] [bT 2 b3] fun _ _ i => ⟨false, h, i⟩
  · intro x2 h
    obtain rfl := sq h
    exact At.ret (At.rR hR [])
theorem C_token_wordly (p0 : Int) (r : Bool) (h : F_token_wordly p0 = some r) : FnOK Try.prog 50 [u8 p0] [] (bo r) [] [] := by
  refine fI Try.func50 rfl fun E gv R hR => ?_
  refine At.sR [0] [] [] ?_
  refine At.seqJ (S := Bool) (fun s => ⟨[(2, bo s)], []⟩) (fun s => F_token_wordly_J1 s = some r) ?_ ?_
  · obtain ⟨y5, hy5, h⟩ := bs h
    rcases cs h with ⟨b6, h⟩ | ⟨b6, h⟩
    · exact At.rK [2] [] [c0 1 (C_token_letter p0 y5 hy5), bT 2 b6] fun _ _ i => ⟨true, h, i⟩
    · obtain ⟨y7, hy7, h⟩ := bs h
      exact At.rK [2] [] [c0 1 (C_token_letter p0 y5 hy5), bT 2 b6, c0 4 (C_token_digit p0 y7 hy7)] fun _ _ i => ⟨y7, h, i⟩
  · intro x4 h
    obtain rfl := sq h
    exact At.ret (At.rR hR [])
theorem C_token_run (p0 : ByteArray) (r : ByteArray) (h : F_token_run p0 = some r) : FnOK Try.prog 49 [sv p0, .fn (.func 50) [] []] [] (sv r) [] [] := by
  refine fI Try.func49 rfl fun E gv R hR => ?_
  refine At.sR [0, 1] [] [] ?_
  refine At.seq ?_
  refine At.sR [0, 1, 7, 8] [] [] ?_
  refine At.block ?_
  refine At.nK (st' := ⟨[(0, sv p0), (1, .fn (.func 50) [] []), (7, i64 (p0.size : Int)), (8, i64 0)], []⟩) [0, 1, 7, 8] [] ?_
  refine At.lp (fun s : (Int) => ⟨[(0, sv p0), (1, .fn (.func 50) [] []), (7, i64 (p0.size : Int)), (8, i64 s)], []⟩) h ?_
  intro x24 oo25 h f26
  replace h : F_token_run_L1 p0 x24 = some oo25 := h
  refine At.sR [0, 1, 7, 8, 9] [] [] ?_
  refine At.seq ?_
  refine At.cd h (fun b28 h => ?_) (fun b28 h => ?_)
  · refine At.nR [0, 1, 7, 8] [] ?_
    refine At.skip (norm ?_)
    refine At.seq ?_
    refine At.block ?_
    refine At.sR [0, 1, 5, 7, 8] [] [] ?_
    obtain ⟨y38, hy38, h⟩ := bs h
    obtain ⟨y39, hy39, h⟩ := bs h
    refine At.sR [0, 1, 5, 7, 8, 16] [] [sT 3 hy38, c0 4 (C_token_wordly y38 y39 hy39)] ?_
    refine At.cd h (fun b40 h => ?_) (fun b40 h => ?_)
    · obtain ⟨g42, h⟩ := gs h
      refine At.sR [4] [] [oT 2 g42] ?_
      obtain ⟨r43, h, e44⟩ := mr h
      rw [f26 _ e44] at h
      obtain rfl := sq h
      exact At.ret (At.rR hR [])
    · refine At.nR [0, 1, 7, 8] [] ?_
      refine At.skip (norm ?_)
      exact At.rK [0, 1, 7, 8] [] [] fun _ _ i => ⟨_, li h, i⟩
  · refine At.nR [0] [] ?_
    obtain ⟨r45, h, e46⟩ := mr h
    rw [f26 _ e46] at h
    refine At.exit (norm ?_)
    refine At.sR [4] [] [] ?_
    obtain rfl := sq h
    exact At.ret (At.rR hR [])
theorem C_token_words  (r : (List ByteArray)) (h : F_token_words  = some r) : FnOK Try.prog 66 [] [] (.row 0 (r).length) [.row 9 1 (encL eStr r)] [] := by
  refine fI Try.func66 rfl fun E gv R hR => ?_
  refine At.sR [] [] [] ?_
  refine At.sR [0] [0] [] ?_
  obtain rfl := sq h
  exact At.ret (At.rR hR [0])
theorem C_cmp_isNaN_string (p0 : ByteArray) (r : Bool) (h : F_cmp_isNaN_string p0 = some r) : FnOK Try.prog 70 [sv p0] [] (bo r) [] [] := by
  refine fI Try.func70 rfl fun E gv R hR => ?_
  refine At.sR [0] [] [] ?_
  refine At.sR [2] [] [] ?_
  obtain rfl := sq h
  exact At.ret (At.rR hR [])
theorem C_cmp_Less_string (p0 : ByteArray) (p1 : ByteArray) (r : Bool) (h : F_cmp_Less_string p0 p1 = some r) : FnOK Try.prog 68 [sv p0, sv p1] [] (bo r) [] [] := by
  refine fI Try.func68 rfl fun E gv R hR => ?_
  refine At.sR [0, 1] [] [] ?_
  refine At.seqJ (S := Bool) (fun s => ⟨[(4, bo s)], []⟩) (fun s => F_cmp_Less_string_J1 s = some r) ?_ ?_
  · obtain ⟨y6, hy6, h⟩ := bs h
    rcases cs h with ⟨b7, h⟩ | ⟨b7, h⟩
    · obtain ⟨y8, hy8, h⟩ := bs h
      rcases cs h with ⟨b9, h⟩ | ⟨b9, h⟩
      · exact At.rK [4] [] [c0 1 (C_cmp_isNaN_string p0 y6 hy6), bT 2 b7, c0 4 (C_cmp_isNaN_string p1 y8 hy8), bT 7 b9] fun _ _ i => ⟨true, h, i⟩
      · exact At.rK [4] [] [c0 1 (C_cmp_isNaN_string p0 y6 hy6), bT 2 b7, c0 4 (C_cmp_isNaN_string p1 y8 hy8), bT 7 b9] fun _ _ i => ⟨(sLt p0 p1), h, i⟩
    · exact At.rK [4] [] [c0 1 (C_cmp_isNaN_string p0 y6 hy6), bT 2 b7] fun _ _ i => ⟨(sLt p0 p1), h, i⟩
  · intro x5 h
    obtain rfl := sq h
    exact At.ret (At.rR hR [])
theorem C_slices_isNaN_string (p0 : ByteArray) (r : Bool) (h : F_slices_isNaN_string p0 = some r) : FnOK Try.prog 69 [sv p0] [] (bo r) [] [] := by
  refine fI Try.func69 rfl fun E gv R hR => ?_
  refine At.sR [0] [] [] ?_
  refine At.sR [2] [] [] ?_
  obtain rfl := sq h
  exact At.ret (At.rR hR [])
theorem C_slices_BinarySearch_string_string (p1 : ByteArray) (o0 : (List ByteArray)) (r : Int × Bool) (h : F_slices_BinarySearch_string_string p1 o0 = some r) : FnOK Try.prog 65 [.row 0 (o0).length, sv p1] [.row 9 1 (encL eStr o0)] (.tup [i64 r.1, bo r.2]) [.row 9 1 (encL eStr o0)] [0] := by
  refine fI Try.func65 rfl fun E gv R hR => ?_
  refine At.sR [0, 1] [0, 1] [] ?_
  refine At.sR [0, 1, 6] [0, 1] [] ?_
  refine At.sR [0, 1, 6, 7, 8] [0, 1] [] ?_
  refine At.seq ?_
  refine At.block ?_
  refine At.nK (st' := ⟨[(0, .row 0 (o0).length), (1, sv p1), (6, i64 ((o0).length : Int)), (7, i64 0), (8, i64 ((o0).length : Int))], [.row 9 1 (encL eStr o0), .ghost (gv 0) (.row 0 0)]⟩) [0, 1, 6, 7, 8] [0, 1] ?_
  refine At.lp (fun s : (Int × Int) => ⟨[(0, .row 0 (o0).length), (1, sv p1), (6, i64 ((o0).length : Int)), (7, i64 s.1), (8, i64 s.2)], [.row 9 1 (encL eStr o0), .ghost (gv 0) (.row 0 0)]⟩) h ?_
  rintro ⟨x14, x15⟩ oo16 h f17
  replace h : F_slices_BinarySearch_string_string_L2 p1 o0 x14 x15 = some oo16 := h
  refine At.seq ?_
  refine At.sR [0, 1, 6, 7, 8, 15] [0, 1] [] ?_
  refine At.cd h (fun b19 h => ?_) (fun b19 h => ?_)
  · refine At.nR [0, 1, 6, 7, 8] [0, 1] ?_
    refine At.skip (norm ?_)
    refine At.block ?_
    refine At.sR [0, 1, 6, 7, 8, 9] [0, 1] [oT 4 (by decide : (0:Int) ≤ 1)] ?_
    obtain ⟨y22, hy22, h⟩ := bs h
    obtain ⟨y23, hy23, h⟩ := bs h
    refine At.sR [0, 1, 6, 7, 8, 9, 27] [0, 1] [oT 2 ((rAt_of he_str (d := .str y22) hy22 rfl).1), vT 3 (.str y22) ((rAt_of he_str (d := .str y22) hy22 rfl).2), c0 5 (C_cmp_Less_string y22 p1 y23 hy23)] ?_
    refine At.cd h (fun b24 h => ?_) (fun b24 h => ?_)
    · exact At.rK [0, 1, 6, 7, 8] [0, 1] [] fun _ _ i => ⟨_, li h, i⟩
    · exact At.rK [0, 1, 6, 7, 8] [0, 1] [] fun _ _ i => ⟨_, li h, i⟩
  · refine At.nR [0, 1, 6, 7] [0, 1] ?_
    obtain ⟨r25, h, e26⟩ := mr h
    rw [f17 _ e26] at h
    refine At.exit (norm ?_)
    refine At.seqJ (S := Bool) (fun s => ⟨[(4, i64 x14), (5, bo s)], [.row 9 1 (encL eStr o0), .ghost (gv 0) (.row 0 0)]⟩) (fun s => F_slices_BinarySearch_string_string_J1 x14 s = some r) ?_ ?_
    · rcases cs h with ⟨b35, h⟩ | ⟨b35, h⟩
      · obtain ⟨y36, hy36, h⟩ := bs h
        rcases cs h with ⟨b37, h⟩ | ⟨b37, h⟩
        · exact At.rK [4, 5] [0, 1] [bT 4 b35, oT 7 ((rAt_of he_str (d := .str y36) hy36 rfl).1), vT 8 (.str y36) ((rAt_of he_str (d := .str y36) hy36 rfl).2), bT 11 b37] fun _ _ i => ⟨true, h, i⟩
        · obtain ⟨y38, hy38, h⟩ := bs h
          obtain ⟨y39, hy39, h⟩ := bs h
          rcases cs h with ⟨b40, h⟩ | ⟨b40, h⟩
          · obtain ⟨y41, hy41, h⟩ := bs h
            exact At.rK [4, 5] [0, 1] [bT 4 b35, oT 7 ((rAt_of he_str (d := .str y36) hy36 rfl).1), vT 8 (.str y36) ((rAt_of he_str (d := .str y36) hy36 rfl).2), bT 11 b37, oT 14 ((rAt_of he_str (d := .str y38) hy38 rfl).1), vT 15 (.str y38) ((rAt_of he_str (d := .str y38) hy38 rfl).2), c0 16 (C_slices_isNaN_string y38 y39 hy39), bT 17 b40, c0 19 (C_slices_isNaN_string p1 y41 hy41)] fun _ _ i => ⟨y41, h, i⟩
          · exact At.rK [4, 5] [0, 1] [bT 4 b35, oT 7 ((rAt_of he_str (d := .str y36) hy36 rfl).1), vT 8 (.str y36) ((rAt_of he_str (d := .str y36) hy36 rfl).2), bT 11 b37, oT 14 ((rAt_of he_str (d := .str y38) hy38 rfl).1), vT 15 (.str y38) ((rAt_of he_str (d := .str y38) hy38 rfl).2), c0 16 (C_slices_isNaN_string y38 y39 hy39), bT 17 b40] fun _ _ i => ⟨false, h, i⟩
      · exact At.rK [4, 5] [0, 1] [bT 4 b35] fun _ _ i => ⟨false, h, i⟩
    · intro x34 h
      obtain rfl := sq h
      exact At.ret (At.rR hR [0])
theorem C_token_Word (p0 : ByteArray) (r : Bool) (h : F_token_Word p0 = some r) : FnOK Try.prog 51 [sv p0] [] (bo r) [] [] := by
  refine fI Try.func51 rfl fun E gv R hR => ?_
  refine At.sR [0] [] [] ?_
  obtain ⟨y3, hy3, h⟩ := bs h
  obtain ⟨y4, hy4, h⟩ := bs h
  refine At.sR [4] [] [cT 0 0 [0] (C_token_words y3 hy3), cT 2 1 [0] (C_slices_BinarySearch_string_string p0 y3 y4 hy4)] ?_
  refine At.sR [2] [] [] ?_
  obtain rfl := sq h
  exact At.ret (At.rR hR [])
theorem C_token_Name (p0 : ByteArray) (r : Bool) (h : F_token_Name p0 = some r) : FnOK Try.prog 27 [sv p0] [] (bo r) [] [] := by
  refine fI Try.func27 rfl fun E gv R hR => ?_
  refine At.sR [0] [] [] ?_
  refine At.seqJ (S := Bool) (fun s => ⟨[(2, bo s)], []⟩) (fun s => F_token_Name_J1 s = some r) ?_ ?_
  · rcases cs h with ⟨b10, h⟩ | ⟨b10, h⟩
    · rcases cs h with ⟨b11, h⟩ | ⟨b11, h⟩
      · obtain ⟨y12, hy12, h⟩ := bs h
        obtain ⟨y13, hy13, h⟩ := bs h
        rcases cs h with ⟨b14, h⟩ | ⟨b14, h⟩
        · obtain ⟨y15, hy15, h⟩ := bs h
          rcases cs h with ⟨b16, h⟩ | ⟨b16, h⟩
          · obtain ⟨y17, hy17, h⟩ := bs h
            exact At.rK [2] [] [bT 2 b10, bT 7 b11, sT 9 hy12, c0 10 (C_token_letter y12 y13 hy13), bT 12 b14, c0 14 (C_token_run p0 y15 hy15), bT 18 b16, c0 20 (C_token_Word p0 y17 hy17)] fun _ _ i => ⟨(!y17), h, i⟩
          · exact At.rK [2] [] [bT 2 b10, bT 7 b11, sT 9 hy12, c0 10 (C_token_letter y12 y13 hy13), bT 12 b14, c0 14 (C_token_run p0 y15 hy15), bT 18 b16] fun _ _ i => ⟨false, h, i⟩
        · exact At.rK [2] [] [bT 2 b10, bT 7 b11, sT 9 hy12, c0 10 (C_token_letter y12 y13 hy13), bT 12 b14] fun _ _ i => ⟨false, h, i⟩
      · exact At.rK [2] [] [bT 2 b10, bT 7 b11] fun _ _ i => ⟨false, h, i⟩
    · exact At.rK [2] [] [bT 2 b10] fun _ _ i => ⟨false, h, i⟩
  · intro x9 h
    obtain rfl := sq h
    exact At.ret (At.rR hR [])
theorem C_code_tables (p0 : T_api_Code) (r : Bool) (h : F_code_tables p0 = some r) : FnOK Try.prog 18 [.agg (T_api_Code.pvs p0)] [] (bo r) [] [] := by
  refine fI Try.func18 rfl fun E gv R hR => ?_
  refine At.sR [1] [0] [] ?_
  refine At.sR [1, 3] [0] [] ?_
  refine At.seq ?_
  refine At.seqJ (S := Bool) (fun s => ⟨[(1, .ptr 0 0), (46, bo s)], [.blk 26 (T_api_Code.pvs p0)]⟩) (fun s => F_code_tables_J1 p0 s = some r) ?_ ?_
  · rcases cs h with ⟨b379, h⟩ | ⟨b379, h⟩
    · exact At.rK [1, 46] [0] [bT 2 b379] fun _ _ i => ⟨true, h, i⟩
    · rcases cs h with ⟨b380, h⟩ | ⟨b380, h⟩
      · exact At.rK [1, 46] [0] [bT 2 b379, bT 6 b380] fun _ _ i => ⟨true, h, i⟩
      · rcases cs h with ⟨b381, h⟩ | ⟨b381, h⟩
        · exact At.rK [1, 46] [0] [bT 2 b379, bT 6 b380, bT 12 b381] fun _ _ i => ⟨true, h, i⟩
        · rcases cs h with ⟨b382, h⟩ | ⟨b382, h⟩
          · exact At.rK [1, 46] [0] [bT 2 b379, bT 6 b380, bT 12 b381, bT 17 b382] fun _ _ i => ⟨true, h, i⟩
          · rcases cs h with ⟨b383, h⟩ | ⟨b383, h⟩
            · exact At.rK [1, 46] [0] [bT 2 b379, bT 6 b380, bT 12 b381, bT 17 b382, bT 23 b383] fun _ _ i => ⟨true, h, i⟩
            · obtain ⟨y384, hy384, h⟩ := bs h
              exact At.rK [1, 46] [0] [bT 2 b379, bT 6 b380, bT 12 b381, bT 17 b382, bT 23 b383, eT T_api_Def.enc_len 28 hy384] fun _ _ i => ⟨(y384.Params != 0), h, i⟩
  · intro x21 h
    refine At.cd h (fun b22 h => ?_) (fun b22 h => ?_)
    · refine At.sR [2] [] [] ?_
      obtain rfl := sq h
      exact At.ret (At.rR hR [])
    · refine At.nR [1] [0] ?_
      refine At.skip (norm ?_)
      refine At.sR [1, 4] [0] [] ?_
      refine At.seq ?_
      refine At.sR [1, 4, 48, 49, 50] [0] [] ?_
      refine At.block ?_
      refine At.nK (st' := ⟨[(1, .ptr 0 0), (4, i64 (-1)), (48, lv T_api_Def.enc p0.Defs), (49, i64 ((p0.Defs).length : Int)), (50, i64 0)], [.blk 26 (T_api_Code.pvs p0)]⟩) [1, 4, 48, 49, 50] [0] ?_
      refine At.lp (fun s : (Int × Int) => ⟨[(1, .ptr 0 0), (4, i64 s.1), (48, lv T_api_Def.enc p0.Defs), (49, i64 ((p0.Defs).length : Int)), (50, i64 s.2)], [.blk 26 (T_api_Code.pvs p0)]⟩) h ?_
      rintro ⟨x143, x144⟩ oo145 h f146
      replace h : F_code_tables_L6 p0 x143 x144 = some oo145 := h
      refine At.sR [1, 4, 48, 49, 50, 51] [0] [] ?_
      refine At.seq ?_
      refine At.cd h (fun b148 h => ?_) (fun b148 h => ?_)
      · refine At.nR [1, 4, 48, 49, 50] [0] ?_
        refine At.skip (norm ?_)
        refine At.seq ?_
        refine At.block ?_
        obtain ⟨y205, hy205, h⟩ := bs h
        refine At.sR [1, 4, 6, 48, 49, 50] [0, 1] [eT T_api_Def.enc_len 0 hy205] ?_
        refine At.seqJ (S := Bool) (fun s => ⟨[(1, .ptr 0 0), (4, i64 x143), (6, .ptr 1 0), (7, bo s), (48, lv T_api_Def.enc p0.Defs), (49, i64 ((p0.Defs).length : Int)), (50, i64 x144)], [.blk 26 (T_api_Code.pvs p0), .blk 38 (T_api_Def.pvs y205)]⟩) (fun s => F_code_tables_J2 p0 x143 x144 y205 s = some oo145) ?_ ?_
        · rcases cs h with ⟨b259, h⟩ | ⟨b259, h⟩
          · exact At.rK [1, 4, 6, 7, 48, 49, 50] [0, 1] [bT 3 b259] fun _ _ i => ⟨true, h, i⟩
          · obtain ⟨y260, hy260, h⟩ := bs h
            exact At.rK [1, 4, 6, 7, 48, 49, 50] [0, 1] [bT 3 b259, c0 6 (C_token_Name y205.Name y260 hy260)] fun _ _ i => ⟨y260, h, i⟩
        · intro x208 h
          refine At.seq ?_
          refine At.seqJ (S := Bool) (fun s => ⟨[(1, .ptr 0 0), (6, .ptr 1 0), (48, lv T_api_Def.enc p0.Defs), (49, i64 ((p0.Defs).length : Int)), (50, i64 x144), (103, bo s)], [.blk 26 (T_api_Code.pvs p0), .blk 38 (T_api_Def.pvs y205)]⟩) (fun s => F_code_tables_J3 x144 y205 s = some oo145) ?_ ?_
          · rcases cs h with ⟨b248, h⟩ | ⟨b248, h⟩
            · exact At.rK [1, 6, 48, 49, 50, 103] [0, 1] [bT 2 b248] fun _ _ i => ⟨true, h, i⟩
            · rcases cs h with ⟨b249, h⟩ | ⟨b249, h⟩
              · rcases cs h with ⟨b250, h⟩ | ⟨b250, h⟩
                · exact At.rK [1, 6, 48, 49, 50, 103] [0, 1] [bT 2 b248, bT 5 b249, bT 11 b250] fun _ _ i => ⟨true, h, i⟩
                · rcases cs h with ⟨b251, h⟩ | ⟨b251, h⟩
                  · exact At.rK [1, 6, 48, 49, 50, 103] [0, 1] [bT 2 b248, bT 5 b249, bT 11 b250, bT 17 b251] fun _ _ i => ⟨true, h, i⟩
                  · rcases cs h with ⟨b252, h⟩ | ⟨b252, h⟩
                    · exact At.rK [1, 6, 48, 49, 50, 103] [0, 1] [bT 2 b248, bT 5 b249, bT 11 b250, bT 17 b251, bT 25 b252] fun _ _ i => ⟨true, h, i⟩
                    · rcases cs h with ⟨b253, h⟩ | ⟨b253, h⟩
                      · exact At.rK [1, 6, 48, 49, 50, 103] [0, 1] [bT 2 b248, bT 5 b249, bT 11 b250, bT 17 b251, bT 25 b252, bT 30 b253] fun _ _ i => ⟨true, h, i⟩
                      · rcases cs h with ⟨b254, h⟩ | ⟨b254, h⟩
                        · exact At.rK [1, 6, 48, 49, 50, 103] [0, 1] [bT 2 b248, bT 5 b249, bT 11 b250, bT 17 b251, bT 25 b252, bT 30 b253, bT 37 b254] fun _ _ i => ⟨true, h, i⟩
                        · exact At.rK [1, 6, 48, 49, 50, 103] [0, 1] [bT 2 b248, bT 5 b249, bT 11 b250, bT 17 b251, bT 25 b252, bT 30 b253, bT 37 b254] fun _ _ i => ⟨(decide (16 < y205.Vars)), h, i⟩
              · rcases cs h with ⟨b255, h⟩ | ⟨b255, h⟩
                · exact At.rK [1, 6, 48, 49, 50, 103] [0, 1] [bT 2 b248, bT 5 b249, bT 17 b255] fun _ _ i => ⟨true, h, i⟩
                · rcases cs h with ⟨b256, h⟩ | ⟨b256, h⟩
                  · exact At.rK [1, 6, 48, 49, 50, 103] [0, 1] [bT 2 b248, bT 5 b249, bT 17 b255, bT 25 b256] fun _ _ i => ⟨true, h, i⟩
                  · rcases cs h with ⟨b257, h⟩ | ⟨b257, h⟩
                    · exact At.rK [1, 6, 48, 49, 50, 103] [0, 1] [bT 2 b248, bT 5 b249, bT 17 b255, bT 25 b256, bT 30 b257] fun _ _ i => ⟨true, h, i⟩
                    · rcases cs h with ⟨b258, h⟩ | ⟨b258, h⟩
                      · exact At.rK [1, 6, 48, 49, 50, 103] [0, 1] [bT 2 b248, bT 5 b249, bT 17 b255, bT 25 b256, bT 30 b257, bT 37 b258] fun _ _ i => ⟨true, h, i⟩
                      · exact At.rK [1, 6, 48, 49, 50, 103] [0, 1] [bT 2 b248, bT 5 b249, bT 17 b255, bT 25 b256, bT 30 b257, bT 37 b258] fun _ _ i => ⟨(decide (16 < y205.Vars)), h, i⟩
          · intro x244 h
            refine At.cd h (fun b245 h => ?_) (fun b245 h => ?_)
            · refine At.sR [2] [] [] ?_
              obtain ⟨r246, h, e247⟩ := mr h
              rw [f146 _ e247] at h
              obtain rfl := sq h
              exact At.ret (At.rR hR [])
            · refine At.nR [1, 6, 48, 49, 50] [0, 1] ?_
              refine At.skip (norm ?_)
              refine At.rG [1, 4, 48, 49, 50] [0] [] (norm ?_)
              exact At.rK [1, 4, 48, 49, 50] [0] [] fun _ _ i => ⟨_, li h, i⟩
      · refine At.nR [1] [0] ?_
        obtain ⟨r261, h, e262⟩ := mr h
        rw [f146 _ e262] at h
        refine At.exit (norm ?_)
        refine At.sR [1, 8] [0] [] ?_
        refine At.seq ?_
        refine At.sR [8, 108, 109, 110] [] [] ?_
        refine At.block ?_
        refine At.nK (st' := ⟨[(8, i64 0), (108, lv T_api_Chan.enc p0.Chans), (109, i64 ((p0.Chans).length : Int)), (110, i64 0)], []⟩) [8, 108, 109, 110] [] ?_
        refine At.lp (fun s : (Int × Int) => ⟨[(8, i64 s.1), (108, lv T_api_Chan.enc p0.Chans), (109, i64 ((p0.Chans).length : Int)), (110, i64 s.2)], []⟩) h ?_
        rintro ⟨x321, x322⟩ oo323 h f324
        replace h : F_code_tables_L5 p0 x321 x322 = some oo323 := h
        refine At.sR [8, 108, 109, 110, 111] [] [] ?_
        refine At.seq ?_
        refine At.cd h (fun b326 h => ?_) (fun b326 h => ?_)
        · refine At.nR [8, 108, 109, 110] [] ?_
          refine At.skip (norm ?_)
          refine At.seq ?_
          refine At.block ?_
          obtain ⟨y351, hy351, h⟩ := bs h
          refine At.sR [8, 10, 108, 109, 110] [0] [eT T_api_Chan.enc_len 0 hy351] ?_
          refine At.seq ?_
          refine At.seqJ (S := Bool) (fun s => ⟨[(8, i64 x321), (10, .ptr 0 0), (108, lv T_api_Chan.enc p0.Chans), (109, i64 ((p0.Chans).length : Int)), (110, i64 x322), (133, bo s)], [.blk 57 (T_api_Chan.pvs y351)]⟩) (fun s => F_code_tables_J4 x321 x322 y351 s = some oo323) ?_ ?_
          · obtain ⟨y373, hy373, h⟩ := bs h
            rcases cs h with ⟨b374, h⟩ | ⟨b374, h⟩
            · exact At.rK [8, 10, 108, 109, 110, 133] [0] [c0 2 (C_token_Name y351.Name y373 hy373), bT 4 b374] fun _ _ i => ⟨true, h, i⟩
            · rcases cs h with ⟨b375, h⟩ | ⟨b375, h⟩
              · exact At.rK [8, 10, 108, 109, 110, 133] [0] [c0 2 (C_token_Name y351.Name y373 hy373), bT 4 b374, bT 9 b375] fun _ _ i => ⟨true, h, i⟩
              · rcases cs h with ⟨b376, h⟩ | ⟨b376, h⟩
                · exact At.rK [8, 10, 108, 109, 110, 133] [0] [c0 2 (C_token_Name y351.Name y373 hy373), bT 4 b374, bT 9 b375, bT 14 b376] fun _ _ i => ⟨true, h, i⟩
                · exact At.rK [8, 10, 108, 109, 110, 133] [0] [c0 2 (C_token_Name y351.Name y373 hy373), bT 4 b374, bT 9 b375, bT 14 b376] fun _ _ i => ⟨(y351.Base != x321), h, i⟩
          · intro x366 h
            refine At.cd h (fun b367 h => ?_) (fun b367 h => ?_)
            · refine At.sR [2] [] [] ?_
              obtain ⟨r368, h, e369⟩ := mr h
              rw [f324 _ e369] at h
              obtain rfl := sq h
              exact At.ret (At.rR hR [])
            · refine At.nR [8, 10, 108, 109, 110] [0] ?_
              refine At.skip (norm ?_)
              refine At.sR [8, 108, 109, 110] [] [] ?_
              refine At.sR [8, 108, 109, 110, 140] [] [] ?_
              refine At.cd h (fun b370 h => ?_) (fun b370 h => ?_)
              · refine At.sR [2] [] [] ?_
                obtain ⟨r371, h, e372⟩ := mr h
                rw [f324 _ e372] at h
                obtain rfl := sq h
                exact At.ret (At.rR hR [])
              · refine At.nR [8, 108, 109, 110] [] ?_
                refine At.skip (norm ?_)
                exact At.rK [8, 108, 109, 110] [] [] fun _ _ i => ⟨_, li h, i⟩
        · refine At.nR [] [] ?_
          obtain ⟨r377, h, e378⟩ := mr h
          rw [f324 _ e378] at h
          refine At.exit (norm ?_)
          refine At.sR [2] [] [] ?_
          obtain rfl := sq h
          exact At.ret (At.rR hR [])
theorem C_code_checker_routine (p1 : Int) (o0 : T_code_checker) (r : T_code_checker) (h : F_code_checker_routine p1 o0 = some r) : FnOK Try.prog 19 [.ptr 0 0, i64 p1] [.blk 46 (T_code_checker.pvs o0)] (.tup []) [.blk 46 (T_code_checker.pvs r)] [1] := by
  refine fI Try.func19 rfl fun E gv R hR => ?_
  obtain ⟨y3, hy3, h⟩ := bs h
  obtain ⟨y4, hy4, h⟩ := bs h
  refine At.sD 0 [0, 1] [0, 1] [eT T_api_Def.enc_len 9 hy3, eT T_api_Def.enc_len 24 hy4] ?_
  refine At.sR [0, 1, 45] [0, 1] [] ?_
  refine At.cd h (fun b5 h => ?_) (fun b5 h => ?_)
  · obtain ⟨y6, hy6, h⟩ := bs h
    obtain rfl := sq h
    refine At.rG [] [0, 1] [eT T_api_Def.enc_len 8 hy6] (edq (l := []) (ks := []) (ρ := [0, 1]) (st' := ⟨[], [.blk 46 (T_api_Code.pvs o0.Code ++ [i64 o0.marks, i64 y3.Entry, i64 y6.Entry, i64 y4.Vars]), .ghost (gv 0) (.ptr 0 0)]⟩) (by kernel_rfl) (At.rN hR [0]))
  · refine At.nR [] [0, 1] ?_
    obtain rfl := sq h
    refine At.skip (edq (l := []) (ks := []) (ρ := [0, 1]) (st' := ⟨[], [.blk 46 (T_api_Code.pvs o0.Code ++ [i64 o0.marks, i64 y3.Entry, i64 ((o0.Code.Ins).length : Int), i64 y4.Vars]), .ghost (gv 0) (.ptr 0 0)]⟩) (by kernel_rfl) (At.rN hR [0]))
theorem C_ins_rows  (r : (List T_ins_row)) (h : F_ins_rows  = some r) : FnOK Try.prog 67 [] [] (.dagg (encL T_ins_row.enc r)) [] [] := by
  refine fI Try.func67 rfl fun E gv R hR => ?_
  refine At.sR [0] [0] [] ?_
  obtain ⟨g2, h⟩ := gs h
  refine At.sR [0] [0] [oN 26 (allc (lenM T_ins_row.enc_len ([(⟨(⟨#[]⟩ : ByteArray), 0, 0, 0⟩ : T_ins_row), (⟨(⟨#[109, 97, 114, 107]⟩ : ByteArray), 1, 0, 0⟩ : T_ins_row), (⟨(⟨#[112, 117, 115, 104]⟩ : ByteArray), 1, 0, 1⟩ : T_ins_row), (⟨(⟨#[108, 111, 97, 100]⟩ : ByteArray), 1, 0, 1⟩ : T_ins_row), (⟨(⟨#[115, 116, 111, 114, 101]⟩ : ByteArray), 1, 1, 0⟩ : T_ins_row), (⟨(⟨#[97, 112, 112, 108, 121]⟩ : ByteArray), 1, 0, 1⟩ : T_ins_row), (⟨(⟨#[106, 117, 109, 112]⟩ : ByteArray), 1, 0, 0⟩ : T_ins_row), (⟨(⟨#[122, 101, 114, 111]⟩ : ByteArray), 1, 1, 0⟩ : T_ins_row), (⟨(⟨#[111, 110, 101]⟩ : ByteArray), 1, 1, 0⟩ : T_ins_row), (⟨(⟨#[99, 104, 97, 110]⟩ : ByteArray), 2, 0, 1⟩ : T_ins_row), (⟨(⟨#[115, 101, 110, 100]⟩ : ByteArray), 0, 2, 0⟩ : T_ins_row), (⟨(⟨#[114, 101, 99, 118]⟩ : ByteArray), 1, 1, 0⟩ : T_ins_row), (⟨(⟨#[100, 114, 97, 119]⟩ : ByteArray), 1, 1, 0⟩ : T_ins_row), (⟨(⟨#[115, 108, 101, 101, 112]⟩ : ByteArray), 0, 1, 0⟩ : T_ins_row), (⟨(⟨#[115, 116, 97, 114, 116]⟩ : ByteArray), 2, 0, 0⟩ : T_ins_row), (⟨(⟨#[112, 114, 105, 110, 116]⟩ : ByteArray), 0, 1, 0⟩ : T_ins_row), (⟨(⟨#[97, 115, 115, 101, 114, 116]⟩ : ByteArray), 0, 1, 0⟩ : T_ins_row), (⟨(⟨#[115, 107, 105, 112]⟩ : ByteArray), 0, 0, 0⟩ : T_ins_row), (⟨(⟨#[115, 116, 111, 112]⟩ : ByteArray), 0, 0, 0⟩ : T_ins_row), (⟨(⟨#[111, 110, 114, 101, 99, 118]⟩ : ByteArray), 2, 1, 0⟩ : T_ins_row), (⟨(⟨#[111, 110, 115, 101, 110, 100]⟩ : ByteArray), 1, 2, 0⟩ : T_ins_row), (⟨(⟨#[97, 102, 116, 101, 114]⟩ : ByteArray), 1, 1, 0⟩ : T_ins_row), (⟨(⟨#[101, 108, 115, 101]⟩ : ByteArray), 1, 0, 0⟩ : T_ins_row), (⟨(⟨#[115, 101, 108, 101, 99, 116]⟩ : ByteArray), 0, 0, 0⟩ : T_ins_row), (⟨(⟨#[101, 110, 100]⟩ : ByteArray), 0, 0, 0⟩ : T_ins_row), (⟨(⟨#[99, 104, 111, 111, 115, 101]⟩ : ByteArray), 0, 0, 0⟩ : T_ins_row)] : List T_ins_row) g2.1 rfl) (allc (lenM T_ins_row.enc_len (List.replicate 26 (⟨(⟨#[]⟩ : ByteArray), 0, 0, 0⟩ : T_ins_row)) g2.2 rfl) all0))] ?_
  obtain ⟨g3, h⟩ := gs h
  obtain rfl := sq h
  exact At.ret (At.rQ hR [] (allc (lenM T_ins_row.enc_len ([(⟨(⟨#[]⟩ : ByteArray), 0, 0, 0⟩ : T_ins_row), (⟨(⟨#[109, 97, 114, 107]⟩ : ByteArray), 1, 0, 0⟩ : T_ins_row), (⟨(⟨#[112, 117, 115, 104]⟩ : ByteArray), 1, 0, 1⟩ : T_ins_row), (⟨(⟨#[108, 111, 97, 100]⟩ : ByteArray), 1, 0, 1⟩ : T_ins_row), (⟨(⟨#[115, 116, 111, 114, 101]⟩ : ByteArray), 1, 1, 0⟩ : T_ins_row), (⟨(⟨#[97, 112, 112, 108, 121]⟩ : ByteArray), 1, 0, 1⟩ : T_ins_row), (⟨(⟨#[106, 117, 109, 112]⟩ : ByteArray), 1, 0, 0⟩ : T_ins_row), (⟨(⟨#[122, 101, 114, 111]⟩ : ByteArray), 1, 1, 0⟩ : T_ins_row), (⟨(⟨#[111, 110, 101]⟩ : ByteArray), 1, 1, 0⟩ : T_ins_row), (⟨(⟨#[99, 104, 97, 110]⟩ : ByteArray), 2, 0, 1⟩ : T_ins_row), (⟨(⟨#[115, 101, 110, 100]⟩ : ByteArray), 0, 2, 0⟩ : T_ins_row), (⟨(⟨#[114, 101, 99, 118]⟩ : ByteArray), 1, 1, 0⟩ : T_ins_row), (⟨(⟨#[100, 114, 97, 119]⟩ : ByteArray), 1, 1, 0⟩ : T_ins_row), (⟨(⟨#[115, 108, 101, 101, 112]⟩ : ByteArray), 0, 1, 0⟩ : T_ins_row), (⟨(⟨#[115, 116, 97, 114, 116]⟩ : ByteArray), 2, 0, 0⟩ : T_ins_row), (⟨(⟨#[112, 114, 105, 110, 116]⟩ : ByteArray), 0, 1, 0⟩ : T_ins_row), (⟨(⟨#[97, 115, 115, 101, 114, 116]⟩ : ByteArray), 0, 1, 0⟩ : T_ins_row), (⟨(⟨#[115, 107, 105, 112]⟩ : ByteArray), 0, 0, 0⟩ : T_ins_row), (⟨(⟨#[115, 116, 111, 112]⟩ : ByteArray), 0, 0, 0⟩ : T_ins_row), (⟨(⟨#[111, 110, 114, 101, 99, 118]⟩ : ByteArray), 2, 1, 0⟩ : T_ins_row), (⟨(⟨#[111, 110, 115, 101, 110, 100]⟩ : ByteArray), 1, 2, 0⟩ : T_ins_row), (⟨(⟨#[97, 102, 116, 101, 114]⟩ : ByteArray), 1, 1, 0⟩ : T_ins_row), (⟨(⟨#[101, 108, 115, 101]⟩ : ByteArray), 1, 0, 0⟩ : T_ins_row), (⟨(⟨#[115, 101, 108, 101, 99, 116]⟩ : ByteArray), 0, 0, 0⟩ : T_ins_row), (⟨(⟨#[101, 110, 100]⟩ : ByteArray), 0, 0, 0⟩ : T_ins_row), (⟨(⟨#[99, 104, 111, 111, 115, 101]⟩ : ByteArray), 0, 0, 0⟩ : T_ins_row)] : List T_ins_row) g3 rfl) all0))
theorem C_ins_find (p0 : Int) (r : T_ins_row × Bool) (h : F_ins_find p0 = some r) : FnOK Try.prog 52 [i64 p0] [] (.tup [.agg (T_ins_row.pvs r.1), bo r.2]) [] [] := by
  refine fI Try.func52 rfl fun E gv R hR => ?_
  refine At.sR [0, 2] [0] [] ?_
  refine At.seq ?_
  refine At.seqJ (S := Bool) (fun s => ⟨[(0, i64 p0), (2, .ptr 0 0), (9, bo s)], [.blk 79 [sv (⟨#[]⟩ : ByteArray), i64 0, i64 0, i64 0]]⟩) (fun s => F_ins_find_J1 p0 s = some r) ?_ ?_
  · rcases cs h with ⟨b12, h⟩ | ⟨b12, h⟩
    · exact At.rK [0, 2, 9] [0] [bT 2 b12] fun _ _ i => ⟨true, h, i⟩
    · exact At.rK [0, 2, 9] [0] [bT 2 b12] fun _ _ i => ⟨(decide (25 < p0)), h, i⟩
  · intro x6 h
    refine At.cd h (fun b7 h => ?_) (fun b7 h => ?_)
    · refine At.sR [2, 3] [0] [] ?_
      obtain rfl := sq h
      exact At.ret (At.rR hR [])
    · refine At.nR [0, 2] [0] ?_
      refine At.skip (norm ?_)
      obtain ⟨y10, hy10, h⟩ := bs h
      obtain ⟨y11, hy11, h⟩ := bs h
      refine At.sR [2, 3] [0] [c0 0 (C_ins_rows y10 hy10), tT 2 ({ orc := .cells (T_ins_row.enc y11) }) (allc ((aIxM T_ins_row.enc_len hy11).1) (allc ((aIxM T_ins_row.enc_len hy11).2) all0))] ?_
      obtain rfl := sq h
      exact At.ret (At.rR hR [])
theorem C_arith_Wide (p0 : Int) (r : Int) (h : F_arith_Wide p0 = some r) : FnOK Try.prog 53 [i64 p0] [] (i64 r) [] [] := by
  refine fI Try.func53 rfl fun E gv R hR => ?_
  refine At.sR [0] [] [] ?_
  refine At.seq ?_
  refine At.block ?_
  refine At.seqJ (S := Bool) (fun s => ⟨[(0, i64 p0), (3, bo s)], []⟩) (fun s => F_arith_Wide_J1 p0 s = some r) ?_ ?_
  · rcases cs h with ⟨b16, h⟩ | ⟨b16, h⟩
    · exact At.rK [0, 3] [] [bT 2 b16] fun _ _ i => ⟨true, h, i⟩
    · exact At.rK [0, 3] [] [bT 2 b16] fun _ _ i => ⟨(p0 == 4), h, i⟩
  · intro x10 h
    refine At.cd h (fun b11 h => ?_) (fun b11 h => ?_)
    · refine At.sR [2] [] [] ?_
      obtain rfl := sq h
      exact At.ret (At.rR hR [])
    · refine At.seqJ (S := Bool) (fun s => ⟨[(10, bo s)], []⟩) (fun s => F_arith_Wide_J2 s = some r) ?_ ?_
      · rcases cs h with ⟨b15, h⟩ | ⟨b15, h⟩
        · exact At.rK [10] [] [bT 2 b15] fun _ _ i => ⟨(decide (p0 ≤ 17)), h, i⟩
        · exact At.rK [10] [] [bT 2 b15] fun _ _ i => ⟨false, h, i⟩
      · intro x13 h
        refine At.cd h (fun b14 h => ?_) (fun b14 h => ?_)
        · refine At.sR [2] [] [] ?_
          obtain rfl := sq h
          exact At.ret (At.rR hR [])
        · refine At.nR [] [] ?_
          refine At.skip (norm ?_)
          refine At.sR [2] [] [] ?_
          obtain rfl := sq h
          exact At.ret (At.rR hR [])
theorem C_ins_Right (p0 : T_api_Ins) (r : Bool) (h : F_ins_Right p0 = some r) : FnOK Try.prog 28 [.agg (T_api_Ins.pvs p0)] [] (bo r) [] [] := by
  refine fI Try.func28 rfl fun E gv R hR => ?_
  refine At.sR [1] [0] [] ?_
  obtain ⟨y2, hy2, h⟩ := bs h
  refine At.sR [1, 3, 4] [0, 1] [c0 2 (C_ins_find p0.Op y2 hy2)] ?_
  refine At.seq ?_
  refine At.seqJ (S := Bool) (fun s => ⟨[(1, .ptr 0 0), (32, bo s)], [.blk 35 (T_api_Ins.pvs p0)]⟩) (fun s => F_ins_Right_J1 p0 s = some r) ?_ ?_
  · rcases cs h with ⟨b35, h⟩ | ⟨b35, h⟩
    · exact At.rK [1, 32] [0] [bT 2 b35] fun _ _ i => ⟨true, h, i⟩
    · rcases cs h with ⟨b36, h⟩ | ⟨b36, h⟩
      · rcases cs h with ⟨b37, h⟩ | ⟨b37, h⟩
        · exact At.rK [1, 32] [0] [bT 2 b35, bT 6 b36, bT 12 b37] fun _ _ i => ⟨true, h, i⟩
        · rcases cs h with ⟨b38, h⟩ | ⟨b38, h⟩
          · exact At.rK [1, 32] [0] [bT 2 b35, bT 6 b36, bT 12 b37, bT 16 b38] fun _ _ i => ⟨(p0.B != 0), h, i⟩
          · exact At.rK [1, 32] [0] [bT 2 b35, bT 6 b36, bT 12 b37, bT 16 b38] fun _ _ i => ⟨false, h, i⟩
      · rcases cs h with ⟨b39, h⟩ | ⟨b39, h⟩
        · exact At.rK [1, 32] [0] [bT 2 b35, bT 6 b36, bT 16 b39] fun _ _ i => ⟨(p0.B != 0), h, i⟩
        · exact At.rK [1, 32] [0] [bT 2 b35, bT 6 b36, bT 16 b39] fun _ _ i => ⟨false, h, i⟩
  · intro x20 h
    refine At.cd h (fun b21 h => ?_) (fun b21 h => ?_)
    · refine At.sR [2] [] [] ?_
      obtain rfl := sq h
      exact At.ret (At.rR hR [])
    · refine At.nR [1] [0] ?_
      refine At.skip (norm ?_)
      refine At.seqJ (S := Bool) (fun s => ⟨[(2, bo s)], []⟩) (fun s => F_ins_Right_J2 s = some r) ?_ ?_
      · rcases cs h with ⟨b29, h⟩ | ⟨b29, h⟩
        · rcases cs h with ⟨b30, h⟩ | ⟨b30, h⟩
          · exact At.rK [2] [] [bT 3 b29, bT 12 b30] fun _ _ i => ⟨true, h, i⟩
          · obtain ⟨y31, hy31, h⟩ := bs h
            exact At.rK [2] [] [bT 3 b29, bT 12 b30, c0 15 (C_arith_Wide p0.A y31 hy31)] fun _ _ i => ⟨(decide (0 < y31)), h, i⟩
        · rcases cs h with ⟨b32, h⟩ | ⟨b32, h⟩
          · rcases cs h with ⟨b33, h⟩ | ⟨b33, h⟩
            · exact At.rK [2] [] [bT 3 b29, bT 8 b32, bT 12 b33] fun _ _ i => ⟨true, h, i⟩
            · obtain ⟨y34, hy34, h⟩ := bs h
              exact At.rK [2] [] [bT 3 b29, bT 8 b32, bT 12 b33, c0 15 (C_arith_Wide p0.A y34 hy34)] fun _ _ i => ⟨(decide (0 < y34)), h, i⟩
          · exact At.rK [2] [] [bT 3 b29, bT 8 b32] fun _ _ i => ⟨false, h, i⟩
      · intro x28 h
        obtain rfl := sq h
        exact At.ret (At.rR hR [])
theorem C_code_checker_may_1 (p0 : T_api_Chan) (o0 : T_api_Ins) (r : Bool) (h : F_code_checker_may_1 p0 o0 = some r) : FnOK Try.prog 30 [.agg (T_api_Chan.pvs p0), .ptr 0 0] [.blk 35 (T_api_Ins.pvs o0)] (bo r) [.blk 35 (T_api_Ins.pvs o0)] [1] := by
  refine fI Try.func30 rfl fun E gv R hR => ?_
  refine At.sR [1, 2] [0, 1, 2] [] ?_
  refine At.seqJ (S := Bool) (fun s => ⟨[(3, bo s)], [.blk 35 (T_api_Ins.pvs o0), .ghost (gv 0) (.ptr 0 0)]⟩) (fun s => F_code_checker_may_1_J1 s = some r) ?_ ?_
  · rcases cs h with ⟨b3, h⟩ | ⟨b3, h⟩
    · exact At.rK [3] [0, 1] [bT 5 b3] fun _ _ i => ⟨(p0.Size == o0.B), h, i⟩
    · exact At.rK [3] [0, 1] [bT 5 b3] fun _ _ i => ⟨false, h, i⟩
  · intro x2 h
    obtain rfl := sq h
    exact At.ret (At.rR hR [0])
theorem C_slices_IndexFunc_retrace_api_Chan_retrace_api_Chan (p0 : (List T_api_Chan)) (o0 : T_api_Ins) (r : Int) (h : F_slices_IndexFunc_retrace_api_Chan_retrace_api_Chan p0 o0 = some r) : FnOK Try.prog 54 [lv T_api_Chan.enc p0, .fn (.func 30) [] [.ptr 0 0]] [.blk 35 (T_api_Ins.pvs o0)] (i64 r) [.blk 35 (T_api_Ins.pvs o0)] [1] := by
  refine fI Try.func54 rfl fun E gv R hR => ?_
  refine At.sR [0, 1] [0, 1] [] ?_
  refine At.seq ?_
  refine At.sR [0, 1, 7, 8] [0, 1] [] ?_
  refine At.block ?_
  refine At.nK (st' := ⟨[(0, lv T_api_Chan.enc p0), (1, .fn (.func 30) [] [.ptr 0 0]), (7, i64 ((p0).length : Int)), (8, i64 0)], [.blk 35 (T_api_Ins.pvs o0), .ghost (gv 0) (.ptr 0 0)]⟩) [0, 1, 7, 8] [0, 1] ?_
  refine At.lp (fun s : (Int) => ⟨[(0, lv T_api_Chan.enc p0), (1, .fn (.func 30) [] [.ptr 0 0]), (7, i64 ((p0).length : Int)), (8, i64 s)], [.blk 35 (T_api_Ins.pvs o0), .ghost (gv 0) (.ptr 0 0)]⟩) h ?_
  intro x20 oo21 h f22
  replace h : F_slices_IndexFunc_retrace_api_Chan_retrace_api_Chan_L1 p0 o0 x20 = some oo21 := h
  refine At.sR [0, 1, 7, 8, 9] [0, 1] [] ?_
  refine At.seq ?_
  refine At.cd h (fun b24 h => ?_) (fun b24 h => ?_)
  · refine At.nR [0, 1, 7, 8] [0, 1] ?_
    refine At.skip (norm ?_)
    refine At.seq ?_
    refine At.block ?_
    refine At.sR [0, 1, 5, 7, 8] [0, 1] [] ?_
    obtain ⟨y32, hy32, h⟩ := bs h
    obtain ⟨y33, hy33, h⟩ := bs h
    refine At.sR [0, 1, 5, 7, 8, 16] [0, 1] [eT T_api_Chan.enc_len 3 hy32, cT 5 1 [0] (C_code_checker_may_1 y32 o0 y33 hy33)] ?_
    refine At.cd h (fun b34 h => ?_) (fun b34 h => ?_)
    · refine At.sR [4] [0, 1] [] ?_
      obtain ⟨r35, h, e36⟩ := mr h
      rw [f22 _ e36] at h
      obtain rfl := sq h
      exact At.ret (At.rR hR [0])
    · refine At.nR [0, 1, 7, 8] [0, 1] ?_
      refine At.skip (norm ?_)
      exact At.rK [0, 1, 7, 8] [0, 1] [] fun _ _ i => ⟨_, li h, i⟩
  · refine At.nR [] [0, 1] ?_
    obtain ⟨r37, h, e38⟩ := mr h
    rw [f22 _ e38] at h
    refine At.exit (norm ?_)
    refine At.sR [4] [0, 1] [] ?_
    obtain rfl := sq h
    exact At.ret (At.rR hR [0])
theorem C_slices_ContainsFunc_retrace_api_Chan_retrace_api_Chan (p0 : (List T_api_Chan)) (o0 : T_api_Ins) (r : Bool) (h : F_slices_ContainsFunc_retrace_api_Chan_retrace_api_Chan p0 o0 = some r) : FnOK Try.prog 29 [lv T_api_Chan.enc p0, .fn (.func 30) [] [.ptr 0 0]] [.blk 35 (T_api_Ins.pvs o0)] (bo r) [.blk 35 (T_api_Ins.pvs o0)] [1] := by
  refine fI Try.func29 rfl fun E gv R hR => ?_
  refine At.sR [0, 1] [0, 1] [] ?_
  obtain ⟨y2, hy2, h⟩ := bs h
  refine At.sR [4] [0, 1] [cT 2 1 [0] (C_slices_IndexFunc_retrace_api_Chan_retrace_api_Chan p0 o0 y2 hy2)] ?_
  obtain rfl := sq h
  exact At.ret (At.rR hR [0])
theorem C_patch_Target (p0 : T_api_Ins) (r : Int × Bool) (h : F_patch_Target p0 = some r) : FnOK Try.prog 31 [.agg (T_api_Ins.pvs p0)] [] (.tup [i64 r.1, bo r.2]) [] [] := by
  refine fI Try.func31 rfl fun E gv R hR => ?_
  refine At.sR [1] [0] [] ?_
  refine At.seq ?_
  refine At.sR [1, 5] [0] [] ?_
  refine At.block ?_
  refine At.seqJ (S := Bool) (fun s => ⟨[(1, .ptr 0 0), (5, i64 p0.Op), (6, bo s)], [.blk 35 (T_api_Ins.pvs p0)]⟩) (fun s => F_patch_Target_J1 p0 s = some r) ?_ ?_
  · refine At.sR [1, 5, 6] [0] [] ?_
    refine At.cd h (fun b22 h => ?_) (fun b22 h => ?_)
    · refine At.skip (fun _ _ i => ⟨(p0.Op == 6), h, i.en [] [1, 5, 6] [0]⟩)
    · refine At.sR [1, 5, 6] [0] [] ?_
      refine At.cd h (fun b23 h => ?_) (fun b23 h => ?_)
      · refine At.skip (fun _ _ i => ⟨(p0.Op == 7), h, i.en [] [1, 5, 6] [0]⟩)
      · refine At.sR [1, 5, 6] [0] [] ?_
        refine At.cd h (fun b24 h => ?_) (fun b24 h => ?_)
        · refine At.skip (fun _ _ i => ⟨(p0.Op == 8), h, i.en [] [1, 5, 6] [0]⟩)
        · refine At.seq ?_
          refine At.rK (st' := ⟨[(1, .ptr 0 0), (5, i64 p0.Op), (6, bo (p0.Op == 20))], [.blk 35 (T_api_Ins.pvs p0)]⟩) [1, 5, 6] [0] [] (norm ?_)
          refine At.cd h (fun b25 h => ?_) (fun b25 h => ?_)
          · refine At.skip (fun _ _ i => ⟨(p0.Op == 20), h, i⟩)
          · refine At.sR [1, 5, 6] [0] [] ?_
            refine At.cd h (fun b26 h => ?_) (fun b26 h => ?_)
            · refine At.skip (fun _ _ i => ⟨(p0.Op == 21), h, i.en [] [1, 5, 6] [0]⟩)
            · exact At.rK [1, 5, 6] [0] [] fun _ _ i => ⟨(p0.Op == 22), h, i⟩
  · intro x19 h
    refine At.cd h (fun b20 h => ?_) (fun b20 h => ?_)
    · refine At.sR [2, 3] [] [] ?_
      obtain rfl := sq h
      exact At.ret (At.rR hR [])
    · refine At.sR [1, 15] [0] [] ?_
      refine At.cd h (fun b21 h => ?_) (fun b21 h => ?_)
      · refine At.sR [2, 3] [] [] ?_
        obtain rfl := sq h
        exact At.ret (At.rR hR [])
      · refine At.nR [] [] ?_
        refine At.skip (norm ?_)
        refine At.sR [2, 3] [] [] ?_
        obtain rfl := sq h
        exact At.ret (At.rR hR [])
theorem C_code_checker_aimed (p1 : Int) (p2 : Int) (o0 : T_code_checker) (r : Bool) (h : F_code_checker_aimed p1 p2 o0 = some r) : FnOK Try.prog 32 [.ptr 0 0, i64 p1, i64 p2] [.blk 46 (T_code_checker.pvs o0)] (bo r) [.blk 46 (T_code_checker.pvs o0)] [1] := by
  refine fI Try.func32 rfl fun E gv R hR => ?_
  refine At.sR [0, 1, 2] [0, 1] [] ?_
  refine At.seqJ (S := Bool) (fun s => ⟨[(6, bo s)], [.blk 46 (T_code_checker.pvs o0), .ghost (gv 0) (.ptr 0 0)]⟩) (fun s => F_code_checker_aimed_J1 s = some r) ?_ ?_
  · rcases cs h with ⟨b6, h⟩ | ⟨b6, h⟩
    · rcases cs h with ⟨b7, h⟩ | ⟨b7, h⟩
      · rcases cs h with ⟨b8, h⟩ | ⟨b8, h⟩
        · exact At.rK [6] [0, 1] [bT 6 b6, bT 14 b7, bT 18 b8] fun _ _ i => ⟨true, h, i⟩
        · obtain ⟨y9, hy9, h⟩ := bs h
          exact At.rK [6] [0, 1] [bT 6 b6, bT 14 b7, bT 18 b8, eT T_api_Ins.enc_len 25 hy9] fun _ _ i => ⟨(y9.Op == 1), h, i⟩
      · exact At.rK [6] [0, 1] [bT 6 b6, bT 14 b7] fun _ _ i => ⟨false, h, i⟩
    · exact At.rK [6] [0, 1] [bT 6 b6] fun _ _ i => ⟨false, h, i⟩
  · intro x5 h
    obtain rfl := sq h
    exact At.ret (At.rR hR [0])
theorem C_code_acts (p0 : Int) (r : Bool) (h : F_code_acts p0 = some r) : FnOK Try.prog 33 [i64 p0] [] (bo r) [] [] := by
  refine fI Try.func33 rfl fun E gv R hR => ?_
  refine At.sR [0] [] [] ?_
  refine At.seq ?_
  refine At.sR [3] [] [] ?_
  refine At.block ?_
  refine At.seqJ (S := Bool) (fun s => ⟨[(4, bo s)], []⟩) (fun s => F_code_acts_J1 s = some r) ?_ ?_
  · refine At.sR [3, 4] [] [] ?_
    refine At.cd h (fun b29 h => ?_) (fun b29 h => ?_)
    · refine At.nR [4] [] ?_
      refine At.skip (fun _ _ i => ⟨(p0 == 4), h, i.en [] [4] []⟩)
    · refine At.sR [3, 4] [] [] ?_
      refine At.cd h (fun b30 h => ?_) (fun b30 h => ?_)
      · refine At.nR [4] [] ?_
        refine At.skip (fun _ _ i => ⟨(p0 == 10), h, i.en [] [4] []⟩)
      · refine At.sR [3, 4] [] [] ?_
        refine At.cd h (fun b31 h => ?_) (fun b31 h => ?_)
        · refine At.nK (st' := ⟨[(4, bo (p0 == 11))], []⟩) [4] [] ?_
          refine At.skip (fun _ _ i => ⟨(p0 == 11), h, i⟩)
        · refine At.seq ?_
          refine At.rK (st' := ⟨[(3, i64 p0), (4, bo (p0 == 12))], []⟩) [3, 4] [] [] (norm ?_)
          refine At.cd h (fun b32 h => ?_) (fun b32 h => ?_)
          · refine At.nR [4] [] ?_
            refine At.skip (fun _ _ i => ⟨(p0 == 12), h, i.en [] [4] []⟩)
          · refine At.sR [3, 4] [] [] ?_
            refine At.cd h (fun b33 h => ?_) (fun b33 h => ?_)
            · refine At.nR [4] [] ?_
              refine At.skip (fun _ _ i => ⟨(p0 == 13), h, i.en [] [4] []⟩)
            · refine At.sR [3, 4] [] [] ?_
              refine At.cd h (fun b34 h => ?_) (fun b34 h => ?_)
              · refine At.nR [4] [] ?_
                refine At.skip (fun _ _ i => ⟨(p0 == 14), h, i.en [] [4] []⟩)
              · refine At.sR [3, 4] [] [] ?_
                refine At.cd h (fun b35 h => ?_) (fun b35 h => ?_)
                · refine At.nR [4] [] ?_
                  refine At.skip (fun _ _ i => ⟨(p0 == 15), h, i.en [] [4] []⟩)
                · refine At.sR [3, 4] [] [] ?_
                  refine At.cd h (fun b36 h => ?_) (fun b36 h => ?_)
                  · refine At.nR [4] [] ?_
                    refine At.skip (fun _ _ i => ⟨(p0 == 16), h, i.en [] [4] []⟩)
                  · exact At.rK [4] [] [] fun _ _ i => ⟨(p0 == 17), h, i⟩
  · intro x27 h
    refine At.cd h (fun b28 h => ?_) (fun b28 h => ?_)
    · refine At.sR [2] [] [] ?_
      obtain rfl := sq h
      exact At.ret (At.rR hR [])
    · refine At.nR [] [] ?_
      refine At.skip (norm ?_)
      refine At.sR [2] [] [] ?_
      obtain rfl := sq h
      exact At.ret (At.rR hR [])
theorem C_code_chooses (p0 : Int) (r : Bool) (h : F_code_chooses p0 = some r) : FnOK Try.prog 35 [i64 p0] [] (bo r) [] [] := by
  refine fI Try.func35 rfl fun E gv R hR => ?_
  refine At.sR [0] [] [] ?_
  refine At.seqJ (S := Bool) (fun s => ⟨[(2, bo s)], []⟩) (fun s => F_code_chooses_J1 s = some r) ?_ ?_
  · rcases cs h with ⟨b5, h⟩ | ⟨b5, h⟩
    · exact At.rK [2] [] [bT 2 b5] fun _ _ i => ⟨true, h, i⟩
    · rcases cs h with ⟨b6, h⟩ | ⟨b6, h⟩
      · exact At.rK [2] [] [bT 2 b5, bT 6 b6] fun _ _ i => ⟨true, h, i⟩
      · rcases cs h with ⟨b7, h⟩ | ⟨b7, h⟩
        · exact At.rK [2] [] [bT 2 b5, bT 6 b6, bT 10 b7] fun _ _ i => ⟨true, h, i⟩
        · exact At.rK [2] [] [bT 2 b5, bT 6 b6, bT 10 b7] fun _ _ i => ⟨(p0 == 22), h, i⟩
  · intro x4 h
    obtain rfl := sq h
    exact At.ret (At.rR hR [])
theorem C_code_Settle (p0 : T_api_Code) (p1 : Int) (r : Int) (h : F_code_Settle p0 p1 = some r) : FnOK Try.prog 7 [.agg (T_api_Code.pvs p0), i64 p1] [] (i64 r) [] [] := by
  refine fI Try.func7 rfl fun E gv R hR => ?_
  refine At.sR [1, 2] [0] [] ?_
  refine At.sR [1, 2, 5] [0] [] ?_
  refine At.seq ?_
  refine At.sR [1, 2, 5, 10, 11] [0] [] ?_
  refine At.block ?_
  refine At.nK (st' := ⟨[(1, i64 p1), (2, .ptr 0 0), (5, i64 p1), (10, i64 (w64 (((p0.Ins).length : Int) + 1))), (11, i64 0)], [.blk 26 (T_api_Code.pvs p0)]⟩) [1, 2, 5, 10, 11] [0] ?_
  refine At.lp (fun s : (Int × Int) => ⟨[(1, i64 p1), (2, .ptr 0 0), (5, i64 s.1), (10, i64 (w64 (((p0.Ins).length : Int) + 1))), (11, i64 s.2)], [.blk 26 (T_api_Code.pvs p0)]⟩) h ?_
  rintro ⟨x45, x46⟩ oo47 h f48
  replace h : F_code_Settle_L2 p0 p1 x45 x46 = some oo47 := h
  refine At.sR [1, 2, 5, 10, 11, 12] [0] [] ?_
  refine At.seq ?_
  refine At.cd h (fun b50 h => ?_) (fun b50 h => ?_)
  · refine At.nR [1, 2, 5, 10, 11] [0] ?_
    refine At.skip (norm ?_)
    refine At.seq ?_
    refine At.block ?_
    refine At.seq ?_
    refine At.seqJ (S := Bool) (fun s => ⟨[(1, i64 p1), (2, .ptr 0 0), (5, i64 x45), (10, i64 (w64 (((p0.Ins).length : Int) + 1))), (11, i64 x46), (30, bo s)], [.blk 26 (T_api_Code.pvs p0)]⟩) (fun s => F_code_Settle_J1 p0 x45 x46 s = some oo47) ?_ ?_
    · rcases cs h with ⟨b84, h⟩ | ⟨b84, h⟩
      · exact At.rK [1, 2, 5, 10, 11, 30] [0] [bT 2 b84] fun _ _ i => ⟨true, h, i⟩
      · rcases cs h with ⟨b85, h⟩ | ⟨b85, h⟩
        · exact At.rK [1, 2, 5, 10, 11, 30] [0] [bT 2 b84, bT 9 b85] fun _ _ i => ⟨true, h, i⟩
        · obtain ⟨y86, hy86, h⟩ := bs h
          exact At.rK [1, 2, 5, 10, 11, 30] [0] [bT 2 b84, bT 9 b85, eT T_api_Ins.enc_len 13 hy86] fun _ _ i => ⟨(y86.Op != 6), h, i⟩
    · intro x79 h
      refine At.cd h (fun b80 h => ?_) (fun b80 h => ?_)
      · refine At.sR [4] [] [] ?_
        obtain ⟨r81, h, e82⟩ := mr h
        rw [f48 _ e82] at h
        obtain rfl := sq h
        exact At.ret (At.rR hR [])
      · refine At.nR [1, 2, 5, 10, 11] [0] ?_
        refine At.skip (norm ?_)
        obtain ⟨y83, hy83, h⟩ := bs h
        refine At.rG [1, 2, 5, 10, 11] [0] [eT T_api_Ins.enc_len 3 hy83] (norm ?_)
        exact At.rK [1, 2, 5, 10, 11] [0] [] fun _ _ i => ⟨_, li h, i⟩
  · refine At.nR [1] [] ?_
    obtain ⟨r87, h, e88⟩ := mr h
    rw [f48 _ e88] at h
    refine At.exit (norm ?_)
    refine At.sR [4] [] [] ?_
    obtain rfl := sq h
    exact At.ret (At.rR hR [])
theorem C_code_checker_rests (p1 : Int) (o0 : T_code_checker) (r : Bool) (h : F_code_checker_rests p1 o0 = some r) : FnOK Try.prog 34 [.ptr 0 0, i64 p1] [.blk 46 (T_code_checker.pvs o0)] (bo r) [.blk 46 (T_code_checker.pvs o0)] [1] := by
  refine fI Try.func34 rfl fun E gv R hR => ?_
  refine At.sR [0, 1] [0, 1] [] ?_
  obtain ⟨y2, hy2, h⟩ := bs h
  refine At.sR [0, 1] [0, 1] [c0 5 (C_code_Settle o0.Code p1 y2 hy2)] ?_
  refine At.seqJ (S := Bool) (fun s => ⟨[(4, bo s)], [.blk 46 (T_code_checker.pvs o0), .ghost (gv 0) (.ptr 0 0)]⟩) (fun s => F_code_checker_rests_J1 s = some r) ?_ ?_
  · rcases cs h with ⟨b9, h⟩ | ⟨b9, h⟩
    · rcases cs h with ⟨b10, h⟩ | ⟨b10, h⟩
      · obtain ⟨y11, hy11, h⟩ := bs h
        rcases cs h with ⟨b12, h⟩ | ⟨b12, h⟩
        · exact At.rK [4] [0, 1] [bT 6 b9, bT 14 b10, eT T_api_Ins.enc_len 21 hy11, bT 25 b12] fun _ _ i => ⟨true, h, i⟩
        · obtain ⟨y13, hy13, h⟩ := bs h
          exact At.rK [4] [0, 1] [bT 6 b9, bT 14 b10, eT T_api_Ins.enc_len 21 hy11, bT 25 b12, eT T_api_Ins.enc_len 32 hy13] fun _ _ i => ⟨(y13.Op == 24), h, i⟩
      · exact At.rK [4] [0, 1] [bT 6 b9, bT 14 b10] fun _ _ i => ⟨false, h, i⟩
    · exact At.rK [4] [0, 1] [bT 6 b9] fun _ _ i => ⟨false, h, i⟩
  · intro x8 h
    obtain rfl := sq h
    exact At.ret (At.rR hR [0])
theorem C_code_checker_may (p1 : Int) (o0 : T_code_checker) (r : Bool) (h : F_code_checker_may p1 o0 = some r) : FnOK Try.prog 20 [.ptr 0 0, i64 p1] [.blk 46 (T_code_checker.pvs o0)] (bo r) [.blk 46 (T_code_checker.pvs o0)] [1] := by
  refine fI Try.func20 rfl fun E gv R hR => ?_
  refine At.sR [0, 1] [0, 1] [] ?_
  obtain ⟨y2, hy2, h⟩ := bs h
  refine At.sR [0, 1, 5] [0, 1, 2] [eT T_api_Ins.enc_len 6 hy2] ?_
  refine At.seq ?_
  refine At.seqJ (S := Bool) (fun s => ⟨[(0, .ptr 0 0), (1, i64 p1), (5, .ptr 2 0), (50, bo s)], [.blk 46 (T_code_checker.pvs o0), .ghost (gv 0) (.ptr 0 0), .blk 35 (T_api_Ins.pvs y2)]⟩) (fun s => F_code_checker_may_J1 p1 o0 y2 s = some r) ?_ ?_
  · obtain ⟨y98, hy98, h⟩ := bs h
    rcases cs h with ⟨b99, h⟩ | ⟨b99, h⟩
    · exact At.dK 0 [0, 1, 5, 50] [0, 1, 2] [c0 1 (C_ins_Right y2 y98 hy98), bT 3 b99] fun _ _ i => ⟨true, h, i⟩
    · rcases cs h with ⟨b100, h⟩ | ⟨b100, h⟩
      · exact At.dK 0 [0, 1, 5, 50] [0, 1, 2] [c0 1 (C_ins_Right y2 y98 hy98), bT 3 b99, bT 16 b100] fun _ _ i => ⟨true, h, i⟩
      · rcases cs h with ⟨b101, h⟩ | ⟨b101, h⟩
        · rcases cs h with ⟨b102, h⟩ | ⟨b102, h⟩
          · exact At.dK 0 [0, 1, 5, 50] [0, 1, 2] [c0 1 (C_ins_Right y2 y98 hy98), bT 3 b99, bT 16 b100, bT 23 b101, bT 28 b102] fun _ _ i => ⟨(y2.Op != 24), h, i⟩
          · exact At.dK 0 [0, 1, 5, 50] [0, 1, 2] [c0 1 (C_ins_Right y2 y98 hy98), bT 3 b99, bT 16 b100, bT 23 b101, bT 28 b102] fun _ _ i => ⟨false, h, i⟩
        · exact At.dK 0 [0, 1, 5, 50] [0, 1, 2] [c0 1 (C_ins_Right y2 y98 hy98), bT 3 b99, bT 16 b100, bT 23 b101] fun _ _ i => ⟨false, h, i⟩
  · intro x20 h
    refine At.cd h (fun b21 h => ?_) (fun b21 h => ?_)
    · refine At.sR [4] [0, 1] [] ?_
      obtain rfl := sq h
      exact At.ret (At.rR hR [0])
    · refine At.nR [0, 1, 5] [0, 1, 2] ?_
      refine At.skip (norm ?_)
      refine At.sR [0, 1, 5, 6] [0, 1, 2] [] ?_
      refine At.seqJ (S := Bool) (fun s => ⟨[(0, .ptr 0 0), (1, i64 p1), (5, .ptr 2 0), (6, bo s)], [.blk 46 (T_code_checker.pvs o0), .ghost (gv 0) (.ptr 0 0), .blk 35 (T_api_Ins.pvs y2)]⟩) (fun s => F_code_checker_may_J2 p1 o0 y2 s = some r) ?_ ?_
      · refine At.sR [0, 1, 5, 6, 52] [0, 1, 2] [] ?_
        refine At.block ?_
        refine At.sR [0, 1, 5, 6, 52, 53] [0, 1, 2] [] ?_
        refine At.cd h (fun b80 h => ?_) (fun b80 h => ?_)
        · exact At.dK 0 [0, 1, 5, 6] [0, 1, 2] [] fun _ _ i => ⟨(y2.A == o0.marks), h, i⟩
        · refine At.seqJ (S := Bool) (fun s => ⟨[(0, .ptr 0 0), (1, i64 p1), (5, .ptr 2 0), (6, bo true), (52, i64 y2.Op), (62, bo s)], [.blk 46 (T_code_checker.pvs o0), .ghost (gv 0) (.ptr 0 0), .blk 35 (T_api_Ins.pvs y2)]⟩) (fun s => F_code_checker_may_J5 p1 o0 y2 s = some r) ?_ ?_
          · refine At.sR [0, 1, 5, 6, 52, 62] [0, 1, 2] [] ?_
            refine At.cd h (fun b94 h => ?_) (fun b94 h => ?_)
            · refine At.skip (fun _ _ i => ⟨(y2.Op == 3), h, i.en [] [0, 1, 5, 6, 52, 62] [0, 1, 2]⟩)
            · refine At.seq ?_
              refine At.rK (st' := ⟨[(0, .ptr 0 0), (1, i64 p1), (5, .ptr 2 0), (6, bo true), (52, i64 y2.Op), (62, bo (y2.Op == 4))], [.blk 46 (T_code_checker.pvs o0), .ghost (gv 0) (.ptr 0 0), .blk 35 (T_api_Ins.pvs y2)]⟩) [0, 1, 5, 6, 52, 62] [0, 1, 2] [] (norm ?_)
              refine At.cd h (fun b95 h => ?_) (fun b95 h => ?_)
              · refine At.skip (fun _ _ i => ⟨(y2.Op == 4), h, i⟩)
              · refine At.sR [0, 1, 5, 6, 52, 62] [0, 1, 2] [] ?_
                refine At.cd h (fun b96 h => ?_) (fun b96 h => ?_)
                · refine At.skip (fun _ _ i => ⟨(y2.Op == 11), h, i.en [] [0, 1, 5, 6, 52, 62] [0, 1, 2]⟩)
                · refine At.sR [0, 1, 5, 6, 52, 62] [0, 1, 2] [] ?_
                  refine At.cd h (fun b97 h => ?_) (fun b97 h => ?_)
                  · refine At.skip (fun _ _ i => ⟨(y2.Op == 12), h, i.en [] [0, 1, 5, 6, 52, 62] [0, 1, 2]⟩)
                  · exact At.rK [0, 1, 5, 6, 52, 62] [0, 1, 2] [] fun _ _ i => ⟨(y2.Op == 19), h, i⟩
          · intro x85 h
            refine At.cd h (fun b86 h => ?_) (fun b86 h => ?_)
            · rcases cs h with ⟨b87, h⟩ | ⟨b87, h⟩
              · exact At.dK 0 [0, 1, 5, 6] [0, 1, 2] [bT 3 b87] fun _ _ i => ⟨(decide (y2.A < o0.vars)), h, i⟩
              · exact At.dK 0 [0, 1, 5, 6] [0, 1, 2] [bT 3 b87] fun _ _ i => ⟨false, h, i⟩
            · refine At.sR [0, 1, 5, 6, 52, 80] [0, 1, 2] [] ?_
              refine At.cd h (fun b88 h => ?_) (fun b88 h => ?_)
              · obtain ⟨y89, hy89, h⟩ := bs h
                exact At.rK [0, 1, 5, 6] [0, 1, 2] [cT 6 1 [2] (C_slices_ContainsFunc_retrace_api_Chan_retrace_api_Chan o0.Code.Chans y2 y89 hy89)] fun _ _ i => ⟨y89, h, i⟩
              · refine At.sR [0, 1, 5, 6, 89] [0, 1, 2] [] ?_
                refine At.cd h (fun b90 h => ?_) (fun b90 h => ?_)
                · rcases cs h with ⟨b91, h⟩ | ⟨b91, h⟩
                  · rcases cs h with ⟨b92, h⟩ | ⟨b92, h⟩
                    · obtain ⟨y93, hy93, h⟩ := bs h
                      exact At.dK 0 [0, 1, 5, 6] [0, 1, 2] [bT 3 b91, bT 14 b92, eT T_api_Def.enc_len 24 hy93] fun _ _ i => ⟨(y2.B == y93.Params), h, i⟩
                    · exact At.dK 0 [0, 1, 5, 6] [0, 1, 2] [bT 3 b91, bT 14 b92] fun _ _ i => ⟨false, h, i⟩
                  · exact At.dK 0 [0, 1, 5, 6] [0, 1, 2] [bT 3 b91] fun _ _ i => ⟨false, h, i⟩
                · refine At.nR [0, 1, 5, 6] [0, 1, 2] ?_
                  refine At.skip (fun _ _ i => ⟨true, h, i.en [] [0, 1, 5, 6] [0, 1, 2]⟩)
      · intro x40 h
        obtain ⟨y42, hy42, h⟩ := bs h
        refine At.sR [0, 1, 5, 6, 7, 8] [0, 1, 2] [c0 1 (C_patch_Target y2 y42 hy42)] ?_
        refine At.seq ?_
        refine At.seqJ (S := Bool) (fun s => ⟨[(0, .ptr 0 0), (1, i64 p1), (5, .ptr 2 0), (7, i64 y42.1), (136, bo s)], [.blk 46 (T_code_checker.pvs o0), .ghost (gv 0) (.ptr 0 0), .blk 35 (T_api_Ins.pvs y2)]⟩) (fun s => F_code_checker_may_J3 p1 o0 y2 y42 s = some r) ?_ ?_
        · rcases cs h with ⟨b77, h⟩ | ⟨b77, h⟩
          · exact At.rK [0, 1, 5, 7, 136] [0, 1, 2] [bT 2 b77] fun _ _ i => ⟨true, h, i⟩
          · rcases cs h with ⟨b78, h⟩ | ⟨b78, h⟩
            · obtain ⟨y79, hy79, h⟩ := bs h
              exact At.rK [0, 1, 5, 7, 136] [0, 1, 2] [bT 2 b77, bT 4 b78, cT 8 1 [0] (C_code_checker_aimed p1 y42.1 o0 y79 hy79)] fun _ _ i => ⟨(!y79), h, i⟩
            · exact At.rK [0, 1, 5, 7, 136] [0, 1, 2] [bT 2 b77, bT 4 b78] fun _ _ i => ⟨false, h, i⟩
        · intro x54 h
          refine At.cd h (fun b55 h => ?_) (fun b55 h => ?_)
          · refine At.sR [4] [0, 1] [] ?_
            obtain rfl := sq h
            exact At.ret (At.rR hR [0])
          · refine At.nR [0, 1, 5, 7] [0, 1, 2] ?_
            refine At.skip (norm ?_)
            refine At.seqJ (S := Bool) (fun s => ⟨[(4, bo s)], [.blk 46 (T_code_checker.pvs o0), .ghost (gv 0) (.ptr 0 0)]⟩) (fun s => F_code_checker_may_J4 s = some r) ?_ ?_
            · obtain ⟨y67, hy67, h⟩ := bs h
              rcases cs h with ⟨b68, h⟩ | ⟨b68, h⟩
              · obtain ⟨y69, hy69, h⟩ := bs h
                rcases cs h with ⟨b70, h⟩ | ⟨b70, h⟩
                · exact At.rK [4] [0, 1] [c0 2 (C_code_acts y2.Op y67 hy67), bT 4 b68, c0 13 (C_code_chooses y2.Op y69 hy69), bT 15 b70] fun _ _ i => ⟨true, h, i⟩
                · obtain ⟨y71, hy71, h⟩ := bs h
                  exact At.rK [4] [0, 1] [c0 2 (C_code_acts y2.Op y67 hy67), bT 4 b68, c0 13 (C_code_chooses y2.Op y69 hy69), bT 15 b70, cT 18 1 [0] (C_code_checker_rests y42.1 o0 y71 hy71)] fun _ _ i => ⟨y71, h, i⟩
              · obtain ⟨y72, hy72, h⟩ := bs h
                rcases cs h with ⟨b73, h⟩ | ⟨b73, h⟩
                · obtain ⟨y74, hy74, h⟩ := bs h
                  rcases cs h with ⟨b75, h⟩ | ⟨b75, h⟩
                  · exact At.rK [4] [0, 1] [c0 2 (C_code_acts y2.Op y67 hy67), bT 4 b68, cT 8 1 [0] (C_code_checker_rests (w64 (p1 + 1)) o0 y72 hy72), bT 10 b73, c0 13 (C_code_chooses y2.Op y74 hy74), bT 15 b75] fun _ _ i => ⟨true, h, i⟩
                  · obtain ⟨y76, hy76, h⟩ := bs h
                    exact At.rK [4] [0, 1] [c0 2 (C_code_acts y2.Op y67 hy67), bT 4 b68, cT 8 1 [0] (C_code_checker_rests (w64 (p1 + 1)) o0 y72 hy72), bT 10 b73, c0 13 (C_code_chooses y2.Op y74 hy74), bT 15 b75, cT 18 1 [0] (C_code_checker_rests y42.1 o0 y76 hy76)] fun _ _ i => ⟨y76, h, i⟩
                · exact At.rK [4] [0, 1] [c0 2 (C_code_acts y2.Op y67 hy67), bT 4 b68, cT 8 1 [0] (C_code_checker_rests (w64 (p1 + 1)) o0 y72 hy72), bT 10 b73] fun _ _ i => ⟨false, h, i⟩
            · intro x66 h
              obtain rfl := sq h
              exact At.ret (At.rR hR [0])
theorem C_ins_Takes (p0 : T_api_Ins) (r : Int) (h : F_ins_Takes p0 = some r) : FnOK Try.prog 55 [.agg (T_api_Ins.pvs p0)] [] (i64 r) [] [] := by
  refine fI Try.func55 rfl fun E gv R hR => ?_
  refine At.sR [1] [0] [] ?_
  obtain ⟨y2, hy2, h⟩ := bs h
  refine At.sR [1, 3] [0, 1] [c0 2 (C_ins_find p0.Op y2 hy2)] ?_
  refine At.seq ?_
  refine At.block ?_
  obtain ⟨y15, hy15, h⟩ := bs h
  refine At.sR [1, 3, 11] [0, 1] [c0 1 (C_ins_Right p0 y15 hy15)] ?_
  refine At.cd h (fun b16 h => ?_) (fun b16 h => ?_)
  · refine At.sR [2] [] [] ?_
    obtain rfl := sq h
    exact At.ret (At.rR hR [])
  · refine At.sR [1, 3, 15] [0, 1] [] ?_
    refine At.cd h (fun b17 h => ?_) (fun b17 h => ?_)
    · obtain ⟨y19, hy19, h⟩ := bs h
      refine At.sR [2] [] [c0 2 (C_arith_Wide p0.A y19 hy19)] ?_
      obtain rfl := sq h
      exact At.ret (At.rR hR [])
    · refine At.seqJ (S := Bool) (fun s => ⟨[(1, .ptr 0 0), (3, .ptr 1 0), (22, bo s)], [.blk 35 (T_api_Ins.pvs p0), .blk 79 (T_ins_row.pvs y2.1)]⟩) (fun s => F_ins_Takes_J1 p0 y2 s = some r) ?_ ?_
      · rcases cs h with ⟨b24, h⟩ | ⟨b24, h⟩
        · exact At.rK [1, 3, 22] [0, 1] [bT 3 b24] fun _ _ i => ⟨(decide (0 < p0.B)), h, i⟩
        · exact At.rK [1, 3, 22] [0, 1] [bT 3 b24] fun _ _ i => ⟨false, h, i⟩
      · intro x21 h
        refine At.cd h (fun b22 h => ?_) (fun b22 h => ?_)
        · refine At.sR [2] [] [] ?_
          obtain rfl := sq h
          exact At.ret (At.rR hR [])
        · refine At.sR [1, 3, 31] [0, 1] [] ?_
          refine At.cd h (fun b23 h => ?_) (fun b23 h => ?_)
          · refine At.sR [2] [] [] ?_
            obtain rfl := sq h
            exact At.ret (At.rR hR [])
          · refine At.nR [3] [1] ?_
            refine At.skip (norm ?_)
            refine At.sR [2] [] [] ?_
            obtain rfl := sq h
            exact At.ret (At.rR hR [])
theorem C_ins_Gives (p0 : T_api_Ins) (r : Int) (h : F_ins_Gives p0 = some r) : FnOK Try.prog 56 [.agg (T_api_Ins.pvs p0)] [] (i64 r) [] [] := by
  refine fI Try.func56 rfl fun E gv R hR => ?_
  refine At.sR [1] [0] [] ?_
  refine At.seq ?_
  obtain ⟨y10, hy10, h⟩ := bs h
  refine At.sR [1, 3, 4] [0, 1] [c0 2 (C_ins_find p0.Op y10 hy10)] ?_
  refine At.seqJ (S := Bool) (fun s => ⟨[(3, .ptr 0 0), (15, bo s)], [.blk 79 (T_ins_row.pvs y10.1)]⟩) (fun s => F_ins_Gives_J1 y10 s = some r) ?_ ?_
  · rcases cs h with ⟨b15, h⟩ | ⟨b15, h⟩
    · obtain ⟨y16, hy16, h⟩ := bs h
      exact At.rK [3, 15] [1] [bT 1 b15, c0 3 (C_ins_Right p0 y16 hy16)] fun _ _ i => ⟨y16, h, i⟩
    · exact At.rK [3, 15] [1] [bT 1 b15] fun _ _ i => ⟨false, h, i⟩
  · intro x13 h
    refine At.cd h (fun b14 h => ?_) (fun b14 h => ?_)
    · refine At.sR [2] [] [] ?_
      obtain rfl := sq h
      exact At.ret (At.rR hR [])
    · refine At.nR [] [] ?_
      refine At.skip (norm ?_)
      refine At.sR [2] [] [] ?_
      obtain rfl := sq h
      exact At.ret (At.rR hR [])
theorem C_code_fits (p0 : T_api_Ins) (p1 : T_code_there) (r : T_code_there × Bool) (h : F_code_fits p0 p1 = some r) : FnOK Try.prog 36 [.agg (T_api_Ins.pvs p0), .agg (T_code_there.pvs p1)] [] (.tup [.agg (T_code_there.pvs r.1), bo r.2]) [] [] := by
  refine fI Try.func36 rfl fun E gv R hR => ?_
  refine At.sR [2, 3, 4] [0, 1, 2] [] ?_
  obtain ⟨y2, hy2, h⟩ := bs h
  refine At.sD 0 [2, 3, 4, 6] [0, 1, 2] [c0 3 (C_ins_Takes p0 y2 hy2)] ?_
  refine At.sR [2, 3, 4, 6, 7] [0, 1, 2] [] ?_
  refine At.seqJ (S := Bool × Bool) (fun s => ⟨[(2, .ptr 0 0), (3, .ptr 1 0), (4, .ptr 2 0), (6, i64 (w64 (p1.n - y2))), (7, bo s.1)], [.blk 35 (T_api_Ins.pvs p0), .blk 64 [i64 p1.n, bo s.2], .blk 64 [i64 0, bo false]]⟩) (fun s => F_code_fits_J1 p0 p1 y2 s.1 s.2 = some r) ?_ ?_
  · refine At.block ?_
    refine At.seqJ (S := Bool) (fun s => ⟨[(2, .ptr 0 0), (3, .ptr 1 0), (4, .ptr 2 0), (6, i64 (w64 (p1.n - y2))), (7, bo (decide (0 ≤ (w64 (p1.n - y2))))), (15, bo s)], [.blk 35 (T_api_Ins.pvs p0), .blk 64 (T_code_there.pvs p1), .blk 64 [i64 0, bo false]]⟩) (fun s => F_code_fits_J2 p0 p1 y2 s = some r) ?_ ?_
    · refine At.sR [2, 3, 4, 6, 7, 15] [0, 1, 2] [] ?_
      refine At.cd h (fun b45 h => ?_) (fun b45 h => ?_)
      · refine At.skip (fun _ _ i => ⟨(p0.Op == 1), h, i.en [] [2, 3, 4, 6, 7, 15] [0, 1, 2]⟩)
      · refine At.sR [2, 3, 4, 6, 7, 15] [0, 1, 2] [] ?_
        refine At.cd h (fun b46 h => ?_) (fun b46 h => ?_)
        · refine At.skip (fun _ _ i => ⟨(p0.Op == 24), h, i.en [] [2, 3, 4, 6, 7, 15] [0, 1, 2]⟩)
        · exact At.rK [2, 3, 4, 6, 7, 15] [0, 1, 2] [] fun _ _ i => ⟨(p0.Op == 25), h, i⟩
    · intro x29 h
      refine At.cd h (fun b30 h => ?_) (fun b30 h => ?_)
      · refine At.sR [2, 3, 4, 6, 7] [0, 1, 2] [] ?_
        exact At.rK [2, 3, 4, 6, 7] [0, 1, 2] [] fun _ _ i => ⟨(((p1.n == 0) && ((p1.choose == false) && true)), (p0.Op == 25)), h, i⟩
      · refine At.sR [2, 3, 4, 6, 7, 32] [0, 1, 2] [] ?_
        refine At.cd h (fun b31 h => ?_) (fun b31 h => ?_)
        · exact At.rK [2, 3, 4, 6, 7] [0, 1, 2] [] fun _ _ i => ⟨(((p1.n == 0) && ((p1.choose == true) && true)), p1.choose), h, i⟩
        · obtain ⟨y33, hy33, h⟩ := bs h
          refine At.sR [2, 3, 4, 6, 7, 39] [0, 1, 2] [c0 2 (C_code_chooses p0.Op y33 hy33)] ?_
          refine At.cd h (fun b34 h => ?_) (fun b34 h => ?_)
          · rcases cs h with ⟨b35, h⟩ | ⟨b35, h⟩
            · exact At.rK [2, 3, 4, 6, 7] [0, 1, 2] [bT 2 b35] fun _ _ i => ⟨(p1.choose, p1.choose), h, i⟩
            · exact At.rK [2, 3, 4, 6, 7] [0, 1, 2] [bT 2 b35] fun _ _ i => ⟨(false, p1.choose), h, i⟩
          · refine At.seqJ (S := Bool) (fun s => ⟨[(2, .ptr 0 0), (3, .ptr 1 0), (4, .ptr 2 0), (6, i64 (w64 (p1.n - y2))), (7, bo (decide (0 ≤ (w64 (p1.n - y2))))), (49, bo s)], [.blk 35 (T_api_Ins.pvs p0), .blk 64 (T_code_there.pvs p1), .blk 64 [i64 0, bo false]]⟩) (fun s => F_code_fits_J3 p0 p1 y2 s = some r) ?_ ?_
            · obtain ⟨y43, hy43, h⟩ := bs h
              refine At.sR [2, 3, 4, 6, 7, 49] [0, 1, 2] [c0 2 (C_code_acts p0.Op y43 hy43)] ?_
              refine At.cd h (fun b44 h => ?_) (fun b44 h => ?_)
              · refine At.skip (fun _ _ i => ⟨y43, h, i.en [] [2, 3, 4, 6, 7, 49] [0, 1, 2]⟩)
              · exact At.rK [2, 3, 4, 6, 7, 49] [0, 1, 2] [] fun _ _ i => ⟨(p0.Op == 18), h, i⟩
            · intro x39 h
              refine At.cd h (fun b40 h => ?_) (fun b40 h => ?_)
              · rcases cs h with ⟨b41, h⟩ | ⟨b41, h⟩
                · exact At.rK [2, 3, 4, 6, 7] [0, 1, 2] [bT 2 b41] fun _ _ i => ⟨((!p1.choose), p1.choose), h, i⟩
                · exact At.rK [2, 3, 4, 6, 7] [0, 1, 2] [bT 2 b41] fun _ _ i => ⟨(false, p1.choose), h, i⟩
              · refine At.nR [2, 3, 4, 6, 7] [0, 1, 2] ?_
                refine At.skip (fun _ _ i => ⟨((decide (0 ≤ (w64 (p1.n - y2)))), p1.choose), h, i.en [] [2, 3, 4, 6, 7] [0, 1, 2]⟩)
  · rintro ⟨x23, x24⟩ h
    replace h : F_code_fits_J1 p0 p1 y2 x23 x24 = some r := h
    obtain ⟨y26, hy26, h⟩ := bs h
    refine At.sR [3, 4, 7] [1, 2] [c0 2 (C_ins_Gives p0 y26 hy26)] ?_
    refine At.sR [4, 5] [1] [] ?_
    obtain rfl := sq h
    exact At.ret (At.rR hR [])
theorem C_code_checker_flow_1 (p0 : Int) (p1 : T_code_there) (o2_0 : Int) (o3_0 : Bool) (o1 : (List (Int × T_code_there))) (r : Bool × (List (Int × T_code_there))) (h : F_code_checker_flow_1 p0 p1 o2_0 o3_0 o1 = some r) : FnOK Try.prog 37 [i64 p0, .agg (T_code_there.pvs p1), .ptr 0 0, .ptr 2 0, .ptr 3 0] [.blk 65 [.mapv 1], .dmp true (encM .i64 T_code_there.enc o1), .blk 3 [i64 o2_0], .blk 4 [bo o3_0]] (.tup []) [.blk 65 [.mapv 1], .dmp true (encM .i64 T_code_there.enc r.2), .blk 3 [i64 o2_0], .blk 4 [bo r.1]] [1, 3, 5, 7] := by
  refine fI Try.func37 rfl fun E gv R hR => ?_
  refine At.sR [0, 2, 3, 4, 6] [0, 1, 2, 3, 4, 5, 6, 7, 8] [] ?_
  obtain ⟨y2, hy2, h⟩ := Let_some h
  refine At.sR [0, 2, 3, 4, 6, 7, 8] [0, 1, 2, 3, 4, 5, 6, 7, 8, 9] [tT 2 ({ orc := .cells (.bool y2.isSome :: T_code_there.enc (y2.getD (⟨0, false⟩ : T_code_there))) }) (allc (dget_enc .i64 T_code_there.enc (⟨0, false⟩ : T_code_there) hy2) all0)] ?_
  refine At.block ?_
  refine At.sR [0, 2, 4, 6, 7, 8, 18] [0, 1, 2, 3, 4, 5, 6, 7, 8, 9] [] ?_
  refine At.cd h (fun b3 h => ?_) (fun b3 h => ?_)
  · rcases cs h with ⟨b4, h⟩ | ⟨b4, h⟩
    · obtain rfl := sq h
      refine At.rG [] [0, 1, 2, 3, 4, 5, 6, 7] [bT 1 b4] (edq (l := []) (ks := []) (ρ := [0, 1, 2, 3, 4, 5, 6, 7]) (st' := ⟨[], [.blk 65 [.mapv 1], .dmp true (encM .i64 T_code_there.enc o1), .blk 3 [i64 o2_0], .blk 4 [bo ((p1.n == 0) && ((p1.choose == false) && true))], .ghost (gv 0) (.ptr 0 0), .ghost (gv 1) (.ptr 1 0), .ghost (gv 2) (.ptr 2 0), .ghost (gv 3) (.ptr 3 0)]⟩) (by kernel_rfl) (At.rN hR [0, 1, 2, 3]))
    · obtain rfl := sq h
      refine At.rG [] [0, 1, 2, 3, 4, 5, 6, 7] [bT 1 b4] (edq (l := []) (ks := []) (ρ := [0, 1, 2, 3, 4, 5, 6, 7]) (st' := ⟨[], [.blk 65 [.mapv 1], .dmp true (encM .i64 T_code_there.enc o1), .blk 3 [i64 o2_0], .blk 4 [bo false], .ghost (gv 0) (.ptr 0 0), .ghost (gv 1) (.ptr 1 0), .ghost (gv 2) (.ptr 2 0), .ghost (gv 3) (.ptr 3 0)]⟩) (by kernel_rfl) (At.rN hR [0, 1, 2, 3]))
  · refine At.sR [0, 2, 4, 6, 7, 28] [0, 1, 2, 3, 4, 5, 6, 7, 8, 9] [] ?_
    refine At.cd h (fun b5 h => ?_) (fun b5 h => ?_)
    · rcases cs h with ⟨b6, h⟩ | ⟨b6, h⟩
      · obtain rfl := sq h
        refine At.rG [] [0, 1, 2, 3, 4, 5, 6, 7] [bT 1 b6] (edq (l := []) (ks := []) (ρ := [0, 1, 2, 3, 4, 5, 6, 7]) (st' := ⟨[], [.blk 65 [.mapv 1], .dmp true (encM .i64 T_code_there.enc o1), .blk 3 [i64 o2_0], .blk 4 [bo ((p1.n == ((y2.getD (⟨0, false⟩ : T_code_there)).n)) && ((p1.choose == ((y2.getD (⟨0, false⟩ : T_code_there)).choose)) && true))], .ghost (gv 0) (.ptr 0 0), .ghost (gv 1) (.ptr 1 0), .ghost (gv 2) (.ptr 2 0), .ghost (gv 3) (.ptr 3 0)]⟩) (by kernel_rfl) (At.rN hR [0, 1, 2, 3]))
      · obtain rfl := sq h
        refine At.rG [] [0, 1, 2, 3, 4, 5, 6, 7] [bT 1 b6] (edq (l := []) (ks := []) (ρ := [0, 1, 2, 3, 4, 5, 6, 7]) (st' := ⟨[], [.blk 65 [.mapv 1], .dmp true (encM .i64 T_code_there.enc o1), .blk 3 [i64 o2_0], .blk 4 [bo false], .ghost (gv 0) (.ptr 0 0), .ghost (gv 1) (.ptr 1 0), .ghost (gv 2) (.ptr 2 0), .ghost (gv 3) (.ptr 3 0)]⟩) (by kernel_rfl) (At.rN hR [0, 1, 2, 3]))
    · obtain rfl := sq h
      refine At.rG [] [0, 1, 2, 3, 4, 5, 6, 7] [tT 3 ({ orc := .ents (encM .i64 T_code_there.enc (mPut o1 p0 p1)) }) (allc (dput_enc .i64 T_code_there.enc p0 p1 o1) all0)] (edq (l := []) (ks := []) (ρ := [0, 1, 2, 3, 4, 5, 6, 7]) (st' := ⟨[], [.blk 65 [.mapv 1], .dmp true (encM .i64 T_code_there.enc (mPut o1 p0 p1)), .blk 3 [i64 o2_0], .blk 4 [bo o3_0], .ghost (gv 0) (.ptr 0 0), .ghost (gv 1) (.ptr 1 0), .ghost (gv 2) (.ptr 2 0), .ghost (gv 3) (.ptr 3 0)]⟩) (by kernel_rfl) (At.rN hR [0, 1, 2, 3]))
theorem C_code_checker_flow (o0 : T_code_checker) (r : Int × Bool) (h : F_code_checker_flow o0 = some r) : FnOK Try.prog 21 [.ptr 0 0] [.blk 46 (T_code_checker.pvs o0)] (.tup [i64 r.1, bo r.2]) [.blk 46 (T_code_checker.pvs o0)] [1] := by
  refine fI Try.func21 rfl fun E gv R hR => ?_
  refine At.sR [0] [0, 1] [] ?_
  refine At.sR [0, 4] [0, 1, 3, 2] [] ?_
  refine At.eN [.mapD 3 true] [0, 4] [0, 1, 2, 3] ?_
  refine At.seq ?_
  refine At.sR [0, 4, 5] [0, 1, 2, 3, 4] [] ?_
  refine At.block ?_
  refine At.nK (st' := ⟨[(0, .ptr 0 0), (4, .ptr 2 0), (5, .ptr 4 0)], [.blk 46 (T_code_checker.pvs o0), .ghost (gv 0) (.ptr 0 0), .blk 65 [.mapv 3], .dmp true (encM .i64 T_code_there.enc ([(o0.from_, (⟨0, false⟩ : T_code_there))] : List (Int × T_code_there))), .blk 3 [i64 o0.from_]]⟩) [0, 4, 5] [0, 1, 2, 3, 4] ?_
  refine At.lp (fun s : ((List (Int × T_code_there)) × Int) => ⟨[(0, .ptr 0 0), (4, .ptr 2 0), (5, .ptr 4 0)], [.blk 46 (T_code_checker.pvs o0), .ghost (gv 0) (.ptr 0 0), .blk 65 [.mapv 3], .dmp true (encM .i64 T_code_there.enc s.1), .blk 3 [i64 s.2]]⟩) h ?_
  rintro ⟨x138, x139⟩ oo140 h f141
  replace h : F_code_checker_flow_L7 o0 x138 x139 = some oo140 := h
  refine At.seq ?_
  refine At.sD 0 [0, 4, 5, 30] [0, 1, 2, 3, 4] [] ?_
  refine At.cd h (fun b143 h => ?_) (fun b143 h => ?_)
  · refine At.nR [0, 4, 5] [0, 1, 2, 3, 4] ?_
    refine At.skip (norm ?_)
    refine At.seqJ (S := (List (Int × T_code_there))) (fun s => ⟨[(0, .ptr 0 0), (4, .ptr 2 0), (5, .ptr 4 0)], [.blk 46 (T_code_checker.pvs o0), .ghost (gv 0) (.ptr 0 0), .blk 65 [.mapv 3], .dmp true (encM .i64 T_code_there.enc s), .blk 3 [i64 x139]]⟩) (fun s => F_code_checker_flow_J1 x139 s = some oo140) ?_ ?_
    · refine At.block ?_
      obtain ⟨y209, hy209, h⟩ := Let_some h
      refine At.sR [0, 4, 5, 6, 7] [0, 1, 2, 3, 4, 5] [tT 2 ({ orc := .cells (.bool y209.isSome :: T_code_there.enc (y209.getD (⟨0, false⟩ : T_code_there))) }) (allc (dget_enc .i64 T_code_there.enc (⟨0, false⟩ : T_code_there) hy209) all0)] ?_
      obtain ⟨y211, hy211, h⟩ := bs h
      refine At.sD 1 [0, 4, 5, 6, 7, 8] [0, 1, 2, 3, 4, 5, 6] [eT T_api_Ins.enc_len 6 hy211] ?_
      refine At.seq ?_
      refine At.seqJ (S := Bool) (fun s => ⟨[(0, .ptr 0 0), (4, .ptr 2 0), (5, .ptr 4 0), (6, .ptr 5 0), (8, .ptr 6 0), (53, bo s)], [.blk 46 (T_code_checker.pvs o0), .ghost (gv 0) (.ptr 0 0), .blk 65 [.mapv 3], .dmp true (encM .i64 T_code_there.enc x138), .blk 3 [i64 x139], .blk 64 (T_code_there.pvs (y209.getD (⟨0, false⟩ : T_code_there))), .blk 35 (T_api_Ins.pvs y211)]⟩) (fun s => F_code_checker_flow_J2 x138 x139 y209 y211 s = some oo140) ?_ ?_
      · rcases cs h with ⟨b272, h⟩ | ⟨b272, h⟩
        · exact At.rK [0, 4, 5, 6, 8, 53] [0, 1, 2, 3, 4, 5, 6] [bT 2 b272] fun _ _ i => ⟨(y211.Op != 1), h, i⟩
        · exact At.rK [0, 4, 5, 6, 8, 53] [0, 1, 2, 3, 4, 5, 6] [bT 2 b272] fun _ _ i => ⟨false, h, i⟩
      · intro x217 h
        refine At.cd h (fun b218 h => ?_) (fun b218 h => ?_)
        · refine At.nR [0, 4, 5] [0, 1, 2, 3, 4] ?_
          refine At.exit (fun _ _ i => ⟨x138, h, i.en [] [0, 4, 5] [0, 1, 2, 3, 4]⟩)
        · refine At.nR [0, 4, 5, 6, 8] [0, 1, 2, 3, 4, 5, 6] ?_
          refine At.skip (norm ?_)
          obtain ⟨y220, hy220, h⟩ := bs h
          refine At.sR [0, 4, 5, 8, 9, 10] [0, 1, 2, 3, 4, 6, 7, 8] [c0 2 (C_code_fits y211 (y209.getD (⟨0, false⟩ : T_code_there)) y220 hy220)] ?_
          refine At.sR [0, 4, 5, 8, 9, 10, 11] [0, 1, 2, 3, 4, 5, 6, 7] [] ?_
          refine At.seqJ (S := (List (Int × T_code_there)) × Bool) (fun s => ⟨[(0, .ptr 0 0), (4, .ptr 2 0), (5, .ptr 4 0), (8, .ptr 5 0), (9, .ptr 6 0), (10, .ptr 7 0), (11, .fn (.func 37) [] [.ptr 2 0, .ptr 4 0, .ptr 7 0])], [.blk 46 (T_code_checker.pvs o0), .ghost (gv 0) (.ptr 0 0), .blk 65 [.mapv 3], .dmp true (encM .i64 T_code_there.enc s.1), .blk 3 [i64 x139], .blk 35 (T_api_Ins.pvs y211), .blk 64 (T_code_there.pvs y220.1), .blk 4 [bo s.2]]⟩) (fun s => F_code_checker_flow_J3 x139 y211 y220 s.1 s.2 = some oo140) ?_ ?_
          · obtain ⟨y262, hy262, h⟩ := bs h
            refine At.sR [0, 4, 5, 8, 9, 10, 11, 12, 13] [0, 1, 2, 3, 4, 5, 6, 7] [c0 1 (C_patch_Target y211 y262 hy262)] ?_
            refine At.seqJ (S := Bool) (fun s => ⟨[(0, .ptr 0 0), (4, .ptr 2 0), (5, .ptr 4 0), (8, .ptr 5 0), (9, .ptr 6 0), (10, .ptr 7 0), (11, .fn (.func 37) [] [.ptr 2 0, .ptr 4 0, .ptr 7 0]), (12, i64 y262.1), (69, bo s)], [.blk 46 (T_code_checker.pvs o0), .ghost (gv 0) (.ptr 0 0), .blk 65 [.mapv 3], .dmp true (encM .i64 T_code_there.enc x138), .blk 3 [i64 x139], .blk 35 (T_api_Ins.pvs y211), .blk 64 (T_code_there.pvs y220.1), .blk 4 [bo y220.2]]⟩) (fun s => F_code_checker_flow_J6 x138 x139 y211 y220 y262 s = some oo140) ?_ ?_
            · rcases cs h with ⟨b271, h⟩ | ⟨b271, h⟩
              · exact At.rK [0, 4, 5, 8, 9, 10, 11, 12, 69] [0, 1, 2, 3, 4, 5, 6, 7] [bT 1 b271] fun _ _ i => ⟨y220.2, h, i⟩
              · exact At.rK [0, 4, 5, 8, 9, 10, 11, 12, 69] [0, 1, 2, 3, 4, 5, 6, 7] [bT 1 b271] fun _ _ i => ⟨false, h, i⟩
            · intro x264 h
              refine At.cd h (fun b265 h => ?_) (fun b265 h => ?_)
              · obtain ⟨y267, hy267, h⟩ := bs h
                refine At.sR [0, 4, 5, 8, 9, 10, 11, 12, 72] [0, 1, 2, 3, 4, 5, 6, 7] [c0 2 (C_code_chooses y211.Op y267 hy267)] ?_
                refine At.cd h (fun b268 h => ?_) (fun b268 h => ?_)
                · obtain ⟨y269, hy269, h⟩ := bs h
                  exact At.rK [0, 4, 5, 8, 9, 10, 11] [0, 1, 2, 3, 4, 5, 6, 7] [cT 3 4 [2, 3, 4, 7] (C_code_checker_flow_1 y262.1 (⟨0, false⟩ : T_code_there) x139 y220.2 x138 y269 hy269)] fun _ _ i => ⟨(y269.2, y269.1), h, i⟩
                · obtain ⟨y270, hy270, h⟩ := bs h
                  exact At.rK [0, 4, 5, 8, 9, 10, 11] [0, 1, 2, 3, 4, 5, 6, 7] [cT 3 4 [2, 3, 4, 7] (C_code_checker_flow_1 y262.1 y220.1 x139 y220.2 x138 y270 hy270)] fun _ _ i => ⟨(y270.2, y270.1), h, i⟩
              · refine At.nR [0, 4, 5, 8, 9, 10, 11] [0, 1, 2, 3, 4, 5, 6, 7] ?_
                refine At.skip (fun _ _ i => ⟨(x138, y220.2), h, i.en [] [0, 4, 5, 8, 9, 10, 11] [0, 1, 2, 3, 4, 5, 6, 7]⟩)
          · rintro ⟨x232, x233⟩ h
            replace h : F_code_checker_flow_J3 x139 y211 y220 x232 x233 = some oo140 := h
            refine At.seqJ (S := (List (Int × T_code_there)) × Bool) (fun s => ⟨[(0, .ptr 0 0), (4, .ptr 2 0), (5, .ptr 4 0), (10, .ptr 5 0)], [.blk 46 (T_code_checker.pvs o0), .ghost (gv 0) (.ptr 0 0), .blk 65 [.mapv 3], .dmp true (encM .i64 T_code_there.enc s.1), .blk 3 [i64 x139], .blk 4 [bo s.2]]⟩) (fun s => F_code_checker_flow_J4 x139 s.1 s.2 = some oo140) ?_ ?_
            · refine At.seqJ (S := Bool) (fun s => ⟨[(0, .ptr 0 0), (4, .ptr 2 0), (5, .ptr 4 0), (9, .ptr 5 0), (10, .ptr 6 0), (11, .fn (.func 37) [] [.ptr 2 0, .ptr 4 0, .ptr 6 0]), (101, bo s)], [.blk 46 (T_code_checker.pvs o0), .ghost (gv 0) (.ptr 0 0), .blk 65 [.mapv 3], .dmp true (encM .i64 T_code_there.enc x232), .blk 3 [i64 x139], .blk 64 (T_code_there.pvs y220.1), .blk 4 [bo x233]]⟩) (fun s => F_code_checker_flow_J5 x139 y220 x232 x233 s = some oo140) ?_ ?_
              · rcases cs h with ⟨b257, h⟩ | ⟨b257, h⟩
                · rcases cs h with ⟨b258, h⟩ | ⟨b258, h⟩
                  · rcases cs h with ⟨b259, h⟩ | ⟨b259, h⟩
                    · rcases cs h with ⟨b260, h⟩ | ⟨b260, h⟩
                      · exact At.rK [0, 4, 5, 9, 10, 11, 101] [0, 1, 2, 3, 4, 6, 7] [bT 1 b257, bT 6 b258, bT 11 b259, bT 16 b260] fun _ _ i => ⟨(y211.Op != 24), h, i⟩
                      · exact At.rK [0, 4, 5, 9, 10, 11, 101] [0, 1, 2, 3, 4, 6, 7] [bT 1 b257, bT 6 b258, bT 11 b259, bT 16 b260] fun _ _ i => ⟨false, h, i⟩
                    · exact At.rK [0, 4, 5, 9, 10, 11, 101] [0, 1, 2, 3, 4, 6, 7] [bT 1 b257, bT 6 b258, bT 11 b259] fun _ _ i => ⟨false, h, i⟩
                  · exact At.rK [0, 4, 5, 9, 10, 11, 101] [0, 1, 2, 3, 4, 6, 7] [bT 1 b257, bT 6 b258] fun _ _ i => ⟨false, h, i⟩
                · exact At.rK [0, 4, 5, 9, 10, 11, 101] [0, 1, 2, 3, 4, 6, 7] [bT 1 b257] fun _ _ i => ⟨false, h, i⟩
              · intro x254 h
                refine At.cd h (fun b255 h => ?_) (fun b255 h => ?_)
                · obtain ⟨y256, hy256, h⟩ := bs h
                  exact At.rK [0, 4, 5, 10] [0, 1, 2, 3, 4, 6] [cT 4 4 [2, 3, 4, 6] (C_code_checker_flow_1 (w64 (x139 + 1)) y220.1 x139 x233 x232 y256 hy256)] fun _ _ i => ⟨(y256.2, y256.1), h, i⟩
                · refine At.nR [0, 4, 5, 10] [0, 1, 2, 3, 4, 6] ?_
                  refine At.skip (fun _ _ i => ⟨(x232, x233), h, i.en [] [0, 4, 5, 10] [0, 1, 2, 3, 4, 5]⟩)
            · rintro ⟨x245, x246⟩ h
              replace h : F_code_checker_flow_J4 x139 x245 x246 = some oo140 := h
              refine At.sR [0, 4, 5, 108] [0, 1, 2, 3, 4] [] ?_
              refine At.cd h (fun b247 h => ?_) (fun b247 h => ?_)
              · refine At.sR [2, 3] [0, 1] [] ?_
                obtain ⟨r248, h, e249⟩ := mr h
                rw [f141 _ e249] at h
                obtain rfl := sq h
                exact At.ret (At.rR hR [0])
              · refine At.nR [0, 4, 5] [0, 1, 2, 3, 4] ?_
                refine At.skip (fun _ _ i => ⟨x245, h, i.en [] [0, 4, 5] [0, 1, 2, 3, 4]⟩)
    · intro x207 h
      refine At.seq ?_
      refine At.sR [0, 4, 110] [0, 1, 2, 3] [] ?_
      refine At.rG [0, 4, 5] [0, 1, 2, 3, 4] [] (norm ?_)
      exact At.rK [0, 4, 5] [0, 1, 2, 3, 4] [] fun _ _ i => ⟨_, li h, i⟩
  · refine At.nR [] [0, 1] ?_
    obtain ⟨r273, h, e274⟩ := mr h
    rw [f141 _ e274] at h
    refine At.exit (norm ?_)
    refine At.sR [2, 3] [0, 1] [] ?_
    obtain rfl := sq h
    exact At.ret (At.rR hR [0])
theorem C_code_Check (p0 : T_api_Code) (r : Int × Int) (h : F_code_Check p0 = some r) : FnOK Try.prog 14 [.agg (T_api_Code.pvs p0)] [] (.tup [i64 r.1, i64 r.2]) [] [] := by
  refine fI Try.func14 rfl fun E gv R hR => ?_
  refine At.sR [1] [0] [] ?_
  refine At.seq ?_
  obtain ⟨y5, hy5, h⟩ := bs h
  refine At.sR [1, 12] [0] [c0 1 (C_code_tables p0 y5 hy5)] ?_
  refine At.cd h (fun b6 h => ?_) (fun b6 h => ?_)
  · refine At.sR [2, 3] [] [] ?_
    obtain rfl := sq h
    exact At.ret (At.rR hR [])
  · refine At.nR [1] [0] ?_
    refine At.skip (norm ?_)
    refine At.sR [1, 4] [0, 1] [] ?_
    refine At.seq ?_
    refine At.sR [1, 4, 18, 19] [0, 1] [] ?_
    refine At.block ?_
    refine At.nK (st' := ⟨[(1, .ptr 0 0), (4, .ptr 1 0), (18, i64 ((p0.Defs).length : Int)), (19, i64 0)], [.blk 26 (T_api_Code.pvs p0), .blk 46 (T_api_Code.pvs p0 ++ [i64 0, i64 0, i64 0, i64 0])]⟩) [1, 4, 18, 19] [0, 1] ?_
    refine At.lp (fun s : (Int × (List T_api_Ins) × (List T_api_Def) × (List T_api_Chan) × Int × Int × Int × Int × Int × Int) => ⟨[(1, .ptr 0 0), (4, .ptr 1 0), (18, i64 ((p0.Defs).length : Int)), (19, i64 s.1)], [.blk 26 (T_api_Code.pvs p0), .blk 46 [lv T_api_Ins.enc s.2.1, lv T_api_Def.enc s.2.2.1, lv T_api_Chan.enc s.2.2.2.1, i64 s.2.2.2.2.1, i64 s.2.2.2.2.2.1, i64 s.2.2.2.2.2.2.1, i64 s.2.2.2.2.2.2.2.1, i64 s.2.2.2.2.2.2.2.2.1, i64 s.2.2.2.2.2.2.2.2.2]]⟩) h ?_
    rintro ⟨x87, x88, x89, x90, x91, x92, x93, x94, x95, x96⟩ oo97 h f98
    replace h : F_code_Check_L4 p0 x87 x88 x89 x90 x91 x92 x93 x94 x95 x96 = some oo97 := h
    refine At.sR [1, 4, 18, 19, 20] [0, 1] [] ?_
    refine At.seq ?_
    refine At.cd h (fun b100 h => ?_) (fun b100 h => ?_)
    · refine At.nR [1, 4, 18, 19] [0, 1] ?_
      refine At.skip (norm ?_)
      refine At.seq ?_
      refine At.block ?_
      refine At.sR [1, 4, 5, 18, 19] [0, 1] [] ?_
      obtain ⟨y133, hy133, h⟩ := bs h
      refine At.sR [1, 4, 18, 19] [0, 1] [cT 2 1 [1] (C_code_checker_routine x87 (⟨(⟨x88, x89, x90, x91, x92⟩ : T_api_Code), x93, x94, x95, x96⟩ : T_code_checker) y133 hy133)] ?_
      refine At.sR [1, 4, 6, 18, 19] [0, 1] [] ?_
      refine At.block ?_
      refine At.nK (st' := ⟨[(1, .ptr 0 0), (4, .ptr 1 0), (6, i64 y133.from_), (18, i64 ((p0.Defs).length : Int)), (19, i64 x87)], [.blk 26 (T_api_Code.pvs p0), .blk 46 (T_code_checker.pvs y133)]⟩) [1, 4, 6, 18, 19] [0, 1] ?_
      refine At.lp (fun s : (Int × Int) => ⟨[(1, .ptr 0 0), (4, .ptr 1 0), (6, i64 s.1), (18, i64 ((p0.Defs).length : Int)), (19, i64 x87)], [.blk 26 (T_api_Code.pvs p0), .blk 46 (T_api_Code.pvs y133.Code ++ [i64 s.2, i64 y133.from_, i64 y133.to, i64 y133.vars])]⟩) h ?_
      rintro ⟨x134, x135⟩ oo136 h f137
      replace h : F_code_Check_L2 p0 x87 y133 x134 x135 = some oo136 := h
      refine At.seq ?_
      refine At.sR [1, 4, 6, 18, 19, 34] [0, 1] [] ?_
      refine At.cd h (fun b139 h => ?_) (fun b139 h => ?_)
      · refine At.nR [1, 4, 6, 18, 19] [0, 1] ?_
        refine At.skip (norm ?_)
        refine At.seqJ (S := Int) (fun s => ⟨[(1, .ptr 0 0), (4, .ptr 1 0), (6, i64 x134), (18, i64 ((p0.Defs).length : Int)), (19, i64 x87)], [.blk 26 (T_api_Code.pvs p0), .blk 46 (T_api_Code.pvs y133.Code ++ [i64 s, i64 y133.from_, i64 y133.to, i64 y133.vars])]⟩) (fun s => F_code_Check_J1 x134 s = some oo136) ?_ ?_
        · refine At.block ?_
          refine At.seq ?_
          obtain ⟨y154, hy154, h⟩ := bs h
          refine At.sR [1, 4, 6, 18, 19, 40] [0, 1] [cT 2 1 [1] (C_code_checker_may x134 (⟨y133.Code, x135, y133.from_, y133.to, y133.vars⟩ : T_code_checker) y154 hy154)] ?_
          refine At.cd h (fun b155 h => ?_) (fun b155 h => ?_)
          · refine At.sR [2, 3] [] [] ?_
            obtain ⟨r156, h, e157⟩ := mr h
            rw [f137 _ e157] at h
            obtain ⟨r158, h, e159⟩ := mr h
            rw [f98 _ e159] at h
            obtain rfl := sq h
            exact At.ret (At.rR hR [])
          · refine At.nR [1, 4, 6, 18, 19] [0, 1] ?_
            refine At.skip (norm ?_)
            obtain ⟨y161, hy161, h⟩ := bs h
            refine At.sR [1, 4, 6, 18, 19, 48] [0, 1] [eT T_api_Ins.enc_len 3 hy161] ?_
            refine At.cd h (fun b162 h => ?_) (fun b162 h => ?_)
            · exact At.rK [1, 4, 6, 18, 19] [0, 1] [] fun _ _ i => ⟨(w64 (x135 + 1)), h, i⟩
            · refine At.nK (st' := ⟨[(1, .ptr 0 0), (4, .ptr 1 0), (6, i64 x134), (18, i64 ((p0.Defs).length : Int)), (19, i64 x87)], [.blk 26 (T_api_Code.pvs p0), .blk 46 (T_api_Code.pvs y133.Code ++ [i64 x135, i64 y133.from_, i64 y133.to, i64 y133.vars])]⟩) [1, 4, 6, 18, 19] [0, 1] ?_
              refine At.skip (fun _ _ i => ⟨x135, h, i⟩)
        · intro x149 h
          exact At.rK [1, 4, 6, 18, 19] [0, 1] [] fun _ _ i => ⟨_, li h, i⟩
      · refine At.nR [1, 4, 18, 19] [0, 1] ?_
        obtain ⟨r163, h, e164⟩ := mr h
        rw [f137 _ e164] at h
        refine At.exit (norm ?_)
        exact At.rK [1, 4, 18, 19] [0, 1] [] fun _ _ i => ⟨_, li h, i⟩
    · refine At.nR [1, 4] [0, 1] ?_
      obtain ⟨r165, h, e166⟩ := mr h
      rw [f98 _ e166] at h
      refine At.exit (norm ?_)
      refine At.seq ?_
      refine At.sD 0 [1, 4, 63] [0, 1] [] ?_
      refine At.cd h (fun b168 h => ?_) (fun b168 h => ?_)
      · refine At.sR [2, 3] [] [] ?_
        obtain rfl := sq h
        exact At.ret (At.rR hR [])
      · refine At.nR [1, 4] [0, 1] ?_
        refine At.skip (norm ?_)
        refine At.seq ?_
        refine At.sR [4, 66, 67] [1] [] ?_
        refine At.block ?_
        refine At.nK (st' := ⟨[(4, .ptr 0 0), (66, i64 ((p0.Defs).length : Int)), (67, i64 0)], [.blk 46 [lv T_api_Ins.enc x88, lv T_api_Def.enc x89, lv T_api_Chan.enc x90, i64 x91, i64 x92, i64 x93, i64 x94, i64 x95, i64 x96]]⟩) [4, 66, 67] [0] ?_
        refine At.lp (fun s : (Int × (List T_api_Ins) × (List T_api_Def) × (List T_api_Chan) × Int × Int × Int × Int × Int × Int) => ⟨[(4, .ptr 0 0), (66, i64 ((p0.Defs).length : Int)), (67, i64 s.1)], [.blk 46 [lv T_api_Ins.enc s.2.1, lv T_api_Def.enc s.2.2.1, lv T_api_Chan.enc s.2.2.2.1, i64 s.2.2.2.2.1, i64 s.2.2.2.2.2.1, i64 s.2.2.2.2.2.2.1, i64 s.2.2.2.2.2.2.2.1, i64 s.2.2.2.2.2.2.2.2.1, i64 s.2.2.2.2.2.2.2.2.2]]⟩) h ?_
        rintro ⟨x197, x198, x199, x200, x201, x202, x203, x204, x205, x206⟩ oo207 h f208
        replace h : F_code_Check_L3 p0 x197 x198 x199 x200 x201 x202 x203 x204 x205 x206 = some oo207 := h
        refine At.sR [4, 66, 67, 68] [0] [] ?_
        refine At.seq ?_
        refine At.cd h (fun b210 h => ?_) (fun b210 h => ?_)
        · refine At.nR [4, 66, 67] [0] ?_
          refine At.skip (norm ?_)
          refine At.seq ?_
          refine At.block ?_
          refine At.sR [4, 7, 66, 67] [0] [] ?_
          obtain ⟨y217, hy217, h⟩ := bs h
          refine At.sR [4, 66, 67] [0] [cT 2 1 [0] (C_code_checker_routine x197 (⟨(⟨x198, x199, x200, x201, x202⟩ : T_api_Code), x203, x204, x205, x206⟩ : T_code_checker) y217 hy217)] ?_
          obtain ⟨y219, hy219, h⟩ := bs h
          refine At.sR [4, 8, 9, 66, 67] [0] [cT 1 1 [0] (C_code_checker_flow y217 y219 hy219)] ?_
          refine At.seq ?_
          refine At.rK (st' := ⟨[(4, .ptr 0 0), (8, i64 y219.1), (66, i64 ((p0.Defs).length : Int)), (67, i64 x197), (79, bo (!y219.2))], [.blk 46 (T_code_checker.pvs y217)]⟩) [4, 8, 66, 67, 79] [0] [] (norm ?_)
          refine At.cd h (fun b220 h => ?_) (fun b220 h => ?_)
          · refine At.sR [2, 3] [] [] ?_
            obtain ⟨r221, h, e222⟩ := mr h
            rw [f208 _ e222] at h
            obtain rfl := sq h
            exact At.ret (At.rR hR [])
          · refine At.nR [4, 66, 67] [0] ?_
            refine At.skip (norm ?_)
            exact At.rK [4, 66, 67] [0] [] fun _ _ i => ⟨_, li h, i⟩
        · refine At.nR [] [] ?_
          obtain ⟨r223, h, e224⟩ := mr h
          rw [f208 _ e224] at h
          refine At.exit (norm ?_)
          refine At.sR [2, 3] [] [] ?_
          obtain rfl := sq h
          exact At.ret (At.rR hR [])
theorem C_slices_Backward_retrace_api_Def_retrace_api_Def (p0 : (List T_api_Def)) (r : (List T_api_Def)) (h : F_slices_Backward_retrace_api_Def_retrace_api_Def p0 = some r) : FnOK Try.prog 16 [lv T_api_Def.enc p0] [] (.fn (.func 22) [] [.ptr 0 0]) [.blk 23 [lv T_api_Def.enc r]] [] := by
  refine fI Try.func16 rfl fun E gv R hR => ?_
  refine At.sR [1] [0] [] ?_
  refine At.sR [2] [0] [] ?_
  obtain rfl := sq h
  exact At.ret (At.rR hR [0])
theorem C_R_code_Routine_0 (p0 : Int) (p1 : T_api_Def) (o1_0 : Int) (o2_0 : Int) (r : (Int) ⊕ (Unit)) (h : F_R_code_Routine_0 p0 p1 o1_0 o2_0 = some r) : RdOK Try.prog 0 [i64 p0, .agg (T_api_Def.pvs p1)] [.loop #[19, 20] as_code_Routine_0 bd_code_Routine_0 26 [3, 4] [.ptr 1 0, .ptr 2 0] .ready none, .blk 3 [i64 o1_0], .blk 3 [i64 o2_0]] ((Sum.elim (fun r => bo false) (fun r => bo true)) r) ((Sum.elim (fun r => [.loop #[19, 20] as_code_Routine_0 bd_code_Routine_0 26 [3, 4] [.ptr 1 0, .ptr 2 0] .done (some .ret), .blk 3 [i64 o1_0], .blk 3 [i64 r]]) (fun r => [.loop #[19, 20] as_code_Routine_0 bd_code_Routine_0 26 [3, 4] [.ptr 1 0, .ptr 2 0] .ready none, .blk 3 [i64 o1_0], .blk 3 [i64 o2_0]])) r) [1, 3, 5] := by
  refine RdOK.intro (i := 0) rfl (by kernel_rfl) fun E gv l R hR => ?_
  refine At.eqv (st2 := ⟨[(19, i64 p0), (20, .agg (T_api_Def.pvs p1)), (3, .ptr 1 0), (4, .ptr 2 0)], [.loop #[19, 20] as_code_Routine_0 bd_code_Routine_0 26 [3, 4] [.ptr 1 0, .ptr 2 0] .ready none, .blk 3 [i64 o1_0], .blk 3 [i64 o2_0], .ghost (gv 0) (.ptr 0 0), .ghost (gv 1) (.ptr 1 0), .ghost (gv 2) (.ptr 2 0), .ghost (yieldV l) (.yld 0)]⟩) rfl ?_
  refine At.seq ?_
  refine At.rK (st' := ⟨[(3, .ptr 1 0), (4, .ptr 2 0), (5, i64 p0), (20, .agg (T_api_Def.pvs p1))], [.loop #[19, 20] as_code_Routine_0 bd_code_Routine_0 26 [3, 4] [.ptr 1 0, .ptr 2 0] .ready none, .blk 3 [i64 o1_0], .blk 3 [i64 o2_0], .ghost (gv 0) (.ptr 0 0), .ghost (gv 1) (.ptr 1 0), .ghost (gv 2) (.ptr 2 0), .ghost (yieldV l) (.yld 0)]⟩) [3, 4, 5, 20] [0, 1, 2, 3, 4, 5, 6] [] (norm ?_)
  refine At.rK (st' := ⟨[(3, .ptr 1 0), (4, .ptr 2 0), (5, i64 p0), (6, .ptr 7 0)], [.loop #[19, 20] as_code_Routine_0 bd_code_Routine_0 26 [3, 4] [.ptr 1 0, .ptr 2 0] .ready none, .blk 3 [i64 o1_0], .blk 3 [i64 o2_0], .ghost (gv 0) (.ptr 0 0), .ghost (gv 1) (.ptr 1 0), .ghost (gv 2) (.ptr 2 0), .ghost (yieldV l) (.yld 0), .blk 38 (T_api_Def.pvs p1)]⟩) [3, 4, 5, 6] [0, 1, 2, 3, 4, 5, 6, 7] [] (begin_ok (i := 0) (k := 6) (st' := ⟨[(3, .ptr 1 0), (4, .ptr 2 0), (5, i64 p0), (6, .ptr 7 0)], [.loop #[19, 20] as_code_Routine_0 bd_code_Routine_0 26 [3, 4] [.ptr 1 0, .ptr 2 0] .busy none, .blk 3 [i64 o1_0], .blk 3 [i64 o2_0], .ghost (gv 0) (.ptr 0 0), .ghost (gv 1) (.ptr 1 0), .ghost (gv 2) (.ptr 2 0), .ghost (yieldV l) (.yld 0), .blk 38 (T_api_Def.pvs p1)]⟩) (by kernel_rfl) rfl ?_)
  refine At.block ?_
  refine At.seq ?_
  refine At.rK (st' := ⟨[(4, .ptr 2 0), (5, i64 p0), (24, bo (decide (p1.Entry ≤ o1_0)))], [.loop #[19, 20] as_code_Routine_0 bd_code_Routine_0 26 [3, 4] [.ptr 1 0, .ptr 2 0] .busy none, .blk 3 [i64 o1_0], .blk 3 [i64 o2_0], .ghost (gv 0) (.ptr 0 0), .ghost (gv 1) (.ptr 1 0), .ghost (gv 2) (.ptr 2 0), .ghost (yieldV l) (.yld 0)]⟩) [4, 5, 24] [0, 1, 2, 3, 4, 5, 6] [] (norm ?_)
  refine At.cd h (fun b1 h => ?_) (fun b1 h => ?_)
  · refine At.seq ?_
    refine At.rK (st' := ⟨[], [.loop #[19, 20] as_code_Routine_0 bd_code_Routine_0 26 [3, 4] [.ptr 1 0, .ptr 2 0] .busy none, .blk 3 [i64 o1_0], .blk 3 [i64 p0], .ghost (gv 0) (.ptr 0 0), .ghost (gv 1) (.ptr 1 0), .ghost (gv 2) (.ptr 2 0), .ghost (yieldV l) (.yld 0)]⟩) [] [0, 1, 2, 3, 4, 5, 6] [] (norm ?_)
    obtain rfl := sq h
    exact At.ret (round_fin hR (i := 0) (k := 6) (ρ := [0, 1, 2]) (jump := (some .ret)) (gs := [.ghost (gv 0) (.ptr 0 0), .ghost (gv 1) (.ptr 1 0), .ghost (gv 2) (.ptr 2 0)]) (by kernel_rfl) rfl (by kernel_rfl) rfl rfl rfl)
  · refine At.nK (st' := ⟨[], [.loop #[19, 20] as_code_Routine_0 bd_code_Routine_0 26 [3, 4] [.ptr 1 0, .ptr 2 0] .busy none, .blk 3 [i64 o1_0], .blk 3 [i64 o2_0], .ghost (gv 0) (.ptr 0 0), .ghost (gv 1) (.ptr 1 0), .ghost (gv 2) (.ptr 2 0), .ghost (yieldV l) (.yld 0)]⟩) [] [0, 1, 2, 3, 4, 5, 6] ?_
    obtain rfl := sq h
    refine At.skip (round_fin hR (i := 0) (k := 6) (ρ := [0, 1, 2]) (jump := none) (gs := [.ghost (gv 0) (.ptr 0 0), .ghost (gv 1) (.ptr 1 0), .ghost (gv 2) (.ptr 2 0)]) (by kernel_rfl) rfl (by kernel_rfl) rfl rfl rfl)
theorem C_slices_Backward_retrace_api_Def_retrace_api_Def_1 (o1_0 : Int) (o2_0 : Int) (o3_0 : (List T_api_Def)) (r : (Int) ⊕ (Unit)) (h : F_slices_Backward_retrace_api_Def_retrace_api_Def_1 o1_0 o2_0 o3_0 = some r) : FnOK Try.prog 22 [.yld 0, .ptr 3 0] [.loop #[19, 20] as_code_Routine_0 bd_code_Routine_0 26 [3, 4] [.ptr 1 0, .ptr 2 0] .ready none, .blk 3 [i64 o1_0], .blk 3 [i64 o2_0], .blk 23 [lv T_api_Def.enc o3_0]] ((Sum.elim (fun r => .tup []) (fun r => .tup [])) r) ((Sum.elim (fun r => [.loop #[19, 20] as_code_Routine_0 bd_code_Routine_0 26 [3, 4] [.ptr 1 0, .ptr 2 0] .done (some .ret), .blk 3 [i64 o1_0], .blk 3 [i64 r], .blk 23 [lv T_api_Def.enc o3_0]]) (fun r => [.loop #[19, 20] as_code_Routine_0 bd_code_Routine_0 26 [3, 4] [.ptr 1 0, .ptr 2 0] .ready none, .blk 3 [i64 o1_0], .blk 3 [i64 o2_0], .blk 23 [lv T_api_Def.enc o3_0]])) r) [1, 3, 5, 7] := by
  refine fI Try.func22 rfl fun E gv R hR => ?_
  refine At.sR [0, 1, 3] [0, 1, 2, 3, 4, 5, 6, 7] [] ?_
  refine At.block ?_
  refine At.nK (st' := ⟨[(0, .yld 0), (1, .ptr 3 0), (3, i64 (w64 (((o3_0).length : Int) - 1)))], [.loop #[19, 20] as_code_Routine_0 bd_code_Routine_0 26 [3, 4] [.ptr 1 0, .ptr 2 0] .ready none, .blk 3 [i64 o1_0], .blk 3 [i64 o2_0], .blk 23 [lv T_api_Def.enc o3_0], .ghost (gv 0) (.ptr 0 0), .ghost (gv 1) (.ptr 1 0), .ghost (gv 2) (.ptr 2 0), .ghost (gv 3) (.ptr 3 0)]⟩) [0, 1, 3] [0, 1, 2, 3, 4, 5, 6, 7] ?_
  refine At.lp (fun s : (Int) => ⟨[(0, .yld 0), (1, .ptr 3 0), (3, i64 s)], [.loop #[19, 20] as_code_Routine_0 bd_code_Routine_0 26 [3, 4] [.ptr 1 0, .ptr 2 0] .ready none, .blk 3 [i64 o1_0], .blk 3 [i64 o2_0], .blk 23 [lv T_api_Def.enc o3_0], .ghost (gv 0) (.ptr 0 0), .ghost (gv 1) (.ptr 1 0), .ghost (gv 2) (.ptr 2 0), .ghost (gv 3) (.ptr 3 0)]⟩) h ?_
  intro x1 oo2 h f3
  replace h : F_slices_Backward_retrace_api_Def_retrace_api_Def_1_L3 o1_0 o2_0 o3_0 x1 = some oo2 := h
  refine At.seq ?_
  refine At.sR [0, 1, 3, 8] [0, 1, 2, 3, 4, 5, 6, 7] [] ?_
  refine At.cd h (fun b5 h => ?_) (fun b5 h => ?_)
  · refine At.nR [0, 1, 3] [0, 1, 2, 3, 4, 5, 6, 7] ?_
    refine At.skip (norm ?_)
    refine At.seq ?_
    refine At.block ?_
    refine At.seqJ (S := (Int) ⊕ (Unit)) (Sum.elim (fun s => ⟨[(0, .yld 0), (1, .ptr 3 0), (3, i64 x1), (18, bo true)], [.loop #[19, 20] as_code_Routine_0 bd_code_Routine_0 26 [3, 4] [.ptr 1 0, .ptr 2 0] .done (some .ret), .blk 3 [i64 o1_0], .blk 3 [i64 s], .blk 23 [lv T_api_Def.enc o3_0], .ghost (gv 0) (.ptr 0 0), .ghost (gv 1) (.ptr 1 0), .ghost (gv 2) (.ptr 2 0), .ghost (gv 3) (.ptr 3 0)]⟩) (fun s => ⟨[(0, .yld 0), (1, .ptr 3 0), (3, i64 x1), (18, bo false)], [.loop #[19, 20] as_code_Routine_0 bd_code_Routine_0 26 [3, 4] [.ptr 1 0, .ptr 2 0] .ready none, .blk 3 [i64 o1_0], .blk 3 [i64 o2_0], .blk 23 [lv T_api_Def.enc o3_0], .ghost (gv 0) (.ptr 0 0), .ghost (gv 1) (.ptr 1 0), .ghost (gv 2) (.ptr 2 0), .ghost (gv 3) (.ptr 3 0)]⟩)) (Sum.elim (fun s => F_slices_Backward_retrace_api_Def_retrace_api_Def_1_J1 s = some oo2) (fun s => F_slices_Backward_retrace_api_Def_retrace_api_Def_1_J2 x1 = some oo2)) ?_ ?_
    · obtain ⟨y22, hy22, h⟩ := bs h
      obtain ⟨y23, hy23, h⟩ := bs h
      rcases y23 with y24 | y25
      · exact At.rK [0, 1, 3, 18] [0, 1, 2, 3, 4, 5, 6, 7] [eT T_api_Def.enc_len 4 hy22, yX 6 3 [0, 1, 2] [] true (C_R_code_Routine_0 x1 y22 o1_0 o2_0 (.inl y24) hy23)] fun _ _ i => ⟨.inl y24, h, i⟩
      · exact At.rK [0, 1, 3, 18] [0, 1, 2, 3, 4, 5, 6, 7] [eT T_api_Def.enc_len 4 hy22, yX 6 3 [0, 1, 2] [] true (C_R_code_Routine_0 x1 y22 o1_0 o2_0 (.inr y25) hy23)] fun _ _ i => ⟨.inr (()), h, i⟩
    · rintro (x19 | _) h
      · replace h : F_slices_Backward_retrace_api_Def_retrace_api_Def_1_J1 x19 = some oo2 := h
        refine At.cy ?_
        obtain ⟨r20, h, e21⟩ := mr h
        rw [f3 _ e21] at h
        refine At.eN [] [] [0, 1, 2, 3, 4, 5, 6, 7] ?_
        obtain rfl := sq h
        exact At.ret (At.rR hR [0, 1, 2, 3])
      · replace h : F_slices_Backward_retrace_api_Def_retrace_api_Def_1_J2 x1 = some oo2 := h
        refine At.cn ?_
        refine At.nR [0, 1, 3] [0, 1, 2, 3, 4, 5, 6, 7] ?_
        refine At.skip (norm ?_)
        exact At.rK [0, 1, 3] [0, 1, 2, 3, 4, 5, 6, 7] [] fun _ _ i => ⟨_, li h, i⟩
  · refine At.nR [] [0, 1, 2, 3, 4, 5, 6, 7] ?_
    obtain ⟨r26, h, e27⟩ := mr h
    rw [f3 _ e27] at h
    obtain rfl := sq h
    refine At.exit (edq (l := []) (ks := []) (ρ := [0, 1, 2, 3, 4, 5, 6, 7]) (st' := ⟨[], [.loop #[19, 20] as_code_Routine_0 bd_code_Routine_0 26 [3, 4] [.ptr 1 0, .ptr 2 0] .ready none, .blk 3 [i64 o1_0], .blk 3 [i64 o2_0], .blk 23 [lv T_api_Def.enc o3_0], .ghost (gv 0) (.ptr 0 0), .ghost (gv 1) (.ptr 1 0), .ghost (gv 2) (.ptr 2 0), .ghost (gv 3) (.ptr 3 0)]⟩) (by kernel_rfl) (At.rN hR [0, 1, 2, 3]))
theorem C_code_Routine (p0 : T_api_Code) (p1 : Int) (r : Int) (h : F_code_Routine p0 p1 = some r) : FnOK Try.prog 9 [.agg (T_api_Code.pvs p0), i64 p1] [] (i64 r) [] [] := by
  refine fI Try.func9 rfl fun E gv R hR => ?_
  refine At.sR [2, 3, 4] [0, 1, 2] [] ?_
  refine At.seq ?_
  refine At.seqJ (S := Bool) (fun s => ⟨[(2, .ptr 0 0), (3, .ptr 1 0), (4, .ptr 2 0), (15, bo s)], [.blk 26 (T_api_Code.pvs p0), .blk 3 [i64 p1], .blk 3 [i64 0]]⟩) (fun s => F_code_Routine_J1 p0 p1 s = some r) ?_ ?_
  · rcases cs h with ⟨b18, h⟩ | ⟨b18, h⟩
    · exact At.rK [2, 3, 4, 15] [0, 1, 2] [bT 2 b18] fun _ _ i => ⟨true, h, i⟩
    · exact At.rK [2, 3, 4, 15] [0, 1, 2] [bT 2 b18] fun _ _ i => ⟨(decide (((p0.Ins).length : Int) ≤ p1)), h, i⟩
  · intro x6 h
    refine At.cd h (fun b7 h => ?_) (fun b7 h => ?_)
    · refine At.sR [4] [2] [] ?_
      obtain rfl := sq h
      exact At.ret (At.rR hR [])
    · refine At.nR [2, 3, 4] [0, 1, 2] ?_
      refine At.skip (norm ?_)
      refine At.seq ?_
      obtain ⟨y14, hy14, h⟩ := bs h
      refine At.sR [3, 4, 18] [1, 2, 3] [cT 2 0 [3] (C_slices_Backward_retrace_api_Def_retrace_api_Def p0.Defs y14 hy14)] ?_
      refine At.block ?_
      obtain ⟨y15, hy15, h⟩ := bs h
      rcases y15 with y16 | y17
      · refine At.range (pc := { ρ := [4, 0, 1, 2], n0 := 4, res := .tup [], σ' := [.loop #[19, 20] as_code_Routine_0 bd_code_Routine_0 26 [3, 4] [.ptr 1 0, .ptr 2 0] .done (some .ret), .blk 3 [i64 p1], .blk 3 [i64 y16], .blk 23 [lv T_api_Def.enc y14]], e := [1, 3, 5, 7] }) [3, 4] (st' := ⟨[(3, .ptr 0 0), (4, .ptr 1 0), (18, .fn (.func 22) [] [.ptr 2 0])], [.blk 3 [i64 p1], .blk 3 [i64 y16], .blk 23 [lv T_api_Def.enc y14], .mark, .dead]⟩) (jump := (some .ret)) (by kernel_rfl) (allc (C_slices_Backward_retrace_api_Def_retrace_api_Def_1 p1 0 y14 (.inl y16) hy15) all0) ?_
        show At _ _ _ _ .ret _ _
        refine At.eN [] [4] [3, 1] ?_
        obtain rfl := sq h
        exact At.ret (At.rR hR [])
      · refine At.range (pc := { ρ := [4, 0, 1, 2], n0 := 4, res := .tup [], σ' := [.loop #[19, 20] as_code_Routine_0 bd_code_Routine_0 26 [3, 4] [.ptr 1 0, .ptr 2 0] .ready none, .blk 3 [i64 p1], .blk 3 [i64 0], .blk 23 [lv T_api_Def.enc y14]], e := [1, 3, 5, 7] }) [3, 4] (st' := ⟨[(3, .ptr 0 0), (4, .ptr 1 0), (18, .fn (.func 22) [] [.ptr 2 0])], [.blk 3 [i64 p1], .blk 3 [i64 0], .blk 23 [lv T_api_Def.enc y14], .mark, .dead]⟩) (jump := none) (by kernel_rfl) (allc (C_slices_Backward_retrace_api_Def_retrace_api_Def_1 p1 0 y14 (.inr y17) hy15) all0) (nark [4] [3, 1] (st' := ⟨[(4, .ptr 1 0)], [.mark, .blk 3 [i64 0]]⟩) (by kernel_rfl) (norm ?_))
        refine At.sR [4] [0, 1] [] ?_
        obtain rfl := sq h
        exact At.ret (At.rR hR [])
theorem C_code_Stmt (p0 : T_api_Code) (p1 : Int) (r : Int) (h : F_code_Stmt p0 p1 = some r) : FnOK Try.prog 11 [.agg (T_api_Code.pvs p0), i64 p1] [] (i64 r) [] [] := by
  refine fI Try.func11 rfl fun E gv R hR => ?_
  refine At.sR [1, 2] [0] [] ?_
  refine At.seq ?_
  refine At.seqJ (S := Bool) (fun s => ⟨[(1, i64 p1), (2, .ptr 0 0), (22, bo s)], [.blk 26 (T_api_Code.pvs p0)]⟩) (fun s => F_code_Stmt_J1 p0 p1 s = some r) ?_ ?_
  · rcases cs h with ⟨b16, h⟩ | ⟨b16, h⟩
    · exact At.rK [1, 2, 22] [0] [bT 2 b16] fun _ _ i => ⟨true, h, i⟩
    · rcases cs h with ⟨b17, h⟩ | ⟨b17, h⟩
      · exact At.rK [1, 2, 22] [0] [bT 2 b16, bT 9 b17] fun _ _ i => ⟨true, h, i⟩
      · obtain ⟨y18, hy18, h⟩ := bs h
        exact At.rK [1, 2, 22] [0] [bT 2 b16, bT 9 b17, eT T_api_Ins.enc_len 13 hy18] fun _ _ i => ⟨(y18.Op != 1), h, i⟩
  · intro x12 h
    refine At.cd h (fun b13 h => ?_) (fun b13 h => ?_)
    · refine At.sR [4] [] [] ?_
      obtain rfl := sq h
      exact At.ret (At.rR hR [])
    · refine At.nR [1, 2] [0] ?_
      refine At.skip (norm ?_)
      obtain ⟨y15, hy15, h⟩ := bs h
      refine At.sR [4] [] [eT T_api_Ins.enc_len 3 hy15] ?_
      obtain rfl := sq h
      exact At.ret (At.rR hR [])
theorem C_retracelaw20_live  (r : Bool) (h : F_retracelaw20_live  = some r) : FnOK Try.prog 6 [] [] (bo r) [] [] := by
  refine fI Try.func6 rfl fun E gv R hR => ?_
  refine At.sR [] [] [] ?_
  refine At.sR [1] [2, 0, 1] [] ?_
  obtain ⟨y2, hy2, h⟩ := bs h
  refine At.sR [1, 2, 3] [0, 1, 2] [cT 1 2 [1, 2] (FnOK.keep (args := [.agg [.row 0 ([(⟨1, 0, 0⟩ : T_api_Ins), (⟨2, 1, 0⟩ : T_api_Ins), (⟨24, 0, 0⟩ : T_api_Ins)]).length, .row 1 ([(⟨(⟨#[109, 97, 105, 110]⟩ : ByteArray), 0, 0, 0⟩ : T_api_Def)]).length, lv T_api_Chan.enc ([]), i64 0, i64 1]]) (σ := [.row 35 3 (encL T_api_Ins.enc ([(⟨1, 0, 0⟩ : T_api_Ins), (⟨2, 1, 0⟩ : T_api_Ins), (⟨24, 0, 0⟩ : T_api_Ins)])), .row 38 4 (encL T_api_Def.enc ([(⟨(⟨#[109, 97, 105, 110]⟩ : ByteArray), 0, 0, 0⟩ : T_api_Def)]))]) [0, 1] (C_code_Check (⟨[(⟨1, 0, 0⟩ : T_api_Ins), (⟨2, 1, 0⟩ : T_api_Ins), (⟨24, 0, 0⟩ : T_api_Ins)], [(⟨(⟨#[109, 97, 105, 110]⟩ : ByteArray), 0, 0, 0⟩ : T_api_Def)], ([] : (List T_api_Chan)), 0, 1⟩ : T_api_Code) y2 hy2))] ?_
  refine At.seq ?_
  obtain ⟨y4, hy4, h⟩ := bs h
  refine At.rK (st' := ⟨[(1, .ptr 0 0), (2, i64 y2.1), (3, i64 y2.2)], [.blk 26 [.row 1 ([(⟨1, 0, 0⟩ : T_api_Ins), (⟨2, 1, 0⟩ : T_api_Ins), (⟨24, 0, 0⟩ : T_api_Ins)]).length, .row 2 ([(⟨(⟨#[109, 97, 105, 110]⟩ : ByteArray), 0, 0, 0⟩ : T_api_Def)]).length, .d (.list true 0 []), i64 0, i64 1], .row 35 3 (encL T_api_Ins.enc (List.set ([(⟨1, 0, 0⟩ : T_api_Ins), (⟨2, 1, 0⟩ : T_api_Ins), (⟨24, 0, 0⟩ : T_api_Ins)]) (Int.toNat 1) (⟨17, 0, 0⟩ : T_api_Ins))), .row 38 4 (encL T_api_Def.enc ([(⟨(⟨#[109, 97, 105, 110]⟩ : ByteArray), 0, 0, 0⟩ : T_api_Def)]))]⟩) [1, 2, 3] [0, 1, 2] [oT 3 (rEl hy4), tT 4 ({ form := some (0, encL T_api_Ins.enc (List.set ([(⟨1, 0, 0⟩ : T_api_Ins), (⟨2, 1, 0⟩ : T_api_Ins), (⟨24, 0, 0⟩ : T_api_Ins)]) (Int.toNat 1) (⟨17, 0, 0⟩ : T_api_Ins))), obj := 1 }) (allc ((rSetM T_api_Ins.enc_len hy4 0 (⟨17, 0, 0⟩ : T_api_Ins) (vs := [.int .i64 17, .int .i64 0, .int .i64 0]) (by rfl) (Nat.le_of_ble_eq_true rfl)).1) (allc ((rSetM T_api_Ins.enc_len hy4 0 (⟨17, 0, 0⟩ : T_api_Ins) (vs := [.int .i64 17, .int .i64 0, .int .i64 0]) (by rfl) (Nat.le_of_ble_eq_true rfl)).2) all0))] (relen (st2 := ⟨[(1, .ptr 0 0), (2, i64 y2.1), (3, i64 y2.2)], [.blk 26 [.row 1 ((List.set ([(⟨1, 0, 0⟩ : T_api_Ins), (⟨2, 1, 0⟩ : T_api_Ins), (⟨24, 0, 0⟩ : T_api_Ins)]) (Int.toNat 1) (⟨17, 0, 0⟩ : T_api_Ins))).length, .row 2 ([(⟨(⟨#[109, 97, 105, 110]⟩ : ByteArray), 0, 0, 0⟩ : T_api_Def)]).length, .d (.list true 0 []), i64 0, i64 1], .row 35 3 (encL T_api_Ins.enc (List.set ([(⟨1, 0, 0⟩ : T_api_Ins), (⟨2, 1, 0⟩ : T_api_Ins), (⟨24, 0, 0⟩ : T_api_Ins)]) (Int.toNat 1) (⟨17, 0, 0⟩ : T_api_Ins))), .row 38 4 (encL T_api_Def.enc ([(⟨(⟨#[109, 97, 105, 110]⟩ : ByteArray), 0, 0, 0⟩ : T_api_Def)]))]⟩) (by simp only [List.length_set]) (norm ?_))
  obtain ⟨y6, hy6, h⟩ := bs h
  refine At.sR [1, 2, 3, 5] [0, 1, 2] [cT 1 2 [1, 2] (FnOK.keep (args := [.agg [.row 0 ((List.set ([(⟨1, 0, 0⟩ : T_api_Ins), (⟨2, 1, 0⟩ : T_api_Ins), (⟨24, 0, 0⟩ : T_api_Ins)]) (Int.toNat 1) (⟨17, 0, 0⟩ : T_api_Ins))).length, .row 1 ([(⟨(⟨#[109, 97, 105, 110]⟩ : ByteArray), 0, 0, 0⟩ : T_api_Def)]).length, lv T_api_Chan.enc ([]), i64 0, i64 1]]) (σ := [.row 35 3 (encL T_api_Ins.enc (List.set ([(⟨1, 0, 0⟩ : T_api_Ins), (⟨2, 1, 0⟩ : T_api_Ins), (⟨24, 0, 0⟩ : T_api_Ins)]) (Int.toNat 1) (⟨17, 0, 0⟩ : T_api_Ins))), .row 38 4 (encL T_api_Def.enc ([(⟨(⟨#[109, 97, 105, 110]⟩ : ByteArray), 0, 0, 0⟩ : T_api_Def)]))]) [0, 1] (C_code_Check (⟨(List.set ([(⟨1, 0, 0⟩ : T_api_Ins), (⟨2, 1, 0⟩ : T_api_Ins), (⟨24, 0, 0⟩ : T_api_Ins)]) (Int.toNat 1) (⟨17, 0, 0⟩ : T_api_Ins)), [(⟨(⟨#[109, 97, 105, 110]⟩ : ByteArray), 0, 0, 0⟩ : T_api_Def)], ([] : (List T_api_Chan)), 0, 1⟩ : T_api_Code) y6 hy6))] ?_
  refine At.seqJ (S := Bool) (fun s => ⟨[(0, bo s)], []⟩) (fun s => F_retracelaw20_live_J1 s = some r) ?_ ?_
  · rcases cs h with ⟨b14, h⟩ | ⟨b14, h⟩
    · rcases cs h with ⟨b15, h⟩ | ⟨b15, h⟩
      · rcases cs h with ⟨b16, h⟩ | ⟨b16, h⟩
        · obtain ⟨y17, hy17, h⟩ := bs h
          rcases cs h with ⟨b18, h⟩ | ⟨b18, h⟩
          · obtain ⟨y19, hy19, h⟩ := bs h
            exact At.rK [0] [] [bT 2 b14, bT 6 b15, bT 10 b16, cT 12 2 [1, 2] (FnOK.keep (args := [.agg [.row 0 ((List.set ([(⟨1, 0, 0⟩ : T_api_Ins), (⟨2, 1, 0⟩ : T_api_Ins), (⟨24, 0, 0⟩ : T_api_Ins)]) (Int.toNat 1) (⟨17, 0, 0⟩ : T_api_Ins))).length, .row 1 ([(⟨(⟨#[109, 97, 105, 110]⟩ : ByteArray), 0, 0, 0⟩ : T_api_Def)]).length, lv T_api_Chan.enc ([]), i64 0, i64 1], i64 1]) (σ := [.row 35 3 (encL T_api_Ins.enc (List.set ([(⟨1, 0, 0⟩ : T_api_Ins), (⟨2, 1, 0⟩ : T_api_Ins), (⟨24, 0, 0⟩ : T_api_Ins)]) (Int.toNat 1) (⟨17, 0, 0⟩ : T_api_Ins))), .row 38 4 (encL T_api_Def.enc ([(⟨(⟨#[109, 97, 105, 110]⟩ : ByteArray), 0, 0, 0⟩ : T_api_Def)]))]) [0, 1] (C_code_Routine (⟨(List.set ([(⟨1, 0, 0⟩ : T_api_Ins), (⟨2, 1, 0⟩ : T_api_Ins), (⟨24, 0, 0⟩ : T_api_Ins)]) (Int.toNat 1) (⟨17, 0, 0⟩ : T_api_Ins)), [(⟨(⟨#[109, 97, 105, 110]⟩ : ByteArray), 0, 0, 0⟩ : T_api_Def)], ([] : (List T_api_Chan)), 0, 1⟩ : T_api_Code) 1 y17 hy17)), bT 15 b18, cT 17 2 [1, 2] (FnOK.keep (args := [.agg [.row 0 ((List.set ([(⟨1, 0, 0⟩ : T_api_Ins), (⟨2, 1, 0⟩ : T_api_Ins), (⟨24, 0, 0⟩ : T_api_Ins)]) (Int.toNat 1) (⟨17, 0, 0⟩ : T_api_Ins))).length, .row 1 ([(⟨(⟨#[109, 97, 105, 110]⟩ : ByteArray), 0, 0, 0⟩ : T_api_Def)]).length, lv T_api_Chan.enc ([]), i64 0, i64 1], i64 0]) (σ := [.row 35 3 (encL T_api_Ins.enc (List.set ([(⟨1, 0, 0⟩ : T_api_Ins), (⟨2, 1, 0⟩ : T_api_Ins), (⟨24, 0, 0⟩ : T_api_Ins)]) (Int.toNat 1) (⟨17, 0, 0⟩ : T_api_Ins))), .row 38 4 (encL T_api_Def.enc ([(⟨(⟨#[109, 97, 105, 110]⟩ : ByteArray), 0, 0, 0⟩ : T_api_Def)]))]) [0, 1] (C_code_Stmt (⟨(List.set ([(⟨1, 0, 0⟩ : T_api_Ins), (⟨2, 1, 0⟩ : T_api_Ins), (⟨24, 0, 0⟩ : T_api_Ins)]) (Int.toNat 1) (⟨17, 0, 0⟩ : T_api_Ins)), [(⟨(⟨#[109, 97, 105, 110]⟩ : ByteArray), 0, 0, 0⟩ : T_api_Def)], ([] : (List T_api_Chan)), 0, 1⟩ : T_api_Code) 0 y19 hy19))] fun _ _ i => ⟨(y19 == 0), h, i⟩
          · exact At.rK [0] [] [bT 2 b14, bT 6 b15, bT 10 b16, cT 12 2 [1, 2] (FnOK.keep (args := [.agg [.row 0 ((List.set ([(⟨1, 0, 0⟩ : T_api_Ins), (⟨2, 1, 0⟩ : T_api_Ins), (⟨24, 0, 0⟩ : T_api_Ins)]) (Int.toNat 1) (⟨17, 0, 0⟩ : T_api_Ins))).length, .row 1 ([(⟨(⟨#[109, 97, 105, 110]⟩ : ByteArray), 0, 0, 0⟩ : T_api_Def)]).length, lv T_api_Chan.enc ([]), i64 0, i64 1], i64 1]) (σ := [.row 35 3 (encL T_api_Ins.enc (List.set ([(⟨1, 0, 0⟩ : T_api_Ins), (⟨2, 1, 0⟩ : T_api_Ins), (⟨24, 0, 0⟩ : T_api_Ins)]) (Int.toNat 1) (⟨17, 0, 0⟩ : T_api_Ins))), .row 38 4 (encL T_api_Def.enc ([(⟨(⟨#[109, 97, 105, 110]⟩ : ByteArray), 0, 0, 0⟩ : T_api_Def)]))]) [0, 1] (C_code_Routine (⟨(List.set ([(⟨1, 0, 0⟩ : T_api_Ins), (⟨2, 1, 0⟩ : T_api_Ins), (⟨24, 0, 0⟩ : T_api_Ins)]) (Int.toNat 1) (⟨17, 0, 0⟩ : T_api_Ins)), [(⟨(⟨#[109, 97, 105, 110]⟩ : ByteArray), 0, 0, 0⟩ : T_api_Def)], ([] : (List T_api_Chan)), 0, 1⟩ : T_api_Code) 1 y17 hy17)), bT 15 b18] fun _ _ i => ⟨false, h, i⟩
        · exact At.rK [0] [] [bT 2 b14, bT 6 b15, bT 10 b16] fun _ _ i => ⟨false, h, i⟩
      · exact At.rK [0] [] [bT 2 b14, bT 6 b15] fun _ _ i => ⟨false, h, i⟩
    · exact At.rK [0] [] [bT 2 b14] fun _ _ i => ⟨false, h, i⟩
  · intro x13 h
    obtain rfl := sq h
    exact At.ret (At.rR hR [])
theorem C_retraceref20_Settle (p0 : T_api_Code) (p1 : Int) (r : Int) (h : F_retraceref20_Settle p0 p1 = some r) : FnOK Try.prog 8 [.agg (T_api_Code.pvs p0), i64 p1] [] (i64 r) [] [] := by
  refine fI Try.func8 rfl fun E gv R hR => ?_
  refine At.sR [1, 2] [0] [] ?_
  refine At.sR [1, 2, 5] [0] [] ?_
  refine At.seq ?_
  refine At.sR [1, 2, 5, 6] [0] [] ?_
  refine At.block ?_
  refine At.nK (st' := ⟨[(1, i64 p1), (2, .ptr 0 0), (5, i64 p1), (6, i64 0)], [.blk 26 (T_api_Code.pvs p0)]⟩) [1, 2, 5, 6] [0] ?_
  refine At.lp (fun s : (Int × Int) => ⟨[(1, i64 p1), (2, .ptr 0 0), (5, i64 s.1), (6, i64 s.2)], [.blk 26 (T_api_Code.pvs p0)]⟩) h ?_
  rintro ⟨x45, x46⟩ oo47 h f48
  replace h : F_retraceref20_Settle_L2 p0 p1 x45 x46 = some oo47 := h
  refine At.seq ?_
  refine At.sR [1, 2, 5, 6, 12] [0] [] ?_
  refine At.cd h (fun b50 h => ?_) (fun b50 h => ?_)
  · refine At.nR [1, 2, 5, 6] [0] ?_
    refine At.skip (norm ?_)
    refine At.seq ?_
    refine At.block ?_
    refine At.seq ?_
    refine At.seqJ (S := Bool) (fun s => ⟨[(1, i64 p1), (2, .ptr 0 0), (5, i64 x45), (6, i64 x46), (32, bo s)], [.blk 26 (T_api_Code.pvs p0)]⟩) (fun s => F_retraceref20_Settle_J1 p0 x45 x46 s = some oo47) ?_ ?_
    · rcases cs h with ⟨b84, h⟩ | ⟨b84, h⟩
      · exact At.rK [1, 2, 5, 6, 32] [0] [bT 2 b84] fun _ _ i => ⟨true, h, i⟩
      · rcases cs h with ⟨b85, h⟩ | ⟨b85, h⟩
        · exact At.rK [1, 2, 5, 6, 32] [0] [bT 2 b84, bT 9 b85] fun _ _ i => ⟨true, h, i⟩
        · obtain ⟨y86, hy86, h⟩ := bs h
          exact At.rK [1, 2, 5, 6, 32] [0] [bT 2 b84, bT 9 b85, eT T_api_Ins.enc_len 13 hy86] fun _ _ i => ⟨(y86.Op != 6), h, i⟩
    · intro x79 h
      refine At.cd h (fun b80 h => ?_) (fun b80 h => ?_)
      · refine At.sR [4] [] [] ?_
        obtain ⟨r81, h, e82⟩ := mr h
        rw [f48 _ e82] at h
        obtain rfl := sq h
        exact At.ret (At.rR hR [])
      · refine At.nR [1, 2, 5, 6] [0] ?_
        refine At.skip (norm ?_)
        obtain ⟨y83, hy83, h⟩ := bs h
        refine At.rG [1, 2, 5, 6] [0] [eT T_api_Ins.enc_len 3 hy83] (norm ?_)
        exact At.rK [1, 2, 5, 6] [0] [] fun _ _ i => ⟨_, li h, i⟩
  · refine At.nR [1] [] ?_
    obtain ⟨r87, h, e88⟩ := mr h
    rw [f48 _ e88] at h
    refine At.exit (norm ?_)
    refine At.sR [4] [] [] ?_
    obtain rfl := sq h
    exact At.ret (At.rR hR [])
theorem C_retraceref20_Routine (p0 : T_api_Code) (p1 : Int) (r : Int) (h : F_retraceref20_Routine p0 p1 = some r) : FnOK Try.prog 10 [.agg (T_api_Code.pvs p0), i64 p1] [] (i64 r) [] [] := by
  refine fI Try.func10 rfl fun E gv R hR => ?_
  refine At.sR [1, 2] [0] [] ?_
  refine At.sR [1, 2, 5] [0] [] ?_
  refine At.seq ?_
  refine At.sR [1, 2, 5, 6] [0] [] ?_
  refine At.block ?_
  refine At.nK (st' := ⟨[(1, i64 p1), (2, .ptr 0 0), (5, i64 (-1)), (6, i64 0)], [.blk 26 (T_api_Code.pvs p0)]⟩) [1, 2, 5, 6] [0] ?_
  refine At.lp (fun s : (Int × Int) => ⟨[(1, i64 p1), (2, .ptr 0 0), (5, i64 s.1), (6, i64 s.2)], [.blk 26 (T_api_Code.pvs p0)]⟩) h ?_
  rintro ⟨x26, x27⟩ oo28 h f29
  replace h : F_retraceref20_Routine_L3 p0 p1 x26 x27 = some oo28 := h
  refine At.seq ?_
  refine At.seqJ (S := Bool) (fun s => ⟨[(1, i64 p1), (2, .ptr 0 0), (5, i64 x26), (6, i64 x27), (22, bo s)], [.blk 26 (T_api_Code.pvs p0)]⟩) (fun s => F_retraceref20_Routine_J1 p0 p1 x26 x27 s = some oo28) ?_ ?_
  · rcases cs h with ⟨b49, h⟩ | ⟨b49, h⟩
    · rcases cs h with ⟨b50, h⟩ | ⟨b50, h⟩
      · exact At.rK [1, 2, 5, 6, 22] [0] [bT 5 b49, bT 9 b50] fun _ _ i => ⟨(decide (p1 < ((p0.Ins).length : Int))), h, i⟩
      · exact At.rK [1, 2, 5, 6, 22] [0] [bT 5 b49, bT 9 b50] fun _ _ i => ⟨false, h, i⟩
    · exact At.rK [1, 2, 5, 6, 22] [0] [bT 5 b49] fun _ _ i => ⟨false, h, i⟩
  · intro x38 h
    refine At.cd h (fun b39 h => ?_) (fun b39 h => ?_)
    · refine At.nR [1, 2, 5, 6] [0] ?_
      refine At.skip (norm ?_)
      refine At.seqJ (S := Int) (fun s => ⟨[(1, i64 p1), (2, .ptr 0 0), (5, i64 s), (6, i64 x27)], [.blk 26 (T_api_Code.pvs p0)]⟩) (fun s => F_retraceref20_Routine_J2 x27 s = some oo28) ?_ ?_
      · refine At.block ?_
        obtain ⟨y45, hy45, h⟩ := bs h
        refine At.sR [1, 2, 5, 6, 32] [0] [eT T_api_Def.enc_len 3 hy45] ?_
        refine At.cd h (fun b46 h => ?_) (fun b46 h => ?_)
        · exact At.rK [1, 2, 5, 6] [0] [] fun _ _ i => ⟨x27, h, i⟩
        · refine At.nR [1, 2, 5, 6] [0] ?_
          refine At.skip (fun _ _ i => ⟨x26, h, i.en [] [1, 2, 5, 6] [0]⟩)
      · intro x43 h
        exact At.rK [1, 2, 5, 6] [0] [] fun _ _ i => ⟨_, li h, i⟩
    · refine At.nR [5] [] ?_
      obtain ⟨r47, h, e48⟩ := mr h
      rw [f29 _ e48] at h
      refine At.exit (norm ?_)
      refine At.sR [4] [] [] ?_
      obtain rfl := sq h
      exact At.ret (At.rR hR [])
theorem C_retraceref20_Stmt (p0 : T_api_Code) (p1 : Int) (r : Int) (h : F_retraceref20_Stmt p0 p1 = some r) : FnOK Try.prog 12 [.agg (T_api_Code.pvs p0), i64 p1] [] (i64 r) [] [] := by
  refine fI Try.func12 rfl fun E gv R hR => ?_
  refine At.sR [1, 2] [0] [] ?_
  refine At.seq ?_
  refine At.seqJ (S := Bool) (fun s => ⟨[(1, i64 p1), (2, .ptr 0 0), (22, bo s)], [.blk 26 (T_api_Code.pvs p0)]⟩) (fun s => F_retraceref20_Stmt_J1 p0 p1 s = some r) ?_ ?_
  · rcases cs h with ⟨b18, h⟩ | ⟨b18, h⟩
    · rcases cs h with ⟨b19, h⟩ | ⟨b19, h⟩
      · obtain ⟨y20, hy20, h⟩ := bs h
        exact At.rK [1, 2, 22] [0] [bT 2 b18, bT 9 b19, eT T_api_Ins.enc_len 13 hy20] fun _ _ i => ⟨(y20.Op == 1), h, i⟩
      · exact At.rK [1, 2, 22] [0] [bT 2 b18, bT 9 b19] fun _ _ i => ⟨false, h, i⟩
    · exact At.rK [1, 2, 22] [0] [bT 2 b18] fun _ _ i => ⟨false, h, i⟩
  · intro x14 h
    refine At.cd h (fun b15 h => ?_) (fun b15 h => ?_)
    · obtain ⟨y17, hy17, h⟩ := bs h
      refine At.sR [4] [] [eT T_api_Ins.enc_len 3 hy17] ?_
      obtain rfl := sq h
      exact At.ret (At.rR hR [])
    · refine At.nR [] [] ?_
      refine At.skip (norm ?_)
      refine At.sR [4] [] [] ?_
      obtain rfl := sq h
      exact At.ret (At.rR hR [])
theorem C_retracelaw20_CodePlaces (p0 : T_api_Code) (p1 : Int) (r : Bool) (h : F_retracelaw20_CodePlaces p0 p1 = some r) : FnOK Try.prog 3 [.agg (T_api_Code.pvs p0), i64 p1] [] (bo r) [] [] := by
  refine fI Try.func3 rfl fun E gv R hR => ?_
  refine At.sR [1, 2] [0] [] ?_
  refine At.seq ?_
  obtain ⟨y7, hy7, h⟩ := bs h
  refine At.sR [1, 2, 6] [0] [c0 1 (C_retracelaw20_large p0 y7 hy7)] ?_
  refine At.cd h (fun b8 h => ?_) (fun b8 h => ?_)
  · obtain ⟨y10, hy10, h⟩ := bs h
    refine At.sR [4] [] [c0 0 (C_retracelaw20_live y10 hy10)] ?_
    obtain rfl := sq h
    exact At.ret (At.rR hR [])
  · refine At.nR [1, 2] [0] ?_
    refine At.skip (norm ?_)
    refine At.seqJ (S := Bool) (fun s => ⟨[(4, bo s)], []⟩) (fun s => F_retracelaw20_CodePlaces_J1 s = some r) ?_ ?_
    · obtain ⟨y22, hy22, h⟩ := bs h
      obtain ⟨y23, hy23, h⟩ := bs h
      rcases cs h with ⟨b24, h⟩ | ⟨b24, h⟩
      · obtain ⟨y25, hy25, h⟩ := bs h
        obtain ⟨y26, hy26, h⟩ := bs h
        rcases cs h with ⟨b27, h⟩ | ⟨b27, h⟩
        · obtain ⟨y28, hy28, h⟩ := bs h
          obtain ⟨y29, hy29, h⟩ := bs h
          rcases cs h with ⟨b30, h⟩ | ⟨b30, h⟩
          · obtain ⟨y31, hy31, h⟩ := bs h
            exact At.dK 0 [4] [] [c0 2 (C_code_Settle p0 p1 y22 hy22), c0 5 (C_retraceref20_Settle p0 p1 y23 hy23), bT 7 b24, c0 10 (C_code_Routine p0 p1 y25 hy25), c0 13 (C_retraceref20_Routine p0 p1 y26 hy26), bT 16 b27, c0 19 (C_code_Stmt p0 p1 y28 hy28), c0 22 (C_retraceref20_Stmt p0 p1 y29 hy29), bT 25 b30, c0 26 (C_retracelaw20_live y31 hy31)] fun _ _ i => ⟨y31, h, i⟩
          · exact At.dK 0 [4] [] [c0 2 (C_code_Settle p0 p1 y22 hy22), c0 5 (C_retraceref20_Settle p0 p1 y23 hy23), bT 7 b24, c0 10 (C_code_Routine p0 p1 y25 hy25), c0 13 (C_retraceref20_Routine p0 p1 y26 hy26), bT 16 b27, c0 19 (C_code_Stmt p0 p1 y28 hy28), c0 22 (C_retraceref20_Stmt p0 p1 y29 hy29), bT 25 b30] fun _ _ i => ⟨false, h, i⟩
        · exact At.dK 0 [4] [] [c0 2 (C_code_Settle p0 p1 y22 hy22), c0 5 (C_retraceref20_Settle p0 p1 y23 hy23), bT 7 b24, c0 10 (C_code_Routine p0 p1 y25 hy25), c0 13 (C_retraceref20_Routine p0 p1 y26 hy26), bT 16 b27] fun _ _ i => ⟨false, h, i⟩
      · exact At.dK 0 [4] [] [c0 2 (C_code_Settle p0 p1 y22 hy22), c0 5 (C_retraceref20_Settle p0 p1 y23 hy23), bT 7 b24] fun _ _ i => ⟨false, h, i⟩
    · intro x21 h
      obtain rfl := sq h
      exact At.ret (At.rR hR [])
theorem C_retraceref08_Letter (p0 : Int) (r : Bool) (h : F_retraceref08_Letter p0 = some r) : FnOK Try.prog 57 [u8 p0] [] (bo r) [] [] := by
  refine fI Try.func57 rfl fun E gv R hR => ?_
  refine At.sR [0] [] [] ?_
  refine At.seqJ (S := Bool) (fun s => ⟨[(2, bo s)], []⟩) (fun s => F_retraceref08_Letter_J1 s = some r) ?_ ?_
  · rcases cs h with ⟨b8, h⟩ | ⟨b8, h⟩
    · rcases cs h with ⟨b9, h⟩ | ⟨b9, h⟩
      · exact At.rK [2] [] [bT 2 b8, bT 6 b9] fun _ _ i => ⟨true, h, i⟩
      · rcases cs h with ⟨b10, h⟩ | ⟨b10, h⟩
        · rcases cs h with ⟨b11, h⟩ | ⟨b11, h⟩
          · exact At.rK [2] [] [bT 2 b8, bT 6 b9, bT 9 b10, bT 14 b11] fun _ _ i => ⟨true, h, i⟩
          · exact At.rK [2] [] [bT 2 b8, bT 6 b9, bT 9 b10, bT 14 b11] fun _ _ i => ⟨(p0 == 95), h, i⟩
        · exact At.rK [2] [] [bT 2 b8, bT 6 b9, bT 9 b10] fun _ _ i => ⟨(p0 == 95), h, i⟩
    · rcases cs h with ⟨b12, h⟩ | ⟨b12, h⟩
      · rcases cs h with ⟨b13, h⟩ | ⟨b13, h⟩
        · exact At.rK [2] [] [bT 2 b8, bT 9 b12, bT 14 b13] fun _ _ i => ⟨true, h, i⟩
        · exact At.rK [2] [] [bT 2 b8, bT 9 b12, bT 14 b13] fun _ _ i => ⟨(p0 == 95), h, i⟩
      · exact At.rK [2] [] [bT 2 b8, bT 9 b12] fun _ _ i => ⟨(p0 == 95), h, i⟩
  · intro x7 h
    obtain rfl := sq h
    exact At.ret (At.rR hR [])
theorem C_retraceref08_Digit (p0 : Int) (r : Bool) (h : F_retraceref08_Digit p0 = some r) : FnOK Try.prog 58 [u8 p0] [] (bo r) [] [] := by
  refine fI Try.func58 rfl fun E gv R hR => ?_
  refine At.sR [0] [] [] ?_
  refine At.seqJ (S := Bool) (fun s => ⟨[(2, bo s)], []⟩) (fun s => F_retraceref08_Digit_J1 s = some r) ?_ ?_
  · rcases cs h with ⟨b3, h⟩ | ⟨b3, h⟩
    · exact At.rK [2] [] [bT 2 b3] fun _ _ i => ⟨(decide (p0 ≤ 57)), h, i⟩
    · exact At.rK [2] [] [bT 2 b3] fun _ _ i => ⟨false, h, i⟩
  · intro x2 h
    obtain rfl := sq h
    exact At.ret (At.rR hR [])
theorem C_retraceref08_Words  (r : (List ByteArray)) (h : F_retraceref08_Words  = some r) : FnOK Try.prog 60 [] [] (.row 0 (r).length) [.row 9 1 (encL eStr r)] [] := by
  refine fI Try.func60 rfl fun E gv R hR => ?_
  refine At.sR [] [] [] ?_
  refine At.sR [0] [0] [] ?_
  obtain rfl := sq h
  exact At.ret (At.rR hR [0])
theorem C_retraceref08_In (p1 : ByteArray) (o0 : (List ByteArray)) (r : Bool) (h : F_retraceref08_In p1 o0 = some r) : FnOK Try.prog 59 [.row 0 (o0).length, sv p1] [.row 9 1 (encL eStr o0)] (bo r) [.row 9 1 (encL eStr o0)] [0] := by
  refine fI Try.func59 rfl fun E gv R hR => ?_
  refine At.sR [0, 1] [0, 1] [] ?_
  refine At.seq ?_
  refine At.sR [0, 1, 5] [0, 1] [] ?_
  refine At.block ?_
  refine At.nK (st' := ⟨[(0, .row 0 (o0).length), (1, sv p1), (5, i64 0)], [.row 9 1 (encL eStr o0), .ghost (gv 0) (.row 0 0)]⟩) [0, 1, 5] [0, 1] ?_
  refine At.lp (fun s : (Int) => ⟨[(0, .row 0 (o0).length), (1, sv p1), (5, i64 s)], [.row 9 1 (encL eStr o0), .ghost (gv 0) (.row 0 0)]⟩) h ?_
  intro x16 oo17 h f18
  replace h : F_retraceref08_In_L1 p1 o0 x16 = some oo17 := h
  refine At.seq ?_
  refine At.sR [0, 1, 5, 9] [0, 1] [] ?_
  refine At.cd h (fun b20 h => ?_) (fun b20 h => ?_)
  · refine At.nR [0, 1, 5] [0, 1] ?_
    refine At.skip (norm ?_)
    refine At.seq ?_
    refine At.block ?_
    obtain ⟨y25, hy25, h⟩ := bs h
    refine At.sR [0, 1, 5, 17] [0, 1] [oT 2 ((rAt_of he_str (d := .str y25) hy25 rfl).1), vT 3 (.str y25) ((rAt_of he_str (d := .str y25) hy25 rfl).2)] ?_
    refine At.cd h (fun b26 h => ?_) (fun b26 h => ?_)
    · refine At.sR [4] [0, 1] [] ?_
      obtain ⟨r27, h, e28⟩ := mr h
      rw [f18 _ e28] at h
      obtain rfl := sq h
      exact At.ret (At.rR hR [0])
    · refine At.nR [0, 1, 5] [0, 1] ?_
      refine At.skip (norm ?_)
      exact At.rK [0, 1, 5] [0, 1] [] fun _ _ i => ⟨_, li h, i⟩
  · refine At.nR [] [0, 1] ?_
    obtain ⟨r29, h, e30⟩ := mr h
    rw [f18 _ e30] at h
    refine At.exit (norm ?_)
    refine At.sR [4] [0, 1] [] ?_
    obtain rfl := sq h
    exact At.ret (At.rR hR [0])
theorem C_retraceref08_Name (p0 : ByteArray) (r : Bool) (h : F_retraceref08_Name p0 = some r) : FnOK Try.prog 38 [sv p0] [] (bo r) [] [] := by
  refine fI Try.func38 rfl fun E gv R hR => ?_
  refine At.sR [0] [] [] ?_
  refine At.seq ?_
  refine At.sR [0, 3] [] [] ?_
  refine At.block ?_
  refine At.nK (st' := ⟨[(0, sv p0), (3, i64 0)], []⟩) [0, 3] [] ?_
  refine At.lp (fun s : (Int) => ⟨[(0, sv p0), (3, i64 s)], []⟩) h ?_
  intro x38 oo39 h f40
  replace h : F_retraceref08_Name_L3 p0 x38 = some oo39 := h
  refine At.seq ?_
  refine At.sR [0, 3, 7] [] [] ?_
  refine At.cd h (fun b42 h => ?_) (fun b42 h => ?_)
  · refine At.nR [0, 3] [] ?_
    refine At.skip (norm ?_)
    refine At.seq ?_
    refine At.block ?_
    refine At.seqJ (S := Bool) (fun s => ⟨[(0, sv p0), (3, i64 x38), (25, bo s)], []⟩) (fun s => F_retraceref08_Name_J1 x38 s = some oo39) ?_ ?_
    · obtain ⟨y67, hy67, h⟩ := bs h
      obtain ⟨y68, hy68, h⟩ := bs h
      rcases cs h with ⟨b69, h⟩ | ⟨b69, h⟩
      · rcases cs h with ⟨b70, h⟩ | ⟨b70, h⟩
        · exact At.rK [0, 3, 25] [] [sT 2 hy67, c0 3 (C_retraceref08_Letter y67 y68 hy68), bT 5 b69, bT 8 b70] fun _ _ i => ⟨true, h, i⟩
        · obtain ⟨y71, hy71, h⟩ := bs h
          obtain ⟨y72, hy72, h⟩ := bs h
          exact At.rK [0, 3, 25] [] [sT 2 hy67, c0 3 (C_retraceref08_Letter y67 y68 hy68), bT 5 b69, bT 8 b70, sT 11 hy71, c0 12 (C_retraceref08_Digit y71 y72 hy72)] fun _ _ i => ⟨(!y72), h, i⟩
      · exact At.rK [0, 3, 25] [] [sT 2 hy67, c0 3 (C_retraceref08_Letter y67 y68 hy68), bT 5 b69] fun _ _ i => ⟨false, h, i⟩
    · intro x63 h
      refine At.cd h (fun b64 h => ?_) (fun b64 h => ?_)
      · refine At.sR [2] [] [] ?_
        obtain ⟨r65, h, e66⟩ := mr h
        rw [f40 _ e66] at h
        obtain rfl := sq h
        exact At.ret (At.rR hR [])
      · refine At.nR [0, 3] [] ?_
        refine At.skip (norm ?_)
        exact At.rK [0, 3] [] [] fun _ _ i => ⟨_, li h, i⟩
  · refine At.nR [0] [] ?_
    obtain ⟨r73, h, e74⟩ := mr h
    rw [f40 _ e74] at h
    refine At.exit (norm ?_)
    refine At.seqJ (S := Bool) (fun s => ⟨[(2, bo s)], []⟩) (fun s => F_retraceref08_Name_J2 s = some r) ?_ ?_
    · rcases cs h with ⟨b80, h⟩ | ⟨b80, h⟩
      · rcases cs h with ⟨b81, h⟩ | ⟨b81, h⟩
        · obtain ⟨y82, hy82, h⟩ := bs h
          obtain ⟨y83, hy83, h⟩ := bs h
          exact At.rK [2] [] [bT 3 b80, bT 8 b81, cT 9 0 [0] (C_retraceref08_Words y82 hy82), cT 11 1 [0] (C_retraceref08_In p0 y82 y83 hy83)] fun _ _ i => ⟨(!y83), h, i⟩
        · exact At.rK [2] [] [bT 3 b80, bT 8 b81] fun _ _ i => ⟨false, h, i⟩
      · exact At.rK [2] [] [bT 3 b80] fun _ _ i => ⟨false, h, i⟩
    · intro x79 h
      obtain rfl := sq h
      exact At.ret (At.rR hR [])
theorem C_retraceref20_tables (p0 : T_api_Code) (r : Bool) (h : F_retraceref20_tables p0 = some r) : FnOK Try.prog 23 [.agg (T_api_Code.pvs p0)] [] (bo r) [] [] := by
  refine fI Try.func23 rfl fun E gv R hR => ?_
  refine At.sR [1] [0] [] ?_
  refine At.sR [1, 3] [0] [] ?_
  refine At.seq ?_
  refine At.seqJ (S := Bool) (fun s => ⟨[(1, .ptr 0 0), (3, i64 ((p0.Defs).length : Int)), (44, bo s)], [.blk 26 (T_api_Code.pvs p0)]⟩) (fun s => F_retraceref20_tables_J1 p0 s = some r) ?_ ?_
  · rcases cs h with ⟨b527, h⟩ | ⟨b527, h⟩
    · exact At.rK [1, 3, 44] [0] [bT 2 b527] fun _ _ i => ⟨true, h, i⟩
    · rcases cs h with ⟨b528, h⟩ | ⟨b528, h⟩
      · exact At.rK [1, 3, 44] [0] [bT 2 b527, bT 6 b528] fun _ _ i => ⟨true, h, i⟩
      · rcases cs h with ⟨b529, h⟩ | ⟨b529, h⟩
        · exact At.rK [1, 3, 44] [0] [bT 2 b527, bT 6 b528, bT 12 b529] fun _ _ i => ⟨true, h, i⟩
        · rcases cs h with ⟨b530, h⟩ | ⟨b530, h⟩
          · exact At.rK [1, 3, 44] [0] [bT 2 b527, bT 6 b528, bT 12 b529, bT 17 b530] fun _ _ i => ⟨true, h, i⟩
          · rcases cs h with ⟨b531, h⟩ | ⟨b531, h⟩
            · exact At.rK [1, 3, 44] [0] [bT 2 b527, bT 6 b528, bT 12 b529, bT 17 b530, bT 23 b531] fun _ _ i => ⟨true, h, i⟩
            · obtain ⟨y532, hy532, h⟩ := bs h
              exact At.rK [1, 3, 44] [0] [bT 2 b527, bT 6 b528, bT 12 b529, bT 17 b530, bT 23 b531, eT T_api_Def.enc_len 28 hy532] fun _ _ i => ⟨(y532.Params != 0), h, i⟩
  · intro x21 h
    refine At.cd h (fun b22 h => ?_) (fun b22 h => ?_)
    · refine At.sR [2] [] [] ?_
      obtain rfl := sq h
      exact At.ret (At.rR hR [])
    · refine At.nR [1, 3] [0] ?_
      refine At.skip (norm ?_)
      refine At.seq ?_
      refine At.sR [1, 3, 4] [0] [] ?_
      refine At.block ?_
      refine At.nK (st' := ⟨[(1, .ptr 0 0), (3, i64 ((p0.Defs).length : Int)), (4, i64 0)], [.blk 26 (T_api_Code.pvs p0)]⟩) [1, 3, 4] [0] ?_
      refine At.lp (fun s : (Int) => ⟨[(1, .ptr 0 0), (3, i64 ((p0.Defs).length : Int)), (4, i64 s)], [.blk 26 (T_api_Code.pvs p0)]⟩) h ?_
      intro x210 oo211 h f212
      replace h : F_retraceref20_tables_L7 p0 x210 = some oo211 := h
      refine At.seq ?_
      refine At.sR [1, 3, 4, 47] [0] [] ?_
      refine At.cd h (fun b214 h => ?_) (fun b214 h => ?_)
      · refine At.nR [1, 3, 4] [0] ?_
        refine At.skip (norm ?_)
        refine At.seq ?_
        refine At.block ?_
        obtain ⟨y304, hy304, h⟩ := bs h
        refine At.sR [1, 3, 4, 5] [0, 1] [eT T_api_Def.enc_len 3 hy304] ?_
        refine At.seq ?_
        refine At.seqJ (S := Bool) (fun s => ⟨[(1, .ptr 0 0), (3, i64 ((p0.Defs).length : Int)), (4, i64 x210), (5, .ptr 1 0), (101, bo s)], [.blk 26 (T_api_Code.pvs p0), .blk 38 (T_api_Def.pvs y304)]⟩) (fun s => F_retraceref20_tables_J2 x210 y304 s = some oo211) ?_ ?_
        · rcases cs h with ⟨b376, h⟩ | ⟨b376, h⟩
          · obtain ⟨y377, hy377, h⟩ := bs h
            rcases cs h with ⟨b378, h⟩ | ⟨b378, h⟩
            · exact At.dK 0 [1, 3, 4, 5, 101] [0, 1] [bT 3 b376, c0 6 (C_retraceref08_Name y304.Name y377 hy377), bT 9 b378] fun _ _ i => ⟨true, h, i⟩
            · rcases cs h with ⟨b379, h⟩ | ⟨b379, h⟩
              · exact At.dK 0 [1, 3, 4, 5, 101] [0, 1] [bT 3 b376, c0 6 (C_retraceref08_Name y304.Name y377 hy377), bT 9 b378, bT 14 b379] fun _ _ i => ⟨true, h, i⟩
              · rcases cs h with ⟨b380, h⟩ | ⟨b380, h⟩
                · exact At.dK 0 [1, 3, 4, 5, 101] [0, 1] [bT 3 b376, c0 6 (C_retraceref08_Name y304.Name y377 hy377), bT 9 b378, bT 14 b379, bT 22 b380] fun _ _ i => ⟨true, h, i⟩
                · rcases cs h with ⟨b381, h⟩ | ⟨b381, h⟩
                  · rcases cs h with ⟨b382, h⟩ | ⟨b382, h⟩
                    · exact At.dK 0 [1, 3, 4, 5, 101] [0, 1] [bT 3 b376, c0 6 (C_retraceref08_Name y304.Name y377 hy377), bT 9 b378, bT 14 b379, bT 22 b380, bT 25 b381, bT 31 b382] fun _ _ i => ⟨true, h, i⟩
                    · rcases cs h with ⟨b383, h⟩ | ⟨b383, h⟩
                      · obtain ⟨y384, hy384, h⟩ := bs h
                        exact At.dK 0 [1, 3, 4, 5, 101] [0, 1] [bT 3 b376, c0 6 (C_retraceref08_Name y304.Name y377 hy377), bT 9 b378, bT 14 b379, bT 22 b380, bT 25 b381, bT 31 b382, bT 34 b383, eT T_api_Def.enc_len 41 hy384] fun _ _ i => ⟨(decide (y304.Entry ≤ y384.Entry)), h, i⟩
                      · exact At.dK 0 [1, 3, 4, 5, 101] [0, 1] [bT 3 b376, c0 6 (C_retraceref08_Name y304.Name y377 hy377), bT 9 b378, bT 14 b379, bT 22 b380, bT 25 b381, bT 31 b382, bT 34 b383] fun _ _ i => ⟨false, h, i⟩
                  · rcases cs h with ⟨b385, h⟩ | ⟨b385, h⟩
                    · obtain ⟨y386, hy386, h⟩ := bs h
                      exact At.dK 0 [1, 3, 4, 5, 101] [0, 1] [bT 3 b376, c0 6 (C_retraceref08_Name y304.Name y377 hy377), bT 9 b378, bT 14 b379, bT 22 b380, bT 25 b381, bT 34 b385, eT T_api_Def.enc_len 41 hy386] fun _ _ i => ⟨(decide (y304.Entry ≤ y386.Entry)), h, i⟩
                    · exact At.dK 0 [1, 3, 4, 5, 101] [0, 1] [bT 3 b376, c0 6 (C_retraceref08_Name y304.Name y377 hy377), bT 9 b378, bT 14 b379, bT 22 b380, bT 25 b381, bT 34 b385] fun _ _ i => ⟨false, h, i⟩
          · rcases cs h with ⟨b387, h⟩ | ⟨b387, h⟩
            · exact At.dK 0 [1, 3, 4, 5, 101] [0, 1] [bT 3 b376, bT 14 b387] fun _ _ i => ⟨true, h, i⟩
            · rcases cs h with ⟨b388, h⟩ | ⟨b388, h⟩
              · exact At.dK 0 [1, 3, 4, 5, 101] [0, 1] [bT 3 b376, bT 14 b387, bT 22 b388] fun _ _ i => ⟨true, h, i⟩
              · rcases cs h with ⟨b389, h⟩ | ⟨b389, h⟩
                · rcases cs h with ⟨b390, h⟩ | ⟨b390, h⟩
                  · exact At.dK 0 [1, 3, 4, 5, 101] [0, 1] [bT 3 b376, bT 14 b387, bT 22 b388, bT 25 b389, bT 31 b390] fun _ _ i => ⟨true, h, i⟩
                  · rcases cs h with ⟨b391, h⟩ | ⟨b391, h⟩
                    · obtain ⟨y392, hy392, h⟩ := bs h
                      exact At.dK 0 [1, 3, 4, 5, 101] [0, 1] [bT 3 b376, bT 14 b387, bT 22 b388, bT 25 b389, bT 31 b390, bT 34 b391, eT T_api_Def.enc_len 41 hy392] fun _ _ i => ⟨(decide (y304.Entry ≤ y392.Entry)), h, i⟩
                    · exact At.dK 0 [1, 3, 4, 5, 101] [0, 1] [bT 3 b376, bT 14 b387, bT 22 b388, bT 25 b389, bT 31 b390, bT 34 b391] fun _ _ i => ⟨false, h, i⟩
                · rcases cs h with ⟨b393, h⟩ | ⟨b393, h⟩
                  · obtain ⟨y394, hy394, h⟩ := bs h
                    exact At.dK 0 [1, 3, 4, 5, 101] [0, 1] [bT 3 b376, bT 14 b387, bT 22 b388, bT 25 b389, bT 34 b393, eT T_api_Def.enc_len 41 hy394] fun _ _ i => ⟨(decide (y304.Entry ≤ y394.Entry)), h, i⟩
                  · exact At.dK 0 [1, 3, 4, 5, 101] [0, 1] [bT 3 b376, bT 14 b387, bT 22 b388, bT 25 b389, bT 34 b393] fun _ _ i => ⟨false, h, i⟩
        · intro x364 h
          refine At.cd h (fun b365 h => ?_) (fun b365 h => ?_)
          · refine At.sR [2] [] [] ?_
            obtain ⟨r366, h, e367⟩ := mr h
            rw [f212 _ e367] at h
            obtain rfl := sq h
            exact At.ret (At.rR hR [])
          · refine At.nR [1, 3, 4, 5] [0, 1] ?_
            refine At.skip (norm ?_)
            refine At.seqJ (S := Bool) (fun s => ⟨[(1, .ptr 0 0), (3, i64 ((p0.Defs).length : Int)), (4, i64 x210), (116, bo s)], [.blk 26 (T_api_Code.pvs p0)]⟩) (fun s => F_retraceref20_tables_J3 x210 s = some oo211) ?_ ?_
            · rcases cs h with ⟨b374, h⟩ | ⟨b374, h⟩
              · exact At.rK [1, 3, 4, 116] [0] [bT 3 b374] fun _ _ i => ⟨true, h, i⟩
              · rcases cs h with ⟨b375, h⟩ | ⟨b375, h⟩
                · exact At.rK [1, 3, 4, 116] [0] [bT 3 b374, bT 10 b375] fun _ _ i => ⟨true, h, i⟩
                · exact At.rK [1, 3, 4, 116] [0] [bT 3 b374, bT 10 b375] fun _ _ i => ⟨(decide (16 < y304.Vars)), h, i⟩
            · intro x370 h
              refine At.cd h (fun b371 h => ?_) (fun b371 h => ?_)
              · refine At.sR [2] [] [] ?_
                obtain ⟨r372, h, e373⟩ := mr h
                rw [f212 _ e373] at h
                obtain rfl := sq h
                exact At.ret (At.rR hR [])
              · refine At.nR [1, 3, 4] [0] ?_
                refine At.skip (norm ?_)
                exact At.rK [1, 3, 4] [0] [] fun _ _ i => ⟨_, li h, i⟩
      · refine At.nR [1] [0] ?_
        obtain ⟨r395, h, e396⟩ := mr h
        rw [f212 _ e396] at h
        refine At.exit (norm ?_)
        refine At.sR [1, 6] [0] [] ?_
        refine At.seq ?_
        refine At.sR [1, 6, 7] [0] [] ?_
        refine At.block ?_
        refine At.nK (st' := ⟨[(1, .ptr 0 0), (6, i64 0), (7, i64 0)], [.blk 26 (T_api_Code.pvs p0)]⟩) [1, 6, 7] [0] ?_
        refine At.lp (fun s : (Int × Int) => ⟨[(1, .ptr 0 0), (6, i64 s.1), (7, i64 s.2)], [.blk 26 (T_api_Code.pvs p0)]⟩) h ?_
        rintro ⟨x462, x463⟩ oo464 h f465
        replace h : F_retraceref20_tables_L6 p0 x462 x463 = some oo464 := h
        refine At.seq ?_
        refine At.sR [1, 6, 7, 121] [0] [] ?_
        refine At.cd h (fun b467 h => ?_) (fun b467 h => ?_)
        · refine At.nR [1, 6, 7] [0] ?_
          refine At.skip (norm ?_)
          refine At.seqJ (S := Int) (fun s => ⟨[(1, .ptr 0 0), (6, i64 s), (7, i64 x463)], [.blk 26 (T_api_Code.pvs p0)]⟩) (fun s => F_retraceref20_tables_J4 x463 s = some oo464) ?_ ?_
          · refine At.block ?_
            obtain ⟨y497, hy497, h⟩ := bs h
            refine At.sR [1, 6, 7, 8] [0, 1] [eT T_api_Chan.enc_len 3 hy497] ?_
            refine At.seq ?_
            refine At.seqJ (S := Bool) (fun s => ⟨[(1, .ptr 0 0), (6, i64 x462), (7, i64 x463), (8, .ptr 1 0), (152, bo s)], [.blk 26 (T_api_Code.pvs p0), .blk 57 (T_api_Chan.pvs y497)]⟩) (fun s => F_retraceref20_tables_J5 x462 x463 y497 s = some oo464) ?_ ?_
            · obtain ⟨y520, hy520, h⟩ := bs h
              rcases cs h with ⟨b521, h⟩ | ⟨b521, h⟩
              · exact At.rK [1, 6, 7, 8, 152] [0, 1] [c0 2 (C_retraceref08_Name y497.Name y520 hy520), bT 4 b521] fun _ _ i => ⟨true, h, i⟩
              · rcases cs h with ⟨b522, h⟩ | ⟨b522, h⟩
                · exact At.rK [1, 6, 7, 8, 152] [0, 1] [c0 2 (C_retraceref08_Name y497.Name y520 hy520), bT 4 b521, bT 9 b522] fun _ _ i => ⟨true, h, i⟩
                · rcases cs h with ⟨b523, h⟩ | ⟨b523, h⟩
                  · exact At.rK [1, 6, 7, 8, 152] [0, 1] [c0 2 (C_retraceref08_Name y497.Name y520 hy520), bT 4 b521, bT 9 b522, bT 14 b523] fun _ _ i => ⟨true, h, i⟩
                  · rcases cs h with ⟨b524, h⟩ | ⟨b524, h⟩
                    · exact At.rK [1, 6, 7, 8, 152] [0, 1] [c0 2 (C_retraceref08_Name y497.Name y520 hy520), bT 4 b521, bT 9 b522, bT 14 b523, bT 20 b524] fun _ _ i => ⟨true, h, i⟩
                    · exact At.rK [1, 6, 7, 8, 152] [0, 1] [c0 2 (C_retraceref08_Name y497.Name y520 hy520), bT 4 b521, bT 9 b522, bT 14 b523, bT 20 b524] fun _ _ i => ⟨(decide (64 ≤ x462)), h, i⟩
            · intro x515 h
              refine At.cd h (fun b516 h => ?_) (fun b516 h => ?_)
              · refine At.sR [2] [] [] ?_
                obtain ⟨r517, h, e518⟩ := mr h
                rw [f465 _ e518] at h
                obtain rfl := sq h
                exact At.ret (At.rR hR [])
              · refine At.nR [1, 6, 7, 8] [0, 1] ?_
                refine At.skip (norm ?_)
                refine At.sR [1, 6, 7, 8] [0, 1] [] ?_
                refine At.sR [1, 6, 7, 159] [0] [] ?_
                refine At.cd h (fun b519 h => ?_) (fun b519 h => ?_)
                · exact At.rK [1, 6, 7] [0] [] fun _ _ i => ⟨(w64 ((w64 (x462 + y497.Size)) + 1)), h, i⟩
                · refine At.nR [1, 6, 7] [0] ?_
                  refine At.skip (fun _ _ i => ⟨(w64 (x462 + y497.Size)), h, i.en [] [1, 6, 7] [0]⟩)
          · intro x495 h
            exact At.rK [1, 6, 7] [0] [] fun _ _ i => ⟨_, li h, i⟩
        · refine At.nR [6] [] ?_
          obtain ⟨r525, h, e526⟩ := mr h
          rw [f465 _ e526] at h
          refine At.exit (norm ?_)
          refine At.sR [2] [] [] ?_
          obtain rfl := sq h
          exact At.ret (At.rR hR [])
theorem C_retraceref20_To (p0 : T_api_Code) (p1 : Int) (r : Int) (h : F_retraceref20_To p0 p1 = some r) : FnOK Try.prog 24 [.agg (T_api_Code.pvs p0), i64 p1] [] (i64 r) [] [] := by
  refine fI Try.func24 rfl fun E gv R hR => ?_
  refine At.sR [1, 2] [0] [] ?_
  refine At.seq ?_
  refine At.sR [1, 2, 10] [0] [] ?_
  refine At.cd h (fun b4 h => ?_) (fun b4 h => ?_)
  · obtain ⟨y6, hy6, h⟩ := bs h
    refine At.sR [4] [] [eT T_api_Def.enc_len 4 hy6] ?_
    obtain rfl := sq h
    exact At.ret (At.rR hR [])
  · refine At.nR [2] [0] ?_
    refine At.skip (norm ?_)
    refine At.sR [4] [] [] ?_
    obtain rfl := sq h
    exact At.ret (At.rR hR [])
theorem C_retraceref16_Nums (p0 : Int) (r : Int) (h : F_retraceref16_Nums p0 = some r) : FnOK Try.prog 61 [i64 p0] [] (i64 r) [] [] := by
  refine fI Try.func61 rfl fun E gv R hR => ?_
  refine At.sR [0] [] [] ?_
  refine At.seq ?_
  refine At.sR [3] [] [] ?_
  refine At.block ?_
  refine At.seqJ (S := Bool) (fun s => ⟨[(3, i64 p0), (4, bo s)], []⟩) (fun s => F_retraceref16_Nums_J1 p0 s = some r) ?_ ?_
  · refine At.sR [3, 4] [] [] ?_
    refine At.cd h (fun b63 h => ?_) (fun b63 h => ?_)
    · refine At.skip (fun _ _ i => ⟨(p0 == 9), h, i.en [] [3, 4] []⟩)
    · refine At.sR [3, 4] [] [] ?_
      refine At.cd h (fun b64 h => ?_) (fun b64 h => ?_)
      · refine At.skip (fun _ _ i => ⟨(p0 == 14), h, i.en [] [3, 4] []⟩)
      · exact At.rK [3, 4] [] [] fun _ _ i => ⟨(p0 == 19), h, i⟩
  · intro x35 h
    refine At.cd h (fun b36 h => ?_) (fun b36 h => ?_)
    · refine At.sR [2] [] [] ?_
      obtain rfl := sq h
      exact At.ret (At.rR hR [])
    · refine At.seqJ (S := Bool) (fun s => ⟨[(8, bo s)], []⟩) (fun s => F_retraceref16_Nums_J2 s = some r) ?_ ?_
      · refine At.sR [3, 8] [] [] ?_
        refine At.cd h (fun b51 h => ?_) (fun b51 h => ?_)
        · refine At.nR [8] [] ?_
          refine At.skip (fun _ _ i => ⟨(p0 == 1), h, i.en [] [8] []⟩)
        · refine At.sR [3, 8] [] [] ?_
          refine At.cd h (fun b52 h => ?_) (fun b52 h => ?_)
          · refine At.nR [8] [] ?_
            refine At.skip (fun _ _ i => ⟨(p0 == 2), h, i.en [] [8] []⟩)
          · refine At.sR [3, 8] [] [] ?_
            refine At.cd h (fun b53 h => ?_) (fun b53 h => ?_)
            · refine At.nR [8] [] ?_
              refine At.skip (fun _ _ i => ⟨(p0 == 3), h, i.en [] [8] []⟩)
            · refine At.sR [3, 8] [] [] ?_
              refine At.cd h (fun b54 h => ?_) (fun b54 h => ?_)
              · refine At.nR [8] [] ?_
                refine At.skip (fun _ _ i => ⟨(p0 == 4), h, i.en [] [8] []⟩)
              · refine At.sR [3, 8] [] [] ?_
                refine At.cd h (fun b55 h => ?_) (fun b55 h => ?_)
                · refine At.nK (st' := ⟨[(8, bo (p0 == 5))], []⟩) [8] [] ?_
                  refine At.skip (fun _ _ i => ⟨(p0 == 5), h, i⟩)
                · refine At.seq ?_
                  refine At.rK (st' := ⟨[(3, i64 p0), (8, bo (p0 == 6))], []⟩) [3, 8] [] [] (norm ?_)
                  refine At.cd h (fun b56 h => ?_) (fun b56 h => ?_)
                  · refine At.nR [8] [] ?_
                    refine At.skip (fun _ _ i => ⟨(p0 == 6), h, i.en [] [8] []⟩)
                  · refine At.sR [3, 8] [] [] ?_
                    refine At.cd h (fun b57 h => ?_) (fun b57 h => ?_)
                    · refine At.nR [8] [] ?_
                      refine At.skip (fun _ _ i => ⟨(p0 == 7), h, i.en [] [8] []⟩)
                    · refine At.sR [3, 8] [] [] ?_
                      refine At.cd h (fun b58 h => ?_) (fun b58 h => ?_)
                      · refine At.nR [8] [] ?_
                        refine At.skip (fun _ _ i => ⟨(p0 == 8), h, i.en [] [8] []⟩)
                      · refine At.sR [3, 8] [] [] ?_
                        refine At.cd h (fun b59 h => ?_) (fun b59 h => ?_)
                        · refine At.nR [8] [] ?_
                          refine At.skip (fun _ _ i => ⟨(p0 == 11), h, i.en [] [8] []⟩)
                        · refine At.sR [3, 8] [] [] ?_
                          refine At.cd h (fun b60 h => ?_) (fun b60 h => ?_)
                          · refine At.nR [8] [] ?_
                            refine At.skip (fun _ _ i => ⟨(p0 == 12), h, i.en [] [8] []⟩)
                          · refine At.sR [3, 8] [] [] ?_
                            refine At.cd h (fun b61 h => ?_) (fun b61 h => ?_)
                            · refine At.nK (st' := ⟨[(8, bo (p0 == 20))], []⟩) [8] [] ?_
                              refine At.skip (fun _ _ i => ⟨(p0 == 20), h, i⟩)
                            · refine At.seq ?_
                              refine At.rK (st' := ⟨[(3, i64 p0), (8, bo (p0 == 21))], []⟩) [3, 8] [] [] (norm ?_)
                              refine At.cd h (fun b62 h => ?_) (fun b62 h => ?_)
                              · refine At.nR [8] [] ?_
                                refine At.skip (fun _ _ i => ⟨(p0 == 21), h, i.en [] [8] []⟩)
                              · exact At.rK [8] [] [] fun _ _ i => ⟨(p0 == 22), h, i⟩
      · intro x49 h
        refine At.cd h (fun b50 h => ?_) (fun b50 h => ?_)
        · refine At.sR [2] [] [] ?_
          obtain rfl := sq h
          exact At.ret (At.rR hR [])
        · refine At.nR [] [] ?_
          refine At.skip (norm ?_)
          refine At.sR [2] [] [] ?_
          obtain rfl := sq h
          exact At.ret (At.rR hR [])
theorem C_retraceref16_Right (p0 : T_api_Ins) (r : Bool) (h : F_retraceref16_Right p0 = some r) : FnOK Try.prog 39 [.agg (T_api_Ins.pvs p0)] [] (bo r) [] [] := by
  refine fI Try.func39 rfl fun E gv R hR => ?_
  refine At.sR [1] [0] [] ?_
  obtain ⟨y2, hy2, h⟩ := bs h
  refine At.sR [1, 3] [0] [c0 2 (C_retraceref16_Nums p0.Op y2 hy2)] ?_
  refine At.seq ?_
  refine At.seqJ (S := Bool) (fun s => ⟨[(1, .ptr 0 0), (32, bo s)], [.blk 35 (T_api_Ins.pvs p0)]⟩) (fun s => F_retraceref16_Right_J1 p0 s = some r) ?_ ?_
  · rcases cs h with ⟨b53, h⟩ | ⟨b53, h⟩
    · exact At.rK [1, 32] [0] [bT 3 b53] fun _ _ i => ⟨true, h, i⟩
    · rcases cs h with ⟨b54, h⟩ | ⟨b54, h⟩
      · exact At.rK [1, 32] [0] [bT 3 b53, bT 8 b54] fun _ _ i => ⟨true, h, i⟩
      · rcases cs h with ⟨b55, h⟩ | ⟨b55, h⟩
        · rcases cs h with ⟨b56, h⟩ | ⟨b56, h⟩
          · exact At.rK [1, 32] [0] [bT 3 b53, bT 8 b54, bT 11 b55, bT 17 b56] fun _ _ i => ⟨true, h, i⟩
          · rcases cs h with ⟨b57, h⟩ | ⟨b57, h⟩
            · exact At.rK [1, 32] [0] [bT 3 b53, bT 8 b54, bT 11 b55, bT 17 b56, bT 20 b57] fun _ _ i => ⟨(p0.B != 0), h, i⟩
            · exact At.rK [1, 32] [0] [bT 3 b53, bT 8 b54, bT 11 b55, bT 17 b56, bT 20 b57] fun _ _ i => ⟨false, h, i⟩
        · rcases cs h with ⟨b58, h⟩ | ⟨b58, h⟩
          · exact At.rK [1, 32] [0] [bT 3 b53, bT 8 b54, bT 11 b55, bT 20 b58] fun _ _ i => ⟨(p0.B != 0), h, i⟩
          · exact At.rK [1, 32] [0] [bT 3 b53, bT 8 b54, bT 11 b55, bT 20 b58] fun _ _ i => ⟨false, h, i⟩
  · intro x23 h
    refine At.cd h (fun b24 h => ?_) (fun b24 h => ?_)
    · refine At.sR [2] [] [] ?_
      obtain rfl := sq h
      exact At.ret (At.rR hR [])
    · refine At.nR [1] [0] ?_
      refine At.skip (norm ?_)
      refine At.seq ?_
      refine At.seqJ (S := Bool) (fun s => ⟨[(55, bo s)], []⟩) (fun s => F_retraceref16_Right_J2 s = some r) ?_ ?_
      · rcases cs h with ⟨b47, h⟩ | ⟨b47, h⟩
        · rcases cs h with ⟨b48, h⟩ | ⟨b48, h⟩
          · exact At.rK [55] [] [bT 3 b47, bT 8 b48] fun _ _ i => ⟨true, h, i⟩
          · rcases cs h with ⟨b49, h⟩ | ⟨b49, h⟩
            · rcases cs h with ⟨b50, h⟩ | ⟨b50, h⟩
              · exact At.rK [55] [] [bT 3 b47, bT 8 b48, bT 12 b49, bT 16 b50] fun _ _ i => ⟨true, h, i⟩
              · exact At.rK [55] [] [bT 3 b47, bT 8 b48, bT 12 b49, bT 16 b50] fun _ _ i => ⟨(decide (17 < p0.A)), h, i⟩
            · exact At.rK [55] [] [bT 3 b47, bT 8 b48, bT 12 b49] fun _ _ i => ⟨false, h, i⟩
        · rcases cs h with ⟨b51, h⟩ | ⟨b51, h⟩
          · rcases cs h with ⟨b52, h⟩ | ⟨b52, h⟩
            · exact At.rK [55] [] [bT 3 b47, bT 12 b51, bT 16 b52] fun _ _ i => ⟨true, h, i⟩
            · exact At.rK [55] [] [bT 3 b47, bT 12 b51, bT 16 b52] fun _ _ i => ⟨(decide (17 < p0.A)), h, i⟩
          · exact At.rK [55] [] [bT 3 b47, bT 12 b51] fun _ _ i => ⟨false, h, i⟩
      · intro x45 h
        refine At.cd h (fun b46 h => ?_) (fun b46 h => ?_)
        · refine At.sR [2] [] [] ?_
          obtain rfl := sq h
          exact At.ret (At.rR hR [])
        · refine At.nR [] [] ?_
          refine At.skip (norm ?_)
          refine At.sR [2] [] [] ?_
          obtain rfl := sq h
          exact At.ret (At.rR hR [])
theorem C_retraceref20_channel (p0 : T_api_Code) (p1 : Int) (p2 : Int) (r : Bool) (h : F_retraceref20_channel p0 p1 p2 = some r) : FnOK Try.prog 40 [.agg (T_api_Code.pvs p0), i64 p1, i64 p2] [] (bo r) [] [] := by
  refine fI Try.func40 rfl fun E gv R hR => ?_
  refine At.sR [1, 2, 3] [0] [] ?_
  refine At.seq ?_
  refine At.sR [1, 2, 3, 7] [0] [] ?_
  refine At.block ?_
  refine At.nK (st' := ⟨[(1, i64 p1), (2, i64 p2), (3, .ptr 0 0), (7, i64 0)], [.blk 26 (T_api_Code.pvs p0)]⟩) [1, 2, 3, 7] [0] ?_
  refine At.lp (fun s : (Int) => ⟨[(1, i64 p1), (2, i64 p2), (3, .ptr 0 0), (7, i64 s)], [.blk 26 (T_api_Code.pvs p0)]⟩) h ?_
  intro x26 oo27 h f28
  replace h : F_retraceref20_channel_L2 p0 p1 p2 x26 = some oo27 := h
  refine At.seq ?_
  refine At.sR [1, 2, 3, 7, 12] [0] [] ?_
  refine At.cd h (fun b30 h => ?_) (fun b30 h => ?_)
  · refine At.nR [1, 2, 3, 7] [0] ?_
    refine At.skip (norm ?_)
    refine At.seq ?_
    refine At.block ?_
    refine At.seqJ (S := Bool) (fun s => ⟨[(1, i64 p1), (2, i64 p2), (3, .ptr 0 0), (7, i64 x26), (32, bo s)], [.blk 26 (T_api_Code.pvs p0)]⟩) (fun s => F_retraceref20_channel_J1 x26 s = some oo27) ?_ ?_
    · obtain ⟨y46, hy46, h⟩ := bs h
      rcases cs h with ⟨b47, h⟩ | ⟨b47, h⟩
      · obtain ⟨y48, hy48, h⟩ := bs h
        exact At.rK [1, 2, 3, 7, 32] [0] [eT T_api_Chan.enc_len 3 hy46, bT 8 b47, eT T_api_Chan.enc_len 12 hy48] fun _ _ i => ⟨(y48.Size == p2), h, i⟩
      · exact At.rK [1, 2, 3, 7, 32] [0] [eT T_api_Chan.enc_len 3 hy46, bT 8 b47] fun _ _ i => ⟨false, h, i⟩
    · intro x42 h
      refine At.cd h (fun b43 h => ?_) (fun b43 h => ?_)
      · refine At.sR [6] [] [] ?_
        obtain ⟨r44, h, e45⟩ := mr h
        rw [f28 _ e45] at h
        obtain rfl := sq h
        exact At.ret (At.rR hR [])
      · refine At.nR [1, 2, 3, 7] [0] ?_
        refine At.skip (norm ?_)
        exact At.rK [1, 2, 3, 7] [0] [] fun _ _ i => ⟨_, li h, i⟩
  · refine At.nR [] [] ?_
    obtain ⟨r49, h, e50⟩ := mr h
    rw [f28 _ e50] at h
    refine At.exit (norm ?_)
    refine At.sR [6] [] [] ?_
    obtain rfl := sq h
    exact At.ret (At.rR hR [])
theorem C_retraceref17_Which (p0 : Int) (r : Int) (h : F_retraceref17_Which p0 = some r) : FnOK Try.prog 62 [i64 p0] [] (i64 r) [] [] := by
  refine fI Try.func62 rfl fun E gv R hR => ?_
  refine At.sR [0] [] [] ?_
  refine At.seq ?_
  refine At.sR [0, 4] [] [] ?_
  refine At.cd h (fun b2 h => ?_) (fun b2 h => ?_)
  · refine At.sR [2] [] [] ?_
    obtain rfl := sq h
    exact At.ret (At.rR hR [])
  · refine At.nR [0] [] ?_
    refine At.skip (norm ?_)
    refine At.seq ?_
    refine At.seqJ (S := Bool) (fun s => ⟨[(26, bo s)], []⟩) (fun s => F_retraceref17_Which_J1 s = some r) ?_ ?_
    · rcases cs h with ⟨b22, h⟩ | ⟨b22, h⟩
      · exact At.rK [26] [] [bT 2 b22] fun _ _ i => ⟨true, h, i⟩
      · rcases cs h with ⟨b23, h⟩ | ⟨b23, h⟩
        · exact At.rK [26] [] [bT 2 b22, bT 6 b23] fun _ _ i => ⟨true, h, i⟩
        · rcases cs h with ⟨b24, h⟩ | ⟨b24, h⟩
          · exact At.rK [26] [] [bT 2 b22, bT 6 b23, bT 10 b24] fun _ _ i => ⟨true, h, i⟩
          · rcases cs h with ⟨b25, h⟩ | ⟨b25, h⟩
            · exact At.rK [26] [] [bT 2 b22, bT 6 b23, bT 10 b24, bT 14 b25] fun _ _ i => ⟨true, h, i⟩
            · rcases cs h with ⟨b26, h⟩ | ⟨b26, h⟩
              · exact At.rK [26] [] [bT 2 b22, bT 6 b23, bT 10 b24, bT 14 b25, bT 18 b26] fun _ _ i => ⟨true, h, i⟩
              · exact At.rK [26] [] [bT 2 b22, bT 6 b23, bT 10 b24, bT 14 b25, bT 18 b26] fun _ _ i => ⟨(p0 == 22), h, i⟩
    · intro x20 h
      refine At.cd h (fun b21 h => ?_) (fun b21 h => ?_)
      · refine At.sR [2] [] [] ?_
        obtain rfl := sq h
        exact At.ret (At.rR hR [])
      · refine At.nR [] [] ?_
        refine At.skip (norm ?_)
        refine At.sR [2] [] [] ?_
        obtain rfl := sq h
        exact At.ret (At.rR hR [])
theorem C_retraceref20_target (p0 : T_api_Ins) (r : Int × Bool) (h : F_retraceref20_target p0 = some r) : FnOK Try.prog 41 [.agg (T_api_Ins.pvs p0)] [] (.tup [i64 r.1, bo r.2]) [] [] := by
  refine fI Try.func41 rfl fun E gv R hR => ?_
  refine At.sR [1] [0] [] ?_
  refine At.seq ?_
  obtain ⟨y6, hy6, h⟩ := bs h
  refine At.sR [1, 6] [0] [c0 2 (C_retraceref17_Which p0.Op y6 hy6)] ?_
  refine At.block ?_
  refine At.sR [1, 6, 7] [0] [] ?_
  refine At.cd h (fun b7 h => ?_) (fun b7 h => ?_)
  · refine At.sR [2, 3] [] [] ?_
    obtain rfl := sq h
    exact At.ret (At.rR hR [])
  · refine At.sR [1, 11] [0] [] ?_
    refine At.cd h (fun b8 h => ?_) (fun b8 h => ?_)
    · refine At.sR [2, 3] [] [] ?_
      obtain rfl := sq h
      exact At.ret (At.rR hR [])
    · refine At.nR [] [] ?_
      refine At.skip (norm ?_)
      refine At.seq ?_
      refine At.rK (st' := ⟨[(2, i64 0), (3, bo false)], []⟩) [2, 3] [] [] (norm ?_)
      obtain rfl := sq h
      exact At.ret (At.rR hR [])
theorem C_retraceref20_Chooses (p0 : Int) (r : Bool) (h : F_retraceref20_Chooses p0 = some r) : FnOK Try.prog 42 [i64 p0] [] (bo r) [] [] := by
  refine fI Try.func42 rfl fun E gv R hR => ?_
  refine At.sR [0] [] [] ?_
  refine At.seqJ (S := Bool) (fun s => ⟨[(2, bo s)], []⟩) (fun s => F_retraceref20_Chooses_J1 s = some r) ?_ ?_
  · rcases cs h with ⟨b3, h⟩ | ⟨b3, h⟩
    · exact At.rK [2] [] [bT 2 b3] fun _ _ i => ⟨(decide (p0 ≤ 22)), h, i⟩
    · exact At.rK [2] [] [bT 2 b3] fun _ _ i => ⟨false, h, i⟩
  · intro x2 h
    obtain rfl := sq h
    exact At.ret (At.rR hR [])
theorem C_retraceref20_rests (p0 : T_api_Code) (p1 : Int) (p2 : Int) (r : Bool) (h : F_retraceref20_rests p0 p1 p2 = some r) : FnOK Try.prog 43 [.agg (T_api_Code.pvs p0), i64 p1, i64 p2] [] (bo r) [] [] := by
  refine fI Try.func43 rfl fun E gv R hR => ?_
  refine At.sR [1, 2, 3] [0] [] ?_
  obtain ⟨y2, hy2, h⟩ := bs h
  refine At.sR [1, 2, 3] [0] [c0 2 (C_retraceref20_Settle p0 p2 y2 hy2)] ?_
  refine At.seqJ (S := Bool) (fun s => ⟨[(6, bo s)], []⟩) (fun s => F_retraceref20_rests_J1 s = some r) ?_ ?_
  · obtain ⟨y11, hy11, h⟩ := bs h
    rcases cs h with ⟨b12, h⟩ | ⟨b12, h⟩
    · obtain ⟨y13, hy13, h⟩ := bs h
      rcases cs h with ⟨b14, h⟩ | ⟨b14, h⟩
      · obtain ⟨y15, hy15, h⟩ := bs h
        rcases cs h with ⟨b16, h⟩ | ⟨b16, h⟩
        · exact At.rK [6] [] [eT T_api_Def.enc_len 4 hy11, bT 8 b12, c0 12 (C_retraceref20_To p0 p1 y13 hy13), bT 15 b14, eT T_api_Ins.enc_len 19 hy15, bT 23 b16] fun _ _ i => ⟨true, h, i⟩
        · obtain ⟨y17, hy17, h⟩ := bs h
          exact At.rK [6] [] [eT T_api_Def.enc_len 4 hy11, bT 8 b12, c0 12 (C_retraceref20_To p0 p1 y13 hy13), bT 15 b14, eT T_api_Ins.enc_len 19 hy15, bT 23 b16, eT T_api_Ins.enc_len 27 hy17] fun _ _ i => ⟨(y17.Op == 24), h, i⟩
      · exact At.rK [6] [] [eT T_api_Def.enc_len 4 hy11, bT 8 b12, c0 12 (C_retraceref20_To p0 p1 y13 hy13), bT 15 b14] fun _ _ i => ⟨false, h, i⟩
    · exact At.rK [6] [] [eT T_api_Def.enc_len 4 hy11, bT 8 b12] fun _ _ i => ⟨false, h, i⟩
  · intro x10 h
    obtain rfl := sq h
    exact At.ret (At.rR hR [])
theorem C_retraceref20_Acts (p0 : Int) (r : Bool) (h : F_retraceref20_Acts p0 = some r) : FnOK Try.prog 15 [i64 p0] [] (bo r) [] [] := by
  refine fI Try.func15 rfl fun E gv R hR => ?_
  refine At.sR [0] [] [] ?_
  refine At.seqJ (S := Bool) (fun s => ⟨[(2, bo s)], []⟩) (fun s => F_retraceref20_Acts_J1 s = some r) ?_ ?_
  · rcases cs h with ⟨b6, h⟩ | ⟨b6, h⟩
    · exact At.rK [2] [] [bT 2 b6] fun _ _ i => ⟨true, h, i⟩
    · rcases cs h with ⟨b7, h⟩ | ⟨b7, h⟩
      · exact At.rK [2] [] [bT 2 b6, bT 6 b7] fun _ _ i => ⟨true, h, i⟩
      · rcases cs h with ⟨b8, h⟩ | ⟨b8, h⟩
        · exact At.rK [2] [] [bT 2 b6, bT 6 b7, bT 10 b8] fun _ _ i => ⟨true, h, i⟩
        · rcases cs h with ⟨b9, h⟩ | ⟨b9, h⟩
          · exact At.rK [2] [] [bT 2 b6, bT 6 b7, bT 10 b8, bT 13 b9] fun _ _ i => ⟨(decide (p0 ≤ 17)), h, i⟩
          · exact At.rK [2] [] [bT 2 b6, bT 6 b7, bT 10 b8, bT 13 b9] fun _ _ i => ⟨false, h, i⟩
  · intro x5 h
    obtain rfl := sq h
    exact At.ret (At.rR hR [])
theorem C_retraceref20_may (p0 : T_api_Code) (p1 : Int) (p2 : Int) (p3 : Int) (r : Bool) (h : F_retraceref20_may p0 p1 p2 p3 = some r) : FnOK Try.prog 25 [.agg (T_api_Code.pvs p0), i64 p1, i64 p2, i64 p3] [] (bo r) [] [] := by
  refine fI Try.func25 rfl fun E gv R hR => ?_
  refine At.sR [1, 2, 3, 4] [0] [] ?_
  obtain ⟨y4, hy4, h⟩ := bs h
  obtain ⟨y5, hy5, h⟩ := bs h
  obtain ⟨y6, hy6, h⟩ := bs h
  refine At.sD 1 [1, 2, 3, 4, 9, 10, 11] [0, 1] [eT T_api_Ins.enc_len 3 hy4, eT T_api_Def.enc_len 8 hy5, c0 13 (C_retraceref20_To p0 p1 y6 hy6)] ?_
  refine At.seq ?_
  refine At.seqJ (S := Bool) (fun s => ⟨[(1, i64 p1), (2, i64 p2), (3, i64 p3), (4, .ptr 0 0), (9, .ptr 1 0), (10, i64 y5.Entry), (11, i64 y6), (53, bo s)], [.blk 26 (T_api_Code.pvs p0), .blk 35 (T_api_Ins.pvs y4)]⟩) (fun s => F_retraceref20_may_J1 p0 p1 p2 p3 y4 y5 y6 s = some r) ?_ ?_
  · obtain ⟨y183, hy183, h⟩ := bs h
    rcases cs h with ⟨b184, h⟩ | ⟨b184, h⟩
    · exact At.rK [1, 2, 3, 4, 9, 10, 11, 53] [0, 1] [c0 1 (C_retraceref16_Right y4 y183 hy183), bT 3 b184] fun _ _ i => ⟨true, h, i⟩
    · rcases cs h with ⟨b185, h⟩ | ⟨b185, h⟩
      · rcases cs h with ⟨b186, h⟩ | ⟨b186, h⟩
        · exact At.rK [1, 2, 3, 4, 9, 10, 11, 53] [0, 1] [c0 1 (C_retraceref16_Right y4 y183 hy183), bT 3 b184, bT 7 b185, bT 14 b186] fun _ _ i => ⟨true, h, i⟩
        · rcases cs h with ⟨b187, h⟩ | ⟨b187, h⟩
          · exact At.rK [1, 2, 3, 4, 9, 10, 11, 53] [0, 1] [c0 1 (C_retraceref16_Right y4 y183 hy183), bT 3 b184, bT 7 b185, bT 14 b186, bT 18 b187] fun _ _ i => ⟨(p2 == (w64 (y6 - 1))), h, i⟩
          · exact At.rK [1, 2, 3, 4, 9, 10, 11, 53] [0, 1] [c0 1 (C_retraceref16_Right y4 y183 hy183), bT 3 b184, bT 7 b185, bT 14 b186, bT 18 b187] fun _ _ i => ⟨false, h, i⟩
      · rcases cs h with ⟨b188, h⟩ | ⟨b188, h⟩
        · exact At.rK [1, 2, 3, 4, 9, 10, 11, 53] [0, 1] [c0 1 (C_retraceref16_Right y4 y183 hy183), bT 3 b184, bT 7 b185, bT 18 b188] fun _ _ i => ⟨(p2 == (w64 (y6 - 1))), h, i⟩
        · exact At.rK [1, 2, 3, 4, 9, 10, 11, 53] [0, 1] [c0 1 (C_retraceref16_Right y4 y183 hy183), bT 3 b184, bT 7 b185, bT 18 b188] fun _ _ i => ⟨false, h, i⟩
  · intro x27 h
    refine At.cd h (fun b28 h => ?_) (fun b28 h => ?_)
    · refine At.sR [8] [] [] ?_
      obtain rfl := sq h
      exact At.ret (At.rR hR [])
    · refine At.nR [1, 2, 3, 4, 9, 10, 11] [0, 1] ?_
      refine At.skip (norm ?_)
      refine At.seq ?_
      refine At.seqJ (S := Bool) (fun s => ⟨[(1, i64 p1), (2, i64 p2), (4, .ptr 0 0), (9, .ptr 1 0), (10, i64 y5.Entry), (11, i64 y6), (77, bo s)], [.blk 26 (T_api_Code.pvs p0), .blk 35 (T_api_Ins.pvs y4)]⟩) (fun s => F_retraceref20_may_J2 p0 p1 p2 y4 y5 y6 s = some r) ?_ ?_
      · rcases cs h with ⟨b177, h⟩ | ⟨b177, h⟩
        · rcases cs h with ⟨b178, h⟩ | ⟨b178, h⟩
          · rcases cs h with ⟨b179, h⟩ | ⟨b179, h⟩
            · exact At.rK [1, 2, 4, 9, 10, 11, 77] [0, 1] [bT 3 b177, bT 8 b178, bT 13 b179] fun _ _ i => ⟨true, h, i⟩
            · rcases cs h with ⟨b180, h⟩ | ⟨b180, h⟩
              · exact At.rK [1, 2, 4, 9, 10, 11, 77] [0, 1] [bT 3 b177, bT 8 b178, bT 13 b179, bT 17 b180] fun _ _ i => ⟨(y4.A != p3), h, i⟩
              · exact At.rK [1, 2, 4, 9, 10, 11, 77] [0, 1] [bT 3 b177, bT 8 b178, bT 13 b179, bT 17 b180] fun _ _ i => ⟨false, h, i⟩
          · rcases cs h with ⟨b181, h⟩ | ⟨b181, h⟩
            · exact At.rK [1, 2, 4, 9, 10, 11, 77] [0, 1] [bT 3 b177, bT 8 b178, bT 17 b181] fun _ _ i => ⟨(y4.A != p3), h, i⟩
            · exact At.rK [1, 2, 4, 9, 10, 11, 77] [0, 1] [bT 3 b177, bT 8 b178, bT 17 b181] fun _ _ i => ⟨false, h, i⟩
        · rcases cs h with ⟨b182, h⟩ | ⟨b182, h⟩
          · exact At.rK [1, 2, 4, 9, 10, 11, 77] [0, 1] [bT 3 b177, bT 17 b182] fun _ _ i => ⟨(y4.A != p3), h, i⟩
          · exact At.rK [1, 2, 4, 9, 10, 11, 77] [0, 1] [bT 3 b177, bT 17 b182] fun _ _ i => ⟨false, h, i⟩
      · intro x49 h
        refine At.cd h (fun b50 h => ?_) (fun b50 h => ?_)
        · refine At.sR [8] [] [] ?_
          obtain rfl := sq h
          exact At.ret (At.rR hR [])
        · refine At.nR [1, 2, 4, 9, 10, 11] [0, 1] ?_
          refine At.skip (norm ?_)
          refine At.seqJ (S := Bool) (fun s => ⟨[(1, i64 p1), (2, i64 p2), (4, .ptr 0 0), (9, .ptr 1 0), (10, i64 y5.Entry), (11, i64 y6), (12, bo s)], [.blk 26 (T_api_Code.pvs p0), .blk 35 (T_api_Ins.pvs y4)]⟩) (fun s => F_retraceref20_may_J3 p0 p1 p2 y4 y5 y6 s = some r) ?_ ?_
          · rcases cs h with ⟨b173, h⟩ | ⟨b173, h⟩
            · exact At.rK [1, 2, 4, 9, 10, 11, 12] [0, 1] [bT 3 b173] fun _ _ i => ⟨true, h, i⟩
            · rcases cs h with ⟨b174, h⟩ | ⟨b174, h⟩
              · exact At.rK [1, 2, 4, 9, 10, 11, 12] [0, 1] [bT 3 b173, bT 8 b174] fun _ _ i => ⟨true, h, i⟩
              · rcases cs h with ⟨b175, h⟩ | ⟨b175, h⟩
                · exact At.rK [1, 2, 4, 9, 10, 11, 12] [0, 1] [bT 3 b173, bT 8 b174, bT 13 b175] fun _ _ i => ⟨true, h, i⟩
                · rcases cs h with ⟨b176, h⟩ | ⟨b176, h⟩
                  · exact At.rK [1, 2, 4, 9, 10, 11, 12] [0, 1] [bT 3 b173, bT 8 b174, bT 13 b175, bT 18 b176] fun _ _ i => ⟨true, h, i⟩
                  · exact At.rK [1, 2, 4, 9, 10, 11, 12] [0, 1] [bT 3 b173, bT 8 b174, bT 13 b175, bT 18 b176] fun _ _ i => ⟨(y4.Op == 19), h, i⟩
          · intro x55 h
            refine At.seq ?_
            refine At.seqJ (S := Bool) (fun s => ⟨[(1, i64 p1), (2, i64 p2), (4, .ptr 0 0), (9, .ptr 1 0), (10, i64 y5.Entry), (11, i64 y6), (131, bo s)], [.blk 26 (T_api_Code.pvs p0), .blk 35 (T_api_Ins.pvs y4)]⟩) (fun s => F_retraceref20_may_J4 p0 p1 p2 y4 y5 y6 s = some r) ?_ ?_
            · rcases cs h with ⟨b165, h⟩ | ⟨b165, h⟩
              · rcases cs h with ⟨b166, h⟩ | ⟨b166, h⟩
                · exact At.dK 0 [1, 2, 4, 9, 10, 11, 131] [0, 1] [bT 1 b165, bT 5 b166] fun _ _ i => ⟨true, h, i⟩
                · obtain ⟨y167, hy167, h⟩ := bs h
                  rcases cs h with ⟨b168, h⟩ | ⟨b168, h⟩
                  · exact At.dK 0 [1, 2, 4, 9, 10, 11, 131] [0, 1] [bT 1 b165, bT 5 b166, eT T_api_Def.enc_len 11 hy167, bT 17 b168] fun _ _ i => ⟨true, h, i⟩
                  · rcases cs h with ⟨b169, h⟩ | ⟨b169, h⟩
                    · obtain ⟨y170, hy170, h⟩ := bs h
                      exact At.dK 0 [1, 2, 4, 9, 10, 11, 131] [0, 1] [bT 1 b165, bT 5 b166, eT T_api_Def.enc_len 11 hy167, bT 17 b168, bT 21 b169, c0 27 (C_retraceref20_channel p0 y4.A y4.B y170 hy170)] fun _ _ i => ⟨(!y170), h, i⟩
                    · exact At.dK 0 [1, 2, 4, 9, 10, 11, 131] [0, 1] [bT 1 b165, bT 5 b166, eT T_api_Def.enc_len 11 hy167, bT 17 b168, bT 21 b169] fun _ _ i => ⟨false, h, i⟩
              · rcases cs h with ⟨b171, h⟩ | ⟨b171, h⟩
                · obtain ⟨y172, hy172, h⟩ := bs h
                  exact At.dK 0 [1, 2, 4, 9, 10, 11, 131] [0, 1] [bT 1 b165, bT 21 b171, c0 27 (C_retraceref20_channel p0 y4.A y4.B y172 hy172)] fun _ _ i => ⟨(!y172), h, i⟩
                · exact At.dK 0 [1, 2, 4, 9, 10, 11, 131] [0, 1] [bT 1 b165, bT 21 b171] fun _ _ i => ⟨false, h, i⟩
            · intro x82 h
              refine At.cd h (fun b83 h => ?_) (fun b83 h => ?_)
              · refine At.sR [8] [] [] ?_
                obtain rfl := sq h
                exact At.ret (At.rR hR [])
              · refine At.nR [1, 2, 4, 9, 10, 11] [0, 1] ?_
                refine At.skip (norm ?_)
                refine At.seq ?_
                refine At.seqJ (S := Bool) (fun s => ⟨[(1, i64 p1), (2, i64 p2), (4, .ptr 0 0), (9, .ptr 1 0), (10, i64 y5.Entry), (11, i64 y6), (159, bo s)], [.blk 26 (T_api_Code.pvs p0), .blk 35 (T_api_Ins.pvs y4)]⟩) (fun s => F_retraceref20_may_J5 p0 p1 p2 y4 y5 y6 s = some r) ?_ ?_
                · rcases cs h with ⟨b161, h⟩ | ⟨b161, h⟩
                  · rcases cs h with ⟨b162, h⟩ | ⟨b162, h⟩
                    · exact At.dK 0 [1, 2, 4, 9, 10, 11, 159] [0, 1] [bT 3 b161, bT 7 b162] fun _ _ i => ⟨true, h, i⟩
                    · rcases cs h with ⟨b163, h⟩ | ⟨b163, h⟩
                      · exact At.dK 0 [1, 2, 4, 9, 10, 11, 159] [0, 1] [bT 3 b161, bT 7 b162, bT 15 b163] fun _ _ i => ⟨true, h, i⟩
                      · obtain ⟨y164, hy164, h⟩ := bs h
                        exact At.dK 0 [1, 2, 4, 9, 10, 11, 159] [0, 1] [bT 3 b161, bT 7 b162, bT 15 b163, eT T_api_Def.enc_len 22 hy164] fun _ _ i => ⟨(y4.B != y164.Params), h, i⟩
                  · exact At.dK 0 [1, 2, 4, 9, 10, 11, 159] [0, 1] [bT 3 b161] fun _ _ i => ⟨false, h, i⟩
                · intro x98 h
                  refine At.cd h (fun b99 h => ?_) (fun b99 h => ?_)
                  · refine At.sR [8] [] [] ?_
                    obtain rfl := sq h
                    exact At.ret (At.rR hR [])
                  · refine At.nR [1, 2, 4, 9, 10, 11] [0, 1] ?_
                    refine At.skip (norm ?_)
                    refine At.seqJ (S := Unit) (fun s => ⟨[(1, i64 p1), (2, i64 p2), (4, .ptr 0 0), (9, .ptr 1 0)], [.blk 26 (T_api_Code.pvs p0), .blk 35 (T_api_Ins.pvs y4)]⟩) (fun s => F_retraceref20_may_J6 p0 p1 p2 y4 = some r) ?_ ?_
                    · obtain ⟨y135, hy135, h⟩ := bs h
                      refine At.sR [1, 2, 4, 9, 10, 11, 13, 14] [0, 1] [c0 1 (C_retraceref20_target y4 y135 hy135)] ?_
                      refine At.sR [1, 2, 4, 9, 10, 11, 13, 165] [0, 1] [] ?_
                      refine At.cd h (fun b136 h => ?_) (fun b136 h => ?_)
                      · refine At.seqJ (S := Bool) (fun s => ⟨[(1, i64 p1), (2, i64 p2), (4, .ptr 0 0), (9, .ptr 1 0), (199, bo s)], [.blk 26 (T_api_Code.pvs p0), .blk 35 (T_api_Ins.pvs y4)]⟩) (fun s => F_retraceref20_may_J8 p0 p1 p2 y4 s = some r) ?_ ?_
                        · rcases cs h with ⟨b150, h⟩ | ⟨b150, h⟩
                          · exact At.rK [1, 2, 4, 9, 199] [0, 1] [bT 3 b150] fun _ _ i => ⟨true, h, i⟩
                          · rcases cs h with ⟨b151, h⟩ | ⟨b151, h⟩
                            · exact At.rK [1, 2, 4, 9, 199] [0, 1] [bT 3 b150, bT 8 b151] fun _ _ i => ⟨true, h, i⟩
                            · rcases cs h with ⟨b152, h⟩ | ⟨b152, h⟩
                              · obtain ⟨y153, hy153, h⟩ := bs h
                                rcases cs h with ⟨b154, h⟩ | ⟨b154, h⟩
                                · exact At.rK [1, 2, 4, 9, 199] [0, 1] [bT 3 b150, bT 8 b151, bT 12 b152, eT T_api_Ins.enc_len 16 hy153, bT 22 b154] fun _ _ i => ⟨true, h, i⟩
                                · obtain ⟨y155, hy155, h⟩ := bs h
                                  rcases cs h with ⟨b156, h⟩ | ⟨b156, h⟩
                                  · obtain ⟨y157, hy157, h⟩ := bs h
                                    exact At.rK [1, 2, 4, 9, 199] [0, 1] [bT 3 b150, bT 8 b151, bT 12 b152, eT T_api_Ins.enc_len 16 hy153, bT 22 b154, c0 25 (C_retraceref20_Chooses y4.Op y155 hy155), bT 26 b156, c0 30 (C_retraceref20_rests p0 p1 y135.1 y157 hy157)] fun _ _ i => ⟨(!y157), h, i⟩
                                  · exact At.rK [1, 2, 4, 9, 199] [0, 1] [bT 3 b150, bT 8 b151, bT 12 b152, eT T_api_Ins.enc_len 16 hy153, bT 22 b154, c0 25 (C_retraceref20_Chooses y4.Op y155 hy155), bT 26 b156] fun _ _ i => ⟨false, h, i⟩
                              · obtain ⟨y158, hy158, h⟩ := bs h
                                rcases cs h with ⟨b159, h⟩ | ⟨b159, h⟩
                                · obtain ⟨y160, hy160, h⟩ := bs h
                                  exact At.rK [1, 2, 4, 9, 199] [0, 1] [bT 3 b150, bT 8 b151, bT 12 b152, c0 25 (C_retraceref20_Chooses y4.Op y158 hy158), bT 26 b159, c0 30 (C_retraceref20_rests p0 p1 y135.1 y160 hy160)] fun _ _ i => ⟨(!y160), h, i⟩
                                · exact At.rK [1, 2, 4, 9, 199] [0, 1] [bT 3 b150, bT 8 b151, bT 12 b152, c0 25 (C_retraceref20_Chooses y4.Op y158 hy158), bT 26 b159] fun _ _ i => ⟨false, h, i⟩
                        · intro x148 h
                          refine At.cd h (fun b149 h => ?_) (fun b149 h => ?_)
                          · refine At.sR [8] [] [] ?_
                            obtain rfl := sq h
                            exact At.ret (At.rR hR [])
                          · refine At.nR [1, 2, 4, 9] [0, 1] ?_
                            refine At.skip (fun _ _ i => ⟨(), h, i.en [] [1, 2, 4, 9] [0, 1]⟩)
                      · refine At.nR [1, 2, 4, 9] [0, 1] ?_
                        refine At.skip (fun _ _ i => ⟨(), h, i.en [] [1, 2, 4, 9] [0, 1]⟩)
                    · intro _ h
                      refine At.seqJ (S := Bool) (fun s => ⟨[(8, bo s)], []⟩) (fun s => F_retraceref20_may_J7 s = some r) ?_ ?_
                      · obtain ⟨y131, hy131, h⟩ := bs h
                        rcases cs h with ⟨b132, h⟩ | ⟨b132, h⟩
                        · exact At.rK [8] [] [c0 2 (C_retraceref20_Acts y4.Op y131 hy131), bT 4 b132] fun _ _ i => ⟨true, h, i⟩
                        · obtain ⟨y133, hy133, h⟩ := bs h
                          exact At.rK [8] [] [c0 2 (C_retraceref20_Acts y4.Op y131 hy131), bT 4 b132, c0 9 (C_retraceref20_rests p0 p1 (w64 (p2 + 1)) y133 hy133)] fun _ _ i => ⟨y133, h, i⟩
                      · intro x130 h
                        obtain rfl := sq h
                        exact At.ret (At.rR hR [])
theorem C_retraceref15_Wide (p0 : Int) (r : Int) (h : F_retraceref15_Wide p0 = some r) : FnOK Try.prog 63 [i64 p0] [] (i64 r) [] [] := by
  refine fI Try.func63 rfl fun E gv R hR => ?_
  refine At.sR [0] [] [] ?_
  refine At.seq ?_
  refine At.seqJ (S := Bool) (fun s => ⟨[(0, i64 p0), (8, bo s)], []⟩) (fun s => F_retraceref15_Wide_J1 p0 s = some r) ?_ ?_
  · rcases cs h with ⟨b16, h⟩ | ⟨b16, h⟩
    · exact At.rK [0, 8] [] [bT 2 b16] fun _ _ i => ⟨true, h, i⟩
    · exact At.rK [0, 8] [] [bT 2 b16] fun _ _ i => ⟨(p0 == 4), h, i⟩
  · intro x6 h
    refine At.cd h (fun b7 h => ?_) (fun b7 h => ?_)
    · refine At.sR [2] [] [] ?_
      obtain rfl := sq h
      exact At.ret (At.rR hR [])
    · refine At.nR [0] [] ?_
      refine At.skip (norm ?_)
      refine At.seq ?_
      refine At.seqJ (S := Bool) (fun s => ⟨[(14, bo s)], []⟩) (fun s => F_retraceref15_Wide_J2 s = some r) ?_ ?_
      · rcases cs h with ⟨b15, h⟩ | ⟨b15, h⟩
        · exact At.rK [14] [] [bT 2 b15] fun _ _ i => ⟨(decide (p0 ≤ 17)), h, i⟩
        · exact At.rK [14] [] [bT 2 b15] fun _ _ i => ⟨false, h, i⟩
      · intro x13 h
        refine At.cd h (fun b14 h => ?_) (fun b14 h => ?_)
        · refine At.sR [2] [] [] ?_
          obtain rfl := sq h
          exact At.ret (At.rR hR [])
        · refine At.nR [] [] ?_
          refine At.skip (norm ?_)
          refine At.sR [2] [] [] ?_
          obtain rfl := sq h
          exact At.ret (At.rR hR [])
theorem C_retraceref16_Takes (p0 : T_api_Ins) (r : Int) (h : F_retraceref16_Takes p0 = some r) : FnOK Try.prog 45 [.agg (T_api_Ins.pvs p0)] [] (i64 r) [] [] := by
  refine fI Try.func45 rfl fun E gv R hR => ?_
  refine At.sR [1] [0] [] ?_
  refine At.seq ?_
  obtain ⟨y5, hy5, h⟩ := bs h
  refine At.sR [1, 5] [0] [c0 1 (C_retraceref16_Right p0 y5 hy5)] ?_
  refine At.cd h (fun b6 h => ?_) (fun b6 h => ?_)
  · refine At.sR [2] [] [] ?_
    obtain rfl := sq h
    exact At.ret (At.rR hR [])
  · refine At.nR [1] [0] ?_
    refine At.skip (norm ?_)
    refine At.seqJ (S := Unit) (fun s => ⟨[], []⟩) (fun s => F_retraceref16_Takes_J1 = some r) ?_ ?_
    · refine At.sR [1, 7] [0] [] ?_
      refine At.block ?_
      refine At.sR [1, 7, 8] [0] [] ?_
      refine At.cd h (fun b37 h => ?_) (fun b37 h => ?_)
      · refine At.seq ?_
        obtain ⟨y39, hy39, h⟩ := bs h
        refine At.rK (st' := ⟨[(2, i64 y39)], []⟩) [2] [] [c0 2 (C_retraceref15_Wide p0.A y39 hy39)] (norm ?_)
        obtain rfl := sq h
        exact At.ret (At.rR hR [])
      · refine At.seq ?_
        refine At.rK (st' := ⟨[(1, .ptr 0 0), (7, i64 p0.Op), (13, bo (p0.Op == 14))], [.blk 35 (T_api_Ins.pvs p0)]⟩) [1, 7, 13] [0] [] (norm ?_)
        refine At.cd h (fun b40 h => ?_) (fun b40 h => ?_)
        · refine At.sR [2] [] [] ?_
          obtain rfl := sq h
          exact At.ret (At.rR hR [])
        · refine At.sR [1, 7, 17] [0] [] ?_
          refine At.cd h (fun b41 h => ?_) (fun b41 h => ?_)
          · refine At.sR [21] [] [] ?_
            refine At.cd h (fun b42 h => ?_) (fun b42 h => ?_)
            · refine At.sR [2] [] [] ?_
              obtain rfl := sq h
              exact At.ret (At.rR hR [])
            · refine At.nR [] [] ?_
              refine At.skip (fun _ _ i => ⟨(), h, i.en [] [] []⟩)
          · refine At.seqJ (S := Bool) (fun s => ⟨[(7, i64 p0.Op), (22, bo s)], []⟩) (fun s => F_retraceref16_Takes_J2 p0 s = some r) ?_ ?_
            · refine At.sR [7, 22] [] [] ?_
              refine At.cd h (fun b66 h => ?_) (fun b66 h => ?_)
              · refine At.skip (fun _ _ i => ⟨(p0.Op == 10), h, i.en [] [7, 22] []⟩)
              · exact At.rK [7, 22] [] [] fun _ _ i => ⟨(p0.Op == 20), h, i⟩
            · intro x44 h
              refine At.cd h (fun b45 h => ?_) (fun b45 h => ?_)
              · refine At.sR [2] [] [] ?_
                obtain rfl := sq h
                exact At.ret (At.rR hR [])
              · refine At.seqJ (S := Bool) (fun s => ⟨[(25, bo s)], []⟩) (fun s => F_retraceref16_Takes_J3 s = some r) ?_ ?_
                · refine At.sR [7, 25] [] [] ?_
                  refine At.cd h (fun b57 h => ?_) (fun b57 h => ?_)
                  · refine At.nR [25] [] ?_
                    refine At.skip (fun _ _ i => ⟨(p0.Op == 4), h, i.en [] [25] []⟩)
                  · refine At.sR [7, 25] [] [] ?_
                    refine At.cd h (fun b58 h => ?_) (fun b58 h => ?_)
                    · refine At.nR [25] [] ?_
                      refine At.skip (fun _ _ i => ⟨(p0.Op == 7), h, i.en [] [25] []⟩)
                    · refine At.sR [7, 25] [] [] ?_
                      refine At.cd h (fun b59 h => ?_) (fun b59 h => ?_)
                      · refine At.nR [25] [] ?_
                        refine At.skip (fun _ _ i => ⟨(p0.Op == 8), h, i.en [] [25] []⟩)
                      · refine At.sR [7, 25] [] [] ?_
                        refine At.cd h (fun b60 h => ?_) (fun b60 h => ?_)
                        · refine At.nR [25] [] ?_
                          refine At.skip (fun _ _ i => ⟨(p0.Op == 11), h, i.en [] [25] []⟩)
                        · refine At.sR [7, 25] [] [] ?_
                          refine At.cd h (fun b61 h => ?_) (fun b61 h => ?_)
                          · refine At.nK (st' := ⟨[(25, bo (p0.Op == 12))], []⟩) [25] [] ?_
                            refine At.skip (fun _ _ i => ⟨(p0.Op == 12), h, i⟩)
                          · refine At.seq ?_
                            refine At.rK (st' := ⟨[(7, i64 p0.Op), (25, bo (p0.Op == 13))], []⟩) [7, 25] [] [] (norm ?_)
                            refine At.cd h (fun b62 h => ?_) (fun b62 h => ?_)
                            · refine At.nR [25] [] ?_
                              refine At.skip (fun _ _ i => ⟨(p0.Op == 13), h, i.en [] [25] []⟩)
                            · refine At.sR [7, 25] [] [] ?_
                              refine At.cd h (fun b63 h => ?_) (fun b63 h => ?_)
                              · refine At.nR [25] [] ?_
                                refine At.skip (fun _ _ i => ⟨(p0.Op == 15), h, i.en [] [25] []⟩)
                              · refine At.sR [7, 25] [] [] ?_
                                refine At.cd h (fun b64 h => ?_) (fun b64 h => ?_)
                                · refine At.nR [25] [] ?_
                                  refine At.skip (fun _ _ i => ⟨(p0.Op == 16), h, i.en [] [25] []⟩)
                                · refine At.sR [7, 25] [] [] ?_
                                  refine At.cd h (fun b65 h => ?_) (fun b65 h => ?_)
                                  · refine At.nR [25] [] ?_
                                    refine At.skip (fun _ _ i => ⟨(p0.Op == 19), h, i.en [] [25] []⟩)
                                  · exact At.rK [25] [] [] fun _ _ i => ⟨(p0.Op == 21), h, i⟩
                · intro x55 h
                  refine At.cd h (fun b56 h => ?_) (fun b56 h => ?_)
                  · refine At.sR [2] [] [] ?_
                    obtain rfl := sq h
                    exact At.ret (At.rR hR [])
                  · refine At.nR [] [] ?_
                    refine At.skip (fun _ _ i => ⟨(), h, i.en [] [] []⟩)
    · intro _ h
      refine At.sR [2] [] [] ?_
      obtain rfl := sq h
      exact At.ret (At.rR hR [])
theorem C_retraceref20_fits (p0 : T_api_Ins) (p1 : T_retraceref20_Is) (r : Bool) (h : F_retraceref20_fits p0 p1 = some r) : FnOK Try.prog 44 [.agg (T_api_Ins.pvs p0), .agg (T_retraceref20_Is.pvs p1)] [] (bo r) [] [] := by
  refine fI Try.func44 rfl fun E gv R hR => ?_
  refine At.sR [2, 3] [0, 1] [] ?_
  obtain ⟨y2, hy2, h⟩ := bs h
  refine At.sD 0 [2, 3, 5] [0, 1] [c0 3 (C_retraceref16_Takes p0 y2 hy2)] ?_
  refine At.seq ?_
  refine At.sR [2, 3, 5, 12] [0, 1] [] ?_
  refine At.cd h (fun b4 h => ?_) (fun b4 h => ?_)
  · refine At.sR [4] [] [] ?_
    obtain rfl := sq h
    exact At.ret (At.rR hR [])
  · refine At.nR [2, 3, 5] [0, 1] ?_
    refine At.skip (norm ?_)
    refine At.seq ?_
    refine At.seqJ (S := Bool) (fun s => ⟨[(2, .ptr 0 0), (3, .ptr 1 0), (5, i64 (w64 (p1.N - y2))), (25, bo s)], [.blk 35 (T_api_Ins.pvs p0), .blk 71 (T_retraceref20_Is.pvs p1)]⟩) (fun s => F_retraceref20_fits_J1 p0 p1 y2 s = some r) ?_ ?_
    · rcases cs h with ⟨b59, h⟩ | ⟨b59, h⟩
      · exact At.rK [2, 3, 5, 25] [0, 1] [bT 3 b59] fun _ _ i => ⟨true, h, i⟩
      · rcases cs h with ⟨b60, h⟩ | ⟨b60, h⟩
        · exact At.rK [2, 3, 5, 25] [0, 1] [bT 3 b59, bT 8 b60] fun _ _ i => ⟨true, h, i⟩
        · exact At.rK [2, 3, 5, 25] [0, 1] [bT 3 b59, bT 8 b60] fun _ _ i => ⟨(p0.Op == 25), h, i⟩
    · intro x16 h
      refine At.cd h (fun b17 h => ?_) (fun b17 h => ?_)
      · refine At.seqJ (S := Bool) (fun s => ⟨[(4, bo s)], []⟩) (fun s => F_retraceref20_fits_J2 s = some r) ?_ ?_
        · rcases cs h with ⟨b20, h⟩ | ⟨b20, h⟩
          · exact At.rK [4] [] [bT 3 b20] fun _ _ i => ⟨(!p1.Choose), h, i⟩
          · exact At.rK [4] [] [bT 3 b20] fun _ _ i => ⟨false, h, i⟩
        · intro x19 h
          obtain rfl := sq h
          exact At.ret (At.rR hR [])
      · refine At.nR [2, 3, 5] [0, 1] ?_
        refine At.skip (norm ?_)
        refine At.seq ?_
        refine At.sR [2, 3, 5, 36] [0, 1] [] ?_
        refine At.cd h (fun b25 h => ?_) (fun b25 h => ?_)
        · refine At.seqJ (S := Bool) (fun s => ⟨[(4, bo s)], []⟩) (fun s => F_retraceref20_fits_J3 s = some r) ?_ ?_
          · rcases cs h with ⟨b28, h⟩ | ⟨b28, h⟩
            · exact At.rK [4] [] [bT 3 b28] fun _ _ i => ⟨p1.Choose, h, i⟩
            · exact At.rK [4] [] [bT 3 b28] fun _ _ i => ⟨false, h, i⟩
          · intro x27 h
            obtain rfl := sq h
            exact At.ret (At.rR hR [])
        · refine At.nR [2, 3, 5] [0, 1] ?_
          refine At.skip (norm ?_)
          refine At.seq ?_
          obtain ⟨y36, hy36, h⟩ := bs h
          refine At.sR [2, 3, 5, 46] [0, 1] [c0 2 (C_retraceref20_Chooses p0.Op y36 hy36)] ?_
          refine At.cd h (fun b37 h => ?_) (fun b37 h => ?_)
          · refine At.seqJ (S := Bool) (fun s => ⟨[(4, bo s)], []⟩) (fun s => F_retraceref20_fits_J4 s = some r) ?_ ?_
            · rcases cs h with ⟨b40, h⟩ | ⟨b40, h⟩
              · exact At.rK [4] [] [bT 2 b40] fun _ _ i => ⟨p1.Choose, h, i⟩
              · exact At.rK [4] [] [bT 2 b40] fun _ _ i => ⟨false, h, i⟩
            · intro x39 h
              obtain rfl := sq h
              exact At.ret (At.rR hR [])
          · refine At.nR [2, 3, 5] [0, 1] ?_
            refine At.skip (norm ?_)
            refine At.seq ?_
            refine At.seqJ (S := Bool) (fun s => ⟨[(3, .ptr 0 0), (5, i64 (w64 (p1.N - y2))), (60, bo s)], [.blk 71 (T_retraceref20_Is.pvs p1)]⟩) (fun s => F_retraceref20_fits_J5 p1 y2 s = some r) ?_ ?_
            · obtain ⟨y57, hy57, h⟩ := bs h
              rcases cs h with ⟨b58, h⟩ | ⟨b58, h⟩
              · exact At.rK [3, 5, 60] [1] [c0 2 (C_retraceref20_Acts p0.Op y57 hy57), bT 3 b58] fun _ _ i => ⟨true, h, i⟩
              · exact At.rK [3, 5, 60] [1] [c0 2 (C_retraceref20_Acts p0.Op y57 hy57), bT 3 b58] fun _ _ i => ⟨(p0.Op == 18), h, i⟩
            · intro x52 h
              refine At.cd h (fun b53 h => ?_) (fun b53 h => ?_)
              · refine At.seqJ (S := Bool) (fun s => ⟨[(4, bo s)], []⟩) (fun s => F_retraceref20_fits_J6 s = some r) ?_ ?_
                · rcases cs h with ⟨b56, h⟩ | ⟨b56, h⟩
                  · exact At.rK [4] [] [bT 2 b56] fun _ _ i => ⟨(!p1.Choose), h, i⟩
                  · exact At.rK [4] [] [bT 2 b56] fun _ _ i => ⟨false, h, i⟩
                · intro x55 h
                  obtain rfl := sq h
                  exact At.ret (At.rR hR [])
              · refine At.nR [] [] ?_
                refine At.skip (norm ?_)
                refine At.sR [4] [] [] ?_
                obtain rfl := sq h
                exact At.ret (At.rR hR [])
theorem C_retraceref16_Gives (p0 : T_api_Ins) (r : Int) (h : F_retraceref16_Gives p0 = some r) : FnOK Try.prog 46 [.agg (T_api_Ins.pvs p0)] [] (i64 r) [] [] := by
  refine fI Try.func46 rfl fun E gv R hR => ?_
  refine At.sR [1] [0] [] ?_
  refine At.seq ?_
  refine At.seqJ (S := Bool) (fun s => ⟨[(24, bo s)], []⟩) (fun s => F_retraceref16_Gives_J1 s = some r) ?_ ?_
  · obtain ⟨y20, hy20, h⟩ := bs h
    rcases cs h with ⟨b21, h⟩ | ⟨b21, h⟩
    · rcases cs h with ⟨b22, h⟩ | ⟨b22, h⟩
      · exact At.rK [24] [] [c0 1 (C_retraceref16_Right p0 y20 hy20), bT 2 b21, bT 6 b22] fun _ _ i => ⟨true, h, i⟩
      · rcases cs h with ⟨b23, h⟩ | ⟨b23, h⟩
        · exact At.rK [24] [] [c0 1 (C_retraceref16_Right p0 y20 hy20), bT 2 b21, bT 6 b22, bT 11 b23] fun _ _ i => ⟨true, h, i⟩
        · rcases cs h with ⟨b24, h⟩ | ⟨b24, h⟩
          · exact At.rK [24] [] [c0 1 (C_retraceref16_Right p0 y20 hy20), bT 2 b21, bT 6 b22, bT 11 b23, bT 16 b24] fun _ _ i => ⟨true, h, i⟩
          · exact At.rK [24] [] [c0 1 (C_retraceref16_Right p0 y20 hy20), bT 2 b21, bT 6 b22, bT 11 b23, bT 16 b24] fun _ _ i => ⟨(p0.Op == 9), h, i⟩
    · exact At.rK [24] [] [c0 1 (C_retraceref16_Right p0 y20 hy20), bT 2 b21] fun _ _ i => ⟨false, h, i⟩
  · intro x18 h
    refine At.cd h (fun b19 h => ?_) (fun b19 h => ?_)
    · refine At.sR [2] [] [] ?_
      obtain rfl := sq h
      exact At.ret (At.rR hR [])
    · refine At.nR [] [] ?_
      refine At.skip (norm ?_)
      refine At.sR [2] [] [] ?_
      obtain rfl := sq h
      exact At.ret (At.rR hR [])
theorem C_retraceref20_meets (p1 : Int) (p2 : Int) (p3 : T_retraceref20_Is) (o0 : (List T_retraceref20_Is)) (r : ((List T_retraceref20_Is) × Bool) ⊕ ((List T_retraceref20_Is) × Bool)) (h : F_retraceref20_meets p1 p2 p3 o0 = some r) : FnOK Try.prog 47 [.row 0 (o0).length, i64 p1, i64 p2, .agg (T_retraceref20_Is.pvs p3)] [.row 71 3 (encL T_retraceref20_Is.enc o0)] ((Sum.elim (fun r => .tup [.row 0 (r.1).length, bo r.2]) (fun r => .tup [.row 1 (r.1).length, bo r.2])) r) ((Sum.elim (fun r => [.row 71 3 (encL T_retraceref20_Is.enc r.1)]) (fun r => [.row 71 3 (encL T_retraceref20_Is.enc o0), .row 71 3 (encL T_retraceref20_Is.enc r.1)])) r) [0] := by
  refine fI Try.func47 rfl fun E gv R hR => ?_
  refine At.sR [0, 1, 2, 7] [0, 1, 2] [] ?_
  refine At.seq ?_
  refine At.sR [0, 2, 7, 13] [0, 1, 2] [] ?_
  refine At.cd h (fun b2 h => ?_) (fun b2 h => ?_)
  · refine At.sD 0 [8, 9] [0, 1] [] ?_
    obtain rfl := sq h
    exact At.ret (At.rR hR [0])
  · refine At.nR [0, 2, 7] [0, 1, 2] ?_
    refine At.skip (norm ?_)
    refine At.seq ?_
    obtain ⟨y9, hy9, h⟩ := bs h
    refine At.sR [0, 2, 7, 22] [0, 1, 2] [oT 2 (rEl hy9), vT 4 (.bool y9.Come) (rElV T_retraceref20_Is.enc_len hy9 0 (by decide) (d := .bool y9.Come) (by rfl))] ?_
    refine At.cd h (fun b10 h => ?_) (fun b10 h => ?_)
    · obtain ⟨y12, hy12, h⟩ := bs h
      refine At.sD 0 [8, 9] [0, 1] [oT 3 (rEl hy12), tT 4 ({ orc := .cells [.bool y12.Come, .int .i64 y12.N, .bool y12.Choose] }) (allc (rElC T_retraceref20_Is.enc_len hy12 0 3 (by decide) (by rfl)) all0)] ?_
      obtain rfl := sq h
      exact At.ret (At.rR hR [0])
    · refine At.nR [0, 2, 7] [0, 1, 2] ?_
      refine At.skip (norm ?_)
      refine At.seq ?_
      obtain ⟨g14, h⟩ := gs h
      refine At.rK (st' := ⟨[(2, i64 p2), (7, .ptr 2 0), (10, .row 3 ((([] : List T_retraceref20_Is) ++ o0)).length)], [.row 71 3 (encL T_retraceref20_Is.enc o0), .ghost (gv 0) (.row 0 0), .blk 71 (T_retraceref20_Is.pvs p3), .row 71 3 (encL T_retraceref20_Is.enc (([] : List T_retraceref20_Is) ++ o0))]⟩) [2, 7, 10] [0, 1, 2, 3] [aT T_retraceref20_Is.enc_len 2 ([] : List T_retraceref20_Is) o0 rfl g14] (norm ?_)
      refine At.seq ?_
      obtain ⟨y16, hy16, h⟩ := bs h
      refine At.rK (st' := ⟨[(10, .row 2 ((([] : List T_retraceref20_Is) ++ o0)).length)], [.row 71 3 (encL T_retraceref20_Is.enc o0), .ghost (gv 0) (.row 0 0), .row 71 3 (encL T_retraceref20_Is.enc (List.set (([] : List T_retraceref20_Is) ++ o0) (Int.toNat p2) p3))]⟩) [10] [0, 1, 3] [oT 3 (rEl hy16), tT 4 ({ form := some (0, encL T_retraceref20_Is.enc (List.set (([] : List T_retraceref20_Is) ++ o0) (Int.toNat p2) p3)), obj := 3 }) (allc ((rSetM T_retraceref20_Is.enc_len hy16 0 p3 (vs := [.bool p3.Come, .int .i64 p3.N, .bool p3.Choose]) (by rfl) (Nat.le_of_ble_eq_true rfl)).1) (allc ((rSetM T_retraceref20_Is.enc_len hy16 0 p3 (vs := [.bool p3.Come, .int .i64 p3.N, .bool p3.Choose]) (by rfl) (Nat.le_of_ble_eq_true rfl)).2) all0))] (relen (st2 := ⟨[(10, .row 2 ((List.set (([] : List T_retraceref20_Is) ++ o0) (Int.toNat p2) p3)).length)], [.row 71 3 (encL T_retraceref20_Is.enc o0), .ghost (gv 0) (.row 0 0), .row 71 3 (encL T_retraceref20_Is.enc (List.set (([] : List T_retraceref20_Is) ++ o0) (Int.toNat p2) p3))]⟩) (by simp only [List.length_set]) (norm ?_))
      refine At.sR [8, 9] [0, 1, 2] [] ?_
      obtain rfl := sq h
      exact At.ret (At.rR hR [0, 2])
theorem C_retraceref20_Flow (p0 : T_api_Code) (p1 : Int) (r : (List T_retraceref20_Is) × Int) (h : F_retraceref20_Flow p0 p1 = some r) : FnOK Try.prog 26 [.agg (T_api_Code.pvs p0), i64 p1] [] (.tup [.row 0 (r.1).length, i64 r.2]) [.row 71 3 (encL T_retraceref20_Is.enc r.1)] [] := by
  refine fI Try.func26 rfl fun E gv R hR => ?_
  refine At.sR [1, 2] [0] [] ?_
  obtain ⟨g2, h⟩ := gs h
  refine At.sR [1, 2, 6] [0, 1] [tT 4 ({ form := some (((List.replicate (Int.toNat (w64 (((p0.Ins).length : Int) + 1))) (⟨false, 0, false⟩ : T_retraceref20_Is))).length, encL T_retraceref20_Is.enc (List.replicate (Int.toNat (w64 (((p0.Ins).length : Int) + 1))) (⟨false, 0, false⟩ : T_retraceref20_Is))) }) (allc (len_rep (Int.toNat (w64 (((p0.Ins).length : Int) + 1))) (⟨false, 0, false⟩ : T_retraceref20_Is)) (allc (encL_repM T_retraceref20_Is.enc (⟨false, 0, false⟩ : T_retraceref20_Is) rfl (Int.toNat (w64 (((p0.Ins).length : Int) + 1)))) (allc g2 all0)))] ?_
  refine At.seq ?_
  obtain ⟨y5, hy5, h⟩ := bs h
  obtain ⟨y6, hy6, h⟩ := bs h
  refine At.rK (st' := ⟨[(1, i64 p1), (2, .ptr 0 0), (6, .row 1 ((List.replicate (Int.toNat (w64 (((p0.Ins).length : Int) + 1))) (⟨false, 0, false⟩ : T_retraceref20_Is))).length)], [.blk 26 (T_api_Code.pvs p0), .row 71 3 (encL T_retraceref20_Is.enc (List.set (List.replicate (Int.toNat (w64 (((p0.Ins).length : Int) + 1))) (⟨false, 0, false⟩ : T_retraceref20_Is)) (Int.toNat y5.Entry) (⟨true, y6.N, y6.Choose⟩ : T_retraceref20_Is)))]⟩) [1, 2, 6] [0, 1] [eT T_api_Def.enc_len 4 hy5, oT 7 (rEl hy6), tT 9 ({ form := some (0, encL T_retraceref20_Is.enc (List.set (List.replicate (Int.toNat (w64 (((p0.Ins).length : Int) + 1))) (⟨false, 0, false⟩ : T_retraceref20_Is)) (Int.toNat y5.Entry) (⟨true, y6.N, y6.Choose⟩ : T_retraceref20_Is))), obj := 1 }) (allc ((rSetM T_retraceref20_Is.enc_len hy6 0 (⟨true, y6.N, y6.Choose⟩ : T_retraceref20_Is) (vs := [.bool true]) (by rfl) (Nat.le_of_ble_eq_true rfl)).1) (allc ((rSetM T_retraceref20_Is.enc_len hy6 0 (⟨true, y6.N, y6.Choose⟩ : T_retraceref20_Is) (vs := [.bool true]) (by rfl) (Nat.le_of_ble_eq_true rfl)).2) all0))] (relen (st2 := ⟨[(1, i64 p1), (2, .ptr 0 0), (6, .row 1 ((List.set (List.replicate (Int.toNat (w64 (((p0.Ins).length : Int) + 1))) (⟨false, 0, false⟩ : T_retraceref20_Is)) (Int.toNat y5.Entry) (⟨true, y6.N, y6.Choose⟩ : T_retraceref20_Is))).length)], [.blk 26 (T_api_Code.pvs p0), .row 71 3 (encL T_retraceref20_Is.enc (List.set (List.replicate (Int.toNat (w64 (((p0.Ins).length : Int) + 1))) (⟨false, 0, false⟩ : T_retraceref20_Is)) (Int.toNat y5.Entry) (⟨true, y6.N, y6.Choose⟩ : T_retraceref20_Is)))]⟩) (by simp only [List.length_set]) (norm ?_))
  refine At.seq ?_
  obtain ⟨y227, hy227, h⟩ := bs h
  refine At.sR [1, 2, 6, 7] [0, 1] [eT T_api_Def.enc_len 3 hy227] ?_
  refine At.block ?_
  refine At.nK (st' := ⟨[(1, i64 p1), (2, .ptr 0 0), (6, .row 1 ((List.set (List.replicate (Int.toNat (w64 (((p0.Ins).length : Int) + 1))) (⟨false, 0, false⟩ : T_retraceref20_Is)) (Int.toNat y5.Entry) (⟨true, y6.N, y6.Choose⟩ : T_retraceref20_Is))).length), (7, i64 y227.Entry)], [.blk 26 (T_api_Code.pvs p0), .row 71 3 (encL T_retraceref20_Is.enc (List.set (List.replicate (Int.toNat (w64 (((p0.Ins).length : Int) + 1))) (⟨false, 0, false⟩ : T_retraceref20_Is)) (Int.toNat y5.Entry) (⟨true, y6.N, y6.Choose⟩ : T_retraceref20_Is)))]⟩) [1, 2, 6, 7] [0, 1] ?_
  refine At.lp (fun s : (Int × (List T_retraceref20_Is)) => ⟨[(1, i64 p1), (2, .ptr 0 0), (6, .row 1 (s.2).length), (7, i64 s.1)], [.blk 26 (T_api_Code.pvs p0), .row 71 3 (encL T_retraceref20_Is.enc s.2)]⟩) h ?_
  rintro ⟨x228, x229⟩ oo230 h f231
  replace h : F_retraceref20_Flow_L8 p0 p1 x228 x229 = some oo230 := h
  refine At.seq ?_
  obtain ⟨y236, hy236, h⟩ := bs h
  refine At.sR [1, 2, 6, 7, 38] [0, 1] [c0 3 (C_retraceref20_To p0 p1 y236 hy236)] ?_
  refine At.cd h (fun b237 h => ?_) (fun b237 h => ?_)
  · refine At.nR [1, 2, 6, 7] [0, 1] ?_
    refine At.skip (norm ?_)
    refine At.seqJ (S := (List T_retraceref20_Is)) (fun s => ⟨[(1, i64 p1), (2, .ptr 0 0), (6, .row 1 (s).length), (7, i64 x228)], [.blk 26 (T_api_Code.pvs p0), .row 71 3 (encL T_retraceref20_Is.enc s)]⟩) (fun s => F_retraceref20_Flow_J1 x228 s = some oo230) ?_ ?_
    · refine At.block ?_
      refine At.seq ?_
      refine At.seqJ (S := Bool) (fun s => ⟨[(1, i64 p1), (2, .ptr 0 0), (6, .row 1 (x229).length), (7, i64 x228), (55, bo s)], [.blk 26 (T_api_Code.pvs p0), .row 71 3 (encL T_retraceref20_Is.enc x229)]⟩) (fun s => F_retraceref20_Flow_J2 p0 x228 x229 s = some oo230) ?_ ?_
      · obtain ⟨y440, hy440, h⟩ := bs h
        rcases cs h with ⟨b441, h⟩ | ⟨b441, h⟩
        · obtain ⟨y442, hy442, h⟩ := bs h
          exact At.rK [1, 2, 6, 7, 55] [0, 1] [oT 2 (rEl hy440), vT 4 (.bool y440.Come) (rElV T_retraceref20_Is.enc_len hy440 0 (by decide) (d := .bool y440.Come) (by rfl)), bT 6 b441, eT T_api_Ins.enc_len 10 hy442] fun _ _ i => ⟨(y442.Op != 1), h, i⟩
        · exact At.rK [1, 2, 6, 7, 55] [0, 1] [oT 2 (rEl hy440), vT 4 (.bool y440.Come) (rElV T_retraceref20_Is.enc_len hy440 0 (by decide) (d := .bool y440.Come) (by rfl)), bT 6 b441] fun _ _ i => ⟨false, h, i⟩
      · intro x349 h
        refine At.cd h (fun b350 h => ?_) (fun b350 h => ?_)
        · refine At.nR [1, 2, 6, 7] [0, 1] ?_
          refine At.exit (fun _ _ i => ⟨x229, h, i.en [] [1, 2, 6, 7] [0, 1]⟩)
        · refine At.nR [1, 2, 6, 7] [0, 1] ?_
          refine At.skip (norm ?_)
          refine At.seq ?_
          obtain ⟨y352, hy352, h⟩ := bs h
          refine At.rK (st' := ⟨[(1, i64 p1), (2, .ptr 0 0), (6, .row 1 (x229).length), (7, i64 x228)], [.blk 26 (T_api_Code.pvs p0), .row 71 3 (encL T_retraceref20_Is.enc (List.set x229 (Int.toNat x228) (⟨true, y352.N, y352.Choose⟩ : T_retraceref20_Is)))]⟩) [1, 2, 6, 7] [0, 1] [oT 2 (rEl hy352), tT 4 ({ form := some (0, encL T_retraceref20_Is.enc (List.set x229 (Int.toNat x228) (⟨true, y352.N, y352.Choose⟩ : T_retraceref20_Is))), obj := 1 }) (allc ((rSetM T_retraceref20_Is.enc_len hy352 0 (⟨true, y352.N, y352.Choose⟩ : T_retraceref20_Is) (vs := [.bool true]) (by rfl) (Nat.le_of_ble_eq_true rfl)).1) (allc ((rSetM T_retraceref20_Is.enc_len hy352 0 (⟨true, y352.N, y352.Choose⟩ : T_retraceref20_Is) (vs := [.bool true]) (by rfl) (Nat.le_of_ble_eq_true rfl)).2) all0))] (relen (st2 := ⟨[(1, i64 p1), (2, .ptr 0 0), (6, .row 1 ((List.set x229 (Int.toNat x228) (⟨true, y352.N, y352.Choose⟩ : T_retraceref20_Is))).length), (7, i64 x228)], [.blk 26 (T_api_Code.pvs p0), .row 71 3 (encL T_retraceref20_Is.enc (List.set x229 (Int.toNat x228) (⟨true, y352.N, y352.Choose⟩ : T_retraceref20_Is)))]⟩) (by simp only [List.length_set]) (norm ?_))
          obtain ⟨y354, hy354, h⟩ := bs h
          refine At.sR [1, 2, 6, 7, 8] [0, 1, 2] [eT T_api_Ins.enc_len 3 hy354] ?_
          refine At.seq ?_
          obtain ⟨y362, hy362, h⟩ := bs h
          obtain ⟨y363, hy363, h⟩ := bs h
          refine At.sD 0 [1, 2, 6, 7, 8, 71] [0, 1, 2] [oT 3 (rEl hy362), tT 4 ({ orc := .cells [.bool y362.Come, .int .i64 y362.N, .bool y362.Choose] }) (allc (rElC T_retraceref20_Is.enc_len hy362 0 3 (by decide) (by rfl)) all0), c0 5 (C_retraceref20_fits y354 y362 y363 hy363)] ?_
          refine At.cd h (fun b364 h => ?_) (fun b364 h => ?_)
          · refine At.sR [4, 5] [1] [] ?_
            obtain ⟨r365, h, e366⟩ := mr h
            rw [f231 _ e366] at h
            obtain rfl := sq h
            exact At.ret (At.rR hR [0])
          · refine At.nR [1, 2, 6, 7, 8] [0, 1, 2] ?_
            refine At.skip (norm ?_)
            refine At.seqJ (S := Int × Bool) (fun s => ⟨[(1, i64 p1), (2, .ptr 0 0), (6, .row 1 ((List.set x229 (Int.toNat x228) (⟨true, y352.N, y352.Choose⟩ : T_retraceref20_Is))).length), (7, i64 x228), (8, .ptr 2 0), (9, .ptr 3 0)], [.blk 26 (T_api_Code.pvs p0), .row 71 3 (encL T_retraceref20_Is.enc (List.set x229 (Int.toNat x228) (⟨true, y352.N, y352.Choose⟩ : T_retraceref20_Is))), .blk 35 (T_api_Ins.pvs y354), .blk 71 [bo true, i64 s.1, bo s.2]]⟩) (fun s => F_retraceref20_Flow_J3 x228 x229 y352 y354 s.1 s.2 = some oo230) ?_ ?_
            · obtain ⟨y435, hy435, h⟩ := bs h
              obtain ⟨y436, hy436, h⟩ := bs h
              obtain ⟨y437, hy437, h⟩ := bs h
              obtain ⟨y438, hy438, h⟩ := bs h
              rcases cs h with ⟨b439, h⟩ | ⟨b439, h⟩
              · exact At.dK 1 [1, 2, 6, 7, 8, 9] [0, 1, 2, 3] [oT 2 (rEl hy435), vT 4 (.int .i64 y435.N) (rElV T_retraceref20_Is.enc_len hy435 1 (by decide) (d := .int .i64 y435.N) (by rfl)), c0 6 (C_retraceref16_Takes y354 y436 hy436), c0 9 (C_retraceref16_Gives y354 y437 hy437), oT 13 (rEl hy438), vT 15 (.bool y438.Choose) (rElV T_retraceref20_Is.enc_len hy438 2 (by decide) (d := .bool y438.Choose) (by rfl)), bT 16 b439] fun _ _ i => ⟨((w64 ((w64 (y435.N - y436)) + y437)), true), h, i⟩
              · exact At.dK 1 [1, 2, 6, 7, 8, 9] [0, 1, 2, 3] [oT 2 (rEl hy435), vT 4 (.int .i64 y435.N) (rElV T_retraceref20_Is.enc_len hy435 1 (by decide) (d := .int .i64 y435.N) (by rfl)), c0 6 (C_retraceref16_Takes y354 y436 hy436), c0 9 (C_retraceref16_Gives y354 y437 hy437), oT 13 (rEl hy438), vT 15 (.bool y438.Choose) (rElV T_retraceref20_Is.enc_len hy438 2 (by decide) (d := .bool y438.Choose) (by rfl)), bT 16 b439] fun _ _ i => ⟨((w64 ((w64 (y435.N - y436)) + y437)), (y354.Op == 25)), h, i⟩
            · rintro ⟨x372, x373⟩ h
              replace h : F_retraceref20_Flow_J3 x228 x229 y352 y354 x372 x373 = some oo230 := h
              refine At.sR [1, 2, 6, 7, 8, 9, 10] [0, 1, 2, 3] [] ?_
              refine At.seqJ (S := Bool × (List T_retraceref20_Is)) (fun s => ⟨[(1, i64 p1), (2, .ptr 0 0), (6, .row 1 (s.2).length), (7, i64 x228), (8, .ptr 2 0), (9, .ptr 3 0), (10, bo s.1)], [.blk 26 (T_api_Code.pvs p0), .row 71 3 (encL T_retraceref20_Is.enc s.2), .blk 35 (T_api_Ins.pvs y354), .blk 71 [bo true, i64 x372, bo x373]]⟩) (fun s => F_retraceref20_Flow_J4 x228 y354 x372 x373 s.1 s.2 = some oo230) ?_ ?_
              · obtain ⟨y422, hy422, h⟩ := bs h
                refine At.sR [1, 2, 6, 7, 8, 9, 10, 11, 12] [0, 1, 2, 3] [c0 1 (C_retraceref20_target y354 y422 hy422)] ?_
                refine At.sR [1, 2, 6, 7, 8, 9, 10, 11, 101] [0, 1, 2, 3] [] ?_
                refine At.cd h (fun b423 h => ?_) (fun b423 h => ?_)
                · refine At.sR [1, 2, 6, 7, 8, 9, 11, 13] [0, 1, 2, 3, 4] [] ?_
                  refine At.seqJ (S := Int × Bool) (fun s => ⟨[(1, i64 p1), (2, .ptr 0 0), (6, .row 1 ((List.set x229 (Int.toNat x228) (⟨true, y352.N, y352.Choose⟩ : T_retraceref20_Is))).length), (7, i64 x228), (8, .ptr 2 0), (9, .ptr 3 0), (11, i64 y422.1), (13, .ptr 4 0)], [.blk 26 (T_api_Code.pvs p0), .row 71 3 (encL T_retraceref20_Is.enc (List.set x229 (Int.toNat x228) (⟨true, y352.N, y352.Choose⟩ : T_retraceref20_Is))), .blk 35 (T_api_Ins.pvs y354), .blk 71 [bo true, i64 x372, bo x373], .blk 71 [bo true, i64 s.1, bo s.2]]⟩) (fun s => F_retraceref20_Flow_J7 x228 x229 y352 y354 x372 x373 y422 s.1 s.2 = some oo230) ?_ ?_
                  · obtain ⟨y433, hy433, h⟩ := bs h
                    refine At.sR [1, 2, 6, 7, 8, 9, 11, 13, 105] [0, 1, 2, 3, 4] [c0 2 (C_retraceref20_Chooses y354.Op y433 hy433)] ?_
                    refine At.cd h (fun b434 h => ?_) (fun b434 h => ?_)
                    · exact At.rK [1, 2, 6, 7, 8, 9, 11, 13] [0, 1, 2, 3, 4] [] fun _ _ i => ⟨(0, false), h, i⟩
                    · refine At.nK (st' := ⟨[(1, i64 p1), (2, .ptr 0 0), (6, .row 1 ((List.set x229 (Int.toNat x228) (⟨true, y352.N, y352.Choose⟩ : T_retraceref20_Is))).length), (7, i64 x228), (8, .ptr 2 0), (9, .ptr 3 0), (11, i64 y422.1), (13, .ptr 4 0)], [.blk 26 (T_api_Code.pvs p0), .row 71 3 (encL T_retraceref20_Is.enc (List.set x229 (Int.toNat x228) (⟨true, y352.N, y352.Choose⟩ : T_retraceref20_Is))), .blk 35 (T_api_Ins.pvs y354), .blk 71 [bo true, i64 x372, bo x373], .blk 71 [bo true, i64 x372, bo x373]]⟩) [1, 2, 6, 7, 8, 9, 11, 13] [0, 1, 2, 3, 4] ?_
                      refine At.skip (fun _ _ i => ⟨(x372, x373), h, i⟩)
                  · rintro ⟨x427, x428⟩ h
                    replace h : F_retraceref20_Flow_J7 x228 x229 y352 y354 x372 x373 y422 x427 x428 = some oo230 := h
                    obtain ⟨y429, hy429, h⟩ := bs h
                    rcases y429 with y430 | y431
                    · exact At.rK [1, 2, 6, 7, 8, 9, 10] [0, 1, 2, 3] [cT 4 1 [1] (C_retraceref20_meets x228 y422.1 (⟨true, x427, x428⟩ : T_retraceref20_Is) (List.set x229 (Int.toNat x228) (⟨true, y352.N, y352.Choose⟩ : T_retraceref20_Is)) (.inl y430) hy429)] fun _ _ i => ⟨(y430.2, y430.1), h, i⟩
                    · exact At.rK [1, 2, 6, 7, 8, 9, 10] [0, 5, 2, 3] [cT 4 1 [1, 5] (C_retraceref20_meets x228 y422.1 (⟨true, x427, x428⟩ : T_retraceref20_Is) (List.set x229 (Int.toNat x228) (⟨true, y352.N, y352.Choose⟩ : T_retraceref20_Is)) (.inr y431) hy429)] fun _ _ i => ⟨(y431.2, y431.1), h, i⟩
                · refine At.nR [1, 2, 6, 7, 8, 9, 10] [0, 1, 2, 3] ?_
                  refine At.skip (fun _ _ i => ⟨(true, (List.set x229 (Int.toNat x228) (⟨true, y352.N, y352.Choose⟩ : T_retraceref20_Is))), h, i.en [] [1, 2, 6, 7, 8, 9, 10] [0, 1, 2, 3]⟩)
              · rintro ⟨x388, x389⟩ h
                replace h : F_retraceref20_Flow_J4 x228 y354 x372 x373 x388 x389 = some oo230 := h
                refine At.seq ?_
                refine At.sR [1, 2, 6, 7, 8, 9, 10, 116] [0, 1, 2, 3] [] ?_
                refine At.cd h (fun b391 h => ?_) (fun b391 h => ?_)
                · refine At.sR [4, 5] [1] [] ?_
                  obtain ⟨r392, h, e393⟩ := mr h
                  rw [f231 _ e393] at h
                  obtain rfl := sq h
                  exact At.ret (At.rR hR [0])
                · refine At.nR [1, 2, 6, 7, 8, 9, 10] [0, 1, 2, 3] ?_
                  refine At.skip (norm ?_)
                  refine At.seqJ (S := Bool × (List T_retraceref20_Is)) (fun s => ⟨[(1, i64 p1), (2, .ptr 0 0), (6, .row 1 (s.2).length), (7, i64 x228), (10, bo s.1)], [.blk 26 (T_api_Code.pvs p0), .row 71 3 (encL T_retraceref20_Is.enc s.2)]⟩) (fun s => F_retraceref20_Flow_J5 x228 s.1 s.2 = some oo230) ?_ ?_
                  · refine At.seqJ (S := Bool) (fun s => ⟨[(1, i64 p1), (2, .ptr 0 0), (6, .row 1 (x389).length), (7, i64 x228), (9, .ptr 2 0), (10, bo x388), (136, bo s)], [.blk 26 (T_api_Code.pvs p0), .row 71 3 (encL T_retraceref20_Is.enc x389), .blk 71 [bo true, i64 x372, bo x373]]⟩) (fun s => F_retraceref20_Flow_J6 x228 x372 x373 x388 x389 s = some oo230) ?_ ?_
                    · rcases cs h with ⟨b418, h⟩ | ⟨b418, h⟩
                      · rcases cs h with ⟨b419, h⟩ | ⟨b419, h⟩
                        · rcases cs h with ⟨b420, h⟩ | ⟨b420, h⟩
                          · exact At.rK [1, 2, 6, 7, 9, 10, 136] [0, 1, 3] [bT 3 b418, bT 8 b419, bT 13 b420] fun _ _ i => ⟨(y354.Op != 24), h, i⟩
                          · exact At.rK [1, 2, 6, 7, 9, 10, 136] [0, 1, 3] [bT 3 b418, bT 8 b419, bT 13 b420] fun _ _ i => ⟨false, h, i⟩
                        · exact At.rK [1, 2, 6, 7, 9, 10, 136] [0, 1, 3] [bT 3 b418, bT 8 b419] fun _ _ i => ⟨false, h, i⟩
                      · exact At.rK [1, 2, 6, 7, 9, 10, 136] [0, 1, 3] [bT 3 b418] fun _ _ i => ⟨false, h, i⟩
                    · intro x413 h
                      refine At.cd h (fun b414 h => ?_) (fun b414 h => ?_)
                      · obtain ⟨y415, hy415, h⟩ := bs h
                        rcases y415 with y416 | y417
                        · exact At.rK [1, 2, 6, 7, 10] [0, 1] [cT 5 1 [1] (C_retraceref20_meets x228 (w64 (x228 + 1)) (⟨true, x372, x373⟩ : T_retraceref20_Is) x389 (.inl y416) hy415)] fun _ _ i => ⟨(y416.2, y416.1), h, i⟩
                        · exact At.rK [1, 2, 6, 7, 10] [0, 3] [cT 5 1 [1, 3] (C_retraceref20_meets x228 (w64 (x228 + 1)) (⟨true, x372, x373⟩ : T_retraceref20_Is) x389 (.inr y417) hy415)] fun _ _ i => ⟨(y417.2, y417.1), h, i⟩
                      · refine At.nR [1, 2, 6, 7, 10] [0, 1] ?_
                        refine At.skip (fun _ _ i => ⟨(x388, x389), h, i.en [] [1, 2, 6, 7, 10] [0, 1]⟩)
                  · rintro ⟨x405, x406⟩ h
                    replace h : F_retraceref20_Flow_J5 x228 x405 x406 = some oo230 := h
                    refine At.sR [1, 2, 6, 7, 147] [0, 1] [] ?_
                    refine At.cd h (fun b407 h => ?_) (fun b407 h => ?_)
                    · refine At.sR [4, 5] [1] [] ?_
                      obtain ⟨r408, h, e409⟩ := mr h
                      rw [f231 _ e409] at h
                      obtain rfl := sq h
                      exact At.ret (At.rR hR [0])
                    · refine At.nR [1, 2, 6, 7] [0, 1] ?_
                      refine At.skip (fun _ _ i => ⟨x406, h, i.en [] [1, 2, 6, 7] [0, 1]⟩)
    · intro x337 h
      exact At.rK [1, 2, 6, 7] [0, 1] [] fun _ _ i => ⟨_, li h, i⟩
  · refine At.nR [6] [1] ?_
    obtain ⟨r443, h, e444⟩ := mr h
    rw [f231 _ e444] at h
    refine At.exit (norm ?_)
    refine At.sR [4, 5] [0] [] ?_
    obtain rfl := sq h
    exact At.ret (At.rR hR [0])
theorem C_retraceref20_Check (p0 : T_api_Code) (r : (List Int)) (h : F_retraceref20_Check p0 = some r) : FnOK Try.prog 17 [.agg (T_api_Code.pvs p0)] [] (.dagg (encL (eInt .i64) r)) [] [] := by
  refine fI Try.func17 rfl fun E gv R hR => ?_
  refine At.sR [1, 2] [0, 1] [] ?_
  refine At.seq ?_
  obtain ⟨y7, hy7, h⟩ := bs h
  refine At.sR [1, 2, 11] [0, 1] [c0 1 (C_retraceref20_tables p0 y7 hy7)] ?_
  refine At.cd h (fun b8 h => ?_) (fun b8 h => ?_)
  · obtain ⟨g10, h⟩ := gs h
    refine At.sR [2] [1] [oN 1 (allc (lenN (he_int .i64) ([0, 3] : List Int) g10.1) (allc (lenN (he_int .i64) (List.replicate 2 (0 : Int)) g10.2) all0))] ?_
    obtain ⟨g11, h⟩ := gs h
    obtain rfl := sq h
    exact At.ret (At.rQ hR [] (allc (lenN (he_int .i64) ([0, 3] : List Int) g11) all0))
  · refine At.nR [1, 2] [0, 1] ?_
    refine At.skip (norm ?_)
    refine At.sR [1, 2, 3] [0, 1] [] ?_
    refine At.seq ?_
    refine At.sR [1, 2, 3, 4] [0, 1] [] ?_
    refine At.block ?_
    refine At.nK (st' := ⟨[(1, .ptr 0 0), (2, .ptr 1 0), (3, i64 0), (4, i64 0)], [.blk 26 (T_api_Code.pvs p0), .dblk 42 (encL (eInt .i64) (List.replicate 2 (0 : Int)))]⟩) [1, 2, 3, 4] [0, 1] ?_
    refine At.lp (fun s : (Int × Int) => ⟨[(1, .ptr 0 0), (2, .ptr 1 0), (3, i64 s.1), (4, i64 s.2)], [.blk 26 (T_api_Code.pvs p0), .dblk 42 (encL (eInt .i64) (List.replicate 2 (0 : Int)))]⟩) h ?_
    rintro ⟨x108, x109⟩ oo110 h f111
    replace h : F_retraceref20_Check_L4 p0 x108 x109 = some oo110 := h
    refine At.seq ?_
    refine At.sR [1, 2, 3, 4, 17] [0, 1] [] ?_
    refine At.cd h (fun b113 h => ?_) (fun b113 h => ?_)
    · refine At.nR [1, 2, 3, 4] [0, 1] ?_
      refine At.skip (norm ?_)
      refine At.seq ?_
      refine At.block ?_
      obtain ⟨y158, hy158, h⟩ := bs h
      refine At.sR [1, 2, 3, 4, 5] [0, 1] [eT T_api_Def.enc_len 3 hy158] ?_
      refine At.block ?_
      refine At.nK (st' := ⟨[(1, .ptr 0 0), (2, .ptr 1 0), (3, i64 x108), (4, i64 x109), (5, i64 y158.Entry)], [.blk 26 (T_api_Code.pvs p0), .dblk 42 (encL (eInt .i64) (List.replicate 2 (0 : Int)))]⟩) [1, 2, 3, 4, 5] [0, 1] ?_
      refine At.lp (fun s : (Int × Int) => ⟨[(1, .ptr 0 0), (2, .ptr 1 0), (3, i64 s.1), (4, i64 x109), (5, i64 s.2)], [.blk 26 (T_api_Code.pvs p0), .dblk 42 (encL (eInt .i64) (List.replicate 2 (0 : Int)))]⟩) h ?_
      rintro ⟨x159, x160⟩ oo161 h f162
      replace h : F_retraceref20_Check_L2 p0 x109 x159 x160 = some oo161 := h
      refine At.seq ?_
      obtain ⟨y167, hy167, h⟩ := bs h
      refine At.sR [1, 2, 3, 4, 5, 30] [0, 1] [c0 3 (C_retraceref20_To p0 x109 y167 hy167)] ?_
      refine At.cd h (fun b168 h => ?_) (fun b168 h => ?_)
      · refine At.nR [1, 2, 3, 4, 5] [0, 1] ?_
        refine At.skip (norm ?_)
        refine At.seqJ (S := Int) (fun s => ⟨[(1, .ptr 0 0), (2, .ptr 1 0), (3, i64 s), (4, i64 x109), (5, i64 x160)], [.blk 26 (T_api_Code.pvs p0), .dblk 42 (encL (eInt .i64) (List.replicate 2 (0 : Int)))]⟩) (fun s => F_retraceref20_Check_J1 x160 s = some oo161) ?_ ?_
        · refine At.block ?_
          refine At.seq ?_
          obtain ⟨y189, hy189, h⟩ := bs h
          refine At.sR [1, 2, 3, 4, 5, 38] [0, 1] [c0 4 (C_retraceref20_may p0 x109 x160 x159 y189 hy189)] ?_
          refine At.cd h (fun b190 h => ?_) (fun b190 h => ?_)
          · obtain ⟨g192, h⟩ := gs h
            refine At.sR [2] [1] [oN 2 (allc (lenN (he_int .i64) ([x160, 15] : List Int) g192.1) (allc (lenN (he_int .i64) (List.replicate 2 (0 : Int)) g192.2) all0))] ?_
            obtain ⟨r193, h, e194⟩ := mr h
            rw [f162 _ e194] at h
            obtain ⟨r195, h, e196⟩ := mr h
            rw [f111 _ e196] at h
            obtain ⟨g197, h⟩ := gs h
            obtain rfl := sq h
            exact At.ret (At.rQ hR [] (allc (lenN (he_int .i64) ([x160, 15] : List Int) g197) all0))
          · refine At.nR [1, 2, 3, 4, 5] [0, 1] ?_
            refine At.skip (norm ?_)
            obtain ⟨y199, hy199, h⟩ := bs h
            refine At.sR [1, 2, 3, 4, 5, 47] [0, 1] [eT T_api_Ins.enc_len 3 hy199] ?_
            refine At.cd h (fun b200 h => ?_) (fun b200 h => ?_)
            · exact At.rK [1, 2, 3, 4, 5] [0, 1] [] fun _ _ i => ⟨(w64 (x159 + 1)), h, i⟩
            · refine At.nK (st' := ⟨[(1, .ptr 0 0), (2, .ptr 1 0), (3, i64 x159), (4, i64 x109), (5, i64 x160)], [.blk 26 (T_api_Code.pvs p0), .dblk 42 (encL (eInt .i64) (List.replicate 2 (0 : Int)))]⟩) [1, 2, 3, 4, 5] [0, 1] ?_
              refine At.skip (fun _ _ i => ⟨x159, h, i⟩)
        · intro x182 h
          exact At.rK [1, 2, 3, 4, 5] [0, 1] [] fun _ _ i => ⟨_, li h, i⟩
      · refine At.nR [1, 2, 3, 4] [0, 1] ?_
        obtain ⟨r201, h, e202⟩ := mr h
        rw [f162 _ e202] at h
        refine At.exit (norm ?_)
        exact At.rK [1, 2, 3, 4] [0, 1] [] fun _ _ i => ⟨_, li h, i⟩
    · refine At.nR [1, 2, 3] [0, 1] ?_
      obtain ⟨r203, h, e204⟩ := mr h
      rw [f111 _ e204] at h
      refine At.exit (norm ?_)
      refine At.seq ?_
      refine At.sR [1, 2, 53] [0, 1] [] ?_
      refine At.cd h (fun b208 h => ?_) (fun b208 h => ?_)
      · obtain ⟨g210, h⟩ := gs h
        refine At.sR [2] [1] [oN 1 (allc (lenN (he_int .i64) ([0, 3] : List Int) g210.1) (allc (lenN (he_int .i64) (List.replicate 2 (0 : Int)) g210.2) all0))] ?_
        obtain ⟨g211, h⟩ := gs h
        obtain rfl := sq h
        exact At.ret (At.rQ hR [] (allc (lenN (he_int .i64) ([0, 3] : List Int) g211) all0))
      · refine At.nR [1, 2] [0, 1] ?_
        refine At.skip (norm ?_)
        refine At.seq ?_
        refine At.sR [1, 2, 6] [0, 1] [] ?_
        refine At.block ?_
        refine At.nK (st' := ⟨[(1, .ptr 0 0), (2, .ptr 1 0), (6, i64 0)], [.blk 26 (T_api_Code.pvs p0), .dblk 42 (encL (eInt .i64) (List.replicate 2 (0 : Int)))]⟩) [1, 2, 6] [0, 1] ?_
        refine At.lp (fun s : (Int) => ⟨[(1, .ptr 0 0), (2, .ptr 1 0), (6, i64 s)], [.blk 26 (T_api_Code.pvs p0), .dblk 42 (encL (eInt .i64) (List.replicate 2 (0 : Int)))]⟩) h ?_
        intro x231 oo232 h f233
        replace h : F_retraceref20_Check_L3 p0 x231 = some oo232 := h
        refine At.seq ?_
        refine At.sR [1, 2, 6, 59] [0, 1] [] ?_
        refine At.cd h (fun b235 h => ?_) (fun b235 h => ?_)
        · refine At.nR [1, 2, 6] [0, 1] ?_
          refine At.skip (norm ?_)
          refine At.seq ?_
          refine At.block ?_
          obtain ⟨y242, hy242, h⟩ := bs h
          refine At.sR [1, 2, 6, 8] [0, 1] [cT 2 0 [2] (C_retraceref20_Flow p0 x231 y242 hy242)] ?_
          refine At.sR [1, 2, 6, 8, 69] [0, 1] [] ?_
          refine At.cd h (fun b243 h => ?_) (fun b243 h => ?_)
          · obtain ⟨g245, h⟩ := gs h
            refine At.sR [2] [1] [oN 2 (allc (lenN (he_int .i64) ([y242.2, 14] : List Int) g245.1) (allc (lenN (he_int .i64) (List.replicate 2 (0 : Int)) g245.2) all0))] ?_
            obtain ⟨r246, h, e247⟩ := mr h
            rw [f233 _ e247] at h
            obtain ⟨g248, h⟩ := gs h
            obtain rfl := sq h
            exact At.ret (At.rQ hR [] (allc (lenN (he_int .i64) ([y242.2, 14] : List Int) g248) all0))
          · refine At.nR [1, 2, 6] [0, 1] ?_
            refine At.skip (norm ?_)
            exact At.rK [1, 2, 6] [0, 1] [] fun _ _ i => ⟨_, li h, i⟩
        · refine At.nR [2] [1] ?_
          obtain ⟨r249, h, e250⟩ := mr h
          rw [f233 _ e250] at h
          refine At.exit (norm ?_)
          obtain ⟨g252, h⟩ := gs h
          refine At.sR [2] [0] [oN 1 (allc (lenN (he_int .i64) ([0, 0] : List Int) g252.1) (allc (lenN (he_int .i64) (List.replicate 2 (0 : Int)) g252.2) all0))] ?_
          obtain ⟨g253, h⟩ := gs h
          obtain rfl := sq h
          exact At.ret (At.rQ hR [] (allc (lenN (he_int .i64) ([0, 0] : List Int) g253) all0))
theorem C_retraceref20_Right (p0 : T_api_Code) (r : Bool) (h : F_retraceref20_Right p0 = some r) : FnOK Try.prog 13 [.agg (T_api_Code.pvs p0)] [] (bo r) [] [] := by
  refine fI Try.func13 rfl fun E gv R hR => ?_
  refine At.sR [1] [0] [] ?_
  obtain ⟨y3, hy3, h⟩ := bs h
  obtain ⟨g4, h⟩ := gs h
  refine At.sR [2] [] [c0 1 (C_retraceref20_Check p0 y3 hy3), tT 3 ({ orc := .val (.bool (y3 == ([0, 0] : List Int))) }) (allc (eqTwo_ok .i64 g4) (allc (twoOK .i64 g4) all0))] ?_
  obtain rfl := sq h
  exact At.ret (At.rR hR [])
theorem C_retracelaw20_CodeRests (p0 : T_api_Code) (r : Bool) (h : F_retracelaw20_CodeRests p0 = some r) : FnOK Try.prog 4 [.agg (T_api_Code.pvs p0)] [] (bo r) [] [] := by
  refine fI Try.func4 rfl fun E gv R hR => ?_
  refine At.sR [1] [0] [] ?_
  refine At.seq ?_
  refine At.seqJ (S := Bool) (fun s => ⟨[(1, .ptr 0 0), (14, bo s)], [.blk 26 (T_api_Code.pvs p0)]⟩) (fun s => F_retracelaw20_CodeRests_J1 p0 s = some r) ?_ ?_
  · obtain ⟨y184, hy184, h⟩ := bs h
    rcases cs h with ⟨b185, h⟩ | ⟨b185, h⟩
    · exact At.rK [1, 14] [0] [c0 1 (C_retracelaw20_large p0 y184 hy184), bT 2 b185] fun _ _ i => ⟨true, h, i⟩
    · obtain ⟨y186, hy186, h⟩ := bs h
      exact At.rK [1, 14] [0] [c0 1 (C_retracelaw20_large p0 y184 hy184), bT 2 b185, c0 4 (C_retraceref20_Right p0 y186 hy186)] fun _ _ i => ⟨(!y186), h, i⟩
  · intro x14 h
    refine At.cd h (fun b15 h => ?_) (fun b15 h => ?_)
    · obtain ⟨y17, hy17, h⟩ := bs h
      refine At.sR [2] [] [c0 0 (C_retracelaw20_live y17 hy17)] ?_
      obtain rfl := sq h
      exact At.ret (At.rR hR [])
    · refine At.nR [1] [0] ?_
      refine At.skip (norm ?_)
      refine At.seq ?_
      obtain ⟨y22, hy22, h⟩ := bs h
      refine At.sR [1, 4] [0] [c0 1 (C_code_Check p0 y22 hy22)] ?_
      refine At.sR [1, 22] [0] [] ?_
      refine At.cd h (fun b23 h => ?_) (fun b23 h => ?_)
      · refine At.sR [2] [] [] ?_
        obtain rfl := sq h
        exact At.ret (At.rR hR [])
      · refine At.nR [1] [0] ?_
        refine At.skip (norm ?_)
        refine At.seq ?_
        refine At.sR [1, 5] [0] [] ?_
        refine At.block ?_
        refine At.nK (st' := ⟨[(1, .ptr 0 0), (5, i64 0)], [.blk 26 (T_api_Code.pvs p0)]⟩) [1, 5] [0] ?_
        refine At.lp (fun s : (Int) => ⟨[(1, .ptr 0 0), (5, i64 s)], [.blk 26 (T_api_Code.pvs p0)]⟩) h ?_
        intro x103 oo104 h f105
        replace h : F_retracelaw20_CodeRests_L6 p0 x103 = some oo104 := h
        refine At.seq ?_
        refine At.sR [1, 5, 27] [0] [] ?_
        refine At.cd h (fun b107 h => ?_) (fun b107 h => ?_)
        · refine At.nR [1, 5] [0] ?_
          refine At.skip (norm ?_)
          refine At.seqJ (S := Unit) (fun s => ⟨[(1, .ptr 0 0), (5, i64 x103)], [.blk 26 (T_api_Code.pvs p0)]⟩) (fun s => F_retracelaw20_CodeRests_J2 x103 = some oo104) ?_ ?_
          · refine At.block ?_
            obtain ⟨y144, hy144, h⟩ := bs h
            refine At.sR [1, 5, 6] [0, 1] [eT T_api_Ins.enc_len 3 hy144] ?_
            refine At.seq ?_
            refine At.seqJ (S := Bool) (fun s => ⟨[(1, .ptr 0 0), (5, i64 x103), (6, .ptr 1 0), (43, bo s)], [.blk 26 (T_api_Code.pvs p0), .blk 35 (T_api_Ins.pvs y144)]⟩) (fun s => F_retracelaw20_CodeRests_J3 p0 x103 y144 s = some oo104) ?_ ?_
            · obtain ⟨y178, hy178, h⟩ := bs h
              rcases cs h with ⟨b179, h⟩ | ⟨b179, h⟩
              · exact At.rK [1, 5, 6, 43] [0, 1] [c0 2 (C_retraceref20_Acts y144.Op y178 hy178), bT 4 b179] fun _ _ i => ⟨(y144.Op != 6), h, i⟩
              · exact At.rK [1, 5, 6, 43] [0, 1] [c0 2 (C_retraceref20_Acts y144.Op y178 hy178), bT 4 b179] fun _ _ i => ⟨false, h, i⟩
            · intro x153 h
              refine At.cd h (fun b154 h => ?_) (fun b154 h => ?_)
              · refine At.nR [1, 5] [0] ?_
                refine At.exit (fun _ _ i => ⟨(), h, i.en [] [1, 5] [0]⟩)
              · refine At.nR [1, 5, 6] [0, 1] ?_
                refine At.skip (norm ?_)
                obtain ⟨y156, hy156, h⟩ := bs h
                refine At.sR [1, 5, 6, 7] [0, 1] [c0 3 (C_code_Settle p0 (w64 (x103 + 1)) y156 hy156)] ?_
                refine At.seqJ (S := Int) (fun s => ⟨[(1, .ptr 0 0), (5, i64 x103), (7, i64 s)], [.blk 26 (T_api_Code.pvs p0)]⟩) (fun s => F_retracelaw20_CodeRests_J4 p0 x103 s = some oo104) ?_ ?_
                · refine At.sR [1, 5, 7, 50] [0] [] ?_
                  refine At.cd h (fun b176 h => ?_) (fun b176 h => ?_)
                  · obtain ⟨y177, hy177, h⟩ := bs h
                    exact At.rK [1, 5, 7] [0] [c0 2 (C_code_Settle p0 x103 y177 hy177)] fun _ _ i => ⟨y177, h, i⟩
                  · refine At.nR [1, 5, 7] [0] ?_
                    refine At.skip (fun _ _ i => ⟨y156, h, i.en [] [1, 5, 7] [0]⟩)
                · intro x159 h
                  refine At.seqJ (S := Bool) (fun s => ⟨[(1, .ptr 0 0), (5, i64 x103), (80, bo s)], [.blk 26 (T_api_Code.pvs p0)]⟩) (fun s => F_retracelaw20_CodeRests_J5 x103 s = some oo104) ?_ ?_
                  · rcases cs h with ⟨b170, h⟩ | ⟨b170, h⟩
                    · exact At.dK 0 [1, 5, 80] [0] [bT 2 b170] fun _ _ i => ⟨true, h, i⟩
                    · rcases cs h with ⟨b171, h⟩ | ⟨b171, h⟩
                      · exact At.dK 0 [1, 5, 80] [0] [bT 2 b170, bT 9 b171] fun _ _ i => ⟨true, h, i⟩
                      · obtain ⟨y172, hy172, h⟩ := bs h
                        rcases cs h with ⟨b173, h⟩ | ⟨b173, h⟩
                        · exact At.dK 0 [1, 5, 80] [0] [bT 2 b170, bT 9 b171, eT T_api_Ins.enc_len 13 hy172, bT 18 b173] fun _ _ i => ⟨true, h, i⟩
                        · obtain ⟨y174, hy174, h⟩ := bs h
                          obtain ⟨y175, hy175, h⟩ := bs h
                          exact At.dK 0 [1, 5, 80] [0] [bT 2 b170, bT 9 b171, eT T_api_Ins.enc_len 13 hy172, bT 18 b173, c0 21 (C_code_Routine p0 x159 y174 hy174), c0 24 (C_code_Routine p0 x103 y175 hy175)] fun _ _ i => ⟨(y174 != y175), h, i⟩
                  · intro x166 h
                    refine At.cd h (fun b167 h => ?_) (fun b167 h => ?_)
                    · refine At.sR [2] [] [] ?_
                      obtain ⟨r168, h, e169⟩ := mr h
                      rw [f105 _ e169] at h
                      obtain rfl := sq h
                      exact At.ret (At.rR hR [])
                    · refine At.nR [1, 5] [0] ?_
                      refine At.skip (fun _ _ i => ⟨(), h, i.en [] [1, 5] [0]⟩)
          · intro _ h
            exact At.rK [1, 5] [0] [] fun _ _ i => ⟨_, li h, i⟩
        · refine At.nR [] [] ?_
          obtain ⟨r180, h, e181⟩ := mr h
          rw [f105 _ e181] at h
          refine At.exit (norm ?_)
          obtain ⟨y183, hy183, h⟩ := bs h
          refine At.sR [2] [] [c0 0 (C_retracelaw20_live y183 hy183)] ?_
          obtain rfl := sq h
          exact At.ret (At.rR hR [])
end Go.Ab
