/- GI1 -/
import Derived.Test.YtjdkbdiagjlaiaaGreatGI
namespace Go.Ab
open Go.Proofs
set_option linter.unusedVariables false
set_option maxRecDepth 100000
theorem C_retraceref08_Digit (p0 : Int) (r : Bool) (h : F_retraceref08_Digit p0 = some r) : FnOK Tryz.prog 124 [u8 p0] [] (bo r) [] [] := by
  refine fI Tryz.func124 rfl fun E gv R hR => ?_
  refine At.sR [0] [] [] ?_
  refine At.seqJ (S := Bool) (fun s => ⟨[(2, bo s)], []⟩) (fun s => F_retraceref08_Digit_J1 s = some r) ?_ ?_
  · rcases cs h with ⟨b3, h⟩ | ⟨b3, h⟩
    · exact At.rK [2] [] [bT 2 b3] fun _ _ i => ⟨(decide (p0 ≤ 57)), h, i⟩
    · exact At.rK [2] [] [bT 2 b3] fun _ _ i => ⟨false, h, i⟩
  · intro x2 h
    obtain rfl := sq h
    exact At.ret (At.rR hR [])
theorem C_retraceref08_Letter (p0 : Int) (r : Bool) (h : F_retraceref08_Letter p0 = some r) : FnOK Tryz.prog 123 [u8 p0] [] (bo r) [] [] := by
  refine fI Tryz.func123 rfl fun E gv R hR => ?_
  refine At.sR [0] [] [] ?_
  refine At.seqJ (S := Bool) (fun s => ⟨[(2, bo s)], []⟩) (fun s => F_retraceref08_Letter_J1 s = some r) ?_ ?_
  · rcases cs h with ⟨b8, h⟩ | ⟨b8, h⟩
    · rcases cs h with ⟨b9, h⟩ | ⟨b9, h⟩
      · exact At.rK [2] [] [bT 2 b8, bT 6 b9] fun _ _ i => ⟨true, h, i⟩
      · rcases cs h with ⟨b10, h⟩ | ⟨b10, h⟩
        · rcases cs h with ⟨b11, h⟩ | ⟨b11, h⟩
          · exact At.rK [2] [] [bT 2 b8, bT 6 b9, bT 9 b10, bT 14 b11] fun _ _ i => ⟨true, h, i⟩
          · exact At.rK [2] [] [bT 2 b8, bT 6 b9, bT 9 b10, bT 14 b11] fun _ _ i => ⟨(p0 == 95), h, i⟩
        · exact At.rK [2] [] [bT 2 b8, bT 6 b9, bT 9 b10] fun _ _ i => ⟨(p0 == 95), h, i⟩
    · rcases cs h with ⟨b12, h⟩ | ⟨b12, h⟩
      · rcases cs h with ⟨b13, h⟩ | ⟨b13, h⟩
        · exact At.rK [2] [] [bT 2 b8, bT 9 b12, bT 14 b13] fun _ _ i => ⟨true, h, i⟩
        · exact At.rK [2] [] [bT 2 b8, bT 9 b12, bT 14 b13] fun _ _ i => ⟨(p0 == 95), h, i⟩
      · exact At.rK [2] [] [bT 2 b8, bT 9 b12] fun _ _ i => ⟨(p0 == 95), h, i⟩
  · intro x7 h
    obtain rfl := sq h
    exact At.ret (At.rR hR [])
theorem C_retraceref08_Words  (r : (List ByteArray)) (h : F_retraceref08_Words  = some r) : FnOK Tryz.prog 126 [] [] (.row 0 (r).length) [.row 9 1 (encL eStr r)] [] := by
  refine fI Tryz.func126 rfl fun E gv R hR => ?_
  refine At.sR [] [] [] ?_
  refine At.sR [0] [0] [] ?_
  obtain rfl := sq h
  exact At.ret (At.rR hR [0])
theorem C_retraceref08_In (p1 : ByteArray) (o0 : (List ByteArray)) (r : Bool) (h : F_retraceref08_In p1 o0 = some r) : FnOK Tryz.prog 125 [.row 0 (o0).length, sv p1] [.row 9 1 (encL eStr o0)] (bo r) [.row 9 1 (encL eStr o0)] [0] := by
  refine fI Tryz.func125 rfl fun E gv R hR => ?_
  refine At.sR [0, 1] [0, 1] [] ?_
  refine At.seq ?_
  refine At.sR [0, 1, 5] [0, 1] [] ?_
  refine At.block ?_
  refine At.nK (st' := ⟨[(0, .row 0 (o0).length), (1, sv p1), (5, i64 0)], [.row 9 1 (encL eStr o0), .ghost (gv 0) (.row 0 0)]⟩) [0, 1, 5] [0, 1] ?_
  refine At.lp (fun s : (Int) => ⟨[(0, .row 0 (o0).length), (1, sv p1), (5, i64 s)], [.row 9 1 (encL eStr o0), .ghost (gv 0) (.row 0 0)]⟩) h ?_
  intro x16 oo17 h f18
  replace h : F_retraceref08_In_L1 p1 o0 x16 = some oo17 := h
  refine At.seq ?_
  refine At.sR [0, 1, 5, 9] [0, 1] [] ?_
  refine At.cd h (fun b20 h => ?_) (fun b20 h => ?_)
  · refine At.nR [0, 1, 5] [0, 1] ?_
    refine At.skip (norm ?_)
    refine At.seq ?_
    refine At.block ?_
    obtain ⟨y25, hy25, h⟩ := bs h
    refine At.sR [0, 1, 5, 17] [0, 1] [oT 2 ((rAt_of he_str (d := .str y25) hy25 rfl).1), vT 3 (.str y25) ((rAt_of he_str (d := .str y25) hy25 rfl).2)] ?_
    refine At.cd h (fun b26 h => ?_) (fun b26 h => ?_)
    · refine At.sR [4] [0, 1] [] ?_
      obtain ⟨r27, h, e28⟩ := mr h
      rw [f18 _ e28] at h
      obtain rfl := sq h
      exact At.ret (At.rR hR [0])
    · refine At.nR [0, 1, 5] [0, 1] ?_
      refine At.skip (norm ?_)
      exact At.rK [0, 1, 5] [0, 1] [] fun _ _ i => ⟨_, li h, i⟩
  · refine At.nR [] [0, 1] ?_
    obtain ⟨r29, h, e30⟩ := mr h
    rw [f18 _ e30] at h
    refine At.exit (norm ?_)
    refine At.sR [4] [0, 1] [] ?_
    obtain rfl := sq h
    exact At.ret (At.rR hR [0])
theorem C_retraceref08_Name (p0 : ByteArray) (r : Bool) (h : F_retraceref08_Name p0 = some r) : FnOK Tryz.prog 79 [sv p0] [] (bo r) [] [] := by
  refine fI Tryz.func79 rfl fun E gv R hR => ?_
  refine At.sR [0] [] [] ?_
  refine At.seq ?_
  refine At.sR [0, 3] [] [] ?_
  refine At.block ?_
  refine At.nK (st' := ⟨[(0, sv p0), (3, i64 0)], []⟩) [0, 3] [] ?_
  refine At.lp (fun s : (Int) => ⟨[(0, sv p0), (3, i64 s)], []⟩) h ?_
  intro x38 oo39 h f40
  replace h : F_retraceref08_Name_L3 p0 x38 = some oo39 := h
  refine At.seq ?_
  refine At.sR [0, 3, 7] [] [] ?_
  refine At.cd h (fun b42 h => ?_) (fun b42 h => ?_)
  · refine At.nR [0, 3] [] ?_
    refine At.skip (norm ?_)
    refine At.seq ?_
    refine At.block ?_
    refine At.seqJ (S := Bool) (fun s => ⟨[(0, sv p0), (3, i64 x38), (25, bo s)], []⟩) (fun s => F_retraceref08_Name_J1 x38 s = some oo39) ?_ ?_
    · obtain ⟨y67, hy67, h⟩ := bs h
      obtain ⟨y68, hy68, h⟩ := bs h
      rcases cs h with ⟨b69, h⟩ | ⟨b69, h⟩
      · rcases cs h with ⟨b70, h⟩ | ⟨b70, h⟩
        · exact At.rK [0, 3, 25] [] [sT 2 hy67, c0 3 (C_retraceref08_Letter y67 y68 hy68), bT 5 b69, bT 8 b70] fun _ _ i => ⟨true, h, i⟩
        · obtain ⟨y71, hy71, h⟩ := bs h
          obtain ⟨y72, hy72, h⟩ := bs h
          exact At.rK [0, 3, 25] [] [sT 2 hy67, c0 3 (C_retraceref08_Letter y67 y68 hy68), bT 5 b69, bT 8 b70, sT 11 hy71, c0 12 (C_retraceref08_Digit y71 y72 hy72)] fun _ _ i => ⟨(!y72), h, i⟩
      · exact At.rK [0, 3, 25] [] [sT 2 hy67, c0 3 (C_retraceref08_Letter y67 y68 hy68), bT 5 b69] fun _ _ i => ⟨false, h, i⟩
    · intro x63 h
      refine At.cd h (fun b64 h => ?_) (fun b64 h => ?_)
      · refine At.sR [2] [] [] ?_
        obtain ⟨r65, h, e66⟩ := mr h
        rw [f40 _ e66] at h
        obtain rfl := sq h
        exact At.ret (At.rR hR [])
      · refine At.nR [0, 3] [] ?_
        refine At.skip (norm ?_)
        exact At.rK [0, 3] [] [] fun _ _ i => ⟨_, li h, i⟩
  · refine At.nR [0] [] ?_
    obtain ⟨r73, h, e74⟩ := mr h
    rw [f40 _ e74] at h
    refine At.exit (norm ?_)
    refine At.seqJ (S := Bool) (fun s => ⟨[(2, bo s)], []⟩) (fun s => F_retraceref08_Name_J2 s = some r) ?_ ?_
    · rcases cs h with ⟨b80, h⟩ | ⟨b80, h⟩
      · rcases cs h with ⟨b81, h⟩ | ⟨b81, h⟩
        · obtain ⟨y82, hy82, h⟩ := bs h
          obtain ⟨y83, hy83, h⟩ := bs h
          exact At.rK [2] [] [bT 3 b80, bT 8 b81, cT 9 0 [0] (C_retraceref08_Words y82 hy82), cT 11 1 [0] (C_retraceref08_In p0 y82 y83 hy83)] fun _ _ i => ⟨(!y83), h, i⟩
        · exact At.rK [2] [] [bT 3 b80, bT 8 b81] fun _ _ i => ⟨false, h, i⟩
      · exact At.rK [2] [] [bT 3 b80] fun _ _ i => ⟨false, h, i⟩
    · intro x79 h
      obtain rfl := sq h
      exact At.ret (At.rR hR [])
theorem C_retraceref17_Which (p0 : Int) (r : Int) (h : F_retraceref17_Which p0 = some r) : FnOK Tryz.prog 127 [i64 p0] [] (i64 r) [] [] := by
  refine fI Tryz.func127 rfl fun E gv R hR => ?_
  refine At.sR [0] [] [] ?_
  refine At.seq ?_
  refine At.sR [0, 4] [] [] ?_
  refine At.cd h (fun b2 h => ?_) (fun b2 h => ?_)
  · refine At.sR [2] [] [] ?_
    obtain rfl := sq h
    exact At.ret (At.rR hR [])
  · refine At.nR [0] [] ?_
    refine At.skip (norm ?_)
    refine At.seq ?_
    refine At.seqJ (S := Bool) (fun s => ⟨[(26, bo s)], []⟩) (fun s => F_retraceref17_Which_J1 s = some r) ?_ ?_
    · rcases cs h with ⟨b22, h⟩ | ⟨b22, h⟩
      · exact At.rK [26] [] [bT 2 b22] fun _ _ i => ⟨true, h, i⟩
      · rcases cs h with ⟨b23, h⟩ | ⟨b23, h⟩
        · exact At.rK [26] [] [bT 2 b22, bT 6 b23] fun _ _ i => ⟨true, h, i⟩
        · rcases cs h with ⟨b24, h⟩ | ⟨b24, h⟩
          · exact At.rK [26] [] [bT 2 b22, bT 6 b23, bT 10 b24] fun _ _ i => ⟨true, h, i⟩
          · rcases cs h with ⟨b25, h⟩ | ⟨b25, h⟩
            · exact At.rK [26] [] [bT 2 b22, bT 6 b23, bT 10 b24, bT 14 b25] fun _ _ i => ⟨true, h, i⟩
            · rcases cs h with ⟨b26, h⟩ | ⟨b26, h⟩
              · exact At.rK [26] [] [bT 2 b22, bT 6 b23, bT 10 b24, bT 14 b25, bT 18 b26] fun _ _ i => ⟨true, h, i⟩
              · exact At.rK [26] [] [bT 2 b22, bT 6 b23, bT 10 b24, bT 14 b25, bT 18 b26] fun _ _ i => ⟨(p0 == 22), h, i⟩
    · intro x20 h
      refine At.cd h (fun b21 h => ?_) (fun b21 h => ?_)
      · refine At.sR [2] [] [] ?_
        obtain rfl := sq h
        exact At.ret (At.rR hR [])
      · refine At.nR [] [] ?_
        refine At.skip (norm ?_)
        refine At.sR [2] [] [] ?_
        obtain rfl := sq h
        exact At.ret (At.rR hR [])
theorem ran_Text : cF Tryz.prog [] 60 true 20 [.d (.str ⟨#[109, 97, 105, 110, 32, 123, 32, 125]⟩)] = some (.agg [.d (.list false 1 [.int .i64 24, .int .i64 0, .int .i64 0]), .d (.list false 1 [.str ⟨#[109, 97, 105, 110]⟩, .int .i64 0, .int .i64 0, .int .i64 0]), .d (.list true 0 []), i64 0, i64 0, i64 0, i64 0], []) := by kernel_rfl
theorem C_retraceref19_Text (p0 : ByteArray) (r : T_retraceref19_Got) (h : F_retraceref19_Text p0 = some r) : FnOK Tryz.prog 20 [sv p0] [] (.agg (T_retraceref19_Got.pvs r)) [] [] :=
  ran_ok (tbl := []) (fun t h => by cases h) (pv := fun r => .agg (T_retraceref19_Got.pvs r)) ran_Text rfl h
theorem C_token_letter (p0 : Int) (r : Bool) (h : F_token_letter p0 = some r) : FnOK Tryz.prog 143 [u8 p0] [] (bo r) [] [] := by
  refine fI Tryz.func143 rfl fun E gv R hR => ?_
  refine At.sR [0] [] [] ?_
  refine At.seqJ (S := Bool) (fun s => ⟨[(2, bo s)], []⟩) (fun s => F_token_letter_J1 s = some r) ?_ ?_
  · rcases cs h with ⟨b4, h⟩ | ⟨b4, h⟩
    · exact At.rK [2] [] [bT 2 b4] fun _ _ i => ⟨true, h, i⟩
    · rcases cs h with ⟨b5, h⟩ | ⟨b5, h⟩
      · exact At.rK [2] [] [bT 2 b4, bT 6 b5] fun _ _ i => ⟨(decide ((bits .or .u8 p0 32) ≤ 122)), h, i⟩
      · exact At.rK [2] [] [bT 2 b4, bT 6 b5] fun _ _ i => ⟨false, h, i⟩
  · intro x3 h
    obtain rfl := sq h
    exact At.ret (At.rR hR [])
theorem C_token_digit (p0 : Int) (r : Bool) (h : F_token_digit p0 = some r) : FnOK Tryz.prog 175 [u8 p0] [] (bo r) [] [] := by
  refine fI Tryz.func175 rfl fun E gv R hR => ?_
  refine At.sR [0] [] [] ?_
  refine At.seqJ (S := Bool) (fun s => ⟨[(2, bo s)], []⟩) (fun s => F_token_digit_J1 s = some r) ?_ ?_
  · rcases cs h with ⟨b3, h⟩ | ⟨b3, h⟩
    · exact At.rK [2] [] [bT 2 b3] fun _ _ i => ⟨(decide (p0 ≤ 57)), h, i⟩
    · exact At.rK [2] [] [bT 2 b3] fun _ _ i => ⟨false, h, i⟩
  · intro x2 h
    obtain rfl := sq h
    exact At.ret (At.rR hR [])
theorem C_token_wordly (p0 : Int) (r : Bool) (h : F_token_wordly p0 = some r) : FnOK Tryz.prog 145 [u8 p0] [] (bo r) [] [] := by
  refine fI Tryz.func145 rfl fun E gv R hR => ?_
  refine At.sR [0] [] [] ?_
  refine At.seqJ (S := Bool) (fun s => ⟨[(2, bo s)], []⟩) (fun s => F_token_wordly_J1 s = some r) ?_ ?_
  · obtain ⟨y5, hy5, h⟩ := bs h
    rcases cs h with ⟨b6, h⟩ | ⟨b6, h⟩
    · exact At.rK [2] [] [c0 1 (C_token_letter p0 y5 hy5), bT 2 b6] fun _ _ i => ⟨true, h, i⟩
    · obtain ⟨y7, hy7, h⟩ := bs h
      exact At.rK [2] [] [c0 1 (C_token_letter p0 y5 hy5), bT 2 b6, c0 4 (C_token_digit p0 y7 hy7)] fun _ _ i => ⟨y7, h, i⟩
  · intro x4 h
    obtain rfl := sq h
    exact At.ret (At.rR hR [])
theorem C_token_run (p0 : ByteArray) (r : ByteArray) (h : F_token_run p0 = some r) : FnOK Tryz.prog 144 [sv p0, .fn (.func 145) [] []] [] (sv r) [] [] := by
  refine fI Tryz.func144 rfl fun E gv R hR => ?_
  refine At.sR [0, 1] [] [] ?_
  refine At.seq ?_
  refine At.sR [0, 1, 7, 8] [] [] ?_
  refine At.block ?_
  refine At.nK (st' := ⟨[(0, sv p0), (1, .fn (.func 145) [] []), (7, i64 (p0.size : Int)), (8, i64 0)], []⟩) [0, 1, 7, 8] [] ?_
  refine At.lp (fun s : (Int) => ⟨[(0, sv p0), (1, .fn (.func 145) [] []), (7, i64 (p0.size : Int)), (8, i64 s)], []⟩) h ?_
  intro x24 oo25 h f26
  replace h : F_token_run_L1 p0 x24 = some oo25 := h
  refine At.sR [0, 1, 7, 8, 9] [] [] ?_
  refine At.seq ?_
  refine At.cd h (fun b28 h => ?_) (fun b28 h => ?_)
  · refine At.nR [0, 1, 7, 8] [] ?_
    refine At.skip (norm ?_)
    refine At.seq ?_
    refine At.block ?_
    refine At.sR [0, 1, 5, 7, 8] [] [] ?_
    obtain ⟨y38, hy38, h⟩ := bs h
    obtain ⟨y39, hy39, h⟩ := bs h
    refine At.sR [0, 1, 5, 7, 8, 16] [] [sT 3 hy38, c0 4 (C_token_wordly y38 y39 hy39)] ?_
    refine At.cd h (fun b40 h => ?_) (fun b40 h => ?_)
    · obtain ⟨g42, h⟩ := gs h
      refine At.sR [4] [] [oT 2 g42] ?_
      obtain ⟨r43, h, e44⟩ := mr h
      rw [f26 _ e44] at h
      obtain rfl := sq h
      exact At.ret (At.rR hR [])
    · refine At.nR [0, 1, 7, 8] [] ?_
      refine At.skip (norm ?_)
      exact At.rK [0, 1, 7, 8] [] [] fun _ _ i => ⟨_, li h, i⟩
  · refine At.nR [0] [] ?_
    obtain ⟨r45, h, e46⟩ := mr h
    rw [f26 _ e46] at h
    refine At.exit (norm ?_)
    refine At.sR [4] [] [] ?_
    obtain rfl := sq h
    exact At.ret (At.rR hR [])
theorem C_token_words  (r : (List ByteArray)) (h : F_token_words  = some r) : FnOK Tryz.prog 177 [] [] (.row 0 (r).length) [.row 9 1 (encL eStr r)] [] := by
  refine fI Tryz.func177 rfl fun E gv R hR => ?_
  refine At.sR [] [] [] ?_
  refine At.sR [0] [0] [] ?_
  obtain rfl := sq h
  exact At.ret (At.rR hR [0])
theorem C_cmp_isNaN_string (p0 : ByteArray) (r : Bool) (h : F_cmp_isNaN_string p0 = some r) : FnOK Tryz.prog 205 [sv p0] [] (bo r) [] [] := by
  refine fI Tryz.func205 rfl fun E gv R hR => ?_
  refine At.sR [0] [] [] ?_
  refine At.sR [2] [] [] ?_
  obtain rfl := sq h
  exact At.ret (At.rR hR [])
theorem C_cmp_Less_string (p0 : ByteArray) (p1 : ByteArray) (r : Bool) (h : F_cmp_Less_string p0 p1 = some r) : FnOK Tryz.prog 192 [sv p0, sv p1] [] (bo r) [] [] := by
  refine fI Tryz.func192 rfl fun E gv R hR => ?_
  refine At.sR [0, 1] [] [] ?_
  refine At.seqJ (S := Bool) (fun s => ⟨[(4, bo s)], []⟩) (fun s => F_cmp_Less_string_J1 s = some r) ?_ ?_
  · obtain ⟨y6, hy6, h⟩ := bs h
    rcases cs h with ⟨b7, h⟩ | ⟨b7, h⟩
    · obtain ⟨y8, hy8, h⟩ := bs h
      rcases cs h with ⟨b9, h⟩ | ⟨b9, h⟩
      · exact At.rK [4] [] [c0 1 (C_cmp_isNaN_string p0 y6 hy6), bT 2 b7, c0 4 (C_cmp_isNaN_string p1 y8 hy8), bT 7 b9] fun _ _ i => ⟨true, h, i⟩
      · exact At.rK [4] [] [c0 1 (C_cmp_isNaN_string p0 y6 hy6), bT 2 b7, c0 4 (C_cmp_isNaN_string p1 y8 hy8), bT 7 b9] fun _ _ i => ⟨(sLt p0 p1), h, i⟩
    · exact At.rK [4] [] [c0 1 (C_cmp_isNaN_string p0 y6 hy6), bT 2 b7] fun _ _ i => ⟨(sLt p0 p1), h, i⟩
  · intro x5 h
    obtain rfl := sq h
    exact At.ret (At.rR hR [])
theorem C_slices_isNaN_string (p0 : ByteArray) (r : Bool) (h : F_slices_isNaN_string p0 = some r) : FnOK Tryz.prog 193 [sv p0] [] (bo r) [] [] := by
  refine fI Tryz.func193 rfl fun E gv R hR => ?_
  refine At.sR [0] [] [] ?_
  refine At.sR [2] [] [] ?_
  obtain rfl := sq h
  exact At.ret (At.rR hR [])
theorem C_slices_BinarySearch_string_string (p1 : ByteArray) (o0 : (List ByteArray)) (r : Int × Bool) (h : F_slices_BinarySearch_string_string p1 o0 = some r) : FnOK Tryz.prog 176 [.row 0 (o0).length, sv p1] [.row 9 1 (encL eStr o0)] (.tup [i64 r.1, bo r.2]) [.row 9 1 (encL eStr o0)] [0] := by
  refine fI Tryz.func176 rfl fun E gv R hR => ?_
  refine At.sR [0, 1] [0, 1] [] ?_
  refine At.sR [0, 1, 6] [0, 1] [] ?_
  refine At.sR [0, 1, 6, 7, 8] [0, 1] [] ?_
  refine At.seq ?_
  refine At.block ?_
  refine At.nK (st' := ⟨[(0, .row 0 (o0).length), (1, sv p1), (6, i64 ((o0).length : Int)), (7, i64 0), (8, i64 ((o0).length : Int))], [.row 9 1 (encL eStr o0), .ghost (gv 0) (.row 0 0)]⟩) [0, 1, 6, 7, 8] [0, 1] ?_
  refine At.lp (fun s : (Int × Int) => ⟨[(0, .row 0 (o0).length), (1, sv p1), (6, i64 ((o0).length : Int)), (7, i64 s.1), (8, i64 s.2)], [.row 9 1 (encL eStr o0), .ghost (gv 0) (.row 0 0)]⟩) h ?_
  rintro ⟨x14, x15⟩ oo16 h f17
  replace h : F_slices_BinarySearch_string_string_L2 p1 o0 x14 x15 = some oo16 := h
  refine At.seq ?_
  refine At.sR [0, 1, 6, 7, 8, 15] [0, 1] [] ?_
  refine At.cd h (fun b19 h => ?_) (fun b19 h => ?_)
  · refine At.nR [0, 1, 6, 7, 8] [0, 1] ?_
    refine At.skip (norm ?_)
    refine At.block ?_
    refine At.sR [0, 1, 6, 7, 8, 9] [0, 1] [oT 4 (by decide : (0:Int) ≤ 1)] ?_
    obtain ⟨y22, hy22, h⟩ := bs h
    obtain ⟨y23, hy23, h⟩ := bs h
    refine At.sR [0, 1, 6, 7, 8, 9, 27] [0, 1] [oT 2 ((rAt_of he_str (d := .str y22) hy22 rfl).1), vT 3 (.str y22) ((rAt_of he_str (d := .str y22) hy22 rfl).2), c0 5 (C_cmp_Less_string y22 p1 y23 hy23)] ?_
    refine At.cd h (fun b24 h => ?_) (fun b24 h => ?_)
    · exact At.rK [0, 1, 6, 7, 8] [0, 1] [] fun _ _ i => ⟨_, li h, i⟩
    · exact At.rK [0, 1, 6, 7, 8] [0, 1] [] fun _ _ i => ⟨_, li h, i⟩
  · refine At.nR [0, 1, 6, 7] [0, 1] ?_
    obtain ⟨r25, h, e26⟩ := mr h
    rw [f17 _ e26] at h
    refine At.exit (norm ?_)
    refine At.seqJ (S := Bool) (fun s => ⟨[(4, i64 x14), (5, bo s)], [.row 9 1 (encL eStr o0), .ghost (gv 0) (.row 0 0)]⟩) (fun s => F_slices_BinarySearch_string_string_J1 x14 s = some r) ?_ ?_
    · rcases cs h with ⟨b35, h⟩ | ⟨b35, h⟩
      · obtain ⟨y36, hy36, h⟩ := bs h
        rcases cs h with ⟨b37, h⟩ | ⟨b37, h⟩
        · exact At.rK [4, 5] [0, 1] [bT 4 b35, oT 7 ((rAt_of he_str (d := .str y36) hy36 rfl).1), vT 8 (.str y36) ((rAt_of he_str (d := .str y36) hy36 rfl).2), bT 11 b37] fun _ _ i => ⟨true, h, i⟩
        · obtain ⟨y38, hy38, h⟩ := bs h
          obtain ⟨y39, hy39, h⟩ := bs h
          rcases cs h with ⟨b40, h⟩ | ⟨b40, h⟩
          · obtain ⟨y41, hy41, h⟩ := bs h
            exact At.rK [4, 5] [0, 1] [bT 4 b35, oT 7 ((rAt_of he_str (d := .str y36) hy36 rfl).1), vT 8 (.str y36) ((rAt_of he_str (d := .str y36) hy36 rfl).2), bT 11 b37, oT 14 ((rAt_of he_str (d := .str y38) hy38 rfl).1), vT 15 (.str y38) ((rAt_of he_str (d := .str y38) hy38 rfl).2), c0 16 (C_slices_isNaN_string y38 y39 hy39), bT 17 b40, c0 19 (C_slices_isNaN_string p1 y41 hy41)] fun _ _ i => ⟨y41, h, i⟩
          · exact At.rK [4, 5] [0, 1] [bT 4 b35, oT 7 ((rAt_of he_str (d := .str y36) hy36 rfl).1), vT 8 (.str y36) ((rAt_of he_str (d := .str y36) hy36 rfl).2), bT 11 b37, oT 14 ((rAt_of he_str (d := .str y38) hy38 rfl).1), vT 15 (.str y38) ((rAt_of he_str (d := .str y38) hy38 rfl).2), c0 16 (C_slices_isNaN_string y38 y39 hy39), bT 17 b40] fun _ _ i => ⟨false, h, i⟩
      · exact At.rK [4, 5] [0, 1] [bT 4 b35] fun _ _ i => ⟨false, h, i⟩
    · intro x34 h
      obtain rfl := sq h
      exact At.ret (At.rR hR [0])
theorem C_token_Word (p0 : ByteArray) (r : Bool) (h : F_token_Word p0 = some r) : FnOK Tryz.prog 146 [sv p0] [] (bo r) [] [] := by
  refine fI Tryz.func146 rfl fun E gv R hR => ?_
  refine At.sR [0] [] [] ?_
  obtain ⟨y3, hy3, h⟩ := bs h
  obtain ⟨y4, hy4, h⟩ := bs h
  refine At.sR [4] [] [cT 0 0 [0] (C_token_words y3 hy3), cT 2 1 [0] (C_slices_BinarySearch_string_string p0 y3 y4 hy4)] ?_
  refine At.sR [2] [] [] ?_
  obtain rfl := sq h
  exact At.ret (At.rR hR [])
theorem C_token_Name (p0 : ByteArray) (r : Bool) (h : F_token_Name p0 = some r) : FnOK Tryz.prog 108 [sv p0] [] (bo r) [] [] := by
  refine fI Tryz.func108 rfl fun E gv R hR => ?_
  refine At.sR [0] [] [] ?_
  refine At.seqJ (S := Bool) (fun s => ⟨[(2, bo s)], []⟩) (fun s => F_token_Name_J1 s = some r) ?_ ?_
  · rcases cs h with ⟨b10, h⟩ | ⟨b10, h⟩
    · rcases cs h with ⟨b11, h⟩ | ⟨b11, h⟩
      · obtain ⟨y12, hy12, h⟩ := bs h
        obtain ⟨y13, hy13, h⟩ := bs h
        rcases cs h with ⟨b14, h⟩ | ⟨b14, h⟩
        · obtain ⟨y15, hy15, h⟩ := bs h
          rcases cs h with ⟨b16, h⟩ | ⟨b16, h⟩
          · obtain ⟨y17, hy17, h⟩ := bs h
            exact At.rK [2] [] [bT 2 b10, bT 7 b11, sT 9 hy12, c0 10 (C_token_letter y12 y13 hy13), bT 12 b14, c0 14 (C_token_run p0 y15 hy15), bT 18 b16, c0 20 (C_token_Word p0 y17 hy17)] fun _ _ i => ⟨(!y17), h, i⟩
          · exact At.rK [2] [] [bT 2 b10, bT 7 b11, sT 9 hy12, c0 10 (C_token_letter y12 y13 hy13), bT 12 b14, c0 14 (C_token_run p0 y15 hy15), bT 18 b16] fun _ _ i => ⟨false, h, i⟩
        · exact At.rK [2] [] [bT 2 b10, bT 7 b11, sT 9 hy12, c0 10 (C_token_letter y12 y13 hy13), bT 12 b14] fun _ _ i => ⟨false, h, i⟩
      · exact At.rK [2] [] [bT 2 b10, bT 7 b11] fun _ _ i => ⟨false, h, i⟩
    · exact At.rK [2] [] [bT 2 b10] fun _ _ i => ⟨false, h, i⟩
  · intro x9 h
    obtain rfl := sq h
    exact At.ret (At.rR hR [])
theorem C_code_tables (p0 : T_api_Code) (r : Bool) (h : F_code_tables p0 = some r) : FnOK Tryz.prog 61 [.agg (T_api_Code.pvs p0)] [] (bo r) [] [] := by
  refine fI Tryz.func61 rfl fun E gv R hR => ?_
  refine At.sR [1] [0] [] ?_
  refine At.sR [1, 3] [0] [] ?_
  refine At.seq ?_
  refine At.seqJ (S := Bool) (fun s => ⟨[(1, .ptr 0 0), (46, bo s)], [.blk 27 (T_api_Code.pvs p0)]⟩) (fun s => F_code_tables_J1 p0 s = some r) ?_ ?_
  · rcases cs h with ⟨b379, h⟩ | ⟨b379, h⟩
    · exact At.rK [1, 46] [0] [bT 2 b379] fun _ _ i => ⟨true, h, i⟩
    · rcases cs h with ⟨b380, h⟩ | ⟨b380, h⟩
      · exact At.rK [1, 46] [0] [bT 2 b379, bT 6 b380] fun _ _ i => ⟨true, h, i⟩
      · rcases cs h with ⟨b381, h⟩ | ⟨b381, h⟩
        · exact At.rK [1, 46] [0] [bT 2 b379, bT 6 b380, bT 12 b381] fun _ _ i => ⟨true, h, i⟩
        · rcases cs h with ⟨b382, h⟩ | ⟨b382, h⟩
          · exact At.rK [1, 46] [0] [bT 2 b379, bT 6 b380, bT 12 b381, bT 17 b382] fun _ _ i => ⟨true, h, i⟩
          · rcases cs h with ⟨b383, h⟩ | ⟨b383, h⟩
            · exact At.rK [1, 46] [0] [bT 2 b379, bT 6 b380, bT 12 b381, bT 17 b382, bT 23 b383] fun _ _ i => ⟨true, h, i⟩
            · obtain ⟨y384, hy384, h⟩ := bs h
              exact At.rK [1, 46] [0] [bT 2 b379, bT 6 b380, bT 12 b381, bT 17 b382, bT 23 b383, eT T_api_Def.enc_len 28 hy384] fun _ _ i => ⟨(y384.Params != 0), h, i⟩
  · intro x21 h
    refine At.cd h (fun b22 h => ?_) (fun b22 h => ?_)
    · refine At.sR [2] [] [] ?_
      obtain rfl := sq h
      exact At.ret (At.rR hR [])
    · refine At.nR [1] [0] ?_
      refine At.skip (norm ?_)
      refine At.sR [1, 4] [0] [] ?_
      refine At.seq ?_
      refine At.sR [1, 4, 48, 49, 50] [0] [] ?_
      refine At.block ?_
      refine At.nK (st' := ⟨[(1, .ptr 0 0), (4, i64 (-1)), (48, lv T_api_Def.enc p0.Defs), (49, i64 ((p0.Defs).length : Int)), (50, i64 0)], [.blk 27 (T_api_Code.pvs p0)]⟩) [1, 4, 48, 49, 50] [0] ?_
      refine At.lp (fun s : (Int × Int) => ⟨[(1, .ptr 0 0), (4, i64 s.1), (48, lv T_api_Def.enc p0.Defs), (49, i64 ((p0.Defs).length : Int)), (50, i64 s.2)], [.blk 27 (T_api_Code.pvs p0)]⟩) h ?_
      rintro ⟨x143, x144⟩ oo145 h f146
      replace h : F_code_tables_L6 p0 x143 x144 = some oo145 := h
      refine At.sR [1, 4, 48, 49, 50, 51] [0] [] ?_
      refine At.seq ?_
      refine At.cd h (fun b148 h => ?_) (fun b148 h => ?_)
      · refine At.nR [1, 4, 48, 49, 50] [0] ?_
        refine At.skip (norm ?_)
        refine At.seq ?_
        refine At.block ?_
        obtain ⟨y205, hy205, h⟩ := bs h
        refine At.sR [1, 4, 6, 48, 49, 50] [0, 1] [eT T_api_Def.enc_len 0 hy205] ?_
        refine At.seqJ (S := Bool) (fun s => ⟨[(1, .ptr 0 0), (4, i64 x143), (6, .ptr 1 0), (7, bo s), (48, lv T_api_Def.enc p0.Defs), (49, i64 ((p0.Defs).length : Int)), (50, i64 x144)], [.blk 27 (T_api_Code.pvs p0), .blk 61 (T_api_Def.pvs y205)]⟩) (fun s => F_code_tables_J2 p0 x143 x144 y205 s = some oo145) ?_ ?_
        · rcases cs h with ⟨b259, h⟩ | ⟨b259, h⟩
          · exact At.rK [1, 4, 6, 7, 48, 49, 50] [0, 1] [bT 3 b259] fun _ _ i => ⟨true, h, i⟩
          · obtain ⟨y260, hy260, h⟩ := bs h
            exact At.rK [1, 4, 6, 7, 48, 49, 50] [0, 1] [bT 3 b259, c0 6 (C_token_Name y205.Name y260 hy260)] fun _ _ i => ⟨y260, h, i⟩
        · intro x208 h
          refine At.seq ?_
          refine At.seqJ (S := Bool) (fun s => ⟨[(1, .ptr 0 0), (6, .ptr 1 0), (48, lv T_api_Def.enc p0.Defs), (49, i64 ((p0.Defs).length : Int)), (50, i64 x144), (103, bo s)], [.blk 27 (T_api_Code.pvs p0), .blk 61 (T_api_Def.pvs y205)]⟩) (fun s => F_code_tables_J3 x144 y205 s = some oo145) ?_ ?_
          · rcases cs h with ⟨b248, h⟩ | ⟨b248, h⟩
            · exact At.rK [1, 6, 48, 49, 50, 103] [0, 1] [bT 2 b248] fun _ _ i => ⟨true, h, i⟩
            · rcases cs h with ⟨b249, h⟩ | ⟨b249, h⟩
              · rcases cs h with ⟨b250, h⟩ | ⟨b250, h⟩
                · exact At.rK [1, 6, 48, 49, 50, 103] [0, 1] [bT 2 b248, bT 5 b249, bT 11 b250] fun _ _ i => ⟨true, h, i⟩
                · rcases cs h with ⟨b251, h⟩ | ⟨b251, h⟩
                  · exact At.rK [1, 6, 48, 49, 50, 103] [0, 1] [bT 2 b248, bT 5 b249, bT 11 b250, bT 17 b251] fun _ _ i => ⟨true, h, i⟩
                  · rcases cs h with ⟨b252, h⟩ | ⟨b252, h⟩
                    · exact At.rK [1, 6, 48, 49, 50, 103] [0, 1] [bT 2 b248, bT 5 b249, bT 11 b250, bT 17 b251, bT 25 b252] fun _ _ i => ⟨true, h, i⟩
                    · rcases cs h with ⟨b253, h⟩ | ⟨b253, h⟩
                      · exact At.rK [1, 6, 48, 49, 50, 103] [0, 1] [bT 2 b248, bT 5 b249, bT 11 b250, bT 17 b251, bT 25 b252, bT 30 b253] fun _ _ i => ⟨true, h, i⟩
                      · rcases cs h with ⟨b254, h⟩ | ⟨b254, h⟩
                        · exact At.rK [1, 6, 48, 49, 50, 103] [0, 1] [bT 2 b248, bT 5 b249, bT 11 b250, bT 17 b251, bT 25 b252, bT 30 b253, bT 37 b254] fun _ _ i => ⟨true, h, i⟩
                        · exact At.rK [1, 6, 48, 49, 50, 103] [0, 1] [bT 2 b248, bT 5 b249, bT 11 b250, bT 17 b251, bT 25 b252, bT 30 b253, bT 37 b254] fun _ _ i => ⟨(decide (16 < y205.Vars)), h, i⟩
              · rcases cs h with ⟨b255, h⟩ | ⟨b255, h⟩
                · exact At.rK [1, 6, 48, 49, 50, 103] [0, 1] [bT 2 b248, bT 5 b249, bT 17 b255] fun _ _ i => ⟨true, h, i⟩
                · rcases cs h with ⟨b256, h⟩ | ⟨b256, h⟩
                  · exact At.rK [1, 6, 48, 49, 50, 103] [0, 1] [bT 2 b248, bT 5 b249, bT 17 b255, bT 25 b256] fun _ _ i => ⟨true, h, i⟩
                  · rcases cs h with ⟨b257, h⟩ | ⟨b257, h⟩
                    · exact At.rK [1, 6, 48, 49, 50, 103] [0, 1] [bT 2 b248, bT 5 b249, bT 17 b255, bT 25 b256, bT 30 b257] fun _ _ i => ⟨true, h, i⟩
                    · rcases cs h with ⟨b258, h⟩ | ⟨b258, h⟩
                      · exact At.rK [1, 6, 48, 49, 50, 103] [0, 1] [bT 2 b248, bT 5 b249, bT 17 b255, bT 25 b256, bT 30 b257, bT 37 b258] fun _ _ i => ⟨true, h, i⟩
                      · exact At.rK [1, 6, 48, 49, 50, 103] [0, 1] [bT 2 b248, bT 5 b249, bT 17 b255, bT 25 b256, bT 30 b257, bT 37 b258] fun _ _ i => ⟨(decide (16 < y205.Vars)), h, i⟩
          · intro x244 h
            refine At.cd h (fun b245 h => ?_) (fun b245 h => ?_)
            · refine At.sR [2] [] [] ?_
              obtain ⟨r246, h, e247⟩ := mr h
              rw [f146 _ e247] at h
              obtain rfl := sq h
              exact At.ret (At.rR hR [])
            · refine At.nR [1, 6, 48, 49, 50] [0, 1] ?_
              refine At.skip (norm ?_)
              refine At.rG [1, 4, 48, 49, 50] [0] [] (norm ?_)
              exact At.rK [1, 4, 48, 49, 50] [0] [] fun _ _ i => ⟨_, li h, i⟩
      · refine At.nR [1] [0] ?_
        obtain ⟨r261, h, e262⟩ := mr h
        rw [f146 _ e262] at h
        refine At.exit (norm ?_)
        refine At.sR [1, 8] [0] [] ?_
        refine At.seq ?_
        refine At.sR [8, 108, 109, 110] [] [] ?_
        refine At.block ?_
        refine At.nK (st' := ⟨[(8, i64 0), (108, lv T_api_Chan.enc p0.Chans), (109, i64 ((p0.Chans).length : Int)), (110, i64 0)], []⟩) [8, 108, 109, 110] [] ?_
        refine At.lp (fun s : (Int × Int) => ⟨[(8, i64 s.1), (108, lv T_api_Chan.enc p0.Chans), (109, i64 ((p0.Chans).length : Int)), (110, i64 s.2)], []⟩) h ?_
        rintro ⟨x321, x322⟩ oo323 h f324
        replace h : F_code_tables_L5 p0 x321 x322 = some oo323 := h
        refine At.sR [8, 108, 109, 110, 111] [] [] ?_
        refine At.seq ?_
        refine At.cd h (fun b326 h => ?_) (fun b326 h => ?_)
        · refine At.nR [8, 108, 109, 110] [] ?_
          refine At.skip (norm ?_)
          refine At.seq ?_
          refine At.block ?_
          obtain ⟨y351, hy351, h⟩ := bs h
          refine At.sR [8, 10, 108, 109, 110] [0] [eT T_api_Chan.enc_len 0 hy351] ?_
          refine At.seq ?_
          refine At.seqJ (S := Bool) (fun s => ⟨[(8, i64 x321), (10, .ptr 0 0), (108, lv T_api_Chan.enc p0.Chans), (109, i64 ((p0.Chans).length : Int)), (110, i64 x322), (133, bo s)], [.blk 65 (T_api_Chan.pvs y351)]⟩) (fun s => F_code_tables_J4 x321 x322 y351 s = some oo323) ?_ ?_
          · obtain ⟨y373, hy373, h⟩ := bs h
            rcases cs h with ⟨b374, h⟩ | ⟨b374, h⟩
            · exact At.rK [8, 10, 108, 109, 110, 133] [0] [c0 2 (C_token_Name y351.Name y373 hy373), bT 4 b374] fun _ _ i => ⟨true, h, i⟩
            · rcases cs h with ⟨b375, h⟩ | ⟨b375, h⟩
              · exact At.rK [8, 10, 108, 109, 110, 133] [0] [c0 2 (C_token_Name y351.Name y373 hy373), bT 4 b374, bT 9 b375] fun _ _ i => ⟨true, h, i⟩
              · rcases cs h with ⟨b376, h⟩ | ⟨b376, h⟩
                · exact At.rK [8, 10, 108, 109, 110, 133] [0] [c0 2 (C_token_Name y351.Name y373 hy373), bT 4 b374, bT 9 b375, bT 14 b376] fun _ _ i => ⟨true, h, i⟩
                · exact At.rK [8, 10, 108, 109, 110, 133] [0] [c0 2 (C_token_Name y351.Name y373 hy373), bT 4 b374, bT 9 b375, bT 14 b376] fun _ _ i => ⟨(y351.Base != x321), h, i⟩
          · intro x366 h
            refine At.cd h (fun b367 h => ?_) (fun b367 h => ?_)
            · refine At.sR [2] [] [] ?_
              obtain ⟨r368, h, e369⟩ := mr h
              rw [f324 _ e369] at h
              obtain rfl := sq h
              exact At.ret (At.rR hR [])
            · refine At.nR [8, 10, 108, 109, 110] [0] ?_
              refine At.skip (norm ?_)
              refine At.sR [8, 108, 109, 110] [] [] ?_
              refine At.sR [8, 108, 109, 110, 140] [] [] ?_
              refine At.cd h (fun b370 h => ?_) (fun b370 h => ?_)
              · refine At.sR [2] [] [] ?_
                obtain ⟨r371, h, e372⟩ := mr h
                rw [f324 _ e372] at h
                obtain rfl := sq h
                exact At.ret (At.rR hR [])
              · refine At.nR [8, 108, 109, 110] [] ?_
                refine At.skip (norm ?_)
                exact At.rK [8, 108, 109, 110] [] [] fun _ _ i => ⟨_, li h, i⟩
        · refine At.nR [] [] ?_
          obtain ⟨r377, h, e378⟩ := mr h
          rw [f324 _ e378] at h
          refine At.exit (norm ?_)
          refine At.sR [2] [] [] ?_
          obtain rfl := sq h
          exact At.ret (At.rR hR [])
theorem C_code_checker_routine (p1 : Int) (o0 : T_code_checker) (r : T_code_checker) (h : F_code_checker_routine p1 o0 = some r) : FnOK Tryz.prog 62 [.ptr 0 0, i64 p1] [.blk 115 (T_code_checker.pvs o0)] (.tup []) [.blk 115 (T_code_checker.pvs r)] [1] := by
  refine fI Tryz.func62 rfl fun E gv R hR => ?_
  obtain ⟨y3, hy3, h⟩ := bs h
  obtain ⟨y4, hy4, h⟩ := bs h
  refine At.sD 0 [0, 1] [0, 1] [eT T_api_Def.enc_len 9 hy3, eT T_api_Def.enc_len 24 hy4] ?_
  refine At.sR [0, 1, 45] [0, 1] [] ?_
  refine At.cd h (fun b5 h => ?_) (fun b5 h => ?_)
  · obtain ⟨y6, hy6, h⟩ := bs h
    obtain rfl := sq h
    refine At.rG [] [0, 1] [eT T_api_Def.enc_len 8 hy6] (edq (l := []) (ks := []) (ρ := [0, 1]) (st' := ⟨[], [.blk 115 (T_api_Code.pvs o0.Code ++ [i64 o0.marks, i64 y3.Entry, i64 y6.Entry, i64 y4.Vars]), .ghost (gv 0) (.ptr 0 0)]⟩) (by kernel_rfl) (At.rN hR [0]))
  · refine At.nR [] [0, 1] ?_
    obtain rfl := sq h
    refine At.skip (edq (l := []) (ks := []) (ρ := [0, 1]) (st' := ⟨[], [.blk 115 (T_api_Code.pvs o0.Code ++ [i64 o0.marks, i64 y3.Entry, i64 ((o0.Code.Ins).length : Int), i64 y4.Vars]), .ghost (gv 0) (.ptr 0 0)]⟩) (by kernel_rfl) (At.rN hR [0]))
theorem C_ins_rows  (r : (List T_ins_row)) (h : F_ins_rows  = some r) : FnOK Tryz.prog 105 [] [] (.dagg (encL T_ins_row.enc r)) [] [] := by
  refine fI Tryz.func105 rfl fun E gv R hR => ?_
  refine At.sR [0] [0] [] ?_
  obtain ⟨g2, h⟩ := gs h
  refine At.sR [0] [0] [oN 26 (allc (lenM T_ins_row.enc_len ([(⟨(⟨#[]⟩ : ByteArray), 0, 0, 0⟩ : T_ins_row), (⟨(⟨#[109, 97, 114, 107]⟩ : ByteArray), 1, 0, 0⟩ : T_ins_row), (⟨(⟨#[112, 117, 115, 104]⟩ : ByteArray), 1, 0, 1⟩ : T_ins_row), (⟨(⟨#[108, 111, 97, 100]⟩ : ByteArray), 1, 0, 1⟩ : T_ins_row), (⟨(⟨#[115, 116, 111, 114, 101]⟩ : ByteArray), 1, 1, 0⟩ : T_ins_row), (⟨(⟨#[97, 112, 112, 108, 121]⟩ : ByteArray), 1, 0, 1⟩ : T_ins_row), (⟨(⟨#[106, 117, 109, 112]⟩ : ByteArray), 1, 0, 0⟩ : T_ins_row), (⟨(⟨#[122, 101, 114, 111]⟩ : ByteArray), 1, 1, 0⟩ : T_ins_row), (⟨(⟨#[111, 110, 101]⟩ : ByteArray), 1, 1, 0⟩ : T_ins_row), (⟨(⟨#[99, 104, 97, 110]⟩ : ByteArray), 2, 0, 1⟩ : T_ins_row), (⟨(⟨#[115, 101, 110, 100]⟩ : ByteArray), 0, 2, 0⟩ : T_ins_row), (⟨(⟨#[114, 101, 99, 118]⟩ : ByteArray), 1, 1, 0⟩ : T_ins_row), (⟨(⟨#[100, 114, 97, 119]⟩ : ByteArray), 1, 1, 0⟩ : T_ins_row), (⟨(⟨#[115, 108, 101, 101, 112]⟩ : ByteArray), 0, 1, 0⟩ : T_ins_row), (⟨(⟨#[115, 116, 97, 114, 116]⟩ : ByteArray), 2, 0, 0⟩ : T_ins_row), (⟨(⟨#[112, 114, 105, 110, 116]⟩ : ByteArray), 0, 1, 0⟩ : T_ins_row), (⟨(⟨#[97, 115, 115, 101, 114, 116]⟩ : ByteArray), 0, 1, 0⟩ : T_ins_row), (⟨(⟨#[115, 107, 105, 112]⟩ : ByteArray), 0, 0, 0⟩ : T_ins_row), (⟨(⟨#[115, 116, 111, 112]⟩ : ByteArray), 0, 0, 0⟩ : T_ins_row), (⟨(⟨#[111, 110, 114, 101, 99, 118]⟩ : ByteArray), 2, 1, 0⟩ : T_ins_row), (⟨(⟨#[111, 110, 115, 101, 110, 100]⟩ : ByteArray), 1, 2, 0⟩ : T_ins_row), (⟨(⟨#[97, 102, 116, 101, 114]⟩ : ByteArray), 1, 1, 0⟩ : T_ins_row), (⟨(⟨#[101, 108, 115, 101]⟩ : ByteArray), 1, 0, 0⟩ : T_ins_row), (⟨(⟨#[115, 101, 108, 101, 99, 116]⟩ : ByteArray), 0, 0, 0⟩ : T_ins_row), (⟨(⟨#[101, 110, 100]⟩ : ByteArray), 0, 0, 0⟩ : T_ins_row), (⟨(⟨#[99, 104, 111, 111, 115, 101]⟩ : ByteArray), 0, 0, 0⟩ : T_ins_row)] : List T_ins_row) g2.1 rfl) (allc (lenM T_ins_row.enc_len (List.replicate 26 (⟨(⟨#[]⟩ : ByteArray), 0, 0, 0⟩ : T_ins_row)) g2.2 rfl) all0))] ?_
  obtain ⟨g3, h⟩ := gs h
  obtain rfl := sq h
  exact At.ret (At.rQ hR [] (allc (lenM T_ins_row.enc_len ([(⟨(⟨#[]⟩ : ByteArray), 0, 0, 0⟩ : T_ins_row), (⟨(⟨#[109, 97, 114, 107]⟩ : ByteArray), 1, 0, 0⟩ : T_ins_row), (⟨(⟨#[112, 117, 115, 104]⟩ : ByteArray), 1, 0, 1⟩ : T_ins_row), (⟨(⟨#[108, 111, 97, 100]⟩ : ByteArray), 1, 0, 1⟩ : T_ins_row), (⟨(⟨#[115, 116, 111, 114, 101]⟩ : ByteArray), 1, 1, 0⟩ : T_ins_row), (⟨(⟨#[97, 112, 112, 108, 121]⟩ : ByteArray), 1, 0, 1⟩ : T_ins_row), (⟨(⟨#[106, 117, 109, 112]⟩ : ByteArray), 1, 0, 0⟩ : T_ins_row), (⟨(⟨#[122, 101, 114, 111]⟩ : ByteArray), 1, 1, 0⟩ : T_ins_row), (⟨(⟨#[111, 110, 101]⟩ : ByteArray), 1, 1, 0⟩ : T_ins_row), (⟨(⟨#[99, 104, 97, 110]⟩ : ByteArray), 2, 0, 1⟩ : T_ins_row), (⟨(⟨#[115, 101, 110, 100]⟩ : ByteArray), 0, 2, 0⟩ : T_ins_row), (⟨(⟨#[114, 101, 99, 118]⟩ : ByteArray), 1, 1, 0⟩ : T_ins_row), (⟨(⟨#[100, 114, 97, 119]⟩ : ByteArray), 1, 1, 0⟩ : T_ins_row), (⟨(⟨#[115, 108, 101, 101, 112]⟩ : ByteArray), 0, 1, 0⟩ : T_ins_row), (⟨(⟨#[115, 116, 97, 114, 116]⟩ : ByteArray), 2, 0, 0⟩ : T_ins_row), (⟨(⟨#[112, 114, 105, 110, 116]⟩ : ByteArray), 0, 1, 0⟩ : T_ins_row), (⟨(⟨#[97, 115, 115, 101, 114, 116]⟩ : ByteArray), 0, 1, 0⟩ : T_ins_row), (⟨(⟨#[115, 107, 105, 112]⟩ : ByteArray), 0, 0, 0⟩ : T_ins_row), (⟨(⟨#[115, 116, 111, 112]⟩ : ByteArray), 0, 0, 0⟩ : T_ins_row), (⟨(⟨#[111, 110, 114, 101, 99, 118]⟩ : ByteArray), 2, 1, 0⟩ : T_ins_row), (⟨(⟨#[111, 110, 115, 101, 110, 100]⟩ : ByteArray), 1, 2, 0⟩ : T_ins_row), (⟨(⟨#[97, 102, 116, 101, 114]⟩ : ByteArray), 1, 1, 0⟩ : T_ins_row), (⟨(⟨#[101, 108, 115, 101]⟩ : ByteArray), 1, 0, 0⟩ : T_ins_row), (⟨(⟨#[115, 101, 108, 101, 99, 116]⟩ : ByteArray), 0, 0, 0⟩ : T_ins_row), (⟨(⟨#[101, 110, 100]⟩ : ByteArray), 0, 0, 0⟩ : T_ins_row), (⟨(⟨#[99, 104, 111, 111, 115, 101]⟩ : ByteArray), 0, 0, 0⟩ : T_ins_row)] : List T_ins_row) g3 rfl) all0))
theorem C_ins_find (p0 : Int) (r : T_ins_row × Bool) (h : F_ins_find p0 = some r) : FnOK Tryz.prog 58 [i64 p0] [] (.tup [.agg (T_ins_row.pvs r.1), bo r.2]) [] [] := by
  refine fI Tryz.func58 rfl fun E gv R hR => ?_
  refine At.sR [0, 2] [0] [] ?_
  refine At.seq ?_
  refine At.seqJ (S := Bool) (fun s => ⟨[(0, i64 p0), (2, .ptr 0 0), (9, bo s)], [.blk 108 [sv (⟨#[]⟩ : ByteArray), i64 0, i64 0, i64 0]]⟩) (fun s => F_ins_find_J1 p0 s = some r) ?_ ?_
  · rcases cs h with ⟨b12, h⟩ | ⟨b12, h⟩
    · exact At.rK [0, 2, 9] [0] [bT 2 b12] fun _ _ i => ⟨true, h, i⟩
    · exact At.rK [0, 2, 9] [0] [bT 2 b12] fun _ _ i => ⟨(decide (25 < p0)), h, i⟩
  · intro x6 h
    refine At.cd h (fun b7 h => ?_) (fun b7 h => ?_)
    · refine At.sR [2, 3] [0] [] ?_
      obtain rfl := sq h
      exact At.ret (At.rR hR [])
    · refine At.nR [0, 2] [0] ?_
      refine At.skip (norm ?_)
      obtain ⟨y10, hy10, h⟩ := bs h
      obtain ⟨y11, hy11, h⟩ := bs h
      refine At.sR [2, 3] [0] [c0 0 (C_ins_rows y10 hy10), tT 2 ({ orc := .cells (T_ins_row.enc y11) }) (allc ((aIxM T_ins_row.enc_len hy11).1) (allc ((aIxM T_ins_row.enc_len hy11).2) all0))] ?_
      obtain rfl := sq h
      exact At.ret (At.rR hR [])
theorem C_arith_Wide (p0 : Int) (r : Int) (h : F_arith_Wide p0 = some r) : FnOK Tryz.prog 106 [i64 p0] [] (i64 r) [] [] := by
  refine fI Tryz.func106 rfl fun E gv R hR => ?_
  refine At.sR [0] [] [] ?_
  refine At.seq ?_
  refine At.block ?_
  refine At.seqJ (S := Bool) (fun s => ⟨[(0, i64 p0), (3, bo s)], []⟩) (fun s => F_arith_Wide_J1 p0 s = some r) ?_ ?_
  · rcases cs h with ⟨b16, h⟩ | ⟨b16, h⟩
    · exact At.rK [0, 3] [] [bT 2 b16] fun _ _ i => ⟨true, h, i⟩
    · exact At.rK [0, 3] [] [bT 2 b16] fun _ _ i => ⟨(p0 == 4), h, i⟩
  · intro x10 h
    refine At.cd h (fun b11 h => ?_) (fun b11 h => ?_)
    · refine At.sR [2] [] [] ?_
      obtain rfl := sq h
      exact At.ret (At.rR hR [])
    · refine At.seqJ (S := Bool) (fun s => ⟨[(10, bo s)], []⟩) (fun s => F_arith_Wide_J2 s = some r) ?_ ?_
      · rcases cs h with ⟨b15, h⟩ | ⟨b15, h⟩
        · exact At.rK [10] [] [bT 2 b15] fun _ _ i => ⟨(decide (p0 ≤ 17)), h, i⟩
        · exact At.rK [10] [] [bT 2 b15] fun _ _ i => ⟨false, h, i⟩
      · intro x13 h
        refine At.cd h (fun b14 h => ?_) (fun b14 h => ?_)
        · refine At.sR [2] [] [] ?_
          obtain rfl := sq h
          exact At.ret (At.rR hR [])
        · refine At.nR [] [] ?_
          refine At.skip (norm ?_)
          refine At.sR [2] [] [] ?_
          obtain rfl := sq h
          exact At.ret (At.rR hR [])
theorem C_ins_Right (p0 : T_api_Ins) (r : Bool) (h : F_ins_Right p0 = some r) : FnOK Tryz.prog 59 [.agg (T_api_Ins.pvs p0)] [] (bo r) [] [] := by
  refine fI Tryz.func59 rfl fun E gv R hR => ?_
  refine At.sR [1] [0] [] ?_
  obtain ⟨y2, hy2, h⟩ := bs h
  refine At.sR [1, 3, 4] [0, 1] [c0 2 (C_ins_find p0.Op y2 hy2)] ?_
  refine At.seq ?_
  refine At.seqJ (S := Bool) (fun s => ⟨[(1, .ptr 0 0), (32, bo s)], [.blk 84 (T_api_Ins.pvs p0)]⟩) (fun s => F_ins_Right_J1 p0 s = some r) ?_ ?_
  · rcases cs h with ⟨b35, h⟩ | ⟨b35, h⟩
    · exact At.rK [1, 32] [0] [bT 2 b35] fun _ _ i => ⟨true, h, i⟩
    · rcases cs h with ⟨b36, h⟩ | ⟨b36, h⟩
      · rcases cs h with ⟨b37, h⟩ | ⟨b37, h⟩
        · exact At.rK [1, 32] [0] [bT 2 b35, bT 6 b36, bT 12 b37] fun _ _ i => ⟨true, h, i⟩
        · rcases cs h with ⟨b38, h⟩ | ⟨b38, h⟩
          · exact At.rK [1, 32] [0] [bT 2 b35, bT 6 b36, bT 12 b37, bT 16 b38] fun _ _ i => ⟨(p0.B != 0), h, i⟩
          · exact At.rK [1, 32] [0] [bT 2 b35, bT 6 b36, bT 12 b37, bT 16 b38] fun _ _ i => ⟨false, h, i⟩
      · rcases cs h with ⟨b39, h⟩ | ⟨b39, h⟩
        · exact At.rK [1, 32] [0] [bT 2 b35, bT 6 b36, bT 16 b39] fun _ _ i => ⟨(p0.B != 0), h, i⟩
        · exact At.rK [1, 32] [0] [bT 2 b35, bT 6 b36, bT 16 b39] fun _ _ i => ⟨false, h, i⟩
  · intro x20 h
    refine At.cd h (fun b21 h => ?_) (fun b21 h => ?_)
    · refine At.sR [2] [] [] ?_
      obtain rfl := sq h
      exact At.ret (At.rR hR [])
    · refine At.nR [1] [0] ?_
      refine At.skip (norm ?_)
      refine At.seqJ (S := Bool) (fun s => ⟨[(2, bo s)], []⟩) (fun s => F_ins_Right_J2 s = some r) ?_ ?_
      · rcases cs h with ⟨b29, h⟩ | ⟨b29, h⟩
        · rcases cs h with ⟨b30, h⟩ | ⟨b30, h⟩
          · exact At.rK [2] [] [bT 3 b29, bT 12 b30] fun _ _ i => ⟨true, h, i⟩
          · obtain ⟨y31, hy31, h⟩ := bs h
            exact At.rK [2] [] [bT 3 b29, bT 12 b30, c0 15 (C_arith_Wide p0.A y31 hy31)] fun _ _ i => ⟨(decide (0 < y31)), h, i⟩
        · rcases cs h with ⟨b32, h⟩ | ⟨b32, h⟩
          · rcases cs h with ⟨b33, h⟩ | ⟨b33, h⟩
            · exact At.rK [2] [] [bT 3 b29, bT 8 b32, bT 12 b33] fun _ _ i => ⟨true, h, i⟩
            · obtain ⟨y34, hy34, h⟩ := bs h
              exact At.rK [2] [] [bT 3 b29, bT 8 b32, bT 12 b33, c0 15 (C_arith_Wide p0.A y34 hy34)] fun _ _ i => ⟨(decide (0 < y34)), h, i⟩
          · exact At.rK [2] [] [bT 3 b29, bT 8 b32] fun _ _ i => ⟨false, h, i⟩
      · intro x28 h
        obtain rfl := sq h
        exact At.ret (At.rR hR [])
theorem C_code_checker_may_1 (p0 : T_api_Chan) (o0 : T_api_Ins) (r : Bool) (h : F_code_checker_may_1 p0 o0 = some r) : FnOK Tryz.prog 110 [.agg (T_api_Chan.pvs p0), .ptr 0 0] [.blk 84 (T_api_Ins.pvs o0)] (bo r) [.blk 84 (T_api_Ins.pvs o0)] [1] := by
  refine fI Tryz.func110 rfl fun E gv R hR => ?_
  refine At.sR [1, 2] [0, 1, 2] [] ?_
  refine At.seqJ (S := Bool) (fun s => ⟨[(3, bo s)], [.blk 84 (T_api_Ins.pvs o0), .ghost (gv 0) (.ptr 0 0)]⟩) (fun s => F_code_checker_may_1_J1 s = some r) ?_ ?_
  · rcases cs h with ⟨b3, h⟩ | ⟨b3, h⟩
    · exact At.rK [3] [0, 1] [bT 5 b3] fun _ _ i => ⟨(p0.Size == o0.B), h, i⟩
    · exact At.rK [3] [0, 1] [bT 5 b3] fun _ _ i => ⟨false, h, i⟩
  · intro x2 h
    obtain rfl := sq h
    exact At.ret (At.rR hR [0])
theorem C_slices_IndexFunc_retrace_api_Chan_retrace_api_Chan (p0 : (List T_api_Chan)) (o0 : T_api_Ins) (r : Int) (h : F_slices_IndexFunc_retrace_api_Chan_retrace_api_Chan p0 o0 = some r) : FnOK Tryz.prog 147 [lv T_api_Chan.enc p0, .fn (.func 110) [] [.ptr 0 0]] [.blk 84 (T_api_Ins.pvs o0)] (i64 r) [.blk 84 (T_api_Ins.pvs o0)] [1] := by
  refine fI Tryz.func147 rfl fun E gv R hR => ?_
  refine At.sR [0, 1] [0, 1] [] ?_
  refine At.seq ?_
  refine At.sR [0, 1, 7, 8] [0, 1] [] ?_
  refine At.block ?_
  refine At.nK (st' := ⟨[(0, lv T_api_Chan.enc p0), (1, .fn (.func 110) [] [.ptr 0 0]), (7, i64 ((p0).length : Int)), (8, i64 0)], [.blk 84 (T_api_Ins.pvs o0), .ghost (gv 0) (.ptr 0 0)]⟩) [0, 1, 7, 8] [0, 1] ?_
  refine At.lp (fun s : (Int) => ⟨[(0, lv T_api_Chan.enc p0), (1, .fn (.func 110) [] [.ptr 0 0]), (7, i64 ((p0).length : Int)), (8, i64 s)], [.blk 84 (T_api_Ins.pvs o0), .ghost (gv 0) (.ptr 0 0)]⟩) h ?_
  intro x20 oo21 h f22
  replace h : F_slices_IndexFunc_retrace_api_Chan_retrace_api_Chan_L1 p0 o0 x20 = some oo21 := h
  refine At.sR [0, 1, 7, 8, 9] [0, 1] [] ?_
  refine At.seq ?_
  refine At.cd h (fun b24 h => ?_) (fun b24 h => ?_)
  · refine At.nR [0, 1, 7, 8] [0, 1] ?_
    refine At.skip (norm ?_)
    refine At.seq ?_
    refine At.block ?_
    refine At.sR [0, 1, 5, 7, 8] [0, 1] [] ?_
    obtain ⟨y32, hy32, h⟩ := bs h
    obtain ⟨y33, hy33, h⟩ := bs h
    refine At.sR [0, 1, 5, 7, 8, 16] [0, 1] [eT T_api_Chan.enc_len 3 hy32, cT 5 1 [0] (C_code_checker_may_1 y32 o0 y33 hy33)] ?_
    refine At.cd h (fun b34 h => ?_) (fun b34 h => ?_)
    · refine At.sR [4] [0, 1] [] ?_
      obtain ⟨r35, h, e36⟩ := mr h
      rw [f22 _ e36] at h
      obtain rfl := sq h
      exact At.ret (At.rR hR [0])
    · refine At.nR [0, 1, 7, 8] [0, 1] ?_
      refine At.skip (norm ?_)
      exact At.rK [0, 1, 7, 8] [0, 1] [] fun _ _ i => ⟨_, li h, i⟩
  · refine At.nR [] [0, 1] ?_
    obtain ⟨r37, h, e38⟩ := mr h
    rw [f22 _ e38] at h
    refine At.exit (norm ?_)
    refine At.sR [4] [0, 1] [] ?_
    obtain rfl := sq h
    exact At.ret (At.rR hR [0])
theorem C_slices_ContainsFunc_retrace_api_Chan_retrace_api_Chan (p0 : (List T_api_Chan)) (o0 : T_api_Ins) (r : Bool) (h : F_slices_ContainsFunc_retrace_api_Chan_retrace_api_Chan p0 o0 = some r) : FnOK Tryz.prog 109 [lv T_api_Chan.enc p0, .fn (.func 110) [] [.ptr 0 0]] [.blk 84 (T_api_Ins.pvs o0)] (bo r) [.blk 84 (T_api_Ins.pvs o0)] [1] := by
  refine fI Tryz.func109 rfl fun E gv R hR => ?_
  refine At.sR [0, 1] [0, 1] [] ?_
  obtain ⟨y2, hy2, h⟩ := bs h
  refine At.sR [4] [0, 1] [cT 2 1 [0] (C_slices_IndexFunc_retrace_api_Chan_retrace_api_Chan p0 o0 y2 hy2)] ?_
  obtain rfl := sq h
  exact At.ret (At.rR hR [0])
theorem C_patch_Target (p0 : T_api_Ins) (r : Int × Bool) (h : F_patch_Target p0 = some r) : FnOK Tryz.prog 111 [.agg (T_api_Ins.pvs p0)] [] (.tup [i64 r.1, bo r.2]) [] [] := by
  refine fI Tryz.func111 rfl fun E gv R hR => ?_
  refine At.sR [1] [0] [] ?_
  refine At.seq ?_
  refine At.sR [1, 5] [0] [] ?_
  refine At.block ?_
  refine At.seqJ (S := Bool) (fun s => ⟨[(1, .ptr 0 0), (5, i64 p0.Op), (6, bo s)], [.blk 84 (T_api_Ins.pvs p0)]⟩) (fun s => F_patch_Target_J1 p0 s = some r) ?_ ?_
  · refine At.sR [1, 5, 6] [0] [] ?_
    refine At.cd h (fun b22 h => ?_) (fun b22 h => ?_)
    · refine At.skip (fun _ _ i => ⟨(p0.Op == 6), h, i.en [] [1, 5, 6] [0]⟩)
    · refine At.sR [1, 5, 6] [0] [] ?_
      refine At.cd h (fun b23 h => ?_) (fun b23 h => ?_)
      · refine At.skip (fun _ _ i => ⟨(p0.Op == 7), h, i.en [] [1, 5, 6] [0]⟩)
      · refine At.sR [1, 5, 6] [0] [] ?_
        refine At.cd h (fun b24 h => ?_) (fun b24 h => ?_)
        · refine At.skip (fun _ _ i => ⟨(p0.Op == 8), h, i.en [] [1, 5, 6] [0]⟩)
        · refine At.seq ?_
          refine At.rK (st' := ⟨[(1, .ptr 0 0), (5, i64 p0.Op), (6, bo (p0.Op == 20))], [.blk 84 (T_api_Ins.pvs p0)]⟩) [1, 5, 6] [0] [] (norm ?_)
          refine At.cd h (fun b25 h => ?_) (fun b25 h => ?_)
          · refine At.skip (fun _ _ i => ⟨(p0.Op == 20), h, i⟩)
          · refine At.sR [1, 5, 6] [0] [] ?_
            refine At.cd h (fun b26 h => ?_) (fun b26 h => ?_)
            · refine At.skip (fun _ _ i => ⟨(p0.Op == 21), h, i.en [] [1, 5, 6] [0]⟩)
            · exact At.rK [1, 5, 6] [0] [] fun _ _ i => ⟨(p0.Op == 22), h, i⟩
  · intro x19 h
    refine At.cd h (fun b20 h => ?_) (fun b20 h => ?_)
    · refine At.sR [2, 3] [] [] ?_
      obtain rfl := sq h
      exact At.ret (At.rR hR [])
    · refine At.sR [1, 15] [0] [] ?_
      refine At.cd h (fun b21 h => ?_) (fun b21 h => ?_)
      · refine At.sR [2, 3] [] [] ?_
        obtain rfl := sq h
        exact At.ret (At.rR hR [])
      · refine At.nR [] [] ?_
        refine At.skip (norm ?_)
        refine At.sR [2, 3] [] [] ?_
        obtain rfl := sq h
        exact At.ret (At.rR hR [])
theorem C_code_checker_aimed (p1 : Int) (p2 : Int) (o0 : T_code_checker) (r : Bool) (h : F_code_checker_aimed p1 p2 o0 = some r) : FnOK Tryz.prog 112 [.ptr 0 0, i64 p1, i64 p2] [.blk 115 (T_code_checker.pvs o0)] (bo r) [.blk 115 (T_code_checker.pvs o0)] [1] := by
  refine fI Tryz.func112 rfl fun E gv R hR => ?_
  refine At.sR [0, 1, 2] [0, 1] [] ?_
  refine At.seqJ (S := Bool) (fun s => ⟨[(6, bo s)], [.blk 115 (T_code_checker.pvs o0), .ghost (gv 0) (.ptr 0 0)]⟩) (fun s => F_code_checker_aimed_J1 s = some r) ?_ ?_
  · rcases cs h with ⟨b6, h⟩ | ⟨b6, h⟩
    · rcases cs h with ⟨b7, h⟩ | ⟨b7, h⟩
      · rcases cs h with ⟨b8, h⟩ | ⟨b8, h⟩
        · exact At.rK [6] [0, 1] [bT 6 b6, bT 14 b7, bT 18 b8] fun _ _ i => ⟨true, h, i⟩
        · obtain ⟨y9, hy9, h⟩ := bs h
          exact At.rK [6] [0, 1] [bT 6 b6, bT 14 b7, bT 18 b8, eT T_api_Ins.enc_len 25 hy9] fun _ _ i => ⟨(y9.Op == 1), h, i⟩
      · exact At.rK [6] [0, 1] [bT 6 b6, bT 14 b7] fun _ _ i => ⟨false, h, i⟩
    · exact At.rK [6] [0, 1] [bT 6 b6] fun _ _ i => ⟨false, h, i⟩
  · intro x5 h
    obtain rfl := sq h
    exact At.ret (At.rR hR [0])
theorem C_code_acts (p0 : Int) (r : Bool) (h : F_code_acts p0 = some r) : FnOK Tryz.prog 113 [i64 p0] [] (bo r) [] [] := by
  refine fI Tryz.func113 rfl fun E gv R hR => ?_
  refine At.sR [0] [] [] ?_
  refine At.seq ?_
  refine At.sR [3] [] [] ?_
  refine At.block ?_
  refine At.seqJ (S := Bool) (fun s => ⟨[(4, bo s)], []⟩) (fun s => F_code_acts_J1 s = some r) ?_ ?_
  · refine At.sR [3, 4] [] [] ?_
    refine At.cd h (fun b29 h => ?_) (fun b29 h => ?_)
    · refine At.nR [4] [] ?_
      refine At.skip (fun _ _ i => ⟨(p0 == 4), h, i.en [] [4] []⟩)
    · refine At.sR [3, 4] [] [] ?_
      refine At.cd h (fun b30 h => ?_) (fun b30 h => ?_)
      · refine At.nR [4] [] ?_
        refine At.skip (fun _ _ i => ⟨(p0 == 10), h, i.en [] [4] []⟩)
      · refine At.sR [3, 4] [] [] ?_
        refine At.cd h (fun b31 h => ?_) (fun b31 h => ?_)
        · refine At.nK (st' := ⟨[(4, bo (p0 == 11))], []⟩) [4] [] ?_
          refine At.skip (fun _ _ i => ⟨(p0 == 11), h, i⟩)
        · refine At.seq ?_
          refine At.rK (st' := ⟨[(3, i64 p0), (4, bo (p0 == 12))], []⟩) [3, 4] [] [] (norm ?_)
          refine At.cd h (fun b32 h => ?_) (fun b32 h => ?_)
          · refine At.nR [4] [] ?_
            refine At.skip (fun _ _ i => ⟨(p0 == 12), h, i.en [] [4] []⟩)
          · refine At.sR [3, 4] [] [] ?_
            refine At.cd h (fun b33 h => ?_) (fun b33 h => ?_)
            · refine At.nR [4] [] ?_
              refine At.skip (fun _ _ i => ⟨(p0 == 13), h, i.en [] [4] []⟩)
            · refine At.sR [3, 4] [] [] ?_
              refine At.cd h (fun b34 h => ?_) (fun b34 h => ?_)
              · refine At.nR [4] [] ?_
                refine At.skip (fun _ _ i => ⟨(p0 == 14), h, i.en [] [4] []⟩)
              · refine At.sR [3, 4] [] [] ?_
                refine At.cd h (fun b35 h => ?_) (fun b35 h => ?_)
                · refine At.nR [4] [] ?_
                  refine At.skip (fun _ _ i => ⟨(p0 == 15), h, i.en [] [4] []⟩)
                · refine At.sR [3, 4] [] [] ?_
                  refine At.cd h (fun b36 h => ?_) (fun b36 h => ?_)
                  · refine At.nR [4] [] ?_
                    refine At.skip (fun _ _ i => ⟨(p0 == 16), h, i.en [] [4] []⟩)
                  · exact At.rK [4] [] [] fun _ _ i => ⟨(p0 == 17), h, i⟩
  · intro x27 h
    refine At.cd h (fun b28 h => ?_) (fun b28 h => ?_)
    · refine At.sR [2] [] [] ?_
      obtain rfl := sq h
      exact At.ret (At.rR hR [])
    · refine At.nR [] [] ?_
      refine At.skip (norm ?_)
      refine At.sR [2] [] [] ?_
      obtain rfl := sq h
      exact At.ret (At.rR hR [])
theorem C_code_chooses (p0 : Int) (r : Bool) (h : F_code_chooses p0 = some r) : FnOK Tryz.prog 115 [i64 p0] [] (bo r) [] [] := by
  refine fI Tryz.func115 rfl fun E gv R hR => ?_
  refine At.sR [0] [] [] ?_
  refine At.seqJ (S := Bool) (fun s => ⟨[(2, bo s)], []⟩) (fun s => F_code_chooses_J1 s = some r) ?_ ?_
  · rcases cs h with ⟨b5, h⟩ | ⟨b5, h⟩
    · exact At.rK [2] [] [bT 2 b5] fun _ _ i => ⟨true, h, i⟩
    · rcases cs h with ⟨b6, h⟩ | ⟨b6, h⟩
      · exact At.rK [2] [] [bT 2 b5, bT 6 b6] fun _ _ i => ⟨true, h, i⟩
      · rcases cs h with ⟨b7, h⟩ | ⟨b7, h⟩
        · exact At.rK [2] [] [bT 2 b5, bT 6 b6, bT 10 b7] fun _ _ i => ⟨true, h, i⟩
        · exact At.rK [2] [] [bT 2 b5, bT 6 b6, bT 10 b7] fun _ _ i => ⟨(p0 == 22), h, i⟩
  · intro x4 h
    obtain rfl := sq h
    exact At.ret (At.rR hR [])
theorem C_code_Settle (p0 : T_api_Code) (p1 : Int) (r : Int) (h : F_code_Settle p0 p1 = some r) : FnOK Tryz.prog 148 [.agg (T_api_Code.pvs p0), i64 p1] [] (i64 r) [] [] := by
  refine fI Tryz.func148 rfl fun E gv R hR => ?_
  refine At.sR [1, 2] [0] [] ?_
  refine At.sR [1, 2, 5] [0] [] ?_
  refine At.seq ?_
  refine At.sR [1, 2, 5, 10, 11] [0] [] ?_
  refine At.block ?_
  refine At.nK (st' := ⟨[(1, i64 p1), (2, .ptr 0 0), (5, i64 p1), (10, i64 (w64 (((p0.Ins).length : Int) + 1))), (11, i64 0)], [.blk 27 (T_api_Code.pvs p0)]⟩) [1, 2, 5, 10, 11] [0] ?_
  refine At.lp (fun s : (Int × Int) => ⟨[(1, i64 p1), (2, .ptr 0 0), (5, i64 s.1), (10, i64 (w64 (((p0.Ins).length : Int) + 1))), (11, i64 s.2)], [.blk 27 (T_api_Code.pvs p0)]⟩) h ?_
  rintro ⟨x45, x46⟩ oo47 h f48
  replace h : F_code_Settle_L2 p0 p1 x45 x46 = some oo47 := h
  refine At.sR [1, 2, 5, 10, 11, 12] [0] [] ?_
  refine At.seq ?_
  refine At.cd h (fun b50 h => ?_) (fun b50 h => ?_)
  · refine At.nR [1, 2, 5, 10, 11] [0] ?_
    refine At.skip (norm ?_)
    refine At.seq ?_
    refine At.block ?_
    refine At.seq ?_
    refine At.seqJ (S := Bool) (fun s => ⟨[(1, i64 p1), (2, .ptr 0 0), (5, i64 x45), (10, i64 (w64 (((p0.Ins).length : Int) + 1))), (11, i64 x46), (30, bo s)], [.blk 27 (T_api_Code.pvs p0)]⟩) (fun s => F_code_Settle_J1 p0 x45 x46 s = some oo47) ?_ ?_
    · rcases cs h with ⟨b84, h⟩ | ⟨b84, h⟩
      · exact At.rK [1, 2, 5, 10, 11, 30] [0] [bT 2 b84] fun _ _ i => ⟨true, h, i⟩
      · rcases cs h with ⟨b85, h⟩ | ⟨b85, h⟩
        · exact At.rK [1, 2, 5, 10, 11, 30] [0] [bT 2 b84, bT 9 b85] fun _ _ i => ⟨true, h, i⟩
        · obtain ⟨y86, hy86, h⟩ := bs h
          exact At.rK [1, 2, 5, 10, 11, 30] [0] [bT 2 b84, bT 9 b85, eT T_api_Ins.enc_len 13 hy86] fun _ _ i => ⟨(y86.Op != 6), h, i⟩
    · intro x79 h
      refine At.cd h (fun b80 h => ?_) (fun b80 h => ?_)
      · refine At.sR [4] [] [] ?_
        obtain ⟨r81, h, e82⟩ := mr h
        rw [f48 _ e82] at h
        obtain rfl := sq h
        exact At.ret (At.rR hR [])
      · refine At.nR [1, 2, 5, 10, 11] [0] ?_
        refine At.skip (norm ?_)
        obtain ⟨y83, hy83, h⟩ := bs h
        refine At.rG [1, 2, 5, 10, 11] [0] [eT T_api_Ins.enc_len 3 hy83] (norm ?_)
        exact At.rK [1, 2, 5, 10, 11] [0] [] fun _ _ i => ⟨_, li h, i⟩
  · refine At.nR [1] [] ?_
    obtain ⟨r87, h, e88⟩ := mr h
    rw [f48 _ e88] at h
    refine At.exit (norm ?_)
    refine At.sR [4] [] [] ?_
    obtain rfl := sq h
    exact At.ret (At.rR hR [])
theorem C_code_checker_rests (p1 : Int) (o0 : T_code_checker) (r : Bool) (h : F_code_checker_rests p1 o0 = some r) : FnOK Tryz.prog 114 [.ptr 0 0, i64 p1] [.blk 115 (T_code_checker.pvs o0)] (bo r) [.blk 115 (T_code_checker.pvs o0)] [1] := by
  refine fI Tryz.func114 rfl fun E gv R hR => ?_
  refine At.sR [0, 1] [0, 1] [] ?_
  obtain ⟨y2, hy2, h⟩ := bs h
  refine At.sR [0, 1] [0, 1] [c0 5 (C_code_Settle o0.Code p1 y2 hy2)] ?_
  refine At.seqJ (S := Bool) (fun s => ⟨[(4, bo s)], [.blk 115 (T_code_checker.pvs o0), .ghost (gv 0) (.ptr 0 0)]⟩) (fun s => F_code_checker_rests_J1 s = some r) ?_ ?_
  · rcases cs h with ⟨b9, h⟩ | ⟨b9, h⟩
    · rcases cs h with ⟨b10, h⟩ | ⟨b10, h⟩
      · obtain ⟨y11, hy11, h⟩ := bs h
        rcases cs h with ⟨b12, h⟩ | ⟨b12, h⟩
        · exact At.rK [4] [0, 1] [bT 6 b9, bT 14 b10, eT T_api_Ins.enc_len 21 hy11, bT 25 b12] fun _ _ i => ⟨true, h, i⟩
        · obtain ⟨y13, hy13, h⟩ := bs h
          exact At.rK [4] [0, 1] [bT 6 b9, bT 14 b10, eT T_api_Ins.enc_len 21 hy11, bT 25 b12, eT T_api_Ins.enc_len 32 hy13] fun _ _ i => ⟨(y13.Op == 24), h, i⟩
      · exact At.rK [4] [0, 1] [bT 6 b9, bT 14 b10] fun _ _ i => ⟨false, h, i⟩
    · exact At.rK [4] [0, 1] [bT 6 b9] fun _ _ i => ⟨false, h, i⟩
  · intro x8 h
    obtain rfl := sq h
    exact At.ret (At.rR hR [0])
theorem C_code_checker_may (p1 : Int) (o0 : T_code_checker) (r : Bool) (h : F_code_checker_may p1 o0 = some r) : FnOK Tryz.prog 63 [.ptr 0 0, i64 p1] [.blk 115 (T_code_checker.pvs o0)] (bo r) [.blk 115 (T_code_checker.pvs o0)] [1] := by
  refine fI Tryz.func63 rfl fun E gv R hR => ?_
  refine At.sR [0, 1] [0, 1] [] ?_
  obtain ⟨y2, hy2, h⟩ := bs h
  refine At.sR [0, 1, 5] [0, 1, 2] [eT T_api_Ins.enc_len 6 hy2] ?_
  refine At.seq ?_
  refine At.seqJ (S := Bool) (fun s => ⟨[(0, .ptr 0 0), (1, i64 p1), (5, .ptr 2 0), (50, bo s)], [.blk 115 (T_code_checker.pvs o0), .ghost (gv 0) (.ptr 0 0), .blk 84 (T_api_Ins.pvs y2)]⟩) (fun s => F_code_checker_may_J1 p1 o0 y2 s = some r) ?_ ?_
  · obtain ⟨y98, hy98, h⟩ := bs h
    rcases cs h with ⟨b99, h⟩ | ⟨b99, h⟩
    · exact At.dK 0 [0, 1, 5, 50] [0, 1, 2] [c0 1 (C_ins_Right y2 y98 hy98), bT 3 b99] fun _ _ i => ⟨true, h, i⟩
    · rcases cs h with ⟨b100, h⟩ | ⟨b100, h⟩
      · exact At.dK 0 [0, 1, 5, 50] [0, 1, 2] [c0 1 (C_ins_Right y2 y98 hy98), bT 3 b99, bT 16 b100] fun _ _ i => ⟨true, h, i⟩
      · rcases cs h with ⟨b101, h⟩ | ⟨b101, h⟩
        · rcases cs h with ⟨b102, h⟩ | ⟨b102, h⟩
          · exact At.dK 0 [0, 1, 5, 50] [0, 1, 2] [c0 1 (C_ins_Right y2 y98 hy98), bT 3 b99, bT 16 b100, bT 23 b101, bT 28 b102] fun _ _ i => ⟨(y2.Op != 24), h, i⟩
          · exact At.dK 0 [0, 1, 5, 50] [0, 1, 2] [c0 1 (C_ins_Right y2 y98 hy98), bT 3 b99, bT 16 b100, bT 23 b101, bT 28 b102] fun _ _ i => ⟨false, h, i⟩
        · exact At.dK 0 [0, 1, 5, 50] [0, 1, 2] [c0 1 (C_ins_Right y2 y98 hy98), bT 3 b99, bT 16 b100, bT 23 b101] fun _ _ i => ⟨false, h, i⟩
  · intro x20 h
    refine At.cd h (fun b21 h => ?_) (fun b21 h => ?_)
    · refine At.sR [4] [0, 1] [] ?_
      obtain rfl := sq h
      exact At.ret (At.rR hR [0])
    · refine At.nR [0, 1, 5] [0, 1, 2] ?_
      refine At.skip (norm ?_)
      refine At.sR [0, 1, 5, 6] [0, 1, 2] [] ?_
      refine At.seqJ (S := Bool) (fun s => ⟨[(0, .ptr 0 0), (1, i64 p1), (5, .ptr 2 0), (6, bo s)], [.blk 115 (T_code_checker.pvs o0), .ghost (gv 0) (.ptr 0 0), .blk 84 (T_api_Ins.pvs y2)]⟩) (fun s => F_code_checker_may_J2 p1 o0 y2 s = some r) ?_ ?_
      · refine At.sR [0, 1, 5, 6, 52] [0, 1, 2] [] ?_
        refine At.block ?_
        refine At.sR [0, 1, 5, 6, 52, 53] [0, 1, 2] [] ?_
        refine At.cd h (fun b80 h => ?_) (fun b80 h => ?_)
        · exact At.dK 0 [0, 1, 5, 6] [0, 1, 2] [] fun _ _ i => ⟨(y2.A == o0.marks), h, i⟩
        · refine At.seqJ (S := Bool) (fun s => ⟨[(0, .ptr 0 0), (1, i64 p1), (5, .ptr 2 0), (6, bo true), (52, i64 y2.Op), (62, bo s)], [.blk 115 (T_code_checker.pvs o0), .ghost (gv 0) (.ptr 0 0), .blk 84 (T_api_Ins.pvs y2)]⟩) (fun s => F_code_checker_may_J5 p1 o0 y2 s = some r) ?_ ?_
          · refine At.sR [0, 1, 5, 6, 52, 62] [0, 1, 2] [] ?_
            refine At.cd h (fun b94 h => ?_) (fun b94 h => ?_)
            · refine At.skip (fun _ _ i => ⟨(y2.Op == 3), h, i.en [] [0, 1, 5, 6, 52, 62] [0, 1, 2]⟩)
            · refine At.seq ?_
              refine At.rK (st' := ⟨[(0, .ptr 0 0), (1, i64 p1), (5, .ptr 2 0), (6, bo true), (52, i64 y2.Op), (62, bo (y2.Op == 4))], [.blk 115 (T_code_checker.pvs o0), .ghost (gv 0) (.ptr 0 0), .blk 84 (T_api_Ins.pvs y2)]⟩) [0, 1, 5, 6, 52, 62] [0, 1, 2] [] (norm ?_)
              refine At.cd h (fun b95 h => ?_) (fun b95 h => ?_)
              · refine At.skip (fun _ _ i => ⟨(y2.Op == 4), h, i⟩)
              · refine At.sR [0, 1, 5, 6, 52, 62] [0, 1, 2] [] ?_
                refine At.cd h (fun b96 h => ?_) (fun b96 h => ?_)
                · refine At.skip (fun _ _ i => ⟨(y2.Op == 11), h, i.en [] [0, 1, 5, 6, 52, 62] [0, 1, 2]⟩)
                · refine At.sR [0, 1, 5, 6, 52, 62] [0, 1, 2] [] ?_
                  refine At.cd h (fun b97 h => ?_) (fun b97 h => ?_)
                  · refine At.skip (fun _ _ i => ⟨(y2.Op == 12), h, i.en [] [0, 1, 5, 6, 52, 62] [0, 1, 2]⟩)
                  · exact At.rK [0, 1, 5, 6, 52, 62] [0, 1, 2] [] fun _ _ i => ⟨(y2.Op == 19), h, i⟩
          · intro x85 h
            refine At.cd h (fun b86 h => ?_) (fun b86 h => ?_)
            · rcases cs h with ⟨b87, h⟩ | ⟨b87, h⟩
              · exact At.dK 0 [0, 1, 5, 6] [0, 1, 2] [bT 3 b87] fun _ _ i => ⟨(decide (y2.A < o0.vars)), h, i⟩
              · exact At.dK 0 [0, 1, 5, 6] [0, 1, 2] [bT 3 b87] fun _ _ i => ⟨false, h, i⟩
            · refine At.sR [0, 1, 5, 6, 52, 80] [0, 1, 2] [] ?_
              refine At.cd h (fun b88 h => ?_) (fun b88 h => ?_)
              · obtain ⟨y89, hy89, h⟩ := bs h
                exact At.rK [0, 1, 5, 6] [0, 1, 2] [cT 6 1 [2] (C_slices_ContainsFunc_retrace_api_Chan_retrace_api_Chan o0.Code.Chans y2 y89 hy89)] fun _ _ i => ⟨y89, h, i⟩
              · refine At.sR [0, 1, 5, 6, 89] [0, 1, 2] [] ?_
                refine At.cd h (fun b90 h => ?_) (fun b90 h => ?_)
                · rcases cs h with ⟨b91, h⟩ | ⟨b91, h⟩
                  · rcases cs h with ⟨b92, h⟩ | ⟨b92, h⟩
                    · obtain ⟨y93, hy93, h⟩ := bs h
                      exact At.dK 0 [0, 1, 5, 6] [0, 1, 2] [bT 3 b91, bT 14 b92, eT T_api_Def.enc_len 24 hy93] fun _ _ i => ⟨(y2.B == y93.Params), h, i⟩
                    · exact At.dK 0 [0, 1, 5, 6] [0, 1, 2] [bT 3 b91, bT 14 b92] fun _ _ i => ⟨false, h, i⟩
                  · exact At.dK 0 [0, 1, 5, 6] [0, 1, 2] [bT 3 b91] fun _ _ i => ⟨false, h, i⟩
                · refine At.nR [0, 1, 5, 6] [0, 1, 2] ?_
                  refine At.skip (fun _ _ i => ⟨true, h, i.en [] [0, 1, 5, 6] [0, 1, 2]⟩)
      · intro x40 h
        obtain ⟨y42, hy42, h⟩ := bs h
        refine At.sR [0, 1, 5, 6, 7, 8] [0, 1, 2] [c0 1 (C_patch_Target y2 y42 hy42)] ?_
        refine At.seq ?_
        refine At.seqJ (S := Bool) (fun s => ⟨[(0, .ptr 0 0), (1, i64 p1), (5, .ptr 2 0), (7, i64 y42.1), (136, bo s)], [.blk 115 (T_code_checker.pvs o0), .ghost (gv 0) (.ptr 0 0), .blk 84 (T_api_Ins.pvs y2)]⟩) (fun s => F_code_checker_may_J3 p1 o0 y2 y42 s = some r) ?_ ?_
        · rcases cs h with ⟨b77, h⟩ | ⟨b77, h⟩
          · exact At.rK [0, 1, 5, 7, 136] [0, 1, 2] [bT 2 b77] fun _ _ i => ⟨true, h, i⟩
          · rcases cs h with ⟨b78, h⟩ | ⟨b78, h⟩
            · obtain ⟨y79, hy79, h⟩ := bs h
              exact At.rK [0, 1, 5, 7, 136] [0, 1, 2] [bT 2 b77, bT 4 b78, cT 8 1 [0] (C_code_checker_aimed p1 y42.1 o0 y79 hy79)] fun _ _ i => ⟨(!y79), h, i⟩
            · exact At.rK [0, 1, 5, 7, 136] [0, 1, 2] [bT 2 b77, bT 4 b78] fun _ _ i => ⟨false, h, i⟩
        · intro x54 h
          refine At.cd h (fun b55 h => ?_) (fun b55 h => ?_)
          · refine At.sR [4] [0, 1] [] ?_
            obtain rfl := sq h
            exact At.ret (At.rR hR [0])
          · refine At.nR [0, 1, 5, 7] [0, 1, 2] ?_
            refine At.skip (norm ?_)
            refine At.seqJ (S := Bool) (fun s => ⟨[(4, bo s)], [.blk 115 (T_code_checker.pvs o0), .ghost (gv 0) (.ptr 0 0)]⟩) (fun s => F_code_checker_may_J4 s = some r) ?_ ?_
            · obtain ⟨y67, hy67, h⟩ := bs h
              rcases cs h with ⟨b68, h⟩ | ⟨b68, h⟩
              · obtain ⟨y69, hy69, h⟩ := bs h
                rcases cs h with ⟨b70, h⟩ | ⟨b70, h⟩
                · exact At.rK [4] [0, 1] [c0 2 (C_code_acts y2.Op y67 hy67), bT 4 b68, c0 13 (C_code_chooses y2.Op y69 hy69), bT 15 b70] fun _ _ i => ⟨true, h, i⟩
                · obtain ⟨y71, hy71, h⟩ := bs h
                  exact At.rK [4] [0, 1] [c0 2 (C_code_acts y2.Op y67 hy67), bT 4 b68, c0 13 (C_code_chooses y2.Op y69 hy69), bT 15 b70, cT 18 1 [0] (C_code_checker_rests y42.1 o0 y71 hy71)] fun _ _ i => ⟨y71, h, i⟩
              · obtain ⟨y72, hy72, h⟩ := bs h
                rcases cs h with ⟨b73, h⟩ | ⟨b73, h⟩
                · obtain ⟨y74, hy74, h⟩ := bs h
                  rcases cs h with ⟨b75, h⟩ | ⟨b75, h⟩
                  · exact At.rK [4] [0, 1] [c0 2 (C_code_acts y2.Op y67 hy67), bT 4 b68, cT 8 1 [0] (C_code_checker_rests (w64 (p1 + 1)) o0 y72 hy72), bT 10 b73, c0 13 (C_code_chooses y2.Op y74 hy74), bT 15 b75] fun _ _ i => ⟨true, h, i⟩
                  · obtain ⟨y76, hy76, h⟩ := bs h
                    exact At.rK [4] [0, 1] [c0 2 (C_code_acts y2.Op y67 hy67), bT 4 b68, cT 8 1 [0] (C_code_checker_rests (w64 (p1 + 1)) o0 y72 hy72), bT 10 b73, c0 13 (C_code_chooses y2.Op y74 hy74), bT 15 b75, cT 18 1 [0] (C_code_checker_rests y42.1 o0 y76 hy76)] fun _ _ i => ⟨y76, h, i⟩
                · exact At.rK [4] [0, 1] [c0 2 (C_code_acts y2.Op y67 hy67), bT 4 b68, cT 8 1 [0] (C_code_checker_rests (w64 (p1 + 1)) o0 y72 hy72), bT 10 b73] fun _ _ i => ⟨false, h, i⟩
            · intro x66 h
              obtain rfl := sq h
              exact At.ret (At.rR hR [0])
theorem C_ins_Takes (p0 : T_api_Ins) (r : Int) (h : F_ins_Takes p0 = some r) : FnOK Tryz.prog 149 [.agg (T_api_Ins.pvs p0)] [] (i64 r) [] [] := by
  refine fI Tryz.func149 rfl fun E gv R hR => ?_
  refine At.sR [1] [0] [] ?_
  obtain ⟨y2, hy2, h⟩ := bs h
  refine At.sR [1, 3] [0, 1] [c0 2 (C_ins_find p0.Op y2 hy2)] ?_
  refine At.seq ?_
  refine At.block ?_
  obtain ⟨y15, hy15, h⟩ := bs h
  refine At.sR [1, 3, 11] [0, 1] [c0 1 (C_ins_Right p0 y15 hy15)] ?_
  refine At.cd h (fun b16 h => ?_) (fun b16 h => ?_)
  · refine At.sR [2] [] [] ?_
    obtain rfl := sq h
    exact At.ret (At.rR hR [])
  · refine At.sR [1, 3, 15] [0, 1] [] ?_
    refine At.cd h (fun b17 h => ?_) (fun b17 h => ?_)
    · obtain ⟨y19, hy19, h⟩ := bs h
      refine At.sR [2] [] [c0 2 (C_arith_Wide p0.A y19 hy19)] ?_
      obtain rfl := sq h
      exact At.ret (At.rR hR [])
    · refine At.seqJ (S := Bool) (fun s => ⟨[(1, .ptr 0 0), (3, .ptr 1 0), (22, bo s)], [.blk 84 (T_api_Ins.pvs p0), .blk 108 (T_ins_row.pvs y2.1)]⟩) (fun s => F_ins_Takes_J1 p0 y2 s = some r) ?_ ?_
      · rcases cs h with ⟨b24, h⟩ | ⟨b24, h⟩
        · exact At.rK [1, 3, 22] [0, 1] [bT 3 b24] fun _ _ i => ⟨(decide (0 < p0.B)), h, i⟩
        · exact At.rK [1, 3, 22] [0, 1] [bT 3 b24] fun _ _ i => ⟨false, h, i⟩
      · intro x21 h
        refine At.cd h (fun b22 h => ?_) (fun b22 h => ?_)
        · refine At.sR [2] [] [] ?_
          obtain rfl := sq h
          exact At.ret (At.rR hR [])
        · refine At.sR [1, 3, 31] [0, 1] [] ?_
          refine At.cd h (fun b23 h => ?_) (fun b23 h => ?_)
          · refine At.sR [2] [] [] ?_
            obtain rfl := sq h
            exact At.ret (At.rR hR [])
          · refine At.nR [3] [1] ?_
            refine At.skip (norm ?_)
            refine At.sR [2] [] [] ?_
            obtain rfl := sq h
            exact At.ret (At.rR hR [])
theorem C_ins_Gives (p0 : T_api_Ins) (r : Int) (h : F_ins_Gives p0 = some r) : FnOK Tryz.prog 150 [.agg (T_api_Ins.pvs p0)] [] (i64 r) [] [] := by
  refine fI Tryz.func150 rfl fun E gv R hR => ?_
  refine At.sR [1] [0] [] ?_
  refine At.seq ?_
  obtain ⟨y10, hy10, h⟩ := bs h
  refine At.sR [1, 3, 4] [0, 1] [c0 2 (C_ins_find p0.Op y10 hy10)] ?_
  refine At.seqJ (S := Bool) (fun s => ⟨[(3, .ptr 0 0), (15, bo s)], [.blk 108 (T_ins_row.pvs y10.1)]⟩) (fun s => F_ins_Gives_J1 y10 s = some r) ?_ ?_
  · rcases cs h with ⟨b15, h⟩ | ⟨b15, h⟩
    · obtain ⟨y16, hy16, h⟩ := bs h
      exact At.rK [3, 15] [1] [bT 1 b15, c0 3 (C_ins_Right p0 y16 hy16)] fun _ _ i => ⟨y16, h, i⟩
    · exact At.rK [3, 15] [1] [bT 1 b15] fun _ _ i => ⟨false, h, i⟩
  · intro x13 h
    refine At.cd h (fun b14 h => ?_) (fun b14 h => ?_)
    · refine At.sR [2] [] [] ?_
      obtain rfl := sq h
      exact At.ret (At.rR hR [])
    · refine At.nR [] [] ?_
      refine At.skip (norm ?_)
      refine At.sR [2] [] [] ?_
      obtain rfl := sq h
      exact At.ret (At.rR hR [])
theorem C_code_fits (p0 : T_api_Ins) (p1 : T_code_there) (r : T_code_there × Bool) (h : F_code_fits p0 p1 = some r) : FnOK Tryz.prog 116 [.agg (T_api_Ins.pvs p0), .agg (T_code_there.pvs p1)] [] (.tup [.agg (T_code_there.pvs r.1), bo r.2]) [] [] := by
  refine fI Tryz.func116 rfl fun E gv R hR => ?_
  refine At.sR [2, 3, 4] [0, 1, 2] [] ?_
  obtain ⟨y2, hy2, h⟩ := bs h
  refine At.sD 0 [2, 3, 4, 6] [0, 1, 2] [c0 3 (C_ins_Takes p0 y2 hy2)] ?_
  refine At.sR [2, 3, 4, 6, 7] [0, 1, 2] [] ?_
  refine At.seqJ (S := Bool × Bool) (fun s => ⟨[(2, .ptr 0 0), (3, .ptr 1 0), (4, .ptr 2 0), (6, i64 (w64 (p1.n - y2))), (7, bo s.1)], [.blk 84 (T_api_Ins.pvs p0), .blk 176 [i64 p1.n, bo s.2], .blk 176 [i64 0, bo false]]⟩) (fun s => F_code_fits_J1 p0 p1 y2 s.1 s.2 = some r) ?_ ?_
  · refine At.block ?_
    refine At.seqJ (S := Bool) (fun s => ⟨[(2, .ptr 0 0), (3, .ptr 1 0), (4, .ptr 2 0), (6, i64 (w64 (p1.n - y2))), (7, bo (decide (0 ≤ (w64 (p1.n - y2))))), (15, bo s)], [.blk 84 (T_api_Ins.pvs p0), .blk 176 (T_code_there.pvs p1), .blk 176 [i64 0, bo false]]⟩) (fun s => F_code_fits_J2 p0 p1 y2 s = some r) ?_ ?_
    · refine At.sR [2, 3, 4, 6, 7, 15] [0, 1, 2] [] ?_
      refine At.cd h (fun b45 h => ?_) (fun b45 h => ?_)
      · refine At.skip (fun _ _ i => ⟨(p0.Op == 1), h, i.en [] [2, 3, 4, 6, 7, 15] [0, 1, 2]⟩)
      · refine At.sR [2, 3, 4, 6, 7, 15] [0, 1, 2] [] ?_
        refine At.cd h (fun b46 h => ?_) (fun b46 h => ?_)
        · refine At.skip (fun _ _ i => ⟨(p0.Op == 24), h, i.en [] [2, 3, 4, 6, 7, 15] [0, 1, 2]⟩)
        · exact At.rK [2, 3, 4, 6, 7, 15] [0, 1, 2] [] fun _ _ i => ⟨(p0.Op == 25), h, i⟩
    · intro x29 h
      refine At.cd h (fun b30 h => ?_) (fun b30 h => ?_)
      · refine At.sR [2, 3, 4, 6, 7] [0, 1, 2] [] ?_
        exact At.rK [2, 3, 4, 6, 7] [0, 1, 2] [] fun _ _ i => ⟨(((p1.n == 0) && ((p1.choose == false) && true)), (p0.Op == 25)), h, i⟩
      · refine At.sR [2, 3, 4, 6, 7, 32] [0, 1, 2] [] ?_
        refine At.cd h (fun b31 h => ?_) (fun b31 h => ?_)
        · exact At.rK [2, 3, 4, 6, 7] [0, 1, 2] [] fun _ _ i => ⟨(((p1.n == 0) && ((p1.choose == true) && true)), p1.choose), h, i⟩
        · obtain ⟨y33, hy33, h⟩ := bs h
          refine At.sR [2, 3, 4, 6, 7, 39] [0, 1, 2] [c0 2 (C_code_chooses p0.Op y33 hy33)] ?_
          refine At.cd h (fun b34 h => ?_) (fun b34 h => ?_)
          · rcases cs h with ⟨b35, h⟩ | ⟨b35, h⟩
            · exact At.rK [2, 3, 4, 6, 7] [0, 1, 2] [bT 2 b35] fun _ _ i => ⟨(p1.choose, p1.choose), h, i⟩
            · exact At.rK [2, 3, 4, 6, 7] [0, 1, 2] [bT 2 b35] fun _ _ i => ⟨(false, p1.choose), h, i⟩
          · refine At.seqJ (S := Bool) (fun s => ⟨[(2, .ptr 0 0), (3, .ptr 1 0), (4, .ptr 2 0), (6, i64 (w64 (p1.n - y2))), (7, bo (decide (0 ≤ (w64 (p1.n - y2))))), (49, bo s)], [.blk 84 (T_api_Ins.pvs p0), .blk 176 (T_code_there.pvs p1), .blk 176 [i64 0, bo false]]⟩) (fun s => F_code_fits_J3 p0 p1 y2 s = some r) ?_ ?_
            · obtain ⟨y43, hy43, h⟩ := bs h
              refine At.sR [2, 3, 4, 6, 7, 49] [0, 1, 2] [c0 2 (C_code_acts p0.Op y43 hy43)] ?_
              refine At.cd h (fun b44 h => ?_) (fun b44 h => ?_)
              · refine At.skip (fun _ _ i => ⟨y43, h, i.en [] [2, 3, 4, 6, 7, 49] [0, 1, 2]⟩)
              · exact At.rK [2, 3, 4, 6, 7, 49] [0, 1, 2] [] fun _ _ i => ⟨(p0.Op == 18), h, i⟩
            · intro x39 h
              refine At.cd h (fun b40 h => ?_) (fun b40 h => ?_)
              · rcases cs h with ⟨b41, h⟩ | ⟨b41, h⟩
                · exact At.rK [2, 3, 4, 6, 7] [0, 1, 2] [bT 2 b41] fun _ _ i => ⟨((!p1.choose), p1.choose), h, i⟩
                · exact At.rK [2, 3, 4, 6, 7] [0, 1, 2] [bT 2 b41] fun _ _ i => ⟨(false, p1.choose), h, i⟩
              · refine At.nR [2, 3, 4, 6, 7] [0, 1, 2] ?_
                refine At.skip (fun _ _ i => ⟨((decide (0 ≤ (w64 (p1.n - y2)))), p1.choose), h, i.en [] [2, 3, 4, 6, 7] [0, 1, 2]⟩)
  · rintro ⟨x23, x24⟩ h
    replace h : F_code_fits_J1 p0 p1 y2 x23 x24 = some r := h
    obtain ⟨y26, hy26, h⟩ := bs h
    refine At.sR [3, 4, 7] [1, 2] [c0 2 (C_ins_Gives p0 y26 hy26)] ?_
    refine At.sR [4, 5] [1] [] ?_
    obtain rfl := sq h
    exact At.ret (At.rR hR [])
theorem C_code_checker_flow_1 (p0 : Int) (p1 : T_code_there) (o2_0 : Int) (o3_0 : Bool) (o1 : (List (Int × T_code_there))) (r : Bool × (List (Int × T_code_there))) (h : F_code_checker_flow_1 p0 p1 o2_0 o3_0 o1 = some r) : FnOK Tryz.prog 117 [i64 p0, .agg (T_code_there.pvs p1), .ptr 0 0, .ptr 2 0, .ptr 3 0] [.blk 177 [.mapv 1], .dmp true (encM .i64 T_code_there.enc o1), .blk 3 [i64 o2_0], .blk 4 [bo o3_0]] (.tup []) [.blk 177 [.mapv 1], .dmp true (encM .i64 T_code_there.enc r.2), .blk 3 [i64 o2_0], .blk 4 [bo r.1]] [1, 3, 5, 7] := by
  refine fI Tryz.func117 rfl fun E gv R hR => ?_
  refine At.sR [0, 2, 3, 4, 6] [0, 1, 2, 3, 4, 5, 6, 7, 8] [] ?_
  obtain ⟨y2, hy2, h⟩ := Let_some h
  refine At.sR [0, 2, 3, 4, 6, 7, 8] [0, 1, 2, 3, 4, 5, 6, 7, 8, 9] [tT 2 ({ orc := .cells (.bool y2.isSome :: T_code_there.enc (y2.getD (⟨0, false⟩ : T_code_there))) }) (allc (dget_enc .i64 T_code_there.enc (⟨0, false⟩ : T_code_there) hy2) all0)] ?_
  refine At.block ?_
  refine At.sR [0, 2, 4, 6, 7, 8, 18] [0, 1, 2, 3, 4, 5, 6, 7, 8, 9] [] ?_
  refine At.cd h (fun b3 h => ?_) (fun b3 h => ?_)
  · rcases cs h with ⟨b4, h⟩ | ⟨b4, h⟩
    · obtain rfl := sq h
      refine At.rG [] [0, 1, 2, 3, 4, 5, 6, 7] [bT 1 b4] (edq (l := []) (ks := []) (ρ := [0, 1, 2, 3, 4, 5, 6, 7]) (st' := ⟨[], [.blk 177 [.mapv 1], .dmp true (encM .i64 T_code_there.enc o1), .blk 3 [i64 o2_0], .blk 4 [bo ((p1.n == 0) && ((p1.choose == false) && true))], .ghost (gv 0) (.ptr 0 0), .ghost (gv 1) (.ptr 1 0), .ghost (gv 2) (.ptr 2 0), .ghost (gv 3) (.ptr 3 0)]⟩) (by kernel_rfl) (At.rN hR [0, 1, 2, 3]))
    · obtain rfl := sq h
      refine At.rG [] [0, 1, 2, 3, 4, 5, 6, 7] [bT 1 b4] (edq (l := []) (ks := []) (ρ := [0, 1, 2, 3, 4, 5, 6, 7]) (st' := ⟨[], [.blk 177 [.mapv 1], .dmp true (encM .i64 T_code_there.enc o1), .blk 3 [i64 o2_0], .blk 4 [bo false], .ghost (gv 0) (.ptr 0 0), .ghost (gv 1) (.ptr 1 0), .ghost (gv 2) (.ptr 2 0), .ghost (gv 3) (.ptr 3 0)]⟩) (by kernel_rfl) (At.rN hR [0, 1, 2, 3]))
  · refine At.sR [0, 2, 4, 6, 7, 28] [0, 1, 2, 3, 4, 5, 6, 7, 8, 9] [] ?_
    refine At.cd h (fun b5 h => ?_) (fun b5 h => ?_)
    · rcases cs h with ⟨b6, h⟩ | ⟨b6, h⟩
      · obtain rfl := sq h
        refine At.rG [] [0, 1, 2, 3, 4, 5, 6, 7] [bT 1 b6] (edq (l := []) (ks := []) (ρ := [0, 1, 2, 3, 4, 5, 6, 7]) (st' := ⟨[], [.blk 177 [.mapv 1], .dmp true (encM .i64 T_code_there.enc o1), .blk 3 [i64 o2_0], .blk 4 [bo ((p1.n == ((y2.getD (⟨0, false⟩ : T_code_there)).n)) && ((p1.choose == ((y2.getD (⟨0, false⟩ : T_code_there)).choose)) && true))], .ghost (gv 0) (.ptr 0 0), .ghost (gv 1) (.ptr 1 0), .ghost (gv 2) (.ptr 2 0), .ghost (gv 3) (.ptr 3 0)]⟩) (by kernel_rfl) (At.rN hR [0, 1, 2, 3]))
      · obtain rfl := sq h
        refine At.rG [] [0, 1, 2, 3, 4, 5, 6, 7] [bT 1 b6] (edq (l := []) (ks := []) (ρ := [0, 1, 2, 3, 4, 5, 6, 7]) (st' := ⟨[], [.blk 177 [.mapv 1], .dmp true (encM .i64 T_code_there.enc o1), .blk 3 [i64 o2_0], .blk 4 [bo false], .ghost (gv 0) (.ptr 0 0), .ghost (gv 1) (.ptr 1 0), .ghost (gv 2) (.ptr 2 0), .ghost (gv 3) (.ptr 3 0)]⟩) (by kernel_rfl) (At.rN hR [0, 1, 2, 3]))
    · obtain rfl := sq h
      refine At.rG [] [0, 1, 2, 3, 4, 5, 6, 7] [tT 3 ({ orc := .ents (encM .i64 T_code_there.enc (mPut o1 p0 p1)) }) (allc (dput_enc .i64 T_code_there.enc p0 p1 o1) all0)] (edq (l := []) (ks := []) (ρ := [0, 1, 2, 3, 4, 5, 6, 7]) (st' := ⟨[], [.blk 177 [.mapv 1], .dmp true (encM .i64 T_code_there.enc (mPut o1 p0 p1)), .blk 3 [i64 o2_0], .blk 4 [bo o3_0], .ghost (gv 0) (.ptr 0 0), .ghost (gv 1) (.ptr 1 0), .ghost (gv 2) (.ptr 2 0), .ghost (gv 3) (.ptr 3 0)]⟩) (by kernel_rfl) (At.rN hR [0, 1, 2, 3]))
theorem C_code_checker_flow (o0 : T_code_checker) (r : Int × Bool) (h : F_code_checker_flow o0 = some r) : FnOK Tryz.prog 64 [.ptr 0 0] [.blk 115 (T_code_checker.pvs o0)] (.tup [i64 r.1, bo r.2]) [.blk 115 (T_code_checker.pvs o0)] [1] := by
  refine fI Tryz.func64 rfl fun E gv R hR => ?_
  refine At.sR [0] [0, 1] [] ?_
  refine At.sR [0, 4] [0, 1, 3, 2] [] ?_
  refine At.eN [.mapD 3 true] [0, 4] [0, 1, 2, 3] ?_
  refine At.seq ?_
  refine At.sR [0, 4, 5] [0, 1, 2, 3, 4] [] ?_
  refine At.block ?_
  refine At.nK (st' := ⟨[(0, .ptr 0 0), (4, .ptr 2 0), (5, .ptr 4 0)], [.blk 115 (T_code_checker.pvs o0), .ghost (gv 0) (.ptr 0 0), .blk 177 [.mapv 3], .dmp true (encM .i64 T_code_there.enc ([(o0.from_, (⟨0, false⟩ : T_code_there))] : List (Int × T_code_there))), .blk 3 [i64 o0.from_]]⟩) [0, 4, 5] [0, 1, 2, 3, 4] ?_
  refine At.lp (fun s : ((List (Int × T_code_there)) × Int) => ⟨[(0, .ptr 0 0), (4, .ptr 2 0), (5, .ptr 4 0)], [.blk 115 (T_code_checker.pvs o0), .ghost (gv 0) (.ptr 0 0), .blk 177 [.mapv 3], .dmp true (encM .i64 T_code_there.enc s.1), .blk 3 [i64 s.2]]⟩) h ?_
  rintro ⟨x138, x139⟩ oo140 h f141
  replace h : F_code_checker_flow_L7 o0 x138 x139 = some oo140 := h
  refine At.seq ?_
  refine At.sD 0 [0, 4, 5, 30] [0, 1, 2, 3, 4] [] ?_
  refine At.cd h (fun b143 h => ?_) (fun b143 h => ?_)
  · refine At.nR [0, 4, 5] [0, 1, 2, 3, 4] ?_
    refine At.skip (norm ?_)
    refine At.seqJ (S := (List (Int × T_code_there))) (fun s => ⟨[(0, .ptr 0 0), (4, .ptr 2 0), (5, .ptr 4 0)], [.blk 115 (T_code_checker.pvs o0), .ghost (gv 0) (.ptr 0 0), .blk 177 [.mapv 3], .dmp true (encM .i64 T_code_there.enc s), .blk 3 [i64 x139]]⟩) (fun s => F_code_checker_flow_J1 x139 s = some oo140) ?_ ?_
    · refine At.block ?_
      obtain ⟨y209, hy209, h⟩ := Let_some h
      refine At.sR [0, 4, 5, 6, 7] [0, 1, 2, 3, 4, 5] [tT 2 ({ orc := .cells (.bool y209.isSome :: T_code_there.enc (y209.getD (⟨0, false⟩ : T_code_there))) }) (allc (dget_enc .i64 T_code_there.enc (⟨0, false⟩ : T_code_there) hy209) all0)] ?_
      obtain ⟨y211, hy211, h⟩ := bs h
      refine At.sD 1 [0, 4, 5, 6, 7, 8] [0, 1, 2, 3, 4, 5, 6] [eT T_api_Ins.enc_len 6 hy211] ?_
      refine At.seq ?_
      refine At.seqJ (S := Bool) (fun s => ⟨[(0, .ptr 0 0), (4, .ptr 2 0), (5, .ptr 4 0), (6, .ptr 5 0), (8, .ptr 6 0), (53, bo s)], [.blk 115 (T_code_checker.pvs o0), .ghost (gv 0) (.ptr 0 0), .blk 177 [.mapv 3], .dmp true (encM .i64 T_code_there.enc x138), .blk 3 [i64 x139], .blk 176 (T_code_there.pvs (y209.getD (⟨0, false⟩ : T_code_there))), .blk 84 (T_api_Ins.pvs y211)]⟩) (fun s => F_code_checker_flow_J2 x138 x139 y209 y211 s = some oo140) ?_ ?_
      · rcases cs h with ⟨b272, h⟩ | ⟨b272, h⟩
        · exact At.rK [0, 4, 5, 6, 8, 53] [0, 1, 2, 3, 4, 5, 6] [bT 2 b272] fun _ _ i => ⟨(y211.Op != 1), h, i⟩
        · exact At.rK [0, 4, 5, 6, 8, 53] [0, 1, 2, 3, 4, 5, 6] [bT 2 b272] fun _ _ i => ⟨false, h, i⟩
      · intro x217 h
        refine At.cd h (fun b218 h => ?_) (fun b218 h => ?_)
        · refine At.nR [0, 4, 5] [0, 1, 2, 3, 4] ?_
          refine At.exit (fun _ _ i => ⟨x138, h, i.en [] [0, 4, 5] [0, 1, 2, 3, 4]⟩)
        · refine At.nR [0, 4, 5, 6, 8] [0, 1, 2, 3, 4, 5, 6] ?_
          refine At.skip (norm ?_)
          obtain ⟨y220, hy220, h⟩ := bs h
          refine At.sR [0, 4, 5, 8, 9, 10] [0, 1, 2, 3, 4, 6, 7, 8] [c0 2 (C_code_fits y211 (y209.getD (⟨0, false⟩ : T_code_there)) y220 hy220)] ?_
          refine At.sR [0, 4, 5, 8, 9, 10, 11] [0, 1, 2, 3, 4, 5, 6, 7] [] ?_
          refine At.seqJ (S := (List (Int × T_code_there)) × Bool) (fun s => ⟨[(0, .ptr 0 0), (4, .ptr 2 0), (5, .ptr 4 0), (8, .ptr 5 0), (9, .ptr 6 0), (10, .ptr 7 0), (11, .fn (.func 117) [] [.ptr 2 0, .ptr 4 0, .ptr 7 0])], [.blk 115 (T_code_checker.pvs o0), .ghost (gv 0) (.ptr 0 0), .blk 177 [.mapv 3], .dmp true (encM .i64 T_code_there.enc s.1), .blk 3 [i64 x139], .blk 84 (T_api_Ins.pvs y211), .blk 176 (T_code_there.pvs y220.1), .blk 4 [bo s.2]]⟩) (fun s => F_code_checker_flow_J3 x139 y211 y220 s.1 s.2 = some oo140) ?_ ?_
          · obtain ⟨y262, hy262, h⟩ := bs h
            refine At.sR [0, 4, 5, 8, 9, 10, 11, 12, 13] [0, 1, 2, 3, 4, 5, 6, 7] [c0 1 (C_patch_Target y211 y262 hy262)] ?_
            refine At.seqJ (S := Bool) (fun s => ⟨[(0, .ptr 0 0), (4, .ptr 2 0), (5, .ptr 4 0), (8, .ptr 5 0), (9, .ptr 6 0), (10, .ptr 7 0), (11, .fn (.func 117) [] [.ptr 2 0, .ptr 4 0, .ptr 7 0]), (12, i64 y262.1), (69, bo s)], [.blk 115 (T_code_checker.pvs o0), .ghost (gv 0) (.ptr 0 0), .blk 177 [.mapv 3], .dmp true (encM .i64 T_code_there.enc x138), .blk 3 [i64 x139], .blk 84 (T_api_Ins.pvs y211), .blk 176 (T_code_there.pvs y220.1), .blk 4 [bo y220.2]]⟩) (fun s => F_code_checker_flow_J6 x138 x139 y211 y220 y262 s = some oo140) ?_ ?_
            · rcases cs h with ⟨b271, h⟩ | ⟨b271, h⟩
              · exact At.rK [0, 4, 5, 8, 9, 10, 11, 12, 69] [0, 1, 2, 3, 4, 5, 6, 7] [bT 1 b271] fun _ _ i => ⟨y220.2, h, i⟩
              · exact At.rK [0, 4, 5, 8, 9, 10, 11, 12, 69] [0, 1, 2, 3, 4, 5, 6, 7] [bT 1 b271] fun _ _ i => ⟨false, h, i⟩
            · intro x264 h
              refine At.cd h (fun b265 h => ?_) (fun b265 h => ?_)
              · obtain ⟨y267, hy267, h⟩ := bs h
                refine At.sR [0, 4, 5, 8, 9, 10, 11, 12, 72] [0, 1, 2, 3, 4, 5, 6, 7] [c0 2 (C_code_chooses y211.Op y267 hy267)] ?_
                refine At.cd h (fun b268 h => ?_) (fun b268 h => ?_)
                · obtain ⟨y269, hy269, h⟩ := bs h
                  exact At.rK [0, 4, 5, 8, 9, 10, 11] [0, 1, 2, 3, 4, 5, 6, 7] [cT 3 4 [2, 3, 4, 7] (C_code_checker_flow_1 y262.1 (⟨0, false⟩ : T_code_there) x139 y220.2 x138 y269 hy269)] fun _ _ i => ⟨(y269.2, y269.1), h, i⟩
                · obtain ⟨y270, hy270, h⟩ := bs h
                  exact At.rK [0, 4, 5, 8, 9, 10, 11] [0, 1, 2, 3, 4, 5, 6, 7] [cT 3 4 [2, 3, 4, 7] (C_code_checker_flow_1 y262.1 y220.1 x139 y220.2 x138 y270 hy270)] fun _ _ i => ⟨(y270.2, y270.1), h, i⟩
              · refine At.nR [0, 4, 5, 8, 9, 10, 11] [0, 1, 2, 3, 4, 5, 6, 7] ?_
                refine At.skip (fun _ _ i => ⟨(x138, y220.2), h, i.en [] [0, 4, 5, 8, 9, 10, 11] [0, 1, 2, 3, 4, 5, 6, 7]⟩)
          · rintro ⟨x232, x233⟩ h
            replace h : F_code_checker_flow_J3 x139 y211 y220 x232 x233 = some oo140 := h
            refine At.seqJ (S := (List (Int × T_code_there)) × Bool) (fun s => ⟨[(0, .ptr 0 0), (4, .ptr 2 0), (5, .ptr 4 0), (10, .ptr 5 0)], [.blk 115 (T_code_checker.pvs o0), .ghost (gv 0) (.ptr 0 0), .blk 177 [.mapv 3], .dmp true (encM .i64 T_code_there.enc s.1), .blk 3 [i64 x139], .blk 4 [bo s.2]]⟩) (fun s => F_code_checker_flow_J4 x139 s.1 s.2 = some oo140) ?_ ?_
            · refine At.seqJ (S := Bool) (fun s => ⟨[(0, .ptr 0 0), (4, .ptr 2 0), (5, .ptr 4 0), (9, .ptr 5 0), (10, .ptr 6 0), (11, .fn (.func 117) [] [.ptr 2 0, .ptr 4 0, .ptr 6 0]), (101, bo s)], [.blk 115 (T_code_checker.pvs o0), .ghost (gv 0) (.ptr 0 0), .blk 177 [.mapv 3], .dmp true (encM .i64 T_code_there.enc x232), .blk 3 [i64 x139], .blk 176 (T_code_there.pvs y220.1), .blk 4 [bo x233]]⟩) (fun s => F_code_checker_flow_J5 x139 y220 x232 x233 s = some oo140) ?_ ?_
              · rcases cs h with ⟨b257, h⟩ | ⟨b257, h⟩
                · rcases cs h with ⟨b258, h⟩ | ⟨b258, h⟩
                  · rcases cs h with ⟨b259, h⟩ | ⟨b259, h⟩
                    · rcases cs h with ⟨b260, h⟩ | ⟨b260, h⟩
                      · exact At.rK [0, 4, 5, 9, 10, 11, 101] [0, 1, 2, 3, 4, 6, 7] [bT 1 b257, bT 6 b258, bT 11 b259, bT 16 b260] fun _ _ i => ⟨(y211.Op != 24), h, i⟩
                      · exact At.rK [0, 4, 5, 9, 10, 11, 101] [0, 1, 2, 3, 4, 6, 7] [bT 1 b257, bT 6 b258, bT 11 b259, bT 16 b260] fun _ _ i => ⟨false, h, i⟩
                    · exact At.rK [0, 4, 5, 9, 10, 11, 101] [0, 1, 2, 3, 4, 6, 7] [bT 1 b257, bT 6 b258, bT 11 b259] fun _ _ i => ⟨false, h, i⟩
                  · exact At.rK [0, 4, 5, 9, 10, 11, 101] [0, 1, 2, 3, 4, 6, 7] [bT 1 b257, bT 6 b258] fun _ _ i => ⟨false, h, i⟩
                · exact At.rK [0, 4, 5, 9, 10, 11, 101] [0, 1, 2, 3, 4, 6, 7] [bT 1 b257] fun _ _ i => ⟨false, h, i⟩
              · intro x254 h
                refine At.cd h (fun b255 h => ?_) (fun b255 h => ?_)
                · obtain ⟨y256, hy256, h⟩ := bs h
                  exact At.rK [0, 4, 5, 10] [0, 1, 2, 3, 4, 6] [cT 4 4 [2, 3, 4, 6] (C_code_checker_flow_1 (w64 (x139 + 1)) y220.1 x139 x233 x232 y256 hy256)] fun _ _ i => ⟨(y256.2, y256.1), h, i⟩
                · refine At.nR [0, 4, 5, 10] [0, 1, 2, 3, 4, 6] ?_
                  refine At.skip (fun _ _ i => ⟨(x232, x233), h, i.en [] [0, 4, 5, 10] [0, 1, 2, 3, 4, 5]⟩)
            · rintro ⟨x245, x246⟩ h
              replace h : F_code_checker_flow_J4 x139 x245 x246 = some oo140 := h
              refine At.sR [0, 4, 5, 108] [0, 1, 2, 3, 4] [] ?_
              refine At.cd h (fun b247 h => ?_) (fun b247 h => ?_)
              · refine At.sR [2, 3] [0, 1] [] ?_
                obtain ⟨r248, h, e249⟩ := mr h
                rw [f141 _ e249] at h
                obtain rfl := sq h
                exact At.ret (At.rR hR [0])
              · refine At.nR [0, 4, 5] [0, 1, 2, 3, 4] ?_
                refine At.skip (fun _ _ i => ⟨x245, h, i.en [] [0, 4, 5] [0, 1, 2, 3, 4]⟩)
    · intro x207 h
      refine At.seq ?_
      refine At.sR [0, 4, 110] [0, 1, 2, 3] [] ?_
      refine At.rG [0, 4, 5] [0, 1, 2, 3, 4] [] (norm ?_)
      exact At.rK [0, 4, 5] [0, 1, 2, 3, 4] [] fun _ _ i => ⟨_, li h, i⟩
  · refine At.nR [] [0, 1] ?_
    obtain ⟨r273, h, e274⟩ := mr h
    rw [f141 _ e274] at h
    refine At.exit (norm ?_)
    refine At.sR [2, 3] [0, 1] [] ?_
    obtain rfl := sq h
    exact At.ret (At.rR hR [0])
theorem C_code_Check (p0 : T_api_Code) (r : Int × Int) (h : F_code_Check p0 = some r) : FnOK Tryz.prog 32 [.agg (T_api_Code.pvs p0)] [] (.tup [i64 r.1, i64 r.2]) [] [] := by
  refine fI Tryz.func32 rfl fun E gv R hR => ?_
  refine At.sR [1] [0] [] ?_
  refine At.seq ?_
  obtain ⟨y5, hy5, h⟩ := bs h
  refine At.sR [1, 12] [0] [c0 1 (C_code_tables p0 y5 hy5)] ?_
  refine At.cd h (fun b6 h => ?_) (fun b6 h => ?_)
  · refine At.sR [2, 3] [] [] ?_
    obtain rfl := sq h
    exact At.ret (At.rR hR [])
  · refine At.nR [1] [0] ?_
    refine At.skip (norm ?_)
    refine At.sR [1, 4] [0, 1] [] ?_
    refine At.seq ?_
    refine At.sR [1, 4, 18, 19] [0, 1] [] ?_
    refine At.block ?_
    refine At.nK (st' := ⟨[(1, .ptr 0 0), (4, .ptr 1 0), (18, i64 ((p0.Defs).length : Int)), (19, i64 0)], [.blk 27 (T_api_Code.pvs p0), .blk 115 (T_api_Code.pvs p0 ++ [i64 0, i64 0, i64 0, i64 0])]⟩) [1, 4, 18, 19] [0, 1] ?_
    refine At.lp (fun s : (Int × (List T_api_Ins) × (List T_api_Def) × (List T_api_Chan) × Int × Int × Int × Int × Int × Int) => ⟨[(1, .ptr 0 0), (4, .ptr 1 0), (18, i64 ((p0.Defs).length : Int)), (19, i64 s.1)], [.blk 27 (T_api_Code.pvs p0), .blk 115 [lv T_api_Ins.enc s.2.1, lv T_api_Def.enc s.2.2.1, lv T_api_Chan.enc s.2.2.2.1, i64 s.2.2.2.2.1, i64 s.2.2.2.2.2.1, i64 s.2.2.2.2.2.2.1, i64 s.2.2.2.2.2.2.2.1, i64 s.2.2.2.2.2.2.2.2.1, i64 s.2.2.2.2.2.2.2.2.2]]⟩) h ?_
    rintro ⟨x87, x88, x89, x90, x91, x92, x93, x94, x95, x96⟩ oo97 h f98
    replace h : F_code_Check_L4 p0 x87 x88 x89 x90 x91 x92 x93 x94 x95 x96 = some oo97 := h
    refine At.sR [1, 4, 18, 19, 20] [0, 1] [] ?_
    refine At.seq ?_
    refine At.cd h (fun b100 h => ?_) (fun b100 h => ?_)
    · refine At.nR [1, 4, 18, 19] [0, 1] ?_
      refine At.skip (norm ?_)
      refine At.seq ?_
      refine At.block ?_
      refine At.sR [1, 4, 5, 18, 19] [0, 1] [] ?_
      obtain ⟨y133, hy133, h⟩ := bs h
      refine At.sR [1, 4, 18, 19] [0, 1] [cT 2 1 [1] (C_code_checker_routine x87 (⟨(⟨x88, x89, x90, x91, x92⟩ : T_api_Code), x93, x94, x95, x96⟩ : T_code_checker) y133 hy133)] ?_
      refine At.sR [1, 4, 6, 18, 19] [0, 1] [] ?_
      refine At.block ?_
      refine At.nK (st' := ⟨[(1, .ptr 0 0), (4, .ptr 1 0), (6, i64 y133.from_), (18, i64 ((p0.Defs).length : Int)), (19, i64 x87)], [.blk 27 (T_api_Code.pvs p0), .blk 115 (T_code_checker.pvs y133)]⟩) [1, 4, 6, 18, 19] [0, 1] ?_
      refine At.lp (fun s : (Int × Int) => ⟨[(1, .ptr 0 0), (4, .ptr 1 0), (6, i64 s.1), (18, i64 ((p0.Defs).length : Int)), (19, i64 x87)], [.blk 27 (T_api_Code.pvs p0), .blk 115 (T_api_Code.pvs y133.Code ++ [i64 s.2, i64 y133.from_, i64 y133.to, i64 y133.vars])]⟩) h ?_
      rintro ⟨x134, x135⟩ oo136 h f137
      replace h : F_code_Check_L2 p0 x87 y133 x134 x135 = some oo136 := h
      refine At.seq ?_
      refine At.sR [1, 4, 6, 18, 19, 34] [0, 1] [] ?_
      refine At.cd h (fun b139 h => ?_) (fun b139 h => ?_)
      · refine At.nR [1, 4, 6, 18, 19] [0, 1] ?_
        refine At.skip (norm ?_)
        refine At.seqJ (S := Int) (fun s => ⟨[(1, .ptr 0 0), (4, .ptr 1 0), (6, i64 x134), (18, i64 ((p0.Defs).length : Int)), (19, i64 x87)], [.blk 27 (T_api_Code.pvs p0), .blk 115 (T_api_Code.pvs y133.Code ++ [i64 s, i64 y133.from_, i64 y133.to, i64 y133.vars])]⟩) (fun s => F_code_Check_J1 x134 s = some oo136) ?_ ?_
        · refine At.block ?_
          refine At.seq ?_
          obtain ⟨y154, hy154, h⟩ := bs h
          refine At.sR [1, 4, 6, 18, 19, 40] [0, 1] [cT 2 1 [1] (C_code_checker_may x134 (⟨y133.Code, x135, y133.from_, y133.to, y133.vars⟩ : T_code_checker) y154 hy154)] ?_
          refine At.cd h (fun b155 h => ?_) (fun b155 h => ?_)
          · refine At.sR [2, 3] [] [] ?_
            obtain ⟨r156, h, e157⟩ := mr h
            rw [f137 _ e157] at h
            obtain ⟨r158, h, e159⟩ := mr h
            rw [f98 _ e159] at h
            obtain rfl := sq h
            exact At.ret (At.rR hR [])
          · refine At.nR [1, 4, 6, 18, 19] [0, 1] ?_
            refine At.skip (norm ?_)
            obtain ⟨y161, hy161, h⟩ := bs h
            refine At.sR [1, 4, 6, 18, 19, 48] [0, 1] [eT T_api_Ins.enc_len 3 hy161] ?_
            refine At.cd h (fun b162 h => ?_) (fun b162 h => ?_)
            · exact At.rK [1, 4, 6, 18, 19] [0, 1] [] fun _ _ i => ⟨(w64 (x135 + 1)), h, i⟩
            · refine At.nK (st' := ⟨[(1, .ptr 0 0), (4, .ptr 1 0), (6, i64 x134), (18, i64 ((p0.Defs).length : Int)), (19, i64 x87)], [.blk 27 (T_api_Code.pvs p0), .blk 115 (T_api_Code.pvs y133.Code ++ [i64 x135, i64 y133.from_, i64 y133.to, i64 y133.vars])]⟩) [1, 4, 6, 18, 19] [0, 1] ?_
              refine At.skip (fun _ _ i => ⟨x135, h, i⟩)
        · intro x149 h
          exact At.rK [1, 4, 6, 18, 19] [0, 1] [] fun _ _ i => ⟨_, li h, i⟩
      · refine At.nR [1, 4, 18, 19] [0, 1] ?_
        obtain ⟨r163, h, e164⟩ := mr h
        rw [f137 _ e164] at h
        refine At.exit (norm ?_)
        exact At.rK [1, 4, 18, 19] [0, 1] [] fun _ _ i => ⟨_, li h, i⟩
    · refine At.nR [1, 4] [0, 1] ?_
      obtain ⟨r165, h, e166⟩ := mr h
      rw [f98 _ e166] at h
      refine At.exit (norm ?_)
      refine At.seq ?_
      refine At.sD 0 [1, 4, 63] [0, 1] [] ?_
      refine At.cd h (fun b168 h => ?_) (fun b168 h => ?_)
      · refine At.sR [2, 3] [] [] ?_
        obtain rfl := sq h
        exact At.ret (At.rR hR [])
      · refine At.nR [1, 4] [0, 1] ?_
        refine At.skip (norm ?_)
        refine At.seq ?_
        refine At.sR [4, 66, 67] [1] [] ?_
        refine At.block ?_
        refine At.nK (st' := ⟨[(4, .ptr 0 0), (66, i64 ((p0.Defs).length : Int)), (67, i64 0)], [.blk 115 [lv T_api_Ins.enc x88, lv T_api_Def.enc x89, lv T_api_Chan.enc x90, i64 x91, i64 x92, i64 x93, i64 x94, i64 x95, i64 x96]]⟩) [4, 66, 67] [0] ?_
        refine At.lp (fun s : (Int × (List T_api_Ins) × (List T_api_Def) × (List T_api_Chan) × Int × Int × Int × Int × Int × Int) => ⟨[(4, .ptr 0 0), (66, i64 ((p0.Defs).length : Int)), (67, i64 s.1)], [.blk 115 [lv T_api_Ins.enc s.2.1, lv T_api_Def.enc s.2.2.1, lv T_api_Chan.enc s.2.2.2.1, i64 s.2.2.2.2.1, i64 s.2.2.2.2.2.1, i64 s.2.2.2.2.2.2.1, i64 s.2.2.2.2.2.2.2.1, i64 s.2.2.2.2.2.2.2.2.1, i64 s.2.2.2.2.2.2.2.2.2]]⟩) h ?_
        rintro ⟨x197, x198, x199, x200, x201, x202, x203, x204, x205, x206⟩ oo207 h f208
        replace h : F_code_Check_L3 p0 x197 x198 x199 x200 x201 x202 x203 x204 x205 x206 = some oo207 := h
        refine At.sR [4, 66, 67, 68] [0] [] ?_
        refine At.seq ?_
        refine At.cd h (fun b210 h => ?_) (fun b210 h => ?_)
        · refine At.nR [4, 66, 67] [0] ?_
          refine At.skip (norm ?_)
          refine At.seq ?_
          refine At.block ?_
          refine At.sR [4, 7, 66, 67] [0] [] ?_
          obtain ⟨y217, hy217, h⟩ := bs h
          refine At.sR [4, 66, 67] [0] [cT 2 1 [0] (C_code_checker_routine x197 (⟨(⟨x198, x199, x200, x201, x202⟩ : T_api_Code), x203, x204, x205, x206⟩ : T_code_checker) y217 hy217)] ?_
          obtain ⟨y219, hy219, h⟩ := bs h
          refine At.sR [4, 8, 9, 66, 67] [0] [cT 1 1 [0] (C_code_checker_flow y217 y219 hy219)] ?_
          refine At.seq ?_
          refine At.rK (st' := ⟨[(4, .ptr 0 0), (8, i64 y219.1), (66, i64 ((p0.Defs).length : Int)), (67, i64 x197), (79, bo (!y219.2))], [.blk 115 (T_code_checker.pvs y217)]⟩) [4, 8, 66, 67, 79] [0] [] (norm ?_)
          refine At.cd h (fun b220 h => ?_) (fun b220 h => ?_)
          · refine At.sR [2, 3] [] [] ?_
            obtain ⟨r221, h, e222⟩ := mr h
            rw [f208 _ e222] at h
            obtain rfl := sq h
            exact At.ret (At.rR hR [])
          · refine At.nR [4, 66, 67] [0] ?_
            refine At.skip (norm ?_)
            exact At.rK [4, 66, 67] [0] [] fun _ _ i => ⟨_, li h, i⟩
        · refine At.nR [] [] ?_
          obtain ⟨r223, h, e224⟩ := mr h
          rw [f208 _ e224] at h
          refine At.exit (norm ?_)
          refine At.sR [2, 3] [] [] ?_
          obtain rfl := sq h
          exact At.ret (At.rR hR [])
theorem C_wire_Writer_add (p1 : ByteArray) (o0 : T_wire_Writer) (r : T_wire_Writer) (h : F_wire_Writer_add p1 o0 = some r) : FnOK Tryz.prog 118 [.ptr 0 0, sv p1] [.blk 128 [.row 1 (o0.s).length], .row 5 1 (encL (eInt .u8) o0.s)] (.tup []) [.blk 128 [.row 1 (r.s).length], .row 5 1 (encL (eInt .u8) r.s)] [1, 2, 3] := by
  refine fI Tryz.func118 rfl fun E gv R hR => ?_
  refine At.sR [0, 1, 5] [0, 1, 2, 3] [] ?_
  refine At.cy ?_
  obtain ⟨g1, h⟩ := gs h
  obtain rfl := sq h
  refine At.rG [] [0, 1, 2, 3] [tT 6 ({ form := some ((o0.s ++ (sB p1)).length, encL (eInt .u8) (o0.s ++ (sB p1))) }) (allc (len_appS o0.s p1) (allc (encL_appS o0.s p1) (allc (app_ok (he_int .u8) (by decide) g1) all0)))] (edq (l := []) (ks := []) (ρ := [0, 1, 2, 3]) (st' := ⟨[], [.blk 128 [.row 1 ((o0.s ++ (sB p1))).length], .row 5 1 (encL (eInt .u8) (o0.s ++ (sB p1))), .ghost (gv 0) (.ptr 0 0), .ghost (gv 1) (.undef)]⟩) (by kernel_rfl) (At.rN hR [0, 1]))
theorem C_wire_Writer_Raw (p1 : ByteArray) (o0 : T_wire_Writer) (r : T_wire_Writer) (h : F_wire_Writer_Raw p1 o0 = some r) : FnOK Tryz.prog 74 [.ptr 0 0, sv p1] [.blk 128 [.row 1 (o0.s).length], .row 5 1 (encL (eInt .u8) o0.s)] (.tup []) [.blk 128 [.row 1 (r.s).length], .row 5 1 (encL (eInt .u8) r.s)] [1, 2, 3] := by
  refine fI Tryz.func74 rfl fun E gv R hR => ?_
  obtain ⟨y1, hy1, h⟩ := bs h
  obtain rfl := sq h
  refine At.rG [] [0, 1, 2, 3] [cT 2 2 [0, 1] (C_wire_Writer_add p1 o0 y1 hy1)] (edq (l := []) (ks := []) (ρ := [0, 1, 2, 3]) (st' := ⟨[], [.blk 128 [.row 1 (y1.s).length], .row 5 1 (encL (eInt .u8) y1.s), .ghost (gv 0) (.ptr 0 0), .ghost (gv 1) (.undef)]⟩) (by kernel_rfl) (At.rN hR [0, 1]))
theorem C_vint_Size (p0 : Int) (r : Int) (h : F_vint_Size p0 = some r) : FnOK Tryz.prog 151 [u64 p0] [] (i64 r) [] [] := by
  refine fI Tryz.func151 rfl fun E gv R hR => ?_
  refine At.sR [0] [] [] ?_
  refine At.sR [0, 3] [] [] ?_
  refine At.seq ?_
  refine At.block ?_
  refine At.nK (st' := ⟨[(0, u64 p0), (3, i64 1)], []⟩) [0, 3] [] ?_
  refine At.lp (fun s : (Int × Int) => ⟨[(0, u64 s.1), (3, i64 s.2)], []⟩) h ?_
  rintro ⟨x9, x10⟩ oo11 h f12
  replace h : F_vint_Size_L1 x9 x10 = some oo11 := h
  refine At.seq ?_
  refine At.sR [0, 3, 5] [] [] ?_
  refine At.cd h (fun b14 h => ?_) (fun b14 h => ?_)
  · refine At.nR [0, 3] [] ?_
    refine At.skip (norm ?_)
    refine At.seq ?_
    refine At.block ?_
    refine At.rG [0, 3] [] [] (norm ?_)
    exact At.rK [0, 3] [] [oT 1 (by decide : (0:Int) ≤ 7)] fun _ _ i => ⟨_, li h, i⟩
  · refine At.nR [3] [] ?_
    obtain ⟨r15, h, e16⟩ := mr h
    rw [f12 _ e16] at h
    refine At.exit (norm ?_)
    refine At.sR [2] [] [] ?_
    obtain rfl := sq h
    exact At.ret (At.rR hR [])
theorem C_vint_Put (p0 : ByteArray) (p1 : Int) (r : ByteArray) (h : F_vint_Put p0 p1 = some r) : FnOK Tryz.prog 119 [sv p0, u64 p1] [] (sv r) [] [] := by
  refine fI Tryz.func119 rfl fun E gv R hR => ?_
  refine At.sR [0, 1] [] [] ?_
  obtain ⟨y3, hy3, h⟩ := bs h
  obtain ⟨g4, h⟩ := gs h
  refine At.sR [0, 1, 5] [0] [c0 3 (C_vint_Size p1 y3 hy3), oT 5 g4] ?_
  obtain ⟨g6, h⟩ := gs h
  refine At.sR [1, 5] [0] [tT 2 ({ form := some ((([] : List Int) ++ (sB p0)).length, encL (eInt .u8) (([] : List Int) ++ (sB p0))) }) (allc (len_appS ([] : List Int) p0) (allc (encL_appS ([] : List Int) p0) (allc (app_ok (he_int .u8) (by decide) g6) all0)))] ?_
  refine At.seq ?_
  refine At.block ?_
  refine At.nK (st' := ⟨[(1, u64 p1), (5, .row 0 ((([] : List Int) ++ (sB p0))).length)], [.row 5 1 (encL (eInt .u8) (([] : List Int) ++ (sB p0)))]⟩) [1, 5] [0] ?_
  refine At.lp (fun s : (Int × (List Int)) => ⟨[(1, u64 s.1), (5, .row 0 (s.2).length)], [.row 5 1 (encL (eInt .u8) s.2)]⟩) h ?_
  rintro ⟨x17, x18⟩ oo19 h f20
  replace h : F_vint_Put_L1 x17 x18 = some oo19 := h
  refine At.seq ?_
  refine At.sR [1, 5, 16] [0] [] ?_
  refine At.cd h (fun b22 h => ?_) (fun b22 h => ?_)
  · refine At.nR [1, 5] [0] ?_
    refine At.skip (norm ?_)
    refine At.seq ?_
    refine At.block ?_
    obtain ⟨g24, h⟩ := gs h
    refine At.rG [1, 5] [0] [aT (he_int .u8) 5 x18 ([(bits .or .u8 (wu8 x17) 128)]) rfl g24] (norm ?_)
    exact At.rK [1, 5] [0] [oT 1 (by decide : (0:Int) ≤ 7)] fun _ _ i => ⟨_, li h, i⟩
  · refine At.nR [1, 5] [0] ?_
    obtain ⟨r25, h, e26⟩ := mr h
    rw [f20 _ e26] at h
    refine At.exit (norm ?_)
    obtain ⟨g28, h⟩ := gs h
    refine At.sR [4] [] [aT (he_int .u8) 4 x18 ([(wu8 x17)]) rfl g28, tT 5 ({ orc := .nums (x18 ++ [(wu8 x17)]) }) (allc (encL_map .u8 (x18 ++ [(wu8 x17)])) (allc (rfl : ((x18 ++ [(wu8 x17)])).length = ((x18 ++ [(wu8 x17)])).length) all0))] ?_
    obtain rfl := sq h
    exact At.ret (At.rR hR [])
theorem C_wire_Writer_Num (p1 : Int) (o0 : T_wire_Writer) (r : T_wire_Writer) (h : F_wire_Writer_Num p1 o0 = some r) : FnOK Tryz.prog 73 [.ptr 0 0, u64 p1] [.blk 128 [.row 1 (o0.s).length], .row 5 1 (encL (eInt .u8) o0.s)] (.tup []) [.blk 128 [.row 1 (r.s).length], .row 5 1 (encL (eInt .u8) r.s)] [1, 2, 3] := by
  refine fI Tryz.func73 rfl fun E gv R hR => ?_
  obtain ⟨y1, hy1, h⟩ := bs h
  obtain ⟨y2, hy2, h⟩ := bs h
  obtain rfl := sq h
  refine At.rG [] [0, 1, 2, 3] [c0 2 (C_vint_Put (⟨#[]⟩ : ByteArray) p1 y1 hy1), cT 3 2 [0, 1] (C_wire_Writer_add y1 o0 y2 hy2)] (edq (l := []) (ks := []) (ρ := [0, 1, 2, 3]) (st' := ⟨[], [.blk 128 [.row 1 (y2.s).length], .row 5 1 (encL (eInt .u8) y2.s), .ghost (gv 0) (.ptr 0 0), .ghost (gv 1) (.undef)]⟩) (by kernel_rfl) (At.rN hR [0, 1]))
theorem C_image_bytes_1 (o2 : T_wire_Writer) (o0 : (List Int)) (r : T_wire_Writer) (h : F_image_bytes_1 o2 o0 = some r) : FnOK Tryz.prog 72 [.row 0 (o0).length, .ptr 1 0] [.row 3 1 (encL (eInt .i64) o0), .blk 126 [.ptr 2 0], .blk 128 [.row 3 (o2.s).length], .row 5 1 (encL (eInt .u8) o2.s)] (.tup []) [.row 3 1 (encL (eInt .i64) o0), .blk 126 [.ptr 2 0], .blk 128 [.row 3 (r.s).length], .row 5 1 (encL (eInt .u8) r.s)] [0, 3, 5, 6, 7] := by
  refine fI Tryz.func72 rfl fun E gv R hR => ?_
  refine At.sR [1, 5, 6, 7] [0, 1, 2, 3, 4, 5, 6, 7] [] ?_
  refine At.block ?_
  refine At.nK (st' := ⟨[(1, .ptr 1 0), (5, .row 0 (o0).length), (6, i64 ((o0).length : Int)), (7, i64 0)], [.row 3 1 (encL (eInt .i64) o0), .blk 126 [.ptr 2 0], .blk 128 [.row 3 (o2.s).length], .row 5 1 (encL (eInt .u8) o2.s), .ghost (gv 0) (.row 0 0), .ghost (gv 1) (.ptr 1 0), .ghost (gv 2) (.ptr 2 0), .ghost (gv 3) (.row 3 0)]⟩) [1, 5, 6, 7] [0, 1, 2, 3, 4, 5, 6, 7] ?_
  refine At.edNar [.hideG 7] [1, 5, 6, 7] [0, 1, 2, 3, 4, 5, 6, 7] (st' := ⟨[(1, .ptr 1 0), (5, .row 0 (o0).length), (6, i64 ((o0).length : Int)), (7, i64 0)], [.row 3 1 (encL (eInt .i64) o0), .blk 126 [.ptr 2 0], .blk 128 [.row 3 (o2.s).length], .row 5 1 (encL (eInt .u8) o2.s), .ghost (gv 0) (.row 0 0), .ghost (gv 1) (.ptr 1 0), .ghost (gv 2) (.ptr 2 0), .ghost (gv 3) (.undef)]⟩) (by kernel_rfl) ?_
  refine At.lp (fun s : (Int × (List Int)) => ⟨[(1, .ptr 1 0), (5, .row 0 (o0).length), (6, i64 ((o0).length : Int)), (7, i64 s.1)], [.row 3 1 (encL (eInt .i64) o0), .blk 126 [.ptr 2 0], .blk 128 [.row 3 (s.2).length], .row 5 1 (encL (eInt .u8) s.2), .ghost (gv 0) (.row 0 0), .ghost (gv 1) (.ptr 1 0), .ghost (gv 2) (.ptr 2 0), .ghost (gv 3) (.undef)]⟩) h ?_
  rintro ⟨x1, x2⟩ oo3 h f4
  replace h : F_image_bytes_1_L1 o0 x1 x2 = some oo3 := h
  refine At.sR [1, 5, 6, 7, 8] [0, 1, 2, 3, 4, 5, 6, 7] [] ?_
  refine At.seq ?_
  refine At.cd h (fun b6 h => ?_) (fun b6 h => ?_)
  · refine At.nR [1, 5, 6, 7] [0, 1, 2, 3, 4, 5, 6, 7] ?_
    refine At.skip (norm ?_)
    refine At.seq ?_
    refine At.block ?_
    obtain ⟨y11, hy11, h⟩ := bs h
    refine At.sR [1, 4, 5, 6, 7] [0, 1, 2, 3, 4, 5, 6, 7] [oT 0 ((rAt_of (he_int .i64) (d := .int .i64 y11) hy11 rfl).1), vT 1 (.int .i64 y11) ((rAt_of (he_int .i64) (d := .int .i64 y11) hy11 rfl).2)] ?_
    obtain ⟨y12, hy12, h⟩ := bs h
    refine At.rG [1, 5, 6, 7] [0, 1, 2, 3, 4, 5, 6, 7] [cT 3 2 [2, 3] (C_wire_Writer_Num (wu64 y11) (⟨x2⟩ : T_wire_Writer) y12 hy12)] (norm ?_)
    exact At.rK [1, 5, 6, 7] [0, 1, 2, 3, 4, 5, 6, 7] [] fun _ _ i => ⟨_, li h, i⟩
  · refine At.nR [] [0, 1, 2, 3, 4, 5, 6, 7] ?_
    obtain ⟨r13, h, e14⟩ := mr h
    rw [f4 _ e14] at h
    obtain rfl := sq h
    refine At.exit (edq (l := []) (ks := []) (ρ := [0, 1, 2, 3, 4, 5, 6, 7]) (st' := ⟨[], [.row 3 1 (encL (eInt .i64) o0), .blk 126 [.ptr 2 0], .blk 128 [.row 3 (x2).length], .row 5 1 (encL (eInt .u8) x2), .ghost (gv 0) (.row 0 0), .ghost (gv 1) (.ptr 1 0), .ghost (gv 2) (.ptr 2 0), .ghost (gv 3) (.undef)]⟩) (by kernel_rfl) (At.rN hR [0, 1, 2, 3]))
theorem C_wire_Writer_Text (p1 : ByteArray) (o0 : T_wire_Writer) (r : T_wire_Writer) (h : F_wire_Writer_Text p1 o0 = some r) : FnOK Tryz.prog 75 [.ptr 0 0, sv p1] [.blk 128 [.row 1 (o0.s).length], .row 5 1 (encL (eInt .u8) o0.s)] (.tup []) [.blk 128 [.row 1 (r.s).length], .row 5 1 (encL (eInt .u8) r.s)] [1, 2, 3] := by
  refine fI Tryz.func75 rfl fun E gv R hR => ?_
  obtain ⟨y2, hy2, h⟩ := bs h
  refine At.sR [0, 1] [0, 1, 2, 3] [cT 4 2 [0, 1] (C_wire_Writer_Num (wu64 (p1.size : Int)) o0 y2 hy2)] ?_
  obtain ⟨y3, hy3, h⟩ := bs h
  obtain rfl := sq h
  refine At.rG [] [0, 1, 2, 3] [cT 2 2 [0, 1] (C_wire_Writer_add p1 y2 y3 hy3)] (edq (l := []) (ks := []) (ρ := [0, 1, 2, 3]) (st' := ⟨[], [.blk 128 [.row 1 (y3.s).length], .row 5 1 (encL (eInt .u8) y3.s), .ghost (gv 0) (.ptr 0 0), .ghost (gv 1) (.undef)]⟩) (by kernel_rfl) (At.rN hR [0, 1]))
theorem C_ins_nums (p0 : T_api_Ins) (r : (List Int)) (h : F_ins_nums p0 = some r) : FnOK Tryz.prog 121 [.agg (T_api_Ins.pvs p0)] [] (lv (eInt .i64) r) [] [] := by
  refine fI Tryz.func121 rfl fun E gv R hR => ?_
  refine At.sR [1] [0] [] ?_
  obtain ⟨y2, hy2, h⟩ := bs h
  refine At.sR [1, 3] [0, 1] [c0 2 (C_ins_find p0.Op y2 hy2)] ?_
  obtain ⟨g4, h⟩ := gs h
  refine At.sR [2] [] [tT 7 ({ form := some ((lCut ([p0.A, p0.B]) 0 y2.1.nums).length, encL (eInt .i64) (lCut ([p0.A, p0.B]) 0 y2.1.nums)) }) (allc ((cut_ok (he_int .i64) g4).1) (allc ((cut_ok (he_int .i64) g4).2) (allc g4 all0)))] ?_
  obtain rfl := sq h
  exact At.ret (At.rR hR [])
theorem C_vint_Zig (p0 : Int) (r : Int) (h : F_vint_Zig p0 = some r) : FnOK Tryz.prog 178 [i64 p0] [] (u64 r) [] [] := by
  refine fI Tryz.func178 rfl fun E gv R hR => ?_
  refine At.sR [0] [] [] ?_
  refine At.sR [2] [] [oT 2 (by decide : (0:Int) ≤ 1), oT 4 (by decide : (0:Int) ≤ 63)] ?_
  obtain rfl := sq h
  exact At.ret (At.rR hR [])
theorem C_vint_PutInt (p0 : ByteArray) (p1 : Int) (r : ByteArray) (h : F_vint_PutInt p0 p1 = some r) : FnOK Tryz.prog 152 [sv p0, i64 p1] [] (sv r) [] [] := by
  refine fI Tryz.func152 rfl fun E gv R hR => ?_
  refine At.sR [0, 1] [] [] ?_
  obtain ⟨y3, hy3, h⟩ := bs h
  obtain ⟨y4, hy4, h⟩ := bs h
  refine At.sR [4] [] [c0 2 (C_vint_Zig p1 y3 hy3), c0 3 (C_vint_Put p0 y3 y4 hy4)] ?_
  obtain rfl := sq h
  exact At.ret (At.rR hR [])
theorem C_wire_Writer_Int (p1 : Int) (o0 : T_wire_Writer) (r : T_wire_Writer) (h : F_wire_Writer_Int p1 o0 = some r) : FnOK Tryz.prog 120 [.ptr 0 0, i64 p1] [.blk 128 [.row 1 (o0.s).length], .row 5 1 (encL (eInt .u8) o0.s)] (.tup []) [.blk 128 [.row 1 (r.s).length], .row 5 1 (encL (eInt .u8) r.s)] [1, 2, 3] := by
  refine fI Tryz.func120 rfl fun E gv R hR => ?_
  obtain ⟨y1, hy1, h⟩ := bs h
  obtain ⟨y2, hy2, h⟩ := bs h
  obtain rfl := sq h
  refine At.rG [] [0, 1, 2, 3] [c0 2 (C_vint_PutInt (⟨#[]⟩ : ByteArray) p1 y1 hy1), cT 3 2 [0, 1] (C_wire_Writer_add y1 o0 y2 hy2)] (edq (l := []) (ks := []) (ρ := [0, 1, 2, 3]) (st' := ⟨[], [.blk 128 [.row 1 (y2.s).length], .row 5 1 (encL (eInt .u8) y2.s), .ghost (gv 0) (.ptr 0 0), .ghost (gv 1) (.undef)]⟩) (by kernel_rfl) (At.rN hR [0, 1]))
theorem C_wire_Writer_Bytes (o0 : T_wire_Writer) (r : ByteArray) (h : F_wire_Writer_Bytes o0 = some r) : FnOK Tryz.prog 77 [.ptr 0 0] [.blk 128 [.row 1 (o0.s).length], .row 5 1 (encL (eInt .u8) o0.s)] (sv r) [.blk 128 [.row 1 (o0.s).length], .row 5 1 (encL (eInt .u8) o0.s)] [1, 2] := by
  refine fI Tryz.func77 rfl fun E gv R hR => ?_
  refine At.sR [0] [0, 1, 2, 3] [] ?_
  refine At.seq ?_
  refine At.sR [0, 4] [0, 1, 2, 3] [] ?_
  refine At.cn ?_
  refine At.nR [0] [0, 1, 2, 3] ?_
  refine At.skip (norm ?_)
  refine At.sR [2] [0, 1, 2, 3] [tT 4 ({ orc := .nums o0.s }) (allc (encL_map .u8 o0.s) (allc (rfl : (o0.s).length = (o0.s).length) all0))] ?_
  obtain rfl := sq h
  exact At.ret (At.rR hR [0, 1])
theorem C_ins_Put (p0 : (List T_api_Ins)) (r : ByteArray) (h : F_ins_Put p0 = some r) : FnOK Tryz.prog 76 [lv T_api_Ins.enc p0] [] (sv r) [] [] := by
  refine fI Tryz.func76 rfl fun E gv R hR => ?_
  refine At.sR [0] [] [] ?_
  refine At.sR [0, 3] [0] [] ?_
  refine At.sR [0, 3, 4, 5] [0] [] ?_
  refine At.seq ?_
  refine At.sR [3, 4, 5, 16, 17, 18] [0] [] ?_
  refine At.block ?_
  refine At.nK (st' := ⟨[(3, .ptr 0 0), (4, .fn (.func 74) [.ptr 0 0] []), (5, .fn (.func 120) [.ptr 0 0] []), (16, lv T_api_Ins.enc p0), (17, i64 ((p0).length : Int)), (18, i64 0)], [.blk 128 [.d (.list true 0 [])]]⟩) [3, 4, 5, 16, 17, 18] [0] ?_
  refine At.edNar [.ownO 0 0 5 1] [3, 4, 5, 16, 17, 18] [0, 1] (st' := ⟨[(3, .ptr 0 0), (4, .fn (.func 74) [.ptr 0 0] []), (5, .fn (.func 120) [.ptr 0 0] []), (16, lv T_api_Ins.enc p0), (17, i64 ((p0).length : Int)), (18, i64 0)], [.blk 128 [.row 1 ([] : List Int).length], .row 5 1 (encL (eInt .u8) ([]))]⟩) (by kernel_rfl) ?_
  refine At.lp (fun s : (Int × (List Int)) => ⟨[(3, .ptr 0 0), (4, .fn (.func 74) [.ptr 0 0] []), (5, .fn (.func 120) [.ptr 0 0] []), (16, lv T_api_Ins.enc p0), (17, i64 ((p0).length : Int)), (18, i64 s.1)], [.blk 128 [.row 1 (s.2).length], .row 5 1 (encL (eInt .u8) s.2)]⟩) h ?_
  rintro ⟨x62, x63⟩ oo64 h f65
  replace h : F_ins_Put_L3 p0 x62 x63 = some oo64 := h
  refine At.sR [3, 4, 5, 16, 17, 18, 19] [0, 1] [] ?_
  refine At.seq ?_
  refine At.cd h (fun b67 h => ?_) (fun b67 h => ?_)
  · refine At.nR [3, 4, 5, 16, 17, 18] [0, 1] ?_
    refine At.skip (norm ?_)
    refine At.seqJ (S := (List Int)) (fun s => ⟨[(3, .ptr 0 0), (4, .fn (.func 74) [.ptr 0 0] []), (5, .fn (.func 120) [.ptr 0 0] []), (16, lv T_api_Ins.enc p0), (17, i64 ((p0).length : Int)), (18, i64 x62)], [.blk 128 [.row 1 (s).length], .row 5 1 (encL (eInt .u8) s)]⟩) (fun s => F_ins_Put_J1 x62 s = some oo64) ?_ ?_
    · refine At.block ?_
      obtain ⟨y96, hy96, h⟩ := bs h
      refine At.sR [3, 4, 5, 7, 16, 17, 18] [0, 1, 2] [eT T_api_Ins.enc_len 0 hy96] ?_
      refine At.seq ?_
      obtain ⟨y101, hy101, h⟩ := bs h
      refine At.sR [3, 4, 5, 7, 16, 17, 18, 24] [0, 1, 2] [c0 1 (C_ins_Right y96 y101 hy101)] ?_
      refine At.cd h (fun b102 h => ?_) (fun b102 h => ?_)
      · refine At.nR [3, 4, 5, 16, 17, 18] [0, 1] ?_
        refine At.exit (fun _ _ i => ⟨x63, h, i.en [] [3, 4, 5, 16, 17, 18] [0, 1]⟩)
      · refine At.nR [3, 4, 5, 7, 16, 17, 18] [0, 1, 2] ?_
        refine At.skip (norm ?_)
        refine At.seq ?_
        obtain ⟨y104, hy104, h⟩ := bs h
        refine At.rK (st' := ⟨[(3, .ptr 0 0), (4, .fn (.func 74) [.ptr 0 0] []), (5, .fn (.func 120) [.ptr 0 0] []), (7, .ptr 2 0), (16, lv T_api_Ins.enc p0), (17, i64 ((p0).length : Int)), (18, i64 x62)], [.blk 128 [.row 1 (y104.s).length], .row 5 1 (encL (eInt .u8) y104.s), .blk 84 (T_api_Ins.pvs y96)]⟩) [3, 4, 5, 7, 16, 17, 18] [0, 1, 2] [tT 5 ({ orc := .nums ([(wu8 y96.Op)]) }) (allc (encL_map .u8 ([(wu8 y96.Op)])) (allc (rfl : (([(wu8 y96.Op)])).length = (([(wu8 y96.Op)])).length) all0)), cT 6 2 [0, 1] (C_wire_Writer_Raw (strOfNums ([(wu8 y96.Op)])) (⟨x63⟩ : T_wire_Writer) y104 hy104)] (norm ?_)
        obtain ⟨y106, hy106, h⟩ := bs h
        refine At.sR [3, 4, 5, 16, 17, 18, 33, 34, 35] [0, 1] [c0 1 (C_ins_nums y96 y106 hy106)] ?_
        refine At.block ?_
        refine At.nK (st' := ⟨[(3, .ptr 0 0), (4, .fn (.func 74) [.ptr 0 0] []), (5, .fn (.func 120) [.ptr 0 0] []), (16, lv T_api_Ins.enc p0), (17, i64 ((p0).length : Int)), (18, i64 x62), (33, lv (eInt .i64) y106), (34, i64 ((y106).length : Int)), (35, i64 0)], [.blk 128 [.row 1 (y104.s).length], .row 5 1 (encL (eInt .u8) y104.s)]⟩) [3, 4, 5, 16, 17, 18, 33, 34, 35] [0, 1] ?_
        refine At.lp (fun s : (Int × (List Int)) => ⟨[(3, .ptr 0 0), (4, .fn (.func 74) [.ptr 0 0] []), (5, .fn (.func 120) [.ptr 0 0] []), (16, lv T_api_Ins.enc p0), (17, i64 ((p0).length : Int)), (18, i64 x62), (33, lv (eInt .i64) y106), (34, i64 ((y106).length : Int)), (35, i64 s.1)], [.blk 128 [.row 1 (s.2).length], .row 5 1 (encL (eInt .u8) s.2)]⟩) h ?_
        rintro ⟨x107, x108⟩ oo109 h f110
        replace h : F_ins_Put_L2 x62 y106 x107 x108 = some oo109 := h
        refine At.sR [3, 4, 5, 16, 17, 18, 33, 34, 35, 36] [0, 1] [] ?_
        refine At.seq ?_
        refine At.cd h (fun b112 h => ?_) (fun b112 h => ?_)
        · refine At.nR [3, 4, 5, 16, 17, 18, 33, 34, 35] [0, 1] ?_
          refine At.skip (norm ?_)
          refine At.seq ?_
          refine At.block ?_
          obtain ⟨y117, hy117, h⟩ := bs h
          refine At.sR [3, 4, 5, 9, 16, 17, 18, 33, 34, 35] [0, 1] [eT (he_int .i64) 0 hy117] ?_
          obtain ⟨y118, hy118, h⟩ := bs h
          refine At.rG [3, 4, 5, 16, 17, 18, 33, 34, 35] [0, 1] [cT 2 2 [0, 1] (C_wire_Writer_Int y117 (⟨x108⟩ : T_wire_Writer) y118 hy118)] (norm ?_)
          exact At.rK [3, 4, 5, 16, 17, 18, 33, 34, 35] [0, 1] [] fun _ _ i => ⟨_, li h, i⟩
        · refine At.nR [3, 4, 5, 16, 17, 18] [0, 1] ?_
          obtain ⟨r119, h, e120⟩ := mr h
          rw [f110 _ e120] at h
          refine At.exit (fun _ _ i => ⟨x108, h, i.en [] [3, 4, 5, 16, 17, 18] [0, 1]⟩)
    · intro x94 h
      exact At.rK [3, 4, 5, 16, 17, 18] [0, 1] [] fun _ _ i => ⟨_, li h, i⟩
  · refine At.nR [3] [0, 1] ?_
    obtain ⟨r121, h, e122⟩ := mr h
    rw [f65 _ e122] at h
    refine At.exit (norm ?_)
    obtain ⟨y124, hy124, h⟩ := bs h
    refine At.sR [2] [] [cT 1 2 [0, 1] (C_wire_Writer_Bytes (⟨x63⟩ : T_wire_Writer) y124 hy124)] ?_
    obtain rfl := sq h
    exact At.ret (At.rR hR [])
theorem C_image_bytes (p0 : T_api_Code) (r : ByteArray × Int) (h : F_image_bytes p0 = some r) : FnOK Tryz.prog 38 [.agg (T_api_Code.pvs p0)] [] (.tup [sv r.1, i64 r.2]) [] [] := by
  refine fI Tryz.func38 rfl fun E gv R hR => ?_
  refine At.sR [1] [0] [] ?_
  refine At.seq ?_
  obtain ⟨y5, hy5, h⟩ := bs h
  refine At.sR [1, 5] [0] [c0 1 (C_code_Check p0 y5 hy5)] ?_
  refine At.sR [1, 5, 18] [0] [] ?_
  refine At.cd h (fun b6 h => ?_) (fun b6 h => ?_)
  · refine At.sR [2, 3] [] [] ?_
    obtain rfl := sq h
    exact At.ret (At.rR hR [])
  · refine At.nR [1] [0] ?_
    refine At.skip (norm ?_)
    refine At.sR [1, 6] [0, 2, 1] [] ?_
    refine At.seq ?_
    refine At.rK (st' := ⟨[(1, .ptr 0 0), (6, .ptr 1 0), (7, .fn (.func 72) [] [.ptr 1 0])], [.blk 27 (T_api_Code.pvs p0), .blk 126 [.ptr 2 0], .blk 128 [.d (.list true 0 [])]]⟩) [1, 6, 7] [0, 1, 2] [] (norm ?_)
    refine At.seq ?_
    refine At.eds [.ownO 2 0 5 1] (st' := ⟨[(1, .ptr 0 0), (6, .ptr 1 0), (7, .fn (.func 72) [] [.ptr 1 0])], [.blk 27 (T_api_Code.pvs p0), .blk 126 [.ptr 2 0], .blk 128 [.row 3 ([] : List Int).length], .row 5 1 (encL (eInt .u8) ([]))]⟩) (by kernel_rfl) ?_
    obtain ⟨y8, hy8, h⟩ := bs h
    refine At.rG [1, 6, 7] [0, 1, 2, 3] [cT 1 2 [2, 3] (C_wire_Writer_Raw (⟨#[82, 84, 67, 49]⟩ : ByteArray) (⟨([] : List Int)⟩ : T_wire_Writer) y8 hy8)] (norm ?_)
    obtain ⟨y10, hy10, h⟩ := bs h
    refine At.sR [1, 6, 7] [0, 1, 2, 3] [cT 5 4 [4, 1, 2, 3] (C_image_bytes_1 y8 ([((p0.Defs).length : Int)]) y10 hy10)] ?_
    refine At.seq ?_
    refine At.sR [1, 6, 7, 32, 33, 34] [0, 1, 2, 3] [] ?_
    refine At.block ?_
    refine At.nK (st' := ⟨[(1, .ptr 0 0), (6, .ptr 1 0), (7, .fn (.func 72) [] [.ptr 1 0]), (32, lv T_api_Def.enc p0.Defs), (33, i64 ((p0.Defs).length : Int)), (34, i64 0)], [.blk 27 (T_api_Code.pvs p0), .blk 126 [.ptr 2 0], .blk 128 [.row 3 (y10.s).length], .row 5 1 (encL (eInt .u8) y10.s)]⟩) [1, 6, 7, 32, 33, 34] [0, 1, 2, 3] ?_
    refine At.lp (fun s : (Int × (List Int)) => ⟨[(1, .ptr 0 0), (6, .ptr 1 0), (7, .fn (.func 72) [] [.ptr 1 0]), (32, lv T_api_Def.enc p0.Defs), (33, i64 ((p0.Defs).length : Int)), (34, i64 s.1)], [.blk 27 (T_api_Code.pvs p0), .blk 126 [.ptr 2 0], .blk 128 [.row 3 (s.2).length], .row 5 1 (encL (eInt .u8) s.2)]⟩) h ?_
    rintro ⟨x29, x30⟩ oo31 h f32
    replace h : F_image_bytes_L2 p0 x29 x30 = some oo31 := h
    refine At.sR [1, 6, 7, 32, 33, 34, 35] [0, 1, 2, 3] [] ?_
    refine At.seq ?_
    refine At.cd h (fun b34 h => ?_) (fun b34 h => ?_)
    · refine At.nR [1, 6, 7, 32, 33, 34] [0, 1, 2, 3] ?_
      refine At.skip (norm ?_)
      refine At.seq ?_
      refine At.block ?_
      obtain ⟨y41, hy41, h⟩ := bs h
      refine At.sR [1, 6, 7, 9, 32, 33, 34] [0, 1, 2, 3, 4] [eT T_api_Def.enc_len 0 hy41] ?_
      obtain ⟨y43, hy43, h⟩ := bs h
      refine At.sR [1, 6, 7, 9, 32, 33, 34] [0, 1, 2, 3, 4] [cT 3 2 [2, 3] (C_wire_Writer_Text y41.Name (⟨x30⟩ : T_wire_Writer) y43 hy43)] ?_
      obtain ⟨y44, hy44, h⟩ := bs h
      refine At.rG [1, 6, 7, 32, 33, 34] [0, 1, 2, 3] [cT 8 4 [5, 1, 2, 3] (C_image_bytes_1 y43 ([y41.Entry, y41.Params, y41.Vars]) y44 hy44)] (norm ?_)
      exact At.rK [1, 6, 7, 32, 33, 34] [0, 1, 2, 3] [] fun _ _ i => ⟨_, li h, i⟩
    · refine At.nR [1, 6, 7] [0, 1, 2, 3] ?_
      obtain ⟨r45, h, e46⟩ := mr h
      rw [f32 _ e46] at h
      refine At.exit (norm ?_)
      obtain ⟨y48, hy48, h⟩ := bs h
      refine At.sR [1, 6, 7] [0, 1, 2, 3] [cT 5 4 [4, 1, 2, 3] (C_image_bytes_1 (⟨x30⟩ : T_wire_Writer) ([((p0.Chans).length : Int)]) y48 hy48)] ?_
      refine At.seq ?_
      refine At.sR [1, 6, 7, 59, 60, 61] [0, 1, 2, 3] [] ?_
      refine At.block ?_
      refine At.nK (st' := ⟨[(1, .ptr 0 0), (6, .ptr 1 0), (7, .fn (.func 72) [] [.ptr 1 0]), (59, lv T_api_Chan.enc p0.Chans), (60, i64 ((p0.Chans).length : Int)), (61, i64 0)], [.blk 27 (T_api_Code.pvs p0), .blk 126 [.ptr 2 0], .blk 128 [.row 3 (y48.s).length], .row 5 1 (encL (eInt .u8) y48.s)]⟩) [1, 6, 7, 59, 60, 61] [0, 1, 2, 3] ?_
      refine At.lp (fun s : (Int × (List Int)) => ⟨[(1, .ptr 0 0), (6, .ptr 1 0), (7, .fn (.func 72) [] [.ptr 1 0]), (59, lv T_api_Chan.enc p0.Chans), (60, i64 ((p0.Chans).length : Int)), (61, i64 s.1)], [.blk 27 (T_api_Code.pvs p0), .blk 126 [.ptr 2 0], .blk 128 [.row 3 (s.2).length], .row 5 1 (encL (eInt .u8) s.2)]⟩) h ?_
      rintro ⟨x67, x68⟩ oo69 h f70
      replace h : F_image_bytes_L1 p0 x67 x68 = some oo69 := h
      refine At.sR [1, 6, 7, 59, 60, 61, 62] [0, 1, 2, 3] [] ?_
      refine At.seq ?_
      refine At.cd h (fun b72 h => ?_) (fun b72 h => ?_)
      · refine At.nR [1, 6, 7, 59, 60, 61] [0, 1, 2, 3] ?_
        refine At.skip (norm ?_)
        refine At.seq ?_
        refine At.block ?_
        obtain ⟨y79, hy79, h⟩ := bs h
        refine At.sR [1, 6, 7, 11, 59, 60, 61] [0, 1, 2, 3, 4] [eT T_api_Chan.enc_len 0 hy79] ?_
        obtain ⟨y81, hy81, h⟩ := bs h
        refine At.sR [1, 6, 7, 11, 59, 60, 61] [0, 1, 2, 3, 4] [cT 3 2 [2, 3] (C_wire_Writer_Text y79.Name (⟨x68⟩ : T_wire_Writer) y81 hy81)] ?_
        obtain ⟨y82, hy82, h⟩ := bs h
        refine At.rG [1, 6, 7, 59, 60, 61] [0, 1, 2, 3] [cT 6 4 [5, 1, 2, 3] (C_image_bytes_1 y81 ([y79.Base, y79.Size]) y82 hy82)] (norm ?_)
        exact At.rK [1, 6, 7, 59, 60, 61] [0, 1, 2, 3] [] fun _ _ i => ⟨_, li h, i⟩
      · refine At.nR [1, 6, 7] [0, 1, 2, 3] ?_
        obtain ⟨r83, h, e84⟩ := mr h
        rw [f70 _ e84] at h
        refine At.exit (norm ?_)
        obtain ⟨y86, hy86, h⟩ := bs h
        refine At.sR [1, 6] [0, 1, 2, 3] [cT 6 4 [4, 1, 2, 3] (C_image_bytes_1 (⟨x68⟩ : T_wire_Writer) ([p0.Main, p0.Stmts]) y86 hy86)] ?_
        obtain ⟨y89, hy89, h⟩ := bs h
        obtain ⟨y90, hy90, h⟩ := bs h
        refine At.sD 0 [6] [1, 2, 3] [c0 3 (C_ins_Put p0.Ins y89 hy89), cT 4 2 [2, 3] (C_wire_Writer_Text y89 y86 y90 hy90)] ?_
        obtain ⟨y92, hy92, h⟩ := bs h
        refine At.sR [2, 3] [] [cT 1 2 [1, 2] (C_wire_Writer_Bytes y90 y92 hy92)] ?_
        obtain rfl := sq h
        exact At.ret (At.rR hR [])
theorem C_crc_table  (r : (List Int)) (h : F_crc_table  = some r) : FnOK Tryz.prog 122 [] [] (.dagg (encL (eInt .u32) r)) [] [] := by
  refine fI Tryz.func122 rfl fun E gv R hR => ?_
  refine At.sR [0] [0] [] ?_
  refine At.sR [0, 1] [0, 1] [] ?_
  refine At.seq ?_
  refine At.sR [0, 1, 4] [0, 1] [] ?_
  refine At.block ?_
  refine At.nK (st' := ⟨[(0, .ptr 0 0), (1, .ptr 1 0), (4, i64 0)], [.dblk 183 (encL (eInt .u32) (List.replicate 256 (0 : Int))), .dblk 183 (encL (eInt .u32) (List.replicate 256 (0 : Int)))]⟩) [0, 1, 4] [0, 1] ?_
  refine At.lp (fun s : (Int × (List Int)) => ⟨[(0, .ptr 0 0), (1, .ptr 1 0), (4, i64 s.1)], [.dblk 183 (encL (eInt .u32) (List.replicate 256 (0 : Int))), .dblk 183 (encL (eInt .u32) s.2)]⟩) h ?_
  rintro ⟨x43, x44⟩ oo45 h f46
  replace h : F_crc_table_L2 x43 x44 = some oo45 := h
  refine At.sR [0, 1, 4, 5] [0, 1] [] ?_
  refine At.seq ?_
  refine At.cd h (fun b48 h => ?_) (fun b48 h => ?_)
  · refine At.nR [0, 1, 4] [0, 1] ?_
    refine At.skip (norm ?_)
    refine At.seq ?_
    refine At.block ?_
    refine At.sR [0, 1, 2, 4] [0, 1] [] ?_
    refine At.sR [0, 1, 2, 3, 4] [0, 1] [] ?_
    refine At.seq ?_
    refine At.sR [0, 1, 2, 3, 4, 9] [0, 1] [] ?_
    refine At.block ?_
    refine At.nK (st' := ⟨[(0, .ptr 0 0), (1, .ptr 1 0), (2, i64 x43), (3, u32 (wu32 x43)), (4, i64 x43), (9, i64 0)], [.dblk 183 (encL (eInt .u32) (List.replicate 256 (0 : Int))), .dblk 183 (encL (eInt .u32) x44)]⟩) [0, 1, 2, 3, 4, 9] [0, 1] ?_
    refine At.lp (fun s : (Int × Int) => ⟨[(0, .ptr 0 0), (1, .ptr 1 0), (2, i64 x43), (3, u32 s.1), (4, i64 x43), (9, i64 s.2)], [.dblk 183 (encL (eInt .u32) (List.replicate 256 (0 : Int))), .dblk 183 (encL (eInt .u32) x44)]⟩) h ?_
    rintro ⟨x74, x75⟩ oo76 h f77
    replace h : F_crc_table_L1 x43 x44 x74 x75 = some oo76 := h
    refine At.sR [0, 1, 2, 3, 4, 9, 10] [0, 1] [] ?_
    refine At.seq ?_
    refine At.cd h (fun b79 h => ?_) (fun b79 h => ?_)
    · refine At.nR [0, 1, 2, 3, 4, 9] [0, 1] ?_
      refine At.skip (norm ?_)
      refine At.seq ?_
      refine At.block ?_
      refine At.rG [0, 1, 2, 3, 4, 9] [0, 1] [oT 1 (by decide : (0:Int) ≤ 1)] (norm ?_)
      exact At.rK [0, 1, 2, 3, 4, 9] [0, 1] [] fun _ _ i => ⟨_, li h, i⟩
    · refine At.nR [0, 1, 2, 3, 4] [0, 1] ?_
      obtain ⟨r80, h, e81⟩ := mr h
      rw [f77 _ e81] at h
      refine At.exit (norm ?_)
      obtain ⟨g82, h⟩ := gs h
      refine At.rG [0, 1, 4] [0, 1] [oT 2 (⟨g82.1, g82.2.1⟩ : Within _ _), tT 3 ({ form := some (0, encL (eInt .u32) (List.set x44 (Int.toNat x43) x74)), obj := 1 }) (allc ((aSet_ok (he_int .u32) x74 g82).1) (allc ((aSet_ok (he_int .u32) x74 g82).2) all0))] (norm ?_)
      exact At.rK [0, 1, 4] [0, 1] [] fun _ _ i => ⟨_, li h, i⟩
  · refine At.nR [0, 1] [0, 1] ?_
    obtain ⟨r83, h, e84⟩ := mr h
    rw [f46 _ e84] at h
    refine At.exit (norm ?_)
    obtain ⟨g87, h⟩ := gs h
    obtain ⟨g88, h⟩ := gs h
    refine At.sR [0] [0] [oT 0 (lenN (he_int .u32) x44 g87), oN 1 (allc (lenN (he_int .u32) x44 g88.1) (allc (lenN (he_int .u32) (List.replicate 256 (0 : Int)) g88.2) all0))] ?_
    obtain ⟨g89, h⟩ := gs h
    obtain rfl := sq h
    exact At.ret (At.rQ hR [] (allc (lenN (he_int .u32) x44 g89) all0))
theorem C_crc_More (p0 : Int) (p1 : ByteArray) (r : Int) (h : F_crc_More p0 p1 = some r) : FnOK Tryz.prog 78 [u32 p0, sv p1] [] (u32 r) [] [] := by
  refine fI Tryz.func78 rfl fun E gv R hR => ?_
  refine At.sR [0, 1] [] [] ?_
  obtain ⟨y3, hy3, h⟩ := bs h
  obtain ⟨g4, h⟩ := gs h
  refine At.sR [0, 1, 5] [0] [c0 0 (C_crc_table y3 hy3), oN 2 (allc (lenN (he_int .u32) y3 g4.1) (allc (lenN (he_int .u32) (List.replicate 256 (0 : Int)) g4.2) all0))] ?_
  refine At.sR [0, 1, 5] [0] [] ?_
  refine At.seq ?_
  obtain ⟨g22, h⟩ := gs h
  refine At.sR [0, 5, 12, 13, 14] [0, 1] [tT 1 ({ form := some ((sB p1).length, encL (eInt .u8) (sB p1)) }) (allc (len_sB p1) (allc (encL_sB p1) (allc g22 all0)))] ?_
  refine At.block ?_
  refine At.nK (st' := ⟨[(0, u32 (bits .xor .u32 4294967295 p0)), (5, .ptr 0 0), (12, .row 1 ((sB p1)).length), (13, i64 (((sB p1)).length : Int)), (14, i64 0)], [.dblk 183 (encL (eInt .u32) y3), .row 5 1 (encL (eInt .u8) (sB p1))]⟩) [0, 5, 12, 13, 14] [0, 1] ?_
  refine At.lp (fun s : (Int × Int) => ⟨[(0, u32 s.1), (5, .ptr 0 0), (12, .row 1 ((sB p1)).length), (13, i64 (((sB p1)).length : Int)), (14, i64 s.2)], [.dblk 183 (encL (eInt .u32) y3), .row 5 1 (encL (eInt .u8) (sB p1))]⟩) h ?_
  rintro ⟨x23, x24⟩ oo25 h f26
  replace h : F_crc_More_L1 p1 y3 x23 x24 = some oo25 := h
  refine At.sR [0, 5, 12, 13, 14, 15] [0, 1] [] ?_
  refine At.seq ?_
  refine At.cd h (fun b28 h => ?_) (fun b28 h => ?_)
  · refine At.nR [0, 5, 12, 13, 14] [0, 1] ?_
    refine At.skip (norm ?_)
    refine At.seq ?_
    refine At.block ?_
    obtain ⟨y33, hy33, h⟩ := bs h
    refine At.sR [0, 5, 7, 12, 13, 14] [0, 1] [oT 0 ((rAt_of (he_int .u8) (d := .int .u8 y33) hy33 rfl).1), vT 1 (.int .u8 y33) ((rAt_of (he_int .u8) (d := .int .u8 y33) hy33 rfl).2)] ?_
    obtain ⟨y34, hy34, h⟩ := bs h
    refine At.rG [0, 5, 12, 13, 14] [0, 1] [oT 4 ((aAt_of (he_int .u32) (d := .int .u32 y34) hy34 rfl).1), vT 5 (.int .u32 y34) ((aAt_of (he_int .u32) (d := .int .u32 y34) hy34 rfl).2), oT 7 (by decide : (0:Int) ≤ 8)] (norm ?_)
    exact At.rK [0, 5, 12, 13, 14] [0, 1] [] fun _ _ i => ⟨_, li h, i⟩
  · refine At.nR [0] [] ?_
    obtain ⟨r35, h, e36⟩ := mr h
    rw [f26 _ e36] at h
    refine At.exit (norm ?_)
    refine At.sR [4] [] [] ?_
    obtain rfl := sq h
    exact At.ret (At.rR hR [])
theorem C_crc_Sum (p0 : ByteArray) (r : Int) (h : F_crc_Sum p0 = some r) : FnOK Tryz.prog 40 [sv p0] [] (u32 r) [] [] := by
  refine fI Tryz.func40 rfl fun E gv R hR => ?_
  refine At.sR [0] [] [] ?_
  obtain ⟨y2, hy2, h⟩ := bs h
  refine At.sR [2] [] [c0 1 (C_crc_More 0 p0 y2 hy2)] ?_
  obtain rfl := sq h
  exact At.ret (At.rR hR [])
theorem C_crc_Bytes (p0 : Int) (r : ByteArray) (h : F_crc_Bytes p0 = some r) : FnOK Tryz.prog 51 [u32 p0] [] (sv r) [] [] := by
  refine fI Tryz.func51 rfl fun E gv R hR => ?_
  refine At.sR [0] [] [] ?_
  refine At.sR [2] [] [oT 3 (by decide : (0:Int) ≤ 8), oT 6 (by decide : (0:Int) ≤ 16), oT 9 (by decide : (0:Int) ≤ 24), tT 12 ({ orc := .nums ([(wu8 p0), (wu8 (Int.fdiv p0 256)), (wu8 (Int.fdiv p0 65536)), (wu8 (Int.fdiv p0 16777216))]) }) (allc (encL_map .u8 ([(wu8 p0), (wu8 (Int.fdiv p0 256)), (wu8 (Int.fdiv p0 65536)), (wu8 (Int.fdiv p0 16777216))])) (allc (rfl : (([(wu8 p0), (wu8 (Int.fdiv p0 256)), (wu8 (Int.fdiv p0 65536)), (wu8 (Int.fdiv p0 16777216))])).length = (([(wu8 p0), (wu8 (Int.fdiv p0 256)), (wu8 (Int.fdiv p0 65536)), (wu8 (Int.fdiv p0 16777216))])).length) all0))] ?_
  obtain rfl := sq h
  exact At.ret (At.rR hR [])
theorem C_crc_Seal (p0 : ByteArray) (r : ByteArray) (h : F_crc_Seal p0 = some r) : FnOK Tryz.prog 39 [sv p0] [] (sv r) [] [] := by
  refine fI Tryz.func39 rfl fun E gv R hR => ?_
  refine At.sR [0] [] [] ?_
  obtain ⟨y4, hy4, h⟩ := bs h
  obtain ⟨y5, hy5, h⟩ := bs h
  obtain ⟨g6, h⟩ := gs h
  refine At.sR [2] [] [c0 2 (C_crc_Sum p0 y4 hy4), c0 3 (C_crc_Bytes y4 y5 hy5), oT 4 g6] ?_
  obtain rfl := sq h
  exact At.ret (At.rR hR [])
theorem C_image_Put (p0 : T_api_Code) (r : ByteArray × Int) (h : F_image_Put p0 = some r) : FnOK Tryz.prog 12 [.agg (T_api_Code.pvs p0)] [] (.tup [sv r.1, i64 r.2]) [] [] := by
  refine fI Tryz.func12 rfl fun E gv R hR => ?_
  refine At.sR [1] [0] [] ?_
  obtain ⟨y2, hy2, h⟩ := bs h
  refine At.sR [4, 5] [] [c0 1 (C_image_bytes p0 y2 hy2)] ?_
  refine At.seq ?_
  refine At.sR [4, 5, 12] [] [] ?_
  refine At.cd h (fun b4 h => ?_) (fun b4 h => ?_)
  · refine At.sR [2, 3] [] [] ?_
    obtain rfl := sq h
    exact At.ret (At.rR hR [])
  · refine At.nR [4] [] ?_
    refine At.skip (norm ?_)
    obtain ⟨y6, hy6, h⟩ := bs h
    refine At.sR [2, 3] [] [c0 1 (C_crc_Seal y2.1 y6 hy6)] ?_
    obtain rfl := sq h
    exact At.ret (At.rR hR [])
theorem C_crc_Open (p0 : ByteArray) (r : ByteArray × Int) (h : F_crc_Open p0 = some r) : FnOK Tryz.prog 21 [sv p0] [] (.tup [sv r.1, i64 r.2]) [] [] := by
  refine fI Tryz.func21 rfl fun E gv R hR => ?_
  refine At.sR [0] [] [] ?_
  refine At.sR [0, 4] [] [] ?_
  refine At.seq ?_
  refine At.sR [0, 4, 9] [] [] ?_
  refine At.cd h (fun b2 h => ?_) (fun b2 h => ?_)
  · refine At.sR [2, 3] [] [] ?_
    obtain rfl := sq h
    exact At.ret (At.rR hR [])
  · refine At.nR [0, 4] [] ?_
    refine At.skip (norm ?_)
    refine At.seq ?_
    obtain ⟨g16, h⟩ := gs h
    obtain ⟨y17, hy17, h⟩ := bs h
    obtain ⟨y18, hy18, h⟩ := bs h
    obtain ⟨g19, h⟩ := gs h
    refine At.sD 0 [0, 4, 18] [] [oT 2 g16, c0 3 (C_crc_Sum (p0.extract (Int.toNat 0) (Int.toNat (w64 ((p0.size : Int) - 4)))) y17 hy17), c0 4 (C_crc_Bytes y17 y18 hy18), oT 7 g19] ?_
    refine At.cd h (fun b20 h => ?_) (fun b20 h => ?_)
    · refine At.seq ?_
      refine At.rK (st' := ⟨[(2, sv (⟨#[]⟩ : ByteArray)), (3, i64 4)], []⟩) [2, 3] [] [] (norm ?_)
      obtain rfl := sq h
      exact At.ret (At.rR hR [])
    · refine At.nK (st' := ⟨[(0, sv p0), (4, i64 (w64 ((p0.size : Int) - 4)))], []⟩) [0, 4] [] ?_
      refine At.skip (norm ?_)
      obtain ⟨g22, h⟩ := gs h
      refine At.sR [2, 3] [] [oT 2 g22] ?_
      obtain rfl := sq h
      exact At.ret (At.rR hR [])
theorem C_internal_stringslite_HasPrefix (p0 : ByteArray) (p1 : ByteArray) (r : Bool) (h : F_internal_stringslite_HasPrefix p0 p1 = some r) : FnOK Tryz.prog 98 [sv p0, sv p1] [] (bo r) [] [] := by
  refine fI Tryz.func98 rfl fun E gv R hR => ?_
  refine At.sR [0, 1] [] [] ?_
  refine At.seqJ (S := Bool) (fun s => ⟨[(4, bo s)], []⟩) (fun s => F_internal_stringslite_HasPrefix_J1 s = some r) ?_ ?_
  · rcases cs h with ⟨b4, h⟩ | ⟨b4, h⟩
    · obtain ⟨g5, h⟩ := gs h
      exact At.rK [4] [] [bT 5 b4, oT 9 g5] fun _ _ i => ⟨((p0.extract (Int.toNat 0) (Int.toNat (p1.size : Int))).toList == p1.toList), h, i⟩
    · exact At.rK [4] [] [bT 5 b4] fun _ _ i => ⟨false, h, i⟩
  · intro x3 h
    obtain rfl := sq h
    exact At.ret (At.rR hR [])
theorem C_internal_stringslite_CutPrefix (p0 : ByteArray) (p1 : ByteArray) (r : ByteArray × Bool) (h : F_internal_stringslite_CutPrefix p0 p1 = some r) : FnOK Tryz.prog 52 [sv p0, sv p1] [] (.tup [sv r.1, bo r.2]) [] [] := by
  refine fI Tryz.func52 rfl fun E gv R hR => ?_
  refine At.sR [0, 1] [] [] ?_
  refine At.seq ?_
  obtain ⟨y5, hy5, h⟩ := bs h
  refine At.sR [0, 1, 9] [] [c0 2 (C_internal_stringslite_HasPrefix p0 p1 y5 hy5)] ?_
  refine At.cd h (fun b6 h => ?_) (fun b6 h => ?_)
  · refine At.sR [4, 5] [] [] ?_
    obtain rfl := sq h
    exact At.ret (At.rR hR [])
  · refine At.nR [0, 1] [] ?_
    refine At.skip (norm ?_)
    obtain ⟨g8, h⟩ := gs h
    refine At.sR [4, 5] [] [oT 3 g8] ?_
    obtain rfl := sq h
    exact At.ret (At.rR hR [])
theorem C_strings_CutPrefix (p0 : ByteArray) (p1 : ByteArray) (r : ByteArray × Bool) (h : F_strings_CutPrefix p0 p1 = some r) : FnOK Tryz.prog 22 [sv p0, sv p1] [] (.tup [sv r.1, bo r.2]) [] [] := by
  refine fI Tryz.func22 rfl fun E gv R hR => ?_
  refine At.sR [0, 1] [] [] ?_
  obtain ⟨y2, hy2, h⟩ := bs h
  refine At.sR [4, 5] [] [c0 2 (C_internal_stringslite_CutPrefix p0 p1 y2 hy2)] ?_
  obtain rfl := sq h
  exact At.ret (At.rR hR [])
theorem C_wire_Open (p0 : ByteArray) (r : T_wire_Reader) (h : F_wire_Open p0 = some r) : FnOK Tryz.prog 23 [sv p0] [] (.ptr 0 0) [.blk 106 (T_wire_Reader.pvs r)] [] := by
  refine fI Tryz.func23 rfl fun E gv R hR => ?_
  refine At.sR [0] [] [] ?_
  refine At.sR [2] [0] [] ?_
  obtain rfl := sq h
  exact At.ret (At.rR hR [0])
theorem C_vint_Get (p0 : ByteArray) (p1 : Int) (r : Int × Int × Int) (h : F_vint_Get p0 p1 = some r) : FnOK Tryz.prog 101 [sv p0, i64 p1] [] (.tup [u64 r.1, i64 r.2.1, i64 r.2.2]) [] [] := by
  refine fI Tryz.func101 rfl fun E gv R hR => ?_
  refine At.sR [0, 1] [] [] ?_
  refine At.scope ?_
  refine At.seq ?_
  refine At.seqJ (S := Bool) (fun s => ⟨[(0, sv p0), (1, i64 p1), (18, bo s)], []⟩) (fun s => F_vint_Get_J1 p0 p1 s = some r) ?_ ?_
  · rcases cs h with ⟨b173, h⟩ | ⟨b173, h⟩
    · exact At.rK [0, 1, 18] [] [bT 2 b173] fun _ _ i => ⟨true, h, i⟩
    · exact At.rK [0, 1, 18] [] [bT 2 b173] fun _ _ i => ⟨(decide ((p0.size : Int) < p1)), h, i⟩
  · intro x6 h
    refine At.cd h (fun b7 h => ?_) (fun b7 h => ?_)
    · refine At.sR [4, 5, 6] [] [] ?_
      obtain rfl := sq h
      exact At.ret (At.rR hR [])
    · refine At.nR [0, 1] [] ?_
      refine At.skip (norm ?_)
      refine At.sR [0, 1, 7] [] [] ?_
      refine At.sR [0, 1, 7, 8] [] [] ?_
      refine At.seq ?_
      refine At.label (norm ?_)
      refine At.seqJ (S := Int) (fun s => ⟨[(7, i64 s)], []⟩) (fun s => F_vint_Get_J2 s = some r) ?_ ?_
      · obtain ⟨g93, h⟩ := gs h
        obtain ⟨g94, h⟩ := gs h
        refine At.sR [1, 7, 8, 22, 23, 24] [0] [oT 2 g93, tT 3 ({ form := some ((sB (p0.extract (Int.toNat p1) (Int.toNat (p0.size : Int)))).length, encL (eInt .u8) (sB (p0.extract (Int.toNat p1) (Int.toNat (p0.size : Int))))) }) (allc (len_sB (p0.extract (Int.toNat p1) (Int.toNat (p0.size : Int)))) (allc (encL_sB (p0.extract (Int.toNat p1) (Int.toNat (p0.size : Int)))) (allc g94 all0)))] ?_
        refine At.block ?_
        refine At.nK (st' := ⟨[(1, i64 p1), (7, i64 2), (8, u64 0), (22, .row 0 ((sB (p0.extract (Int.toNat p1) (Int.toNat (p0.size : Int))))).length), (23, i64 (((sB (p0.extract (Int.toNat p1) (Int.toNat (p0.size : Int))))).length : Int)), (24, i64 0)], [.row 5 1 (encL (eInt .u8) (sB (p0.extract (Int.toNat p1) (Int.toNat (p0.size : Int)))))]⟩) [1, 7, 8, 22, 23, 24] [0] ?_
        refine At.lp (fun s : (Int × Int) => ⟨[(1, i64 p1), (7, i64 2), (8, u64 s.1), (22, .row 0 ((sB (p0.extract (Int.toNat p1) (Int.toNat (p0.size : Int))))).length), (23, i64 (((sB (p0.extract (Int.toNat p1) (Int.toNat (p0.size : Int))))).length : Int)), (24, i64 s.2)], [.row 5 1 (encL (eInt .u8) (sB (p0.extract (Int.toNat p1) (Int.toNat (p0.size : Int)))))]⟩) h ?_
        rintro ⟨x95, x96⟩ oo97 h f98
        replace h : F_vint_Get_L5 p0 p1 x95 x96 = some oo97 := h
        refine At.sR [1, 7, 8, 22, 23, 24, 25] [0] [] ?_
        refine At.seq ?_
        refine At.cd h (fun b100 h => ?_) (fun b100 h => ?_)
        · refine At.nR [1, 7, 8, 22, 23, 24] [0] ?_
          refine At.skip (norm ?_)
          refine At.seq ?_
          refine At.block ?_
          obtain ⟨y135, hy135, h⟩ := bs h
          refine At.sR [1, 7, 8, 9, 10, 22, 23, 24] [0] [oT 1 ((rAt_of (he_int .u8) (d := .int .u8 y135) hy135 rfl).1), vT 2 (.int .u8 y135) ((rAt_of (he_int .u8) (d := .int .u8 y135) hy135 rfl).2)] ?_
          refine At.seq ?_
          refine At.block ?_
          refine At.seqJ (S := Bool) (fun s => ⟨[(1, i64 p1), (7, i64 2), (8, u64 x95), (9, i64 x96), (10, u8 y135), (22, .row 0 ((sB (p0.extract (Int.toNat p1) (Int.toNat (p0.size : Int))))).length), (23, i64 (((sB (p0.extract (Int.toNat p1) (Int.toNat (p0.size : Int))))).length : Int)), (24, i64 x96), (29, bo s)], [.row 5 1 (encL (eInt .u8) (sB (p0.extract (Int.toNat p1) (Int.toNat (p0.size : Int)))))]⟩) (fun s => F_vint_Get_J3 p1 x95 x96 y135 s = some oo97) ?_ ?_
          · refine At.seqJ (S := Bool) (fun s => ⟨[(1, i64 p1), (7, i64 2), (8, u64 x95), (9, i64 x96), (10, u8 y135), (22, .row 0 ((sB (p0.extract (Int.toNat p1) (Int.toNat (p0.size : Int))))).length), (23, i64 (((sB (p0.extract (Int.toNat p1) (Int.toNat (p0.size : Int))))).length : Int)), (24, i64 x96), (29, bo s)], [.row 5 1 (encL (eInt .u8) (sB (p0.extract (Int.toNat p1) (Int.toNat (p0.size : Int)))))]⟩) (fun s => F_vint_Get_J4 p1 x95 x96 y135 s = some oo97) ?_ ?_
            · rcases cs h with ⟨b170, h⟩ | ⟨b170, h⟩
              · exact At.rK [1, 7, 8, 9, 10, 22, 23, 24, 29] [0] [bT 2 b170] fun _ _ i => ⟨(decide (1 < y135)), h, i⟩
              · exact At.rK [1, 7, 8, 9, 10, 22, 23, 24, 29] [0] [bT 2 b170] fun _ _ i => ⟨false, h, i⟩
            · intro x167 h
              refine At.cd h (fun b168 h => ?_) (fun b168 h => ?_)
              · refine At.skip (fun _ _ i => ⟨x167, h, i⟩)
              · rcases cs h with ⟨b169, h⟩ | ⟨b169, h⟩
                · exact At.rK [1, 7, 8, 9, 10, 22, 23, 24, 29] [0] [bT 2 b169] fun _ _ i => ⟨(y135 == 0), h, i⟩
                · exact At.rK [1, 7, 8, 9, 10, 22, 23, 24, 29] [0] [bT 2 b169] fun _ _ i => ⟨false, h, i⟩
          · intro x156 h
            refine At.cd h (fun b157 h => ?_) (fun b157 h => ?_)
            · refine At.sR [7] [] [] ?_
              obtain ⟨r158, h, e159⟩ := mr h
              rw [f98 _ e159] at h
              refine At.exit (fun _ _ i => ⟨3, h, i.en [] [7] []⟩)
            · refine At.sR [1, 7, 8, 9, 10, 22, 23, 24, 42] [0] [] ?_
              refine At.cd h (fun b160 h => ?_) (fun b160 h => ?_)
              · obtain ⟨g162, h⟩ := gs h
                refine At.sR [4, 5, 6] [] [oT 5 g162] ?_
                obtain ⟨r163, h, e164⟩ := mr h
                rw [f98 _ e164] at h
                obtain rfl := sq h
                exact At.ret (At.rR hR [])
              · refine At.nR [1, 7, 8, 9, 10, 22, 23, 24] [0] ?_
                refine At.skip (norm ?_)
                obtain ⟨g165, h⟩ := gs h
                refine At.rG [1, 7, 8, 22, 23, 24] [0] [oT 6 g165] (norm ?_)
                exact At.rK [1, 7, 8, 22, 23, 24] [0] [] fun _ _ i => ⟨_, li h, i⟩
        · refine At.nR [7] [] ?_
          obtain ⟨r171, h, e172⟩ := mr h
          rw [f98 _ e172] at h
          refine At.exit (fun _ _ i => ⟨2, h, i.en [] [7] []⟩)
      · intro x90 h
        refine At.sR [4, 5, 6] [] [] ?_
        obtain rfl := sq h
        exact At.ret (At.rR hR [])
theorem C_wire_Reader_Upto_1 (p0 : ByteArray) (o0_0 : Int) (o1_0 : Int) (r : Int × Int × Int) (h : F_wire_Reader_Upto_1 p0 o0_0 o1_0 = some r) : FnOK Tryz.prog 100 [sv p0, .ptr 0 0, .ptr 1 0] [.blk 120 [u64 o0_0], .blk 3 [i64 o1_0]] (.tup [i64 r.1, i64 r.2.1]) [.blk 120 [u64 r.2.2], .blk 3 [i64 o1_0]] [1, 3] := by
  refine fI Tryz.func100 rfl fun E gv R hR => ?_
  refine At.sR [0, 1, 2] [0, 1, 2, 3] [] ?_
  obtain ⟨y2, hy2, h⟩ := bs h
  refine At.sR [1, 2, 4, 5] [0, 1, 2, 3] [c0 1 (C_vint_Get p0 0 y2 hy2)] ?_
  refine At.seq ?_
  refine At.seqJ (S := Bool) (fun s => ⟨[(4, i64 y2.2.1), (5, i64 y2.2.2), (23, bo s)], [.blk 120 [u64 y2.1], .blk 3 [i64 o1_0], .ghost (gv 0) (.ptr 0 0), .ghost (gv 1) (.ptr 1 0)]⟩) (fun s => F_wire_Reader_Upto_1_J1 y2 s = some r) ?_ ?_
  · rcases cs h with ⟨b13, h⟩ | ⟨b13, h⟩
    · rcases cs h with ⟨b14, h⟩ | ⟨b14, h⟩
      · exact At.rK [4, 5, 23] [0, 1, 2, 3] [bT 2 b13, bT 5 b14] fun _ _ i => ⟨true, h, i⟩
      · exact At.rK [4, 5, 23] [0, 1, 2, 3] [bT 2 b13, bT 5 b14] fun _ _ i => ⟨(decide ((wu64 o1_0) < y2.1)), h, i⟩
    · exact At.rK [4, 5, 23] [0, 1, 2, 3] [bT 2 b13] fun _ _ i => ⟨false, h, i⟩
  · intro x11 h
    refine At.cd h (fun b12 h => ?_) (fun b12 h => ?_)
    · refine At.sR [4, 5] [0, 1, 2, 3] [] ?_
      obtain rfl := sq h
      exact At.ret (At.rR hR [0, 1])
    · refine At.nR [4, 5] [0, 1, 2, 3] ?_
      refine At.skip (norm ?_)
      refine At.sR [4, 5] [0, 1, 2, 3] [] ?_
      obtain rfl := sq h
      exact At.ret (At.rR hR [0, 1])
theorem C_wire_Reader_step (o0 : T_wire_Reader) (o1_0 : Int) (o2_0 : Int) (r : Bool × T_wire_Reader × Int) (h : F_wire_Reader_step o0 o1_0 o2_0 = some r) : FnOK Tryz.prog 99 [.ptr 0 0, .fn (.func 100) [] [.ptr 1 0, .ptr 2 0]] [.blk 106 (T_wire_Reader.pvs o0), .blk 120 [u64 o1_0], .blk 3 [i64 o2_0]] (bo r.1) [.blk 106 (T_wire_Reader.pvs r.2.1), .blk 120 [u64 r.2.2], .blk 3 [i64 o2_0]] [1, 3, 5] := by
  refine fI Tryz.func99 rfl fun E gv R hR => ?_
  refine At.sR [0, 1] [0, 1, 2, 3, 4, 5] [] ?_
  refine At.seq ?_
  refine At.sR [0, 1, 15] [0, 1, 2, 3, 4, 5] [] ?_
  refine At.cd h (fun b2 h => ?_) (fun b2 h => ?_)
  · refine At.sR [4] [0, 1, 2, 3, 4, 5] [] ?_
    obtain rfl := sq h
    exact At.ret (At.rR hR [0, 1, 2])
  · refine At.nR [0, 1] [0, 1, 2, 3, 4, 5] ?_
    refine At.skip (norm ?_)
    obtain ⟨y4, hy4, h⟩ := bs h
    refine At.sR [0, 5, 6] [0, 1, 2, 3, 4, 5] [cT 5 2 [1, 2] (C_wire_Reader_Upto_1 o0.s o1_0 o2_0 y4 hy4)] ?_
    refine At.seq ?_
    refine At.sR [0, 5, 6, 26] [0, 1, 2, 3, 4, 5] [] ?_
    refine At.cd h (fun b6 h => ?_) (fun b6 h => ?_)
    · refine At.seq ?_
      refine At.rK (st' := ⟨[], [.blk 106 [sv o0.s, i64 y4.2.1], .blk 120 [u64 y4.2.2], .blk 3 [i64 o2_0], .ghost (gv 0) (.ptr 0 0), .ghost (gv 1) (.ptr 1 0), .ghost (gv 2) (.ptr 2 0)]⟩) [] [0, 1, 2, 3, 4, 5] [] (norm ?_)
      refine At.sR [4] [0, 1, 2, 3, 4, 5] [] ?_
      obtain rfl := sq h
      exact At.ret (At.rR hR [0, 1, 2])
    · refine At.nK (st' := ⟨[(0, .ptr 0 0), (5, i64 y4.1)], [.blk 106 (T_wire_Reader.pvs o0), .blk 120 [u64 y4.2.2], .blk 3 [i64 o2_0], .ghost (gv 0) (.ptr 0 0), .ghost (gv 1) (.ptr 1 0), .ghost (gv 2) (.ptr 2 0)]⟩) [0, 5] [0, 1, 2, 3, 4, 5] ?_
      refine At.skip (norm ?_)
      obtain ⟨g8, h⟩ := gs h
      refine At.sR [] [0, 1, 2, 3, 4, 5] [oT 6 g8] ?_
      refine At.sR [4] [0, 1, 2, 3, 4, 5] [] ?_
      obtain rfl := sq h
      exact At.ret (At.rR hR [0, 1, 2])
theorem C_wire_Reader_Upto (p1 : Int) (o0 : T_wire_Reader) (r : Int × T_wire_Reader) (h : F_wire_Reader_Upto p1 o0 = some r) : FnOK Tryz.prog 53 [.ptr 0 0, i64 p1] [.blk 106 (T_wire_Reader.pvs o0)] (i64 r.1) [.blk 106 (T_wire_Reader.pvs r.2)] [1] := by
  refine fI Tryz.func53 rfl fun E gv R hR => ?_
  refine At.sR [0, 3] [0, 1, 2] [] ?_
  refine At.sR [0, 3, 5] [0, 1, 2, 3] [] ?_
  obtain ⟨y2, hy2, h⟩ := bs h
  refine At.sR [5, 6] [0, 1, 3] [cT 2 3 [0, 3, 2] (C_wire_Reader_step o0 0 p1 y2 hy2)] ?_
  refine At.seq ?_
  refine At.sR [5, 11] [0, 1, 2] [] ?_
  refine At.cd h (fun b4 h => ?_) (fun b4 h => ?_)
  · refine At.sR [4] [0, 1] [] ?_
    obtain rfl := sq h
    exact At.ret (At.rR hR [0])
  · refine At.nR [5] [0, 1, 2] ?_
    refine At.skip (norm ?_)
    refine At.seq ?_
    refine At.rK (st' := ⟨[(4, i64 (w64 y2.2.2))], [.blk 106 (T_wire_Reader.pvs y2.2.1), .ghost (gv 0) (.ptr 0 0)]⟩) [4] [0, 1] [] (norm ?_)
    obtain rfl := sq h
    exact At.ret (At.rR hR [0])
theorem C_wire_Reader_Err (o0 : T_wire_Reader) (r : Int) (h : F_wire_Reader_Err o0 = some r) : FnOK Tryz.prog 54 [.ptr 0 0] [.blk 106 (T_wire_Reader.pvs o0)] (i64 r) [.blk 106 (T_wire_Reader.pvs o0)] [1] := by
  refine fI Tryz.func54 rfl fun E gv R hR => ?_
  refine At.sR [0] [0, 1] [] ?_
  refine At.seq ?_
  refine At.sR [0, 4] [0, 1] [] ?_
  refine At.cn ?_
  refine At.nR [0] [0, 1] ?_
  refine At.skip (norm ?_)
  refine At.sR [2] [0, 1] [] ?_
  obtain rfl := sq h
  exact At.ret (At.rR hR [0])
theorem C_wire_Reader_Raw_1 (p0 : ByteArray) (o0_0 : Int) (o1_0 : ByteArray) (r : Int × Int × ByteArray) (h : F_wire_Reader_Raw_1 p0 o0_0 o1_0 = some r) : FnOK Tryz.prog 102 [sv p0, .ptr 0 0, .ptr 1 0] [.blk 3 [i64 o0_0], .blk 9 [sv o1_0]] (.tup [i64 r.1, i64 r.2.1]) [.blk 3 [i64 o0_0], .blk 9 [sv r.2.2]] [1, 3] := by
  refine fI Tryz.func102 rfl fun E gv R hR => ?_
  refine At.sR [0, 1, 2] [0, 1, 2, 3] [] ?_
  refine At.seq ?_
  refine At.sR [0, 1, 2, 7] [0, 1, 2, 3] [] ?_
  refine At.cd h (fun b2 h => ?_) (fun b2 h => ?_)
  · refine At.sR [4, 5] [0, 1, 2, 3] [] ?_
    obtain rfl := sq h
    exact At.ret (At.rR hR [0, 1])
  · refine At.nR [0, 1, 2] [0, 1, 2, 3] ?_
    refine At.skip (norm ?_)
    refine At.seq ?_
    refine At.sR [0, 1, 2, 11] [0, 1, 2, 3] [] ?_
    refine At.cd h (fun b4 h => ?_) (fun b4 h => ?_)
    · refine At.sR [4, 5] [0, 1, 2, 3] [] ?_
      obtain rfl := sq h
      exact At.ret (At.rR hR [0, 1])
    · refine At.nR [0, 1, 2] [0, 1, 2, 3] ?_
      refine At.skip (norm ?_)
      refine At.seq ?_
      obtain ⟨g6, h⟩ := gs h
      refine At.rK (st' := ⟨[(1, .ptr 0 0)], [.blk 3 [i64 o0_0], .blk 9 [sv (p0.extract (Int.toNat 0) (Int.toNat o0_0))], .ghost (gv 0) (.ptr 0 0), .ghost (gv 1) (.ptr 1 0)]⟩) [1] [0, 1, 2, 3] [oT 2 g6] (norm ?_)
      refine At.sR [4, 5] [0, 1, 2, 3] [] ?_
      obtain rfl := sq h
      exact At.ret (At.rR hR [0, 1])
theorem C_wire_Reader_step_v2 (o0 : T_wire_Reader) (o1_0 : Int) (o2_0 : ByteArray) (r : Bool × T_wire_Reader × ByteArray) (h : F_wire_Reader_step_v2 o0 o1_0 o2_0 = some r) : FnOK Tryz.prog 99 [.ptr 0 0, .fn (.func 102) [] [.ptr 1 0, .ptr 2 0]] [.blk 106 (T_wire_Reader.pvs o0), .blk 3 [i64 o1_0], .blk 9 [sv o2_0]] (bo r.1) [.blk 106 (T_wire_Reader.pvs r.2.1), .blk 3 [i64 o1_0], .blk 9 [sv r.2.2]] [1, 3, 5] := by
  refine fI Tryz.func99 rfl fun E gv R hR => ?_
  refine At.sR [0, 1] [0, 1, 2, 3, 4, 5] [] ?_
  refine At.seq ?_
  refine At.sR [0, 1, 15] [0, 1, 2, 3, 4, 5] [] ?_
  refine At.cd h (fun b2 h => ?_) (fun b2 h => ?_)
  · refine At.sR [4] [0, 1, 2, 3, 4, 5] [] ?_
    obtain rfl := sq h
    exact At.ret (At.rR hR [0, 1, 2])
  · refine At.nR [0, 1] [0, 1, 2, 3, 4, 5] ?_
    refine At.skip (norm ?_)
    obtain ⟨y4, hy4, h⟩ := bs h
    refine At.sR [0, 5, 6] [0, 1, 2, 3, 4, 5] [cT 5 2 [1, 2] (C_wire_Reader_Raw_1 o0.s o1_0 o2_0 y4 hy4)] ?_
    refine At.seq ?_
    refine At.sR [0, 5, 6, 26] [0, 1, 2, 3, 4, 5] [] ?_
    refine At.cd h (fun b6 h => ?_) (fun b6 h => ?_)
    · refine At.seq ?_
      refine At.rK (st' := ⟨[], [.blk 106 [sv o0.s, i64 y4.2.1], .blk 3 [i64 o1_0], .blk 9 [sv y4.2.2], .ghost (gv 0) (.ptr 0 0), .ghost (gv 1) (.ptr 1 0), .ghost (gv 2) (.ptr 2 0)]⟩) [] [0, 1, 2, 3, 4, 5] [] (norm ?_)
      refine At.sR [4] [0, 1, 2, 3, 4, 5] [] ?_
      obtain rfl := sq h
      exact At.ret (At.rR hR [0, 1, 2])
    · refine At.nK (st' := ⟨[(0, .ptr 0 0), (5, i64 y4.1)], [.blk 106 (T_wire_Reader.pvs o0), .blk 3 [i64 o1_0], .blk 9 [sv y4.2.2], .ghost (gv 0) (.ptr 0 0), .ghost (gv 1) (.ptr 1 0), .ghost (gv 2) (.ptr 2 0)]⟩) [0, 5] [0, 1, 2, 3, 4, 5] ?_
      refine At.skip (norm ?_)
      obtain ⟨g8, h⟩ := gs h
      refine At.sR [] [0, 1, 2, 3, 4, 5] [oT 6 g8] ?_
      refine At.sR [4] [0, 1, 2, 3, 4, 5] [] ?_
      obtain rfl := sq h
      exact At.ret (At.rR hR [0, 1, 2])
theorem C_wire_Reader_Raw (p1 : Int) (o0 : T_wire_Reader) (r : ByteArray × T_wire_Reader) (h : F_wire_Reader_Raw p1 o0 = some r) : FnOK Tryz.prog 55 [.ptr 0 0, i64 p1] [.blk 106 (T_wire_Reader.pvs o0)] (sv r.1) [.blk 106 (T_wire_Reader.pvs r.2)] [1] := by
  refine fI Tryz.func55 rfl fun E gv R hR => ?_
  refine At.sR [0, 3] [0, 1, 2] [] ?_
  refine At.sR [0, 3, 5] [0, 1, 2, 3] [] ?_
  obtain ⟨y2, hy2, h⟩ := bs h
  refine At.sR [5] [0, 1, 3] [cT 2 3 [0, 2, 3] (C_wire_Reader_step_v2 o0 p1 (⟨#[]⟩ : ByteArray) y2 hy2)] ?_
  refine At.sR [4] [0, 1] [] ?_
  obtain rfl := sq h
  exact At.ret (At.rR hR [0])
theorem C_wire_Reader_Text (p1 : Int) (o0 : T_wire_Reader) (r : ByteArray × T_wire_Reader) (h : F_wire_Reader_Text p1 o0 = some r) : FnOK Tryz.prog 29 [.ptr 0 0, i64 p1] [.blk 106 (T_wire_Reader.pvs o0)] (sv r.1) [.blk 106 (T_wire_Reader.pvs r.2)] [1] := by
  refine fI Tryz.func29 rfl fun E gv R hR => ?_
  refine At.sR [0, 1] [0, 1] [] ?_
  obtain ⟨y3, hy3, h⟩ := bs h
  obtain ⟨y4, hy4, h⟩ := bs h
  refine At.sR [4] [0, 1] [cT 3 1 [0] (C_wire_Reader_Upto p1 o0 y3 hy3), cT 4 1 [0] (C_wire_Reader_Raw y3.1 y3.2 y4 hy4)] ?_
  obtain rfl := sq h
  exact At.ret (At.rR hR [0])
theorem C_image_reader_num (o0 : T_wire_Reader) (r : Int × T_wire_Reader) (h : F_image_reader_num o0 = some r) : FnOK Tryz.prog 28 [.agg [.ptr 0 0]] [.blk 106 (T_wire_Reader.pvs o0)] (i64 r.1) [.blk 106 (T_wire_Reader.pvs r.2)] [1] := by
  refine fI Tryz.func28 rfl fun E gv R hR => ?_
  refine At.sR [1] [0, 1, 2] [] ?_
  obtain ⟨y2, hy2, h⟩ := bs h
  refine At.sR [2] [0, 1] [cT 2 1 [0] (C_wire_Reader_Upto 65536 o0 y2 hy2)] ?_
  obtain rfl := sq h
  exact At.ret (At.rR hR [0])
theorem C_image_reader_def (o0 : T_wire_Reader) (r : T_api_Def × T_wire_Reader) (h : F_image_reader_def o0 = some r) : FnOK Tryz.prog 25 [.agg [.ptr 0 0]] [.blk 106 (T_wire_Reader.pvs o0)] (.agg (T_api_Def.pvs r.1)) [.blk 106 (T_wire_Reader.pvs r.2)] [1] := by
  refine fI Tryz.func25 rfl fun E gv R hR => ?_
  refine At.sR [1, 2] [0, 1, 2, 3] [] ?_
  obtain ⟨y2, hy2, h⟩ := bs h
  refine At.sR [1, 2, 3] [0, 1, 2, 3, 4] [cT 2 1 [0] (C_wire_Reader_Text 16 o0 y2 hy2)] ?_
  obtain ⟨y6, hy6, h⟩ := bs h
  obtain ⟨y7, hy7, h⟩ := bs h
  obtain ⟨y8, hy8, h⟩ := bs h
  refine At.sD 0 [2, 3] [0, 1, 3, 4] [cT 1 1 [0] (C_image_reader_num y2.2 y6 hy6), cT 3 1 [0] (C_image_reader_num y6.2 y7 hy7), cT 5 1 [0] (C_image_reader_num y7.2 y8 hy8)] ?_
  refine At.sR [2] [0, 1, 2] [] ?_
  obtain rfl := sq h
  exact At.ret (At.rR hR [0])
theorem C_image_rows_retrace_api_Def (p1 : Int) (o0 : T_wire_Reader) (r : (List T_api_Def) × T_wire_Reader) (h : F_image_rows_retrace_api_Def p1 o0 = some r) : FnOK Tryz.prog 24 [.agg [.ptr 0 0], i64 p1, .fn (.func 25) [.agg [.ptr 0 0]] []] [.blk 106 (T_wire_Reader.pvs o0)] (.row 1 (r.1).length) [.blk 106 (T_wire_Reader.pvs r.2), .row 61 4 (encL T_api_Def.enc r.1)] [1] := by
  refine fI Tryz.func24 rfl fun E gv R hR => ?_
  refine At.sR [1, 2, 3] [0, 1, 2] [] ?_
  obtain ⟨y2, hy2, h⟩ := bs h
  refine At.sR [2, 3, 7] [0, 1, 2] [cT 3 1 [0] (C_wire_Reader_Upto p1 o0 y2 hy2)] ?_
  refine At.sR [2, 3, 7, 8] [0, 1, 2] [] ?_
  refine At.seq ?_
  refine At.block ?_
  refine At.nK (st' := ⟨[(2, .fn (.func 25) [.agg [.ptr 0 0]] []), (3, .ptr 2 0), (7, i64 y2.1), (8, .d (.list true 0 []))], [.blk 106 (T_wire_Reader.pvs y2.2), .ghost (gv 0) (.ptr 0 0), .blk 58 [.ptr 0 0]]⟩) [2, 3, 7, 8] [0, 1, 2] ?_
  refine At.edNar [.ownS 8 61 4] [2, 3, 7, 8] [0, 1, 2, 3] (st' := ⟨[(2, .fn (.func 25) [.agg [.ptr 0 0]] []), (3, .ptr 2 0), (7, i64 y2.1), (8, .row 3 ([] : List T_api_Def).length)], [.blk 106 (T_wire_Reader.pvs y2.2), .ghost (gv 0) (.ptr 0 0), .blk 58 [.ptr 0 0], .row 61 4 (encL T_api_Def.enc ([]))]⟩) (by kernel_rfl) ?_
  refine At.lp (fun s : (ByteArray × Int × (List T_api_Def)) => ⟨[(2, .fn (.func 25) [.agg [.ptr 0 0]] []), (3, .ptr 2 0), (7, i64 y2.1), (8, .row 3 (s.2.2).length)], [.blk 106 [sv s.1, i64 s.2.1], .ghost (gv 0) (.ptr 0 0), .blk 58 [.ptr 0 0], .row 61 4 (encL T_api_Def.enc s.2.2)]⟩) h ?_
  rintro ⟨x24, x25, x26⟩ oo27 h f28
  replace h : F_image_rows_retrace_api_Def_L2 y2 x24 x25 x26 = some oo27 := h
  refine At.seq ?_
  refine At.seqJ (S := Bool) (fun s => ⟨[(2, .fn (.func 25) [.agg [.ptr 0 0]] []), (3, .ptr 2 0), (7, i64 y2.1), (8, .row 3 (x26).length), (22, bo s)], [.blk 106 [sv x24, i64 x25], .ghost (gv 0) (.ptr 0 0), .blk 58 [.ptr 0 0], .row 61 4 (encL T_api_Def.enc x26)]⟩) (fun s => F_image_rows_retrace_api_Def_J1 x24 x25 x26 s = some oo27) ?_ ?_
  · rcases cs h with ⟨b43, h⟩ | ⟨b43, h⟩
    · obtain ⟨y44, hy44, h⟩ := bs h
      exact At.rK [2, 3, 7, 8, 22] [0, 1, 2, 3] [bT 4 b43, cT 7 1 [0] (C_wire_Reader_Err (⟨x24, x25⟩ : T_wire_Reader) y44 hy44)] fun _ _ i => ⟨(y44 == 0), h, i⟩
    · exact At.rK [2, 3, 7, 8, 22] [0, 1, 2, 3] [bT 4 b43] fun _ _ i => ⟨false, h, i⟩
  · intro x37 h
    refine At.cd h (fun b38 h => ?_) (fun b38 h => ?_)
    · refine At.nR [2, 3, 7, 8] [0, 1, 2, 3] ?_
      refine At.skip (norm ?_)
      refine At.block ?_
      obtain ⟨y39, hy39, h⟩ := bs h
      obtain ⟨g40, h⟩ := gs h
      exact At.rK [2, 3, 7, 8] [0, 1, 2, 3] [cT 2 1 [0] (C_image_reader_def (⟨x24, x25⟩ : T_wire_Reader) y39 hy39), aT T_api_Def.enc_len 4 x26 ([y39.1]) rfl g40] fun _ _ i => ⟨_, li h, i⟩
    · refine At.nR [8] [0, 1, 3] ?_
      obtain ⟨r41, h, e42⟩ := mr h
      rw [f28 _ e42] at h
      refine At.exit (norm ?_)
      refine At.sR [6] [0, 1, 2] [] ?_
      obtain rfl := sq h
      exact At.ret (At.rR hR [0, 2])
theorem C_image_reader_channel (o0 : T_wire_Reader) (r : T_api_Chan × T_wire_Reader) (h : F_image_reader_channel o0 = some r) : FnOK Tryz.prog 27 [.agg [.ptr 0 0]] [.blk 106 (T_wire_Reader.pvs o0)] (.agg (T_api_Chan.pvs r.1)) [.blk 106 (T_wire_Reader.pvs r.2)] [1] := by
  refine fI Tryz.func27 rfl fun E gv R hR => ?_
  refine At.sR [1, 2] [0, 1, 2, 3] [] ?_
  obtain ⟨y2, hy2, h⟩ := bs h
  refine At.sR [1, 2, 3] [0, 1, 2, 3, 4] [cT 2 1 [0] (C_wire_Reader_Text 16 o0 y2 hy2)] ?_
  obtain ⟨y5, hy5, h⟩ := bs h
  obtain ⟨y6, hy6, h⟩ := bs h
  refine At.sD 0 [2, 3] [0, 1, 3, 4] [cT 1 1 [0] (C_image_reader_num y2.2 y5 hy5), cT 3 1 [0] (C_image_reader_num y5.2 y6 hy6)] ?_
  refine At.sR [2] [0, 1, 2] [] ?_
  obtain rfl := sq h
  exact At.ret (At.rR hR [0])
theorem C_image_rows_retrace_api_Chan (p1 : Int) (o0 : T_wire_Reader) (r : (List T_api_Chan) × T_wire_Reader) (h : F_image_rows_retrace_api_Chan p1 o0 = some r) : FnOK Tryz.prog 26 [.agg [.ptr 0 0], i64 p1, .fn (.func 27) [.agg [.ptr 0 0]] []] [.blk 106 (T_wire_Reader.pvs o0)] (.row 1 (r.1).length) [.blk 106 (T_wire_Reader.pvs r.2), .row 65 3 (encL T_api_Chan.enc r.1)] [1] := by
  refine fI Tryz.func26 rfl fun E gv R hR => ?_
  refine At.sR [1, 2, 3] [0, 1, 2] [] ?_
  obtain ⟨y2, hy2, h⟩ := bs h
  refine At.sR [2, 3, 7] [0, 1, 2] [cT 3 1 [0] (C_wire_Reader_Upto p1 o0 y2 hy2)] ?_
  refine At.sR [2, 3, 7, 8] [0, 1, 2] [] ?_
  refine At.seq ?_
  refine At.block ?_
  refine At.nK (st' := ⟨[(2, .fn (.func 27) [.agg [.ptr 0 0]] []), (3, .ptr 2 0), (7, i64 y2.1), (8, .d (.list true 0 []))], [.blk 106 (T_wire_Reader.pvs y2.2), .ghost (gv 0) (.ptr 0 0), .blk 58 [.ptr 0 0]]⟩) [2, 3, 7, 8] [0, 1, 2] ?_
  refine At.edNar [.ownS 8 65 3] [2, 3, 7, 8] [0, 1, 2, 3] (st' := ⟨[(2, .fn (.func 27) [.agg [.ptr 0 0]] []), (3, .ptr 2 0), (7, i64 y2.1), (8, .row 3 ([] : List T_api_Chan).length)], [.blk 106 (T_wire_Reader.pvs y2.2), .ghost (gv 0) (.ptr 0 0), .blk 58 [.ptr 0 0], .row 65 3 (encL T_api_Chan.enc ([]))]⟩) (by kernel_rfl) ?_
  refine At.lp (fun s : (ByteArray × Int × (List T_api_Chan)) => ⟨[(2, .fn (.func 27) [.agg [.ptr 0 0]] []), (3, .ptr 2 0), (7, i64 y2.1), (8, .row 3 (s.2.2).length)], [.blk 106 [sv s.1, i64 s.2.1], .ghost (gv 0) (.ptr 0 0), .blk 58 [.ptr 0 0], .row 65 3 (encL T_api_Chan.enc s.2.2)]⟩) h ?_
  rintro ⟨x24, x25, x26⟩ oo27 h f28
  replace h : F_image_rows_retrace_api_Chan_L2 y2 x24 x25 x26 = some oo27 := h
  refine At.seq ?_
  refine At.seqJ (S := Bool) (fun s => ⟨[(2, .fn (.func 27) [.agg [.ptr 0 0]] []), (3, .ptr 2 0), (7, i64 y2.1), (8, .row 3 (x26).length), (22, bo s)], [.blk 106 [sv x24, i64 x25], .ghost (gv 0) (.ptr 0 0), .blk 58 [.ptr 0 0], .row 65 3 (encL T_api_Chan.enc x26)]⟩) (fun s => F_image_rows_retrace_api_Chan_J1 x24 x25 x26 s = some oo27) ?_ ?_
  · rcases cs h with ⟨b43, h⟩ | ⟨b43, h⟩
    · obtain ⟨y44, hy44, h⟩ := bs h
      exact At.rK [2, 3, 7, 8, 22] [0, 1, 2, 3] [bT 4 b43, cT 7 1 [0] (C_wire_Reader_Err (⟨x24, x25⟩ : T_wire_Reader) y44 hy44)] fun _ _ i => ⟨(y44 == 0), h, i⟩
    · exact At.rK [2, 3, 7, 8, 22] [0, 1, 2, 3] [bT 4 b43] fun _ _ i => ⟨false, h, i⟩
  · intro x37 h
    refine At.cd h (fun b38 h => ?_) (fun b38 h => ?_)
    · refine At.nR [2, 3, 7, 8] [0, 1, 2, 3] ?_
      refine At.skip (norm ?_)
      refine At.block ?_
      obtain ⟨y39, hy39, h⟩ := bs h
      obtain ⟨g40, h⟩ := gs h
      exact At.rK [2, 3, 7, 8] [0, 1, 2, 3] [cT 2 1 [0] (C_image_reader_channel (⟨x24, x25⟩ : T_wire_Reader) y39 hy39), aT T_api_Chan.enc_len 4 x26 ([y39.1]) rfl g40] fun _ _ i => ⟨_, li h, i⟩
    · refine At.nR [8] [0, 1, 3] ?_
      obtain ⟨r41, h, e42⟩ := mr h
      rw [f28 _ e42] at h
      refine At.exit (norm ?_)
      refine At.sR [6] [0, 1, 2] [] ?_
      obtain rfl := sq h
      exact At.ret (At.rR hR [0, 2])
theorem C_wire_Reader_Left (o0 : T_wire_Reader) (r : Int) (h : F_wire_Reader_Left o0 = some r) : FnOK Tryz.prog 56 [.ptr 0 0] [.blk 106 (T_wire_Reader.pvs o0)] (i64 r) [.blk 106 (T_wire_Reader.pvs o0)] [1] := by
  refine fI Tryz.func56 rfl fun E gv R hR => ?_
  refine At.sR [0] [0, 1] [] ?_
  refine At.seq ?_
  refine At.sR [0, 4] [0, 1] [] ?_
  refine At.cn ?_
  refine At.nR [0] [0, 1] ?_
  refine At.skip (norm ?_)
  refine At.sR [2] [0, 1] [] ?_
  obtain rfl := sq h
  exact At.ret (At.rR hR [0])
theorem C_wire_Reader_End (o0 : T_wire_Reader) (r : Int) (h : F_wire_Reader_End o0 = some r) : FnOK Tryz.prog 30 [.ptr 0 0] [.blk 106 (T_wire_Reader.pvs o0)] (i64 r) [.blk 106 (T_wire_Reader.pvs o0)] [1] := by
  refine fI Tryz.func30 rfl fun E gv R hR => ?_
  refine At.sR [0] [0, 1] [] ?_
  refine At.seq ?_
  obtain ⟨y10, hy10, h⟩ := bs h
  refine At.sR [0, 3] [0, 1] [cT 1 1 [0] (C_wire_Reader_Err o0 y10 hy10)] ?_
  refine At.seqJ (S := Bool) (fun s => ⟨[(3, i64 y10), (12, bo s)], [.blk 106 (T_wire_Reader.pvs o0), .ghost (gv 0) (.ptr 0 0)]⟩) (fun s => F_wire_Reader_End_J1 y10 s = some r) ?_ ?_
  · rcases cs h with ⟨b15, h⟩ | ⟨b15, h⟩
    · exact At.rK [3, 12] [0, 1] [bT 2 b15] fun _ _ i => ⟨true, h, i⟩
    · obtain ⟨y16, hy16, h⟩ := bs h
      exact At.rK [3, 12] [0, 1] [bT 2 b15, cT 4 1 [0] (C_wire_Reader_Left o0 y16 hy16)] fun _ _ i => ⟨(y16 == 0), h, i⟩
  · intro x13 h
    refine At.cd h (fun b14 h => ?_) (fun b14 h => ?_)
    · refine At.sR [2] [0, 1] [] ?_
      obtain rfl := sq h
      exact At.ret (At.rR hR [0])
    · refine At.nR [] [0, 1] ?_
      refine At.skip (norm ?_)
      refine At.sR [2] [0, 1] [] ?_
      obtain rfl := sq h
      exact At.ret (At.rR hR [0])
theorem C_vint_Zag (p0 : Int) (r : Int) (h : F_vint_Zag p0 = some r) : FnOK Tryz.prog 142 [u64 p0] [] (i64 r) [] [] := by
  refine fI Tryz.func142 rfl fun E gv R hR => ?_
  refine At.sR [0] [] [] ?_
  refine At.sR [2] [] [oT 1 (by decide : (0:Int) ≤ 1)] ?_
  obtain rfl := sq h
  exact At.ret (At.rR hR [])
theorem C_vint_GetInt (p0 : ByteArray) (p1 : Int) (r : Int × Int × Int) (h : F_vint_GetInt p0 p1 = some r) : FnOK Tryz.prog 104 [sv p0, i64 p1] [] (.tup [i64 r.1, i64 r.2.1, i64 r.2.2]) [] [] := by
  refine fI Tryz.func104 rfl fun E gv R hR => ?_
  refine At.sR [0, 1] [] [] ?_
  obtain ⟨y2, hy2, h⟩ := bs h
  refine At.sR [7, 8, 9] [] [c0 2 (C_vint_Get p0 p1 y2 hy2)] ?_
  obtain ⟨y4, hy4, h⟩ := bs h
  refine At.sR [4, 5, 6] [] [c0 1 (C_vint_Zag y2.1 y4 hy4)] ?_
  obtain rfl := sq h
  exact At.ret (At.rR hR [])
theorem C_wire_Reader_Int_1 (p0 : ByteArray) (o0_0 : Int) (r : Int × Int × Int) (h : F_wire_Reader_Int_1 p0 o0_0 = some r) : FnOK Tryz.prog 103 [sv p0, .ptr 0 0] [.blk 2 [i64 o0_0]] (.tup [i64 r.1, i64 r.2.1]) [.blk 2 [i64 r.2.2]] [1] := by
  refine fI Tryz.func103 rfl fun E gv R hR => ?_
  refine At.sR [0, 1] [0, 1] [] ?_
  obtain ⟨y2, hy2, h⟩ := bs h
  refine At.sR [3, 4] [0, 1] [c0 1 (C_vint_GetInt p0 0 y2 hy2)] ?_
  refine At.sR [3, 4] [0, 1] [] ?_
  obtain rfl := sq h
  exact At.ret (At.rR hR [0])
theorem C_wire_Reader_step_v3 (o0 : T_wire_Reader) (o1_0 : Int) (r : Bool × T_wire_Reader × Int) (h : F_wire_Reader_step_v3 o0 o1_0 = some r) : FnOK Tryz.prog 99 [.ptr 0 0, .fn (.func 103) [] [.ptr 1 0]] [.blk 106 (T_wire_Reader.pvs o0), .blk 2 [i64 o1_0]] (bo r.1) [.blk 106 (T_wire_Reader.pvs r.2.1), .blk 2 [i64 r.2.2]] [1, 3] := by
  refine fI Tryz.func99 rfl fun E gv R hR => ?_
  refine At.sR [0, 1] [0, 1, 2, 3] [] ?_
  refine At.seq ?_
  refine At.sR [0, 1, 15] [0, 1, 2, 3] [] ?_
  refine At.cd h (fun b2 h => ?_) (fun b2 h => ?_)
  · refine At.sR [4] [0, 1, 2, 3] [] ?_
    obtain rfl := sq h
    exact At.ret (At.rR hR [0, 1])
  · refine At.nR [0, 1] [0, 1, 2, 3] ?_
    refine At.skip (norm ?_)
    obtain ⟨y4, hy4, h⟩ := bs h
    refine At.sR [0, 5, 6] [0, 1, 2, 3] [cT 5 1 [1] (C_wire_Reader_Int_1 o0.s o1_0 y4 hy4)] ?_
    refine At.seq ?_
    refine At.sR [0, 5, 6, 26] [0, 1, 2, 3] [] ?_
    refine At.cd h (fun b6 h => ?_) (fun b6 h => ?_)
    · refine At.seq ?_
      refine At.rK (st' := ⟨[], [.blk 106 [sv o0.s, i64 y4.2.1], .blk 2 [i64 y4.2.2], .ghost (gv 0) (.ptr 0 0), .ghost (gv 1) (.ptr 1 0)]⟩) [] [0, 1, 2, 3] [] (norm ?_)
      refine At.sR [4] [0, 1, 2, 3] [] ?_
      obtain rfl := sq h
      exact At.ret (At.rR hR [0, 1])
    · refine At.nK (st' := ⟨[(0, .ptr 0 0), (5, i64 y4.1)], [.blk 106 (T_wire_Reader.pvs o0), .blk 2 [i64 y4.2.2], .ghost (gv 0) (.ptr 0 0), .ghost (gv 1) (.ptr 1 0)]⟩) [0, 5] [0, 1, 2, 3] ?_
      refine At.skip (norm ?_)
      obtain ⟨g8, h⟩ := gs h
      refine At.sR [] [0, 1, 2, 3] [oT 6 g8] ?_
      refine At.sR [4] [0, 1, 2, 3] [] ?_
      obtain rfl := sq h
      exact At.ret (At.rR hR [0, 1])
theorem C_wire_Reader_Int (o0 : T_wire_Reader) (r : Int × T_wire_Reader) (h : F_wire_Reader_Int o0 = some r) : FnOK Tryz.prog 57 [.ptr 0 0] [.blk 106 (T_wire_Reader.pvs o0)] (i64 r.1) [.blk 106 (T_wire_Reader.pvs r.2)] [1] := by
  refine fI Tryz.func57 rfl fun E gv R hR => ?_
  refine At.sR [0] [0, 1] [] ?_
  refine At.sR [0, 3] [0, 1, 2] [] ?_
  obtain ⟨y2, hy2, h⟩ := bs h
  refine At.sR [3] [0, 1, 2] [cT 2 2 [0, 2] (C_wire_Reader_step_v3 o0 0 y2 hy2)] ?_
  refine At.sR [2] [0, 1] [] ?_
  obtain rfl := sq h
  exact At.ret (At.rR hR [0])
theorem C_wire_Reader_Fail_1 (p0 : ByteArray) (o0_0 : Int) (r : Int × Int) (h : F_wire_Reader_Fail_1 p0 o0_0 = some r) : FnOK Tryz.prog 107 [sv p0, .ptr 0 0] [.blk 28 [i64 o0_0]] (.tup [i64 r.1, i64 r.2]) [.blk 28 [i64 o0_0]] [1] := by
  refine fI Tryz.func107 rfl fun E gv R hR => ?_
  refine At.sR [1] [0, 1] [] ?_
  refine At.sD 0 [3, 4] [0, 1] [] ?_
  obtain rfl := sq h
  exact At.ret (At.rR hR [0])
theorem C_wire_Reader_step_v4 (o0 : T_wire_Reader) (o1_0 : Int) (r : Bool × T_wire_Reader) (h : F_wire_Reader_step_v4 o0 o1_0 = some r) : FnOK Tryz.prog 99 [.ptr 0 0, .fn (.func 107) [] [.ptr 1 0]] [.blk 106 (T_wire_Reader.pvs o0), .blk 28 [i64 o1_0]] (bo r.1) [.blk 106 (T_wire_Reader.pvs r.2), .blk 28 [i64 o1_0]] [1, 3] := by
  refine fI Tryz.func99 rfl fun E gv R hR => ?_
  refine At.sR [0, 1] [0, 1, 2, 3] [] ?_
  refine At.seq ?_
  refine At.sR [0, 1, 15] [0, 1, 2, 3] [] ?_
  refine At.cd h (fun b2 h => ?_) (fun b2 h => ?_)
  · refine At.sR [4] [0, 1, 2, 3] [] ?_
    obtain rfl := sq h
    exact At.ret (At.rR hR [0, 1])
  · refine At.nR [0, 1] [0, 1, 2, 3] ?_
    refine At.skip (norm ?_)
    obtain ⟨y4, hy4, h⟩ := bs h
    refine At.sR [0, 5, 6] [0, 1, 2, 3] [cT 5 1 [1] (C_wire_Reader_Fail_1 o0.s o1_0 y4 hy4)] ?_
    refine At.seq ?_
    refine At.sR [0, 5, 6, 26] [0, 1, 2, 3] [] ?_
    refine At.cd h (fun b6 h => ?_) (fun b6 h => ?_)
    · refine At.seq ?_
      refine At.rK (st' := ⟨[], [.blk 106 [sv o0.s, i64 y4.2], .blk 28 [i64 o1_0], .ghost (gv 0) (.ptr 0 0), .ghost (gv 1) (.ptr 1 0)]⟩) [] [0, 1, 2, 3] [] (norm ?_)
      refine At.sR [4] [0, 1, 2, 3] [] ?_
      obtain rfl := sq h
      exact At.ret (At.rR hR [0, 1])
    · refine At.nK (st' := ⟨[(0, .ptr 0 0), (5, i64 y4.1)], [.blk 106 (T_wire_Reader.pvs o0), .blk 28 [i64 o1_0], .ghost (gv 0) (.ptr 0 0), .ghost (gv 1) (.ptr 1 0)]⟩) [0, 5] [0, 1, 2, 3] ?_
      refine At.skip (norm ?_)
      obtain ⟨g8, h⟩ := gs h
      refine At.sR [] [0, 1, 2, 3] [oT 6 g8] ?_
      refine At.sR [4] [0, 1, 2, 3] [] ?_
      obtain rfl := sq h
      exact At.ret (At.rR hR [0, 1])
theorem C_wire_Reader_Fail (p1 : Int) (o0 : T_wire_Reader) (r : T_wire_Reader) (h : F_wire_Reader_Fail p1 o0 = some r) : FnOK Tryz.prog 60 [.ptr 0 0, i64 p1] [.blk 106 (T_wire_Reader.pvs o0)] (.tup []) [.blk 106 (T_wire_Reader.pvs r)] [1] := by
  refine fI Tryz.func60 rfl fun E gv R hR => ?_
  refine At.sR [0, 3] [0, 1, 2] [] ?_
  obtain ⟨y1, hy1, h⟩ := bs h
  obtain rfl := sq h
  refine At.rG [] [0, 1] [cT 2 2 [0, 2] (C_wire_Reader_step_v4 o0 p1 y1 hy1)] (edq (l := []) (ks := []) (ρ := [0, 1]) (st' := ⟨[], [.blk 106 (T_wire_Reader.pvs y1.2), .ghost (gv 0) (.ptr 0 0)]⟩) (by kernel_rfl) (At.rN hR [0]))
theorem C_ins_Get (p0 : ByteArray) (r : (List T_api_Ins) × Int) (h : F_ins_Get p0 = some r) : FnOK Tryz.prog 31 [sv p0] [] (.tup [.row 0 (r.1).length, i64 r.2]) [.row 84 3 (encL T_api_Ins.enc r.1)] [] := by
  refine fI Tryz.func31 rfl fun E gv R hR => ?_
  refine At.sR [0] [] [] ?_
  obtain ⟨y2, hy2, h⟩ := bs h
  refine At.sR [4] [0] [cT 1 0 [0] (C_wire_Open p0 y2 hy2)] ?_
  refine At.sR [4, 5] [0] [] ?_
  refine At.sR [4, 5, 6] [0] [] ?_
  refine At.seq ?_
  refine At.block ?_
  refine At.nK (st' := ⟨[(4, .ptr 0 0), (5, .fn (.func 57) [.ptr 0 0] []), (6, .d (.list true 0 []))], [.blk 106 (T_wire_Reader.pvs y2)]⟩) [4, 5, 6] [0] ?_
  refine At.edNar [.ownS 6 84 3] [4, 5, 6] [0, 1] (st' := ⟨[(4, .ptr 0 0), (5, .fn (.func 57) [.ptr 0 0] []), (6, .row 1 ([] : List T_api_Ins).length)], [.blk 106 (T_wire_Reader.pvs y2), .row 84 3 (encL T_api_Ins.enc ([]))]⟩) (by kernel_rfl) ?_
  refine At.lp (fun s : (ByteArray × Int × (List T_api_Ins)) => ⟨[(4, .ptr 0 0), (5, .fn (.func 57) [.ptr 0 0] []), (6, .row 1 (s.2.2).length)], [.blk 106 [sv s.1, i64 s.2.1], .row 84 3 (encL T_api_Ins.enc s.2.2)]⟩) h ?_
  rintro ⟨x63, x64, x65⟩ oo66 h f67
  replace h : F_ins_Get_L6 x63 x64 x65 = some oo66 := h
  refine At.seq ?_
  refine At.seqJ (S := Bool) (fun s => ⟨[(4, .ptr 0 0), (5, .fn (.func 57) [.ptr 0 0] []), (6, .row 1 (x65).length), (22, bo s)], [.blk 106 [sv x63, i64 x64], .row 84 3 (encL T_api_Ins.enc x65)]⟩) (fun s => F_ins_Get_J1 x63 x64 x65 s = some oo66) ?_ ?_
  · obtain ⟨y126, hy126, h⟩ := bs h
    rcases cs h with ⟨b127, h⟩ | ⟨b127, h⟩
    · obtain ⟨y128, hy128, h⟩ := bs h
      exact At.rK [4, 5, 6, 22] [0, 1] [cT 1 1 [0] (C_wire_Reader_Left (⟨x63, x64⟩ : T_wire_Reader) y126 hy126), bT 3 b127, cT 5 1 [0] (C_wire_Reader_Err (⟨x63, x64⟩ : T_wire_Reader) y128 hy128)] fun _ _ i => ⟨(y128 == 0), h, i⟩
    · exact At.rK [4, 5, 6, 22] [0, 1] [cT 1 1 [0] (C_wire_Reader_Left (⟨x63, x64⟩ : T_wire_Reader) y126 hy126), bT 3 b127] fun _ _ i => ⟨false, h, i⟩
  · intro x79 h
    refine At.cd h (fun b80 h => ?_) (fun b80 h => ?_)
    · refine At.nR [4, 5, 6] [0, 1] ?_
      refine At.skip (norm ?_)
      refine At.block ?_
      obtain ⟨y83, hy83, h⟩ := bs h
      obtain ⟨y84, hy84, h⟩ := bs h
      refine At.sR [4, 5, 6, 7] [0, 1, 2] [cT 1 1 [0] (C_wire_Reader_Raw 1 (⟨x63, x64⟩ : T_wire_Reader) y83 hy83), sT 2 hy84] ?_
      obtain ⟨y86, hy86, h⟩ := bs h
      refine At.sR [4, 5, 6, 7, 8, 9] [0, 1, 2, 3] [c0 2 (C_ins_find (w64 y84) y86 hy86)] ?_
      refine At.seqJ (S := ByteArray × Int × Int) (fun s => ⟨[(4, .ptr 0 0), (5, .fn (.func 57) [.ptr 0 0] []), (6, .row 1 (x65).length), (7, .ptr 2 0), (8, .ptr 3 0), (9, bo y86.2)], [.blk 106 [sv s.1, i64 s.2.1], .row 84 3 (encL T_api_Ins.enc x65), .blk 84 [i64 (w64 y84), i64 s.2.2, i64 0], .blk 108 (T_ins_row.pvs y86.1)]⟩) (fun s => F_ins_Get_J2 x65 y84 y86 s.1 s.2.1 s.2.2 = some oo66) ?_ ?_
      · refine At.sR [4, 5, 6, 7, 8, 9, 36] [0, 1, 2, 3] [] ?_
        refine At.cd h (fun b116 h => ?_) (fun b116 h => ?_)
        · obtain ⟨y117, hy117, h⟩ := bs h
          exact At.rK [4, 5, 6, 7, 8, 9] [0, 1, 2, 3] [cT 1 1 [0] (C_wire_Reader_Int y83.2 y117 hy117)] fun _ _ i => ⟨(y117.2.s, y117.2.e, y117.1), h, i⟩
        · refine At.nR [4, 5, 6, 7, 8, 9] [0, 1, 2, 3] ?_
          refine At.skip (fun _ _ i => ⟨(y83.2.s, y83.2.e, 0), h, i.en [] [4, 5, 6, 7, 8, 9] [0, 1, 2, 3]⟩)
      · rintro ⟨x89, x90, x91⟩ h
        replace h : F_ins_Get_J2 x65 y84 y86 x89 x90 x91 = some oo66 := h
        refine At.seqJ (S := ByteArray × Int × Int) (fun s => ⟨[(4, .ptr 0 0), (5, .fn (.func 57) [.ptr 0 0] []), (6, .row 1 (x65).length), (7, .ptr 2 0), (9, bo y86.2)], [.blk 106 [sv s.1, i64 s.2.1], .row 84 3 (encL T_api_Ins.enc x65), .blk 84 [i64 (w64 y84), i64 x91, i64 s.2.2]]⟩) (fun s => F_ins_Get_J3 x65 y84 y86 x91 s.1 s.2.1 s.2.2 = some oo66) ?_ ?_
        · refine At.sR [4, 5, 6, 7, 9, 42] [0, 1, 2] [] ?_
          refine At.cd h (fun b114 h => ?_) (fun b114 h => ?_)
          · obtain ⟨y115, hy115, h⟩ := bs h
            exact At.rK [4, 5, 6, 7, 9] [0, 1, 2] [cT 1 1 [0] (C_wire_Reader_Int (⟨x89, x90⟩ : T_wire_Reader) y115 hy115)] fun _ _ i => ⟨(y115.2.s, y115.2.e, y115.1), h, i⟩
          · refine At.nR [4, 5, 6, 7, 9] [0, 1, 2] ?_
            refine At.skip (fun _ _ i => ⟨(x89, x90, 0), h, i.en [] [4, 5, 6, 7, 9] [0, 1, 2]⟩)
        · rintro ⟨x94, x95, x96⟩ h
          replace h : F_ins_Get_J3 x65 y84 y86 x91 x94 x95 x96 = some oo66 := h
          refine At.seqJ (S := ByteArray × Int) (fun s => ⟨[(4, .ptr 0 0), (5, .fn (.func 57) [.ptr 0 0] []), (6, .row 1 (x65).length), (7, .ptr 2 0)], [.blk 106 [sv s.1, i64 s.2], .row 84 3 (encL T_api_Ins.enc x65), .blk 84 [i64 (w64 y84), i64 x91, i64 x96]]⟩) (fun s => F_ins_Get_J4 x65 y84 x91 x96 s.1 s.2 = some oo66) ?_ ?_
          · refine At.seqJ (S := Bool) (fun s => ⟨[(4, .ptr 0 0), (5, .fn (.func 57) [.ptr 0 0] []), (6, .row 1 (x65).length), (7, .ptr 2 0), (52, bo s)], [.blk 106 [sv x94, i64 x95], .row 84 3 (encL T_api_Ins.enc x65), .blk 84 [i64 (w64 y84), i64 x91, i64 x96]]⟩) (fun s => F_ins_Get_J5 x65 y84 x91 x94 x95 x96 s = some oo66) ?_ ?_
            · rcases cs h with ⟨b112, h⟩ | ⟨b112, h⟩
              · exact At.rK [4, 5, 6, 7, 52] [0, 1, 2] [bT 2 b112] fun _ _ i => ⟨true, h, i⟩
              · obtain ⟨y113, hy113, h⟩ := bs h
                exact At.rK [4, 5, 6, 7, 52] [0, 1, 2] [bT 2 b112, c0 4 (C_ins_Right (⟨(w64 y84), x91, x96⟩ : T_api_Ins) y113 hy113)] fun _ _ i => ⟨(!y113), h, i⟩
            · intro x109 h
              refine At.cd h (fun b110 h => ?_) (fun b110 h => ?_)
              · obtain ⟨y111, hy111, h⟩ := bs h
                exact At.rK [4, 5, 6, 7] [0, 1, 2] [cT 1 1 [0] (C_wire_Reader_Fail 3 (⟨x94, x95⟩ : T_wire_Reader) y111 hy111)] fun _ _ i => ⟨(y111.s, y111.e), h, i⟩
              · refine At.nR [4, 5, 6, 7] [0, 1, 2] ?_
                refine At.skip (fun _ _ i => ⟨(x94, x95), h, i.en [] [4, 5, 6, 7] [0, 1, 2]⟩)
          · rintro ⟨x104, x105⟩ h
            replace h : F_ins_Get_J4 x65 y84 x91 x96 x104 x105 = some oo66 := h
            obtain ⟨g106, h⟩ := gs h
            exact At.rK [4, 5, 6] [0, 1] [aT T_api_Ins.enc_len 3 x65 ([(⟨(w64 y84), x91, x96⟩ : T_api_Ins)]) rfl g106] fun _ _ i => ⟨_, li h, i⟩
    · refine At.nR [4, 6] [0, 1] ?_
      obtain ⟨r118, h, e119⟩ := mr h
      rw [f67 _ e119] at h
      refine At.exit (norm ?_)
      refine At.seq ?_
      obtain ⟨y124, hy124, h⟩ := bs h
      refine At.sR [6, 10] [1] [cT 1 1 [0] (C_wire_Reader_Err (⟨x63, x64⟩ : T_wire_Reader) y124 hy124)] ?_
      refine At.sR [6, 10, 62] [0] [] ?_
      refine At.cd h (fun b125 h => ?_) (fun b125 h => ?_)
      · refine At.sR [2, 3] [] [] ?_
        refine At.eN [.ownS 2 84 3] [2, 3] [0] ?_
        obtain rfl := sq h
        exact At.ret (At.rR hR [0])
      · refine At.nR [6] [0] ?_
        refine At.skip (norm ?_)
        refine At.sR [2, 3] [0] [] ?_
        obtain rfl := sq h
        exact At.ret (At.rR hR [0])
theorem C_image_Get (p0 : ByteArray) (r : T_api_Code × Int) (h : F_image_Get p0 = some r) : FnOK Tryz.prog 7 [sv p0] [] (.tup [.agg (T_api_Code.pvs r.1), i64 r.2]) [] [] := by
  refine fI Tryz.func7 rfl fun E gv R hR => ?_
  refine At.sR [0, 2] [0] [] ?_
  obtain ⟨y2, hy2, h⟩ := bs h
  refine At.sR [0, 2, 4] [0] [c0 1 (C_crc_Open p0 y2 hy2)] ?_
  refine At.seq ?_
  refine At.sR [0, 2, 4, 18] [0] [] ?_
  refine At.cd h (fun b4 h => ?_) (fun b4 h => ?_)
  · refine At.sR [2, 3] [0] [] ?_
    refine At.eN [.loO 0] [2, 3] [0] ?_
    obtain rfl := sq h
    exact At.ret (At.rR hR [])
  · refine At.nR [0, 2] [0] ?_
    refine At.skip (norm ?_)
    obtain ⟨y6, hy6, h⟩ := bs h
    refine At.sR [0, 2, 5] [0] [c0 1 (C_strings_CutPrefix y2.1 (⟨#[82, 84, 67, 49]⟩ : ByteArray) y6 hy6)] ?_
    refine At.seq ?_
    refine At.seq ?_
    refine At.rK (st' := ⟨[(0, sv y6.1), (2, .ptr 0 0), (27, bo (!y6.2))], [.blk 27 [.d (.list true 0 []), .d (.list true 0 []), .d (.list true 0 []), i64 0, i64 0]]⟩) [0, 2, 27] [0] [] (norm ?_)
    refine At.cd h (fun b8 h => ?_) (fun b8 h => ?_)
    · refine At.sR [2, 3] [0] [] ?_
      refine At.eN [.loO 0] [2, 3] [0] ?_
      obtain rfl := sq h
      exact At.ret (At.rR hR [])
    · refine At.nR [0, 2] [0] ?_
      refine At.skip (norm ?_)
      obtain ⟨y10, hy10, h⟩ := bs h
      refine At.sR [2, 6] [0, 2, 1] [cT 1 0 [1] (C_wire_Open y6.1 y10 hy10)] ?_
      obtain ⟨y13, hy13, h⟩ := bs h
      obtain ⟨y14, hy14, h⟩ := bs h
      refine At.sD 3 [2, 6, 7] [0, 1, 2, 5, 3, 4] [cT 3 1 [2, 3] (C_image_rows_retrace_api_Def 32 y10 y13 hy13), cT 7 1 [2, 4] (C_image_rows_retrace_api_Chan 64 y13.2 y14 hy14)] ?_
      obtain ⟨y17, hy17, h⟩ := bs h
      obtain ⟨y18, hy18, h⟩ := bs h
      refine At.sD 0 [2, 6, 7] [0, 1, 2, 3, 4, 5] [cT 1 1 [2] (C_image_reader_num y14.2 y17 hy17), cT 3 1 [2] (C_image_reader_num y17.2 y18 hy18)] ?_
      obtain ⟨y20, hy20, h⟩ := bs h
      refine At.sR [2, 6, 7, 8] [0, 1, 2, 3, 4, 5] [cT 2 1 [2] (C_wire_Reader_Text 2097152 y18.2 y20 hy20)] ?_
      refine At.seq ?_
      refine At.seq ?_
      obtain ⟨y25, hy25, h⟩ := bs h
      refine At.rK (st' := ⟨[(2, .ptr 0 0), (7, .ptr 1 0), (8, sv y20.1), (9, i64 y25)], [.blk 27 [.d (.list true 0 []), .d (.list true 0 []), .d (.list true 0 []), i64 0, i64 0], .blk 27 [.d (.list true 0 []), .row 2 (y13.1).length, .row 3 (y14.1).length, i64 y17.1, i64 y18.1], .row 61 4 (encL T_api_Def.enc y13.1), .row 65 3 (encL T_api_Chan.enc y14.1)]⟩) [2, 7, 8, 9] [0, 3, 4, 5] [cT 2 1 [2] (C_wire_Reader_End y20.2 y25 hy25)] (norm ?_)
      refine At.sR [2, 7, 8, 9, 54] [0, 1, 2, 3] [] ?_
      refine At.cd h (fun b26 h => ?_) (fun b26 h => ?_)
      · refine At.sR [2, 3] [0] [] ?_
        refine At.eN [.loO 0] [2, 3] [0] ?_
        obtain rfl := sq h
        exact At.ret (At.rR hR [])
      · refine At.nR [2, 7, 8] [0, 1, 2, 3] ?_
        refine At.skip (norm ?_)
        refine At.seq ?_
        obtain ⟨y31, hy31, h⟩ := bs h
        refine At.sR [2, 4, 7] [0, 1, 4, 2, 3] [cT 1 0 [4] (C_ins_Get y20.1 y31 hy31)] ?_
        refine At.sR [2, 4, 7, 64] [0, 1, 2, 3, 4] [] ?_
        refine At.cd h (fun b32 h => ?_) (fun b32 h => ?_)
        · refine At.sR [2, 3] [0] [] ?_
          refine At.eN [.loO 0] [2, 3] [0] ?_
          obtain rfl := sq h
          exact At.ret (At.rR hR [])
        · refine At.nR [2, 7] [0, 1, 2, 3, 4] ?_
          refine At.skip (norm ?_)
          refine At.seq ?_
          refine At.seq ?_
          obtain ⟨y37, hy37, h⟩ := bs h
          refine At.rK (st' := ⟨[(2, .ptr 0 0), (7, .ptr 1 0), (11, i64 y37.2)], [.blk 27 [.d (.list true 0 []), .d (.list true 0 []), .d (.list true 0 []), i64 0, i64 0], .blk 27 [lv T_api_Ins.enc y31.1, lv T_api_Def.enc y13.1, lv T_api_Chan.enc y14.1, i64 y17.1, i64 y18.1]]⟩) [2, 7, 11] [0, 1] [cX 1 0 [] [2, 3, 4] true (C_code_Check (⟨y31.1, y13.1, y14.1, y17.1, y18.1⟩ : T_api_Code) y37 hy37)] (norm ?_)
          refine At.sR [2, 7, 11, 73] [0, 1] [] ?_
          refine At.cd h (fun b38 h => ?_) (fun b38 h => ?_)
          · refine At.sR [2, 3] [0] [] ?_
            refine At.eN [.loO 0] [2, 3] [0] ?_
            obtain rfl := sq h
            exact At.ret (At.rR hR [])
          · refine At.nR [2, 7] [0, 1] ?_
            refine At.skip (norm ?_)
            refine At.sR [2, 3] [0] [] ?_
            obtain rfl := sq h
            exact At.ret (At.rR hR [])
theorem C_retraceref19_Same (p0 : T_api_Code) (p1 : T_api_Code) (r : Bool) (h : F_retraceref19_Same p0 p1 = some r) : FnOK Tryz.prog 11 [.agg (T_api_Code.pvs p0), .agg (T_api_Code.pvs p1)] [] (bo r) [] [] := by
  refine fI Tryz.func11 rfl fun E gv R hR => ?_
  refine At.sR [2, 3] [0, 1] [] ?_
  refine At.seq ?_
  refine At.seqJ (S := Bool) (fun s => ⟨[(2, .ptr 0 0), (3, .ptr 1 0), (46, bo s)], [.blk 27 (T_api_Code.pvs p0), .blk 27 (T_api_Code.pvs p1)]⟩) (fun s => F_retraceref19_Same_J1 p0 p1 s = some r) ?_ ?_
  · rcases cs h with ⟨b131, h⟩ | ⟨b131, h⟩
    · exact At.rK [2, 3, 46] [0, 1] [bT 7 b131] fun _ _ i => ⟨true, h, i⟩
    · rcases cs h with ⟨b132, h⟩ | ⟨b132, h⟩
      · exact At.rK [2, 3, 46] [0, 1] [bT 7 b131, bT 16 b132] fun _ _ i => ⟨true, h, i⟩
      · rcases cs h with ⟨b133, h⟩ | ⟨b133, h⟩
        · exact At.rK [2, 3, 46] [0, 1] [bT 7 b131, bT 16 b132, bT 25 b133] fun _ _ i => ⟨true, h, i⟩
        · rcases cs h with ⟨b134, h⟩ | ⟨b134, h⟩
          · exact At.rK [2, 3, 46] [0, 1] [bT 7 b131, bT 16 b132, bT 25 b133, bT 32 b134] fun _ _ i => ⟨true, h, i⟩
          · exact At.rK [2, 3, 46] [0, 1] [bT 7 b131, bT 16 b132, bT 25 b133, bT 32 b134] fun _ _ i => ⟨(p0.Stmts != p1.Stmts), h, i⟩
  · intro x15 h
    refine At.cd h (fun b16 h => ?_) (fun b16 h => ?_)
    · refine At.sR [4] [] [] ?_
      obtain rfl := sq h
      exact At.ret (At.rR hR [])
    · refine At.nR [2, 3] [0, 1] ?_
      refine At.skip (norm ?_)
      refine At.seq ?_
      refine At.sR [2, 3, 5] [0, 1] [] ?_
      refine At.block ?_
      refine At.nK (st' := ⟨[(2, .ptr 0 0), (3, .ptr 1 0), (5, i64 0)], [.blk 27 (T_api_Code.pvs p0), .blk 27 (T_api_Code.pvs p1)]⟩) [2, 3, 5] [0, 1] ?_
      refine At.lp (fun s : (Int) => ⟨[(2, .ptr 0 0), (3, .ptr 1 0), (5, i64 s)], [.blk 27 (T_api_Code.pvs p0), .blk 27 (T_api_Code.pvs p1)]⟩) h ?_
      intro x36 oo37 h f38
      replace h : F_retraceref19_Same_L4 p0 p1 x36 = some oo37 := h
      refine At.seq ?_
      refine At.sR [2, 3, 5, 51] [0, 1] [] ?_
      refine At.cd h (fun b40 h => ?_) (fun b40 h => ?_)
      · refine At.nR [2, 3, 5] [0, 1] ?_
        refine At.skip (norm ?_)
        refine At.seq ?_
        refine At.block ?_
        obtain ⟨y48, hy48, h⟩ := bs h
        obtain ⟨y49, hy49, h⟩ := bs h
        refine At.sD 0 [2, 3, 5, 64] [0, 1] [eT T_api_Ins.enc_len 3 hy48, eT T_api_Ins.enc_len 8 hy49] ?_
        refine At.cd h (fun b50 h => ?_) (fun b50 h => ?_)
        · refine At.sR [4] [] [] ?_
          obtain ⟨r51, h, e52⟩ := mr h
          rw [f38 _ e52] at h
          obtain rfl := sq h
          exact At.ret (At.rR hR [])
        · refine At.nR [2, 3, 5] [0, 1] ?_
          refine At.skip (norm ?_)
          exact At.rK [2, 3, 5] [0, 1] [] fun _ _ i => ⟨_, li h, i⟩
      · refine At.nR [2, 3] [0, 1] ?_
        obtain ⟨r53, h, e54⟩ := mr h
        rw [f38 _ e54] at h
        refine At.exit (norm ?_)
        refine At.seq ?_
        refine At.sR [2, 3, 6] [0, 1] [] ?_
        refine At.block ?_
        refine At.nK (st' := ⟨[(2, .ptr 0 0), (3, .ptr 1 0), (6, i64 0)], [.blk 27 (T_api_Code.pvs p0), .blk 27 (T_api_Code.pvs p1)]⟩) [2, 3, 6] [0, 1] ?_
        refine At.lp (fun s : (Int) => ⟨[(2, .ptr 0 0), (3, .ptr 1 0), (6, i64 s)], [.blk 27 (T_api_Code.pvs p0), .blk 27 (T_api_Code.pvs p1)]⟩) h ?_
        intro x74 oo75 h f76
        replace h : F_retraceref19_Same_L3 p0 p1 x74 = some oo75 := h
        refine At.seq ?_
        refine At.sR [2, 3, 6, 69] [0, 1] [] ?_
        refine At.cd h (fun b78 h => ?_) (fun b78 h => ?_)
        · refine At.nR [2, 3, 6] [0, 1] ?_
          refine At.skip (norm ?_)
          refine At.seq ?_
          refine At.block ?_
          obtain ⟨y86, hy86, h⟩ := bs h
          obtain ⟨y87, hy87, h⟩ := bs h
          refine At.sD 0 [2, 3, 6, 82] [0, 1] [eT T_api_Def.enc_len 3 hy86, eT T_api_Def.enc_len 8 hy87] ?_
          refine At.cd h (fun b88 h => ?_) (fun b88 h => ?_)
          · refine At.sR [4] [] [] ?_
            obtain ⟨r89, h, e90⟩ := mr h
            rw [f76 _ e90] at h
            obtain rfl := sq h
            exact At.ret (At.rR hR [])
          · refine At.nR [2, 3, 6] [0, 1] ?_
            refine At.skip (norm ?_)
            exact At.rK [2, 3, 6] [0, 1] [] fun _ _ i => ⟨_, li h, i⟩
        · refine At.nR [2, 3] [0, 1] ?_
          obtain ⟨r91, h, e92⟩ := mr h
          rw [f76 _ e92] at h
          refine At.exit (norm ?_)
          refine At.seq ?_
          refine At.sR [2, 3, 7] [0, 1] [] ?_
          refine At.block ?_
          refine At.nK (st' := ⟨[(2, .ptr 0 0), (3, .ptr 1 0), (7, i64 0)], [.blk 27 (T_api_Code.pvs p0), .blk 27 (T_api_Code.pvs p1)]⟩) [2, 3, 7] [0, 1] ?_
          refine At.lp (fun s : (Int) => ⟨[(2, .ptr 0 0), (3, .ptr 1 0), (7, i64 s)], [.blk 27 (T_api_Code.pvs p0), .blk 27 (T_api_Code.pvs p1)]⟩) h ?_
          intro x112 oo113 h f114
          replace h : F_retraceref19_Same_L2 p0 p1 x112 = some oo113 := h
          refine At.seq ?_
          refine At.sR [2, 3, 7, 87] [0, 1] [] ?_
          refine At.cd h (fun b116 h => ?_) (fun b116 h => ?_)
          · refine At.nR [2, 3, 7] [0, 1] ?_
            refine At.skip (norm ?_)
            refine At.seq ?_
            refine At.block ?_
            obtain ⟨y124, hy124, h⟩ := bs h
            obtain ⟨y125, hy125, h⟩ := bs h
            refine At.sD 0 [2, 3, 7, 100] [0, 1] [eT T_api_Chan.enc_len 3 hy124, eT T_api_Chan.enc_len 8 hy125] ?_
            refine At.cd h (fun b126 h => ?_) (fun b126 h => ?_)
            · refine At.sR [4] [] [] ?_
              obtain ⟨r127, h, e128⟩ := mr h
              rw [f114 _ e128] at h
              obtain rfl := sq h
              exact At.ret (At.rR hR [])
            · refine At.nR [2, 3, 7] [0, 1] ?_
              refine At.skip (norm ?_)
              exact At.rK [2, 3, 7] [0, 1] [] fun _ _ i => ⟨_, li h, i⟩
          · refine At.nR [] [] ?_
            obtain ⟨r129, h, e130⟩ := mr h
            rw [f114 _ e130] at h
            refine At.exit (norm ?_)
            refine At.sR [4] [] [] ?_
            obtain rfl := sq h
            exact At.ret (At.rR hR [])
theorem C_retracelaw21_live  (r : Bool) (h : F_retracelaw21_live  = some r) : FnOK Tryz.prog 6 [] [] (bo r) [] [] := by
  refine fI Tryz.func6 rfl fun E gv R hR => ?_
  refine At.sR [] [] [] ?_
  obtain ⟨y2, hy2, h⟩ := bs h
  refine At.sR [1] [0] [c0 0 (C_retraceref19_Text (⟨#[109, 97, 105, 110, 32, 123, 32, 125]⟩ : ByteArray) y2 hy2)] ?_
  obtain ⟨y4, hy4, h⟩ := bs h
  refine At.sR [1, 2, 3] [0] [c0 1 (C_image_Put y2.C y4 hy4)] ?_
  obtain ⟨y6, hy6, h⟩ := bs h
  refine At.sR [1, 2, 3, 4, 5] [0, 1] [c0 1 (C_image_Get y4.1 y6 hy6)] ?_
  refine At.seqJ (S := Bool) (fun s => ⟨[(0, bo s)], []⟩) (fun s => F_retracelaw21_live_J1 s = some r) ?_ ?_
  · rcases cs h with ⟨b12, h⟩ | ⟨b12, h⟩
    · rcases cs h with ⟨b13, h⟩ | ⟨b13, h⟩
      · rcases cs h with ⟨b14, h⟩ | ⟨b14, h⟩
        · obtain ⟨y15, hy15, h⟩ := bs h
          exact At.rK [0] [] [bT 2 b12, bT 7 b13, bT 11 b14, c0 14 (C_retraceref19_Same y6.1 y2.C y15 hy15)] fun _ _ i => ⟨y15, h, i⟩
        · exact At.rK [0] [] [bT 2 b12, bT 7 b13, bT 11 b14] fun _ _ i => ⟨false, h, i⟩
      · exact At.rK [0] [] [bT 2 b12, bT 7 b13] fun _ _ i => ⟨false, h, i⟩
    · exact At.rK [0] [] [bT 2 b12] fun _ _ i => ⟨false, h, i⟩
  · intro x11 h
    obtain rfl := sq h
    exact At.ret (At.rR hR [])
theorem C_retraceref02_push (p0 : Int) (p1 : ByteArray) (r : Int) (h : F_retraceref02_push p0 p1 = some r) : FnOK Tryz.prog 33 [u32 p0, sv p1] [] (u32 r) [] [] := by
  refine fI Tryz.func33 rfl fun E gv R hR => ?_
  refine At.sR [0, 1] [] [] ?_
  refine At.seq ?_
  refine At.sR [0, 1, 5] [] [] ?_
  refine At.block ?_
  refine At.nK (st' := ⟨[(0, u32 p0), (1, sv p1), (5, i64 0)], []⟩) [0, 1, 5] [] ?_
  refine At.lp (fun s : (Int × Int) => ⟨[(0, u32 s.1), (1, sv p1), (5, i64 s.2)], []⟩) h ?_
  rintro ⟨x35, x36⟩ oo37 h f38
  replace h : F_retraceref02_push_L3 p1 x35 x36 = some oo37 := h
  refine At.seq ?_
  refine At.sR [0, 1, 5, 11] [] [] ?_
  refine At.cd h (fun b40 h => ?_) (fun b40 h => ?_)
  · refine At.nR [0, 1, 5] [] ?_
    refine At.skip (norm ?_)
    refine At.seq ?_
    refine At.block ?_
    obtain ⟨y55, hy55, h⟩ := bs h
    refine At.sR [0, 1, 5] [] [sT 3 hy55] ?_
    refine At.sR [0, 1, 5, 6] [] [] ?_
    refine At.block ?_
    refine At.nK (st' := ⟨[(0, u32 (bits .xor .u32 x35 (wu32 y55))), (1, sv p1), (5, i64 x36), (6, i64 0)], []⟩) [0, 1, 5, 6] [] ?_
    refine At.lp (fun s : (Int × Int) => ⟨[(0, u32 s.1), (1, sv p1), (5, i64 x36), (6, i64 s.2)], []⟩) h ?_
    rintro ⟨x56, x57⟩ oo58 h f59
    replace h : F_retraceref02_push_L2 x36 x56 x57 = some oo58 := h
    refine At.seq ?_
    refine At.sR [0, 1, 5, 6, 21] [] [] ?_
    refine At.cd h (fun b61 h => ?_) (fun b61 h => ?_)
    · refine At.nR [0, 1, 5, 6] [] ?_
      refine At.skip (norm ?_)
      refine At.seqJ (S := Int) (fun s => ⟨[(0, u32 s), (1, sv p1), (5, i64 x36), (6, i64 x57)], []⟩) (fun s => F_retraceref02_push_J1 x57 s = some oo58) ?_ ?_
      · refine At.block ?_
        refine At.sR [0, 1, 5, 6, 7] [] [oT 1 (by decide : 2 ≠ (0:Int))] ?_
        refine At.sR [0, 1, 5, 6, 7] [] [oT 1 (by decide : 2 ≠ (0:Int))] ?_
        refine At.sR [0, 1, 5, 6, 29] [] [] ?_
        refine At.cd h (fun b64 h => ?_) (fun b64 h => ?_)
        · exact At.rK [0, 1, 5, 6] [] [] fun _ _ i => ⟨(bits .xor .u32 (wu32 (Int.tdiv x56 2)) 3988292384), h, i⟩
        · refine At.nK (st' := ⟨[(0, u32 (wu32 (Int.tdiv x56 2))), (1, sv p1), (5, i64 x36), (6, i64 x57)], []⟩) [0, 1, 5, 6] [] ?_
          refine At.skip (fun _ _ i => ⟨(wu32 (Int.tdiv x56 2)), h, i⟩)
      · intro x63 h
        exact At.rK [0, 1, 5, 6] [] [] fun _ _ i => ⟨_, li h, i⟩
    · refine At.nR [0, 1, 5] [] ?_
      obtain ⟨r65, h, e66⟩ := mr h
      rw [f59 _ e66] at h
      refine At.exit (norm ?_)
      exact At.rK [0, 1, 5] [] [] fun _ _ i => ⟨_, li h, i⟩
  · refine At.nR [0] [] ?_
    obtain ⟨r67, h, e68⟩ := mr h
    rw [f38 _ e68] at h
    refine At.exit (norm ?_)
    refine At.sR [4] [] [] ?_
    obtain rfl := sq h
    exact At.ret (At.rR hR [])
theorem C_retraceref02_Sum (p0 : ByteArray) (r : Int) (h : F_retraceref02_Sum p0 = some r) : FnOK Tryz.prog 9 [sv p0] [] (u32 r) [] [] := by
  refine fI Tryz.func9 rfl fun E gv R hR => ?_
  refine At.sR [0] [] [] ?_
  obtain ⟨y2, hy2, h⟩ := bs h
  refine At.sR [2] [] [c0 1 (C_retraceref02_push 4294967295 p0 y2 hy2)] ?_
  obtain rfl := sq h
  exact At.ret (At.rR hR [])
theorem C_retraceref02_Bytes (p0 : Int) (r : ByteArray) (h : F_retraceref02_Bytes p0 = some r) : FnOK Tryz.prog 8 [u32 p0] [] (sv r) [] [] := by
  refine fI Tryz.func8 rfl fun E gv R hR => ?_
  refine At.sR [0] [] [] ?_
  refine At.sR [2] [] [oT 1 (by decide : 256 ≠ (0:Int)), oT 4 (by decide : 256 ≠ (0:Int)), oT 5 (by decide : 256 ≠ (0:Int)), oT 8 (by decide : 65536 ≠ (0:Int)), oT 9 (by decide : 256 ≠ (0:Int)), oT 12 (by decide : 16777216 ≠ (0:Int)), tT 15 ({ orc := .nums ([(wu8 (Int.tmod p0 256)), (wu8 (Int.tmod (wu32 (Int.tdiv p0 256)) 256)), (wu8 (Int.tmod (wu32 (Int.tdiv p0 65536)) 256)), (wu8 (wu32 (Int.tdiv p0 16777216)))]) }) (allc (encL_map .u8 ([(wu8 (Int.tmod p0 256)), (wu8 (Int.tmod (wu32 (Int.tdiv p0 256)) 256)), (wu8 (Int.tmod (wu32 (Int.tdiv p0 65536)) 256)), (wu8 (wu32 (Int.tdiv p0 16777216)))])) (allc (rfl : (([(wu8 (Int.tmod p0 256)), (wu8 (Int.tmod (wu32 (Int.tdiv p0 256)) 256)), (wu8 (Int.tmod (wu32 (Int.tdiv p0 65536)) 256)), (wu8 (wu32 (Int.tdiv p0 16777216)))])).length = (([(wu8 (Int.tmod p0 256)), (wu8 (Int.tmod (wu32 (Int.tdiv p0 256)) 256)), (wu8 (Int.tmod (wu32 (Int.tdiv p0 65536)) 256)), (wu8 (wu32 (Int.tdiv p0 16777216)))])).length) all0))] ?_
  obtain rfl := sq h
  exact At.ret (At.rR hR [])
theorem C_retraceref01_Get (p0 : ByteArray) (p1 : Int) (r : T_retraceref01_Got) (h : F_retraceref01_Get p0 p1 = some r) : FnOK Tryz.prog 69 [sv p0, i64 p1] [] (.agg (T_retraceref01_Got.pvs r)) [] [] := by
  refine fI Tryz.func69 rfl fun E gv R hR => ?_
  refine At.sR [0, 1, 4] [0] [] ?_
  refine At.seq ?_
  refine At.seqJ (S := Bool) (fun s => ⟨[(0, sv p0), (1, i64 p1), (4, .ptr 0 0), (16, bo s)], [.blk 123 [u64 0, i64 0, i64 0]]⟩) (fun s => F_retraceref01_Get_J1 p0 p1 s = some r) ?_ ?_
  · rcases cs h with ⟨b142, h⟩ | ⟨b142, h⟩
    · exact At.rK [0, 1, 4, 16] [0] [bT 2 b142] fun _ _ i => ⟨true, h, i⟩
    · exact At.rK [0, 1, 4, 16] [0] [bT 2 b142] fun _ _ i => ⟨(decide ((p0.size : Int) < p1)), h, i⟩
  · intro x6 h
    refine At.cd h (fun b7 h => ?_) (fun b7 h => ?_)
    · refine At.sR [4] [0] [] ?_
      obtain rfl := sq h
      exact At.ret (At.rR hR [])
    · refine At.nR [0, 1, 4] [0] ?_
      refine At.skip (norm ?_)
      refine At.sR [0, 1, 4, 5, 6] [0] [] ?_
      refine At.seq ?_
      refine At.sR [0, 1, 4, 5, 6, 7] [0] [] ?_
      refine At.block ?_
      refine At.nK (st' := ⟨[(0, sv p0), (1, i64 p1), (4, .ptr 0 0), (5, u64 0), (6, u64 1), (7, i64 0)], [.blk 123 [u64 0, i64 0, i64 0]]⟩) [0, 1, 4, 5, 6, 7] [0] ?_
      refine At.lp (fun s : (Int × Int × Int) => ⟨[(0, sv p0), (1, i64 p1), (4, .ptr 0 0), (5, u64 s.1), (6, u64 s.2.1), (7, i64 s.2.2)], [.blk 123 [u64 0, i64 0, i64 0]]⟩) h ?_
      rintro ⟨x75, x76, x77⟩ oo78 h f79
      replace h : F_retraceref01_Get_L3 p0 p1 x75 x76 x77 = some oo78 := h
      refine At.seq ?_
      refine At.sR [0, 1, 4, 5, 6, 7, 19] [0] [] ?_
      refine At.cd h (fun b81 h => ?_) (fun b81 h => ?_)
      · refine At.nR [0, 1, 4, 5, 6, 7] [0] ?_
        refine At.skip (norm ?_)
        refine At.seq ?_
        refine At.block ?_
        refine At.seq ?_
        refine At.sR [0, 1, 4, 5, 6, 7, 27] [0] [] ?_
        refine At.cd h (fun b109 h => ?_) (fun b109 h => ?_)
        · refine At.sR [4] [0] [] ?_
          obtain ⟨r110, h, e111⟩ := mr h
          rw [f79 _ e111] at h
          obtain rfl := sq h
          exact At.ret (At.rR hR [])
        · refine At.nR [0, 1, 4, 5, 6, 7] [0] ?_
          refine At.skip (norm ?_)
          obtain ⟨y113, hy113, h⟩ := bs h
          refine At.sR [0, 1, 4, 5, 6, 7, 8] [0] [sT 4 hy113] ?_
          refine At.seq ?_
          refine At.seqJ (S := Bool) (fun s => ⟨[(0, sv p0), (1, i64 p1), (4, .ptr 0 0), (5, u64 x75), (6, u64 x76), (7, i64 x77), (8, u8 y113), (47, bo s)], [.blk 123 [u64 0, i64 0, i64 0]]⟩) (fun s => F_retraceref01_Get_J2 p1 x75 x76 x77 y113 s = some oo78) ?_ ?_
          · rcases cs h with ⟨b136, h⟩ | ⟨b136, h⟩
            · rcases cs h with ⟨b137, h⟩ | ⟨b137, h⟩
              · exact At.rK [0, 1, 4, 5, 6, 7, 8, 47] [0] [bT 2 b136, bT 6 b137] fun _ _ i => ⟨true, h, i⟩
              · rcases cs h with ⟨b138, h⟩ | ⟨b138, h⟩
                · exact At.rK [0, 1, 4, 5, 6, 7, 8, 47] [0] [bT 2 b136, bT 6 b137, bT 9 b138] fun _ _ i => ⟨(decide (0 < x77)), h, i⟩
                · exact At.rK [0, 1, 4, 5, 6, 7, 8, 47] [0] [bT 2 b136, bT 6 b137, bT 9 b138] fun _ _ i => ⟨false, h, i⟩
            · rcases cs h with ⟨b139, h⟩ | ⟨b139, h⟩
              · exact At.rK [0, 1, 4, 5, 6, 7, 8, 47] [0] [bT 2 b136, bT 9 b139] fun _ _ i => ⟨(decide (0 < x77)), h, i⟩
              · exact At.rK [0, 1, 4, 5, 6, 7, 8, 47] [0] [bT 2 b136, bT 9 b139] fun _ _ i => ⟨false, h, i⟩
          · intro x128 h
            refine At.cd h (fun b129 h => ?_) (fun b129 h => ?_)
            · refine At.sR [4] [0] [] ?_
              obtain ⟨r130, h, e131⟩ := mr h
              rw [f79 _ e131] at h
              obtain rfl := sq h
              exact At.ret (At.rR hR [])
            · refine At.nR [0, 1, 4, 5, 6, 7, 8] [0] ?_
              refine At.skip (norm ?_)
              refine At.sR [0, 1, 4, 5, 6, 7, 8] [0] [oT 2 (by decide : 128 ≠ (0:Int))] ?_
              refine At.seq ?_
              refine At.sR [0, 1, 4, 5, 6, 7, 57] [0] [] ?_
              refine At.cd h (fun b133 h => ?_) (fun b133 h => ?_)
              · refine At.sR [4] [0] [] ?_
                obtain ⟨r134, h, e135⟩ := mr h
                rw [f79 _ e135] at h
                obtain rfl := sq h
                exact At.ret (At.rR hR [])
              · refine At.nR [0, 1, 4, 5, 6, 7] [0] ?_
                refine At.skip (norm ?_)
                refine At.rG [0, 1, 4, 5, 6, 7] [0] [] (norm ?_)
                exact At.rK [0, 1, 4, 5, 6, 7] [0] [] fun _ _ i => ⟨_, li h, i⟩
      · refine At.nR [4] [0] ?_
        obtain ⟨r140, h, e141⟩ := mr h
        rw [f79 _ e141] at h
        refine At.exit (norm ?_)
        refine At.sR [4] [0] [] ?_
        obtain rfl := sq h
        exact At.ret (At.rR hR [])
theorem C_retraceref03_Reader_fail (p1 : Int) (o0 : T_retraceref03_Reader) (r : T_retraceref03_Reader) (h : F_retraceref03_Reader_fail p1 o0 = some r) : FnOK Tryz.prog 66 [.ptr 0 0, i64 p1] [.blk 78 (T_retraceref03_Reader.pvs o0)] (.tup []) [.blk 78 (T_retraceref03_Reader.pvs r)] [1] := by
  refine fI Tryz.func66 rfl fun E gv R hR => ?_
  refine At.sR [0, 1, 8] [0, 1] [] ?_
  refine At.cd h (fun b1 h => ?_) (fun b1 h => ?_)
  · obtain rfl := sq h
    refine At.rG [] [0, 1] [] (edq (l := []) (ks := []) (ρ := [0, 1]) (st' := ⟨[], [.blk 78 [sv o0.S, i64 p1], .ghost (gv 0) (.ptr 0 0)]⟩) (by kernel_rfl) (At.rN hR [0]))
  · refine At.nR [] [0, 1] ?_
    obtain rfl := sq h
    refine At.skip (edq (l := []) (ks := []) (ρ := [0, 1]) (st' := ⟨[], [.blk 78 (T_retraceref03_Reader.pvs o0), .ghost (gv 0) (.ptr 0 0)]⟩) (by kernel_rfl) (At.rN hR [0]))
theorem C_retraceref03_Reader_Num (o0 : T_retraceref03_Reader) (r : Int × T_retraceref03_Reader) (h : F_retraceref03_Reader_Num o0 = some r) : FnOK Tryz.prog 65 [.ptr 0 0] [.blk 78 (T_retraceref03_Reader.pvs o0)] (u64 r.1) [.blk 78 (T_retraceref03_Reader.pvs r.2)] [1] := by
  refine fI Tryz.func65 rfl fun E gv R hR => ?_
  refine At.sR [0] [0, 1] [] ?_
  refine At.seq ?_
  refine At.sR [0, 8] [0, 1] [] ?_
  refine At.cd h (fun b2 h => ?_) (fun b2 h => ?_)
  · refine At.sR [2] [0, 1] [] ?_
    obtain rfl := sq h
    exact At.ret (At.rR hR [0])
  · refine At.nR [0] [0, 1] ?_
    refine At.skip (norm ?_)
    obtain ⟨y4, hy4, h⟩ := bs h
    refine At.sR [0, 3] [0, 1, 2] [c0 4 (C_retraceref01_Get o0.S 0 y4 hy4)] ?_
    refine At.seq ?_
    refine At.sR [0, 3, 16] [0, 1, 2] [] ?_
    refine At.cd h (fun b8 h => ?_) (fun b8 h => ?_)
    · refine At.seq ?_
      obtain ⟨y10, hy10, h⟩ := bs h
      refine At.rK (st' := ⟨[], [.blk 78 (T_retraceref03_Reader.pvs y10), .ghost (gv 0) (.ptr 0 0)]⟩) [] [0, 1] [cT 3 1 [0] (C_retraceref03_Reader_fail y4.E o0 y10 hy10)] (norm ?_)
      refine At.sR [2] [0, 1] [] ?_
      obtain rfl := sq h
      exact At.ret (At.rR hR [0])
    · refine At.nK (st' := ⟨[(0, .ptr 0 0), (3, .ptr 2 0)], [.blk 78 (T_retraceref03_Reader.pvs o0), .ghost (gv 0) (.ptr 0 0), .blk 123 (T_retraceref01_Got.pvs y4)]⟩) [0, 3] [0, 1, 2] ?_
      refine At.skip (norm ?_)
      obtain ⟨g12, h⟩ := gs h
      refine At.sD 0 [3] [0, 1, 2] [oT 7 g12] ?_
      refine At.sR [2] [0, 1] [] ?_
      obtain rfl := sq h
      exact At.ret (At.rR hR [0])
theorem C_retraceref03_Reader_Upto (p1 : Int) (o0 : T_retraceref03_Reader) (r : Int × T_retraceref03_Reader) (h : F_retraceref03_Reader_Upto p1 o0 = some r) : FnOK Tryz.prog 34 [.ptr 0 0, i64 p1] [.blk 78 (T_retraceref03_Reader.pvs o0)] (i64 r.1) [.blk 78 (T_retraceref03_Reader.pvs r.2)] [1] := by
  refine fI Tryz.func34 rfl fun E gv R hR => ?_
  refine At.sR [0, 1] [0, 1] [] ?_
  refine At.sR [0, 1, 5] [0, 1] [] ?_
  obtain ⟨y2, hy2, h⟩ := bs h
  refine At.sR [0, 1, 5, 6] [0, 1] [cT 1 1 [0] (C_retraceref03_Reader_Num o0 y2 hy2)] ?_
  refine At.seq ?_
  refine At.seqJ (S := Bool) (fun s => ⟨[(0, .ptr 0 0), (5, sv o0.S), (6, u64 y2.1), (27, bo s)], [.blk 78 (T_retraceref03_Reader.pvs y2.2), .ghost (gv 0) (.ptr 0 0)]⟩) (fun s => F_retraceref03_Reader_Upto_J1 o0 y2 s = some r) ?_ ?_
  · rcases cs h with ⟨b17, h⟩ | ⟨b17, h⟩
    · rcases cs h with ⟨b18, h⟩ | ⟨b18, h⟩
      · exact At.rK [0, 5, 6, 27] [0, 1] [bT 5 b17, bT 8 b18] fun _ _ i => ⟨true, h, i⟩
      · exact At.rK [0, 5, 6, 27] [0, 1] [bT 5 b17, bT 8 b18] fun _ _ i => ⟨(decide ((wu64 p1) < y2.1)), h, i⟩
    · exact At.rK [0, 5, 6, 27] [0, 1] [bT 5 b17] fun _ _ i => ⟨false, h, i⟩
  · intro x13 h
    refine At.cd h (fun b14 h => ?_) (fun b14 h => ?_)
    · refine At.sR [0] [0, 1] [] ?_
      obtain ⟨y16, hy16, h⟩ := bs h
      refine At.sR [] [0, 1] [cT 1 1 [0] (C_retraceref03_Reader_fail 6 (⟨o0.S, y2.2.Bad⟩ : T_retraceref03_Reader) y16 hy16)] ?_
      refine At.sR [4] [0, 1] [] ?_
      obtain rfl := sq h
      exact At.ret (At.rR hR [0])
    · refine At.nR [6] [0, 1] ?_
      refine At.skip (norm ?_)
      refine At.sR [4] [0, 1] [] ?_
      obtain rfl := sq h
      exact At.ret (At.rR hR [0])
theorem C_retraceref03_Reader_Raw (p1 : Int) (o0 : T_retraceref03_Reader) (r : ByteArray × T_retraceref03_Reader) (h : F_retraceref03_Reader_Raw p1 o0 = some r) : FnOK Tryz.prog 67 [.ptr 0 0, i64 p1] [.blk 78 (T_retraceref03_Reader.pvs o0)] (sv r.1) [.blk 78 (T_retraceref03_Reader.pvs r.2)] [1] := by
  refine fI Tryz.func67 rfl fun E gv R hR => ?_
  refine At.sR [0, 1] [0, 1] [] ?_
  refine At.seq ?_
  refine At.sR [0, 1, 10] [0, 1] [] ?_
  refine At.cd h (fun b2 h => ?_) (fun b2 h => ?_)
  · refine At.sR [4] [0, 1] [] ?_
    obtain rfl := sq h
    exact At.ret (At.rR hR [0])
  · refine At.nR [0, 1] [0, 1] ?_
    refine At.skip (norm ?_)
    refine At.seq ?_
    refine At.sR [0, 1, 12] [0, 1] [] ?_
    refine At.cd h (fun b6 h => ?_) (fun b6 h => ?_)
    · obtain ⟨y8, hy8, h⟩ := bs h
      refine At.sR [] [0, 1] [cT 1 1 [0] (C_retraceref03_Reader_fail 1 o0 y8 hy8)] ?_
      refine At.seq ?_
      refine At.rK (st' := ⟨[(4, sv (⟨#[]⟩ : ByteArray))], [.blk 78 (T_retraceref03_Reader.pvs y8), .ghost (gv 0) (.ptr 0 0)]⟩) [4] [0, 1] [] (norm ?_)
      obtain rfl := sq h
      exact At.ret (At.rR hR [0])
    · refine At.nR [0, 1] [0, 1] ?_
      refine At.skip (norm ?_)
      refine At.seq ?_
      refine At.seq ?_
      refine At.rK (st' := ⟨[(0, .ptr 0 0), (1, i64 p1), (21, bo (decide ((o0.S.size : Int) < p1)))], [.blk 78 (T_retraceref03_Reader.pvs o0), .ghost (gv 0) (.ptr 0 0)]⟩) [0, 1, 21] [0, 1] [] (norm ?_)
      refine At.cd h (fun b12 h => ?_) (fun b12 h => ?_)
      · obtain ⟨y14, hy14, h⟩ := bs h
        refine At.sR [] [0, 1] [cT 1 1 [0] (C_retraceref03_Reader_fail 2 o0 y14 hy14)] ?_
        refine At.sR [4] [0, 1] [] ?_
        obtain rfl := sq h
        exact At.ret (At.rR hR [0])
      · refine At.nR [0, 1] [0, 1] ?_
        refine At.skip (norm ?_)
        obtain ⟨g16, h⟩ := gs h
        refine At.sR [0, 1, 5] [0, 1] [oT 5 g16] ?_
        obtain ⟨g18, h⟩ := gs h
        refine At.sR [5] [0, 1] [oT 6 g18] ?_
        refine At.sR [4] [0, 1] [] ?_
        obtain rfl := sq h
        exact At.ret (At.rR hR [0])
theorem C_retraceref03_Reader_Text (p1 : Int) (o0 : T_retraceref03_Reader) (r : ByteArray × T_retraceref03_Reader) (h : F_retraceref03_Reader_Text p1 o0 = some r) : FnOK Tryz.prog 35 [.ptr 0 0, i64 p1] [.blk 78 (T_retraceref03_Reader.pvs o0)] (sv r.1) [.blk 78 (T_retraceref03_Reader.pvs r.2)] [1] := by
  refine fI Tryz.func35 rfl fun E gv R hR => ?_
  refine At.sR [0, 1] [0, 1] [] ?_
  obtain ⟨y2, hy2, h⟩ := bs h
  refine At.sR [0, 5] [0, 1] [cT 2 1 [0] (C_retraceref03_Reader_Upto p1 o0 y2 hy2)] ?_
  obtain ⟨y4, hy4, h⟩ := bs h
  refine At.sR [4] [0, 1] [cT 2 1 [0] (C_retraceref03_Reader_Raw y2.1 y2.2 y4 hy4)] ?_
  obtain rfl := sq h
  exact At.ret (At.rR hR [0])
theorem C_retraceref03_Reader_End (o0 : T_retraceref03_Reader) (r : Int) (h : F_retraceref03_Reader_End o0 = some r) : FnOK Tryz.prog 36 [.ptr 0 0] [.blk 78 (T_retraceref03_Reader.pvs o0)] (i64 r) [.blk 78 (T_retraceref03_Reader.pvs o0)] [1] := by
  refine fI Tryz.func36 rfl fun E gv R hR => ?_
  refine At.sR [0] [0, 1] [] ?_
  refine At.seq ?_
  refine At.seqJ (S := Bool) (fun s => ⟨[(0, .ptr 0 0), (15, bo s)], [.blk 78 (T_retraceref03_Reader.pvs o0), .ghost (gv 0) (.ptr 0 0)]⟩) (fun s => F_retraceref03_Reader_End_J1 o0 s = some r) ?_ ?_
  · rcases cs h with ⟨b8, h⟩ | ⟨b8, h⟩
    · exact At.rK [0, 15] [0, 1] [bT 5 b8] fun _ _ i => ⟨(decide (0 < (o0.S.size : Int))), h, i⟩
    · exact At.rK [0, 15] [0, 1] [bT 5 b8] fun _ _ i => ⟨false, h, i⟩
  · intro x6 h
    refine At.cd h (fun b7 h => ?_) (fun b7 h => ?_)
    · refine At.sR [2] [0, 1] [] ?_
      obtain rfl := sq h
      exact At.ret (At.rR hR [0])
    · refine At.nR [0] [0, 1] ?_
      refine At.skip (norm ?_)
      refine At.sR [2] [0, 1] [] ?_
      obtain rfl := sq h
      exact At.ret (At.rR hR [0])
theorem C_retraceref16_Nums (p0 : Int) (r : Int) (h : F_retraceref16_Nums p0 = some r) : FnOK Tryz.prog 68 [i64 p0] [] (i64 r) [] [] := by
  refine fI Tryz.func68 rfl fun E gv R hR => ?_
  refine At.sR [0] [] [] ?_
  refine At.seq ?_
  refine At.sR [3] [] [] ?_
  refine At.block ?_
  refine At.seqJ (S := Bool) (fun s => ⟨[(3, i64 p0), (4, bo s)], []⟩) (fun s => F_retraceref16_Nums_J1 p0 s = some r) ?_ ?_
  · refine At.sR [3, 4] [] [] ?_
    refine At.cd h (fun b63 h => ?_) (fun b63 h => ?_)
    · refine At.skip (fun _ _ i => ⟨(p0 == 9), h, i.en [] [3, 4] []⟩)
    · refine At.sR [3, 4] [] [] ?_
      refine At.cd h (fun b64 h => ?_) (fun b64 h => ?_)
      · refine At.skip (fun _ _ i => ⟨(p0 == 14), h, i.en [] [3, 4] []⟩)
      · exact At.rK [3, 4] [] [] fun _ _ i => ⟨(p0 == 19), h, i⟩
  · intro x35 h
    refine At.cd h (fun b36 h => ?_) (fun b36 h => ?_)
    · refine At.sR [2] [] [] ?_
      obtain rfl := sq h
      exact At.ret (At.rR hR [])
    · refine At.seqJ (S := Bool) (fun s => ⟨[(8, bo s)], []⟩) (fun s => F_retraceref16_Nums_J2 s = some r) ?_ ?_
      · refine At.sR [3, 8] [] [] ?_
        refine At.cd h (fun b51 h => ?_) (fun b51 h => ?_)
        · refine At.nR [8] [] ?_
          refine At.skip (fun _ _ i => ⟨(p0 == 1), h, i.en [] [8] []⟩)
        · refine At.sR [3, 8] [] [] ?_
          refine At.cd h (fun b52 h => ?_) (fun b52 h => ?_)
          · refine At.nR [8] [] ?_
            refine At.skip (fun _ _ i => ⟨(p0 == 2), h, i.en [] [8] []⟩)
          · refine At.sR [3, 8] [] [] ?_
            refine At.cd h (fun b53 h => ?_) (fun b53 h => ?_)
            · refine At.nR [8] [] ?_
              refine At.skip (fun _ _ i => ⟨(p0 == 3), h, i.en [] [8] []⟩)
            · refine At.sR [3, 8] [] [] ?_
              refine At.cd h (fun b54 h => ?_) (fun b54 h => ?_)
              · refine At.nR [8] [] ?_
                refine At.skip (fun _ _ i => ⟨(p0 == 4), h, i.en [] [8] []⟩)
              · refine At.sR [3, 8] [] [] ?_
                refine At.cd h (fun b55 h => ?_) (fun b55 h => ?_)
                · refine At.nK (st' := ⟨[(8, bo (p0 == 5))], []⟩) [8] [] ?_
                  refine At.skip (fun _ _ i => ⟨(p0 == 5), h, i⟩)
                · refine At.seq ?_
                  refine At.rK (st' := ⟨[(3, i64 p0), (8, bo (p0 == 6))], []⟩) [3, 8] [] [] (norm ?_)
                  refine At.cd h (fun b56 h => ?_) (fun b56 h => ?_)
                  · refine At.nR [8] [] ?_
                    refine At.skip (fun _ _ i => ⟨(p0 == 6), h, i.en [] [8] []⟩)
                  · refine At.sR [3, 8] [] [] ?_
                    refine At.cd h (fun b57 h => ?_) (fun b57 h => ?_)
                    · refine At.nR [8] [] ?_
                      refine At.skip (fun _ _ i => ⟨(p0 == 7), h, i.en [] [8] []⟩)
                    · refine At.sR [3, 8] [] [] ?_
                      refine At.cd h (fun b58 h => ?_) (fun b58 h => ?_)
                      · refine At.nR [8] [] ?_
                        refine At.skip (fun _ _ i => ⟨(p0 == 8), h, i.en [] [8] []⟩)
                      · refine At.sR [3, 8] [] [] ?_
                        refine At.cd h (fun b59 h => ?_) (fun b59 h => ?_)
                        · refine At.nR [8] [] ?_
                          refine At.skip (fun _ _ i => ⟨(p0 == 11), h, i.en [] [8] []⟩)
                        · refine At.sR [3, 8] [] [] ?_
                          refine At.cd h (fun b60 h => ?_) (fun b60 h => ?_)
                          · refine At.nR [8] [] ?_
                            refine At.skip (fun _ _ i => ⟨(p0 == 12), h, i.en [] [8] []⟩)
                          · refine At.sR [3, 8] [] [] ?_
                            refine At.cd h (fun b61 h => ?_) (fun b61 h => ?_)
                            · refine At.nK (st' := ⟨[(8, bo (p0 == 20))], []⟩) [8] [] ?_
                              refine At.skip (fun _ _ i => ⟨(p0 == 20), h, i⟩)
                            · refine At.seq ?_
                              refine At.rK (st' := ⟨[(3, i64 p0), (8, bo (p0 == 21))], []⟩) [3, 8] [] [] (norm ?_)
                              refine At.cd h (fun b62 h => ?_) (fun b62 h => ?_)
                              · refine At.nR [8] [] ?_
                                refine At.skip (fun _ _ i => ⟨(p0 == 21), h, i.en [] [8] []⟩)
                              · exact At.rK [8] [] [] fun _ _ i => ⟨(p0 == 22), h, i⟩
      · intro x49 h
        refine At.cd h (fun b50 h => ?_) (fun b50 h => ?_)
        · refine At.sR [2] [] [] ?_
          obtain rfl := sq h
          exact At.ret (At.rR hR [])
        · refine At.nR [] [] ?_
          refine At.skip (norm ?_)
          refine At.sR [2] [] [] ?_
          obtain rfl := sq h
          exact At.ret (At.rR hR [])
theorem C_retraceref01_Zag (p0 : Int) (r : Int) (h : F_retraceref01_Zag p0 = some r) : FnOK Tryz.prog 70 [u64 p0] [] (i64 r) [] [] := by
  refine fI Tryz.func70 rfl fun E gv R hR => ?_
  refine At.sR [0] [] [] ?_
  refine At.seq ?_
  refine At.sR [0, 5] [] [oT 1 (by decide : 2 ≠ (0:Int))] ?_
  refine At.cd h (fun b2 h => ?_) (fun b2 h => ?_)
  · refine At.sR [2] [] [oT 1 (by decide : 2 ≠ (0:Int))] ?_
    obtain rfl := sq h
    exact At.ret (At.rR hR [])
  · refine At.nR [0] [] ?_
    refine At.skip (norm ?_)
    refine At.sR [2] [] [oT 1 (by decide : 2 ≠ (0:Int))] ?_
    obtain rfl := sq h
    exact At.ret (At.rR hR [])
theorem C_retraceref16_Right (p0 : T_api_Ins) (r : Bool) (h : F_retraceref16_Right p0 = some r) : FnOK Tryz.prog 71 [.agg (T_api_Ins.pvs p0)] [] (bo r) [] [] := by
  refine fI Tryz.func71 rfl fun E gv R hR => ?_
  refine At.sR [1] [0] [] ?_
  obtain ⟨y2, hy2, h⟩ := bs h
  refine At.sR [1, 3] [0] [c0 2 (C_retraceref16_Nums p0.Op y2 hy2)] ?_
  refine At.seq ?_
  refine At.seqJ (S := Bool) (fun s => ⟨[(1, .ptr 0 0), (32, bo s)], [.blk 84 (T_api_Ins.pvs p0)]⟩) (fun s => F_retraceref16_Right_J1 p0 s = some r) ?_ ?_
  · rcases cs h with ⟨b53, h⟩ | ⟨b53, h⟩
    · exact At.rK [1, 32] [0] [bT 3 b53] fun _ _ i => ⟨true, h, i⟩
    · rcases cs h with ⟨b54, h⟩ | ⟨b54, h⟩
      · exact At.rK [1, 32] [0] [bT 3 b53, bT 8 b54] fun _ _ i => ⟨true, h, i⟩
      · rcases cs h with ⟨b55, h⟩ | ⟨b55, h⟩
        · rcases cs h with ⟨b56, h⟩ | ⟨b56, h⟩
          · exact At.rK [1, 32] [0] [bT 3 b53, bT 8 b54, bT 11 b55, bT 17 b56] fun _ _ i => ⟨true, h, i⟩
          · rcases cs h with ⟨b57, h⟩ | ⟨b57, h⟩
            · exact At.rK [1, 32] [0] [bT 3 b53, bT 8 b54, bT 11 b55, bT 17 b56, bT 20 b57] fun _ _ i => ⟨(p0.B != 0), h, i⟩
            · exact At.rK [1, 32] [0] [bT 3 b53, bT 8 b54, bT 11 b55, bT 17 b56, bT 20 b57] fun _ _ i => ⟨false, h, i⟩
        · rcases cs h with ⟨b58, h⟩ | ⟨b58, h⟩
          · exact At.rK [1, 32] [0] [bT 3 b53, bT 8 b54, bT 11 b55, bT 20 b58] fun _ _ i => ⟨(p0.B != 0), h, i⟩
          · exact At.rK [1, 32] [0] [bT 3 b53, bT 8 b54, bT 11 b55, bT 20 b58] fun _ _ i => ⟨false, h, i⟩
  · intro x23 h
    refine At.cd h (fun b24 h => ?_) (fun b24 h => ?_)
    · refine At.sR [2] [] [] ?_
      obtain rfl := sq h
      exact At.ret (At.rR hR [])
    · refine At.nR [1] [0] ?_
      refine At.skip (norm ?_)
      refine At.seq ?_
      refine At.seqJ (S := Bool) (fun s => ⟨[(55, bo s)], []⟩) (fun s => F_retraceref16_Right_J2 s = some r) ?_ ?_
      · rcases cs h with ⟨b47, h⟩ | ⟨b47, h⟩
        · rcases cs h with ⟨b48, h⟩ | ⟨b48, h⟩
          · exact At.rK [55] [] [bT 3 b47, bT 8 b48] fun _ _ i => ⟨true, h, i⟩
          · rcases cs h with ⟨b49, h⟩ | ⟨b49, h⟩
            · rcases cs h with ⟨b50, h⟩ | ⟨b50, h⟩
              · exact At.rK [55] [] [bT 3 b47, bT 8 b48, bT 12 b49, bT 16 b50] fun _ _ i => ⟨true, h, i⟩
              · exact At.rK [55] [] [bT 3 b47, bT 8 b48, bT 12 b49, bT 16 b50] fun _ _ i => ⟨(decide (17 < p0.A)), h, i⟩
            · exact At.rK [55] [] [bT 3 b47, bT 8 b48, bT 12 b49] fun _ _ i => ⟨false, h, i⟩
        · rcases cs h with ⟨b51, h⟩ | ⟨b51, h⟩
          · rcases cs h with ⟨b52, h⟩ | ⟨b52, h⟩
            · exact At.rK [55] [] [bT 3 b47, bT 12 b51, bT 16 b52] fun _ _ i => ⟨true, h, i⟩
            · exact At.rK [55] [] [bT 3 b47, bT 12 b51, bT 16 b52] fun _ _ i => ⟨(decide (17 < p0.A)), h, i⟩
          · exact At.rK [55] [] [bT 3 b47, bT 12 b51] fun _ _ i => ⟨false, h, i⟩
      · intro x45 h
        refine At.cd h (fun b46 h => ?_) (fun b46 h => ?_)
        · refine At.sR [2] [] [] ?_
          obtain rfl := sq h
          exact At.ret (At.rR hR [])
        · refine At.nR [] [] ?_
          refine At.skip (norm ?_)
          refine At.sR [2] [] [] ?_
          obtain rfl := sq h
          exact At.ret (At.rR hR [])
theorem C_retraceref16_Get (p0 : ByteArray) (r : T_retraceref16_Got) (h : F_retraceref16_Get p0 = some r) : FnOK Tryz.prog 37 [sv p0] [] (.agg (T_retraceref16_Got.pvs r)) [] [] := by
  refine fI Tryz.func37 rfl fun E gv R hR => ?_
  refine At.sR [0, 2] [0] [] ?_
  refine At.sR [0, 2, 3] [0, 1] [] ?_
  refine At.seq ?_
  refine At.sR [0, 2, 3, 4] [0, 1] [] ?_
  refine At.block ?_
  refine At.nK (st' := ⟨[(0, sv p0), (2, .ptr 0 0), (3, .ptr 1 0), (4, i64 0)], [.blk 81 [.d (.list true 0 []), i64 0], .blk 81 [.d (.list true 0 []), i64 0]]⟩) [0, 2, 3, 4] [0, 1] ?_
  refine At.edNar [.ownO 1 0 84 3] [0, 2, 3, 4] [0, 1, 2] (st' := ⟨[(0, sv p0), (2, .ptr 0 0), (3, .ptr 1 0), (4, i64 0)], [.blk 81 [.d (.list true 0 []), i64 0], .blk 81 [.row 2 ([] : List T_api_Ins).length, i64 0], .row 84 3 (encL T_api_Ins.enc ([]))]⟩) (by kernel_rfl) ?_
  refine At.lp (fun s : (Int × (List T_api_Ins)) => ⟨[(0, sv p0), (2, .ptr 0 0), (3, .ptr 1 0), (4, i64 s.1)], [.blk 81 [.d (.list true 0 []), i64 0], .blk 81 [.row 2 (s.2).length, i64 0], .row 84 3 (encL T_api_Ins.enc s.2)]⟩) h ?_
  rintro ⟨x82, x83⟩ oo84 h f85
  replace h : F_retraceref16_Get_L2 p0 x82 x83 = some oo84 := h
  refine At.seq ?_
  refine At.sR [0, 2, 3, 4, 13] [0, 1, 2] [] ?_
  refine At.cd h (fun b87 h => ?_) (fun b87 h => ?_)
  · refine At.nR [0, 2, 3, 4] [0, 1, 2] ?_
    refine At.skip (norm ?_)
    refine At.block ?_
    obtain ⟨y89, hy89, h⟩ := bs h
    refine At.sR [0, 2, 3, 4, 5] [0, 1, 2, 3] [sT 2 hy89] ?_
    refine At.sR [0, 2, 3, 4, 5] [0, 1, 2, 3] [] ?_
    obtain ⟨y91, hy91, h⟩ := bs h
    refine At.sR [0, 2, 3, 4, 5, 6] [0, 1, 2, 3] [c0 2 (C_retraceref16_Nums (w64 y89) y91 hy91)] ?_
    refine At.seq ?_
    refine At.rK (st' := ⟨[(0, sv p0), (2, .ptr 0 0), (3, .ptr 1 0), (4, i64 (w64 (x82 + 1))), (5, .ptr 3 0), (6, i64 y91), (7, .ptr 4 0)], [.blk 81 [.d (.list true 0 []), i64 0], .blk 81 [.row 2 (x83).length, i64 0], .row 84 3 (encL T_api_Ins.enc x83), .blk 84 [i64 (w64 y89), i64 0, i64 0], .dblk 46 (encL (eInt .i64) (List.replicate 2 (0 : Int)))]⟩) [0, 2, 3, 4, 5, 6, 7] [0, 1, 2, 3, 4] [] (norm ?_)
    refine At.seq ?_
    refine At.sR [0, 2, 3, 4, 5, 6, 7, 8] [0, 1, 2, 3, 4] [] ?_
    refine At.block ?_
    refine At.nK (st' := ⟨[(0, sv p0), (2, .ptr 0 0), (3, .ptr 1 0), (4, i64 (w64 (x82 + 1))), (5, .ptr 3 0), (6, i64 y91), (7, .ptr 4 0), (8, i64 0)], [.blk 81 [.d (.list true 0 []), i64 0], .blk 81 [.row 2 (x83).length, i64 0], .row 84 3 (encL T_api_Ins.enc x83), .blk 84 [i64 (w64 y89), i64 0, i64 0], .dblk 46 (encL (eInt .i64) (List.replicate 2 (0 : Int)))]⟩) [0, 2, 3, 4, 5, 6, 7, 8] [0, 1, 2, 3, 4] ?_
    refine At.lp (fun s : (Int × Int × (List Int)) => ⟨[(0, sv p0), (2, .ptr 0 0), (3, .ptr 1 0), (4, i64 s.1), (5, .ptr 3 0), (6, i64 y91), (7, .ptr 4 0), (8, i64 s.2.1)], [.blk 81 [.d (.list true 0 []), i64 0], .blk 81 [.row 2 (x83).length, i64 0], .row 84 3 (encL T_api_Ins.enc x83), .blk 84 [i64 (w64 y89), i64 0, i64 0], .dblk 46 (encL (eInt .i64) s.2.2)]⟩) h ?_
    rintro ⟨x119, x120, x121⟩ oo122 h f123
    replace h : F_retraceref16_Get_L1 p0 x83 y89 y91 x119 x120 x121 = some oo122 := h
    refine At.seq ?_
    refine At.sR [0, 2, 3, 4, 5, 6, 7, 8, 26] [0, 1, 2, 3, 4] [] ?_
    refine At.cd h (fun b125 h => ?_) (fun b125 h => ?_)
    · refine At.nR [0, 2, 3, 4, 5, 6, 7, 8] [0, 1, 2, 3, 4] ?_
      refine At.skip (norm ?_)
      refine At.seq ?_
      refine At.block ?_
      obtain ⟨y135, hy135, h⟩ := bs h
      refine At.sR [0, 2, 3, 5, 6, 7, 8, 9] [0, 1, 2, 3, 4, 5] [c0 2 (C_retraceref01_Get p0 x119 y135 hy135)] ?_
      refine At.seq ?_
      refine At.sR [0, 2, 3, 5, 6, 7, 8, 9, 34] [0, 1, 2, 3, 4, 5] [] ?_
      refine At.cd h (fun b137 h => ?_) (fun b137 h => ?_)
      · refine At.sR [2] [0] [] ?_
        obtain ⟨r138, h, e139⟩ := mr h
        rw [f123 _ e139] at h
        obtain ⟨r140, h, e141⟩ := mr h
        rw [f85 _ e141] at h
        refine At.eN [.loO 0] [2] [0] ?_
        obtain rfl := sq h
        exact At.ret (At.rR hR [])
      · refine At.nR [0, 2, 3, 5, 6, 7, 8, 9] [0, 1, 2, 3, 4, 5] ?_
        refine At.skip (norm ?_)
        refine At.seq ?_
        obtain ⟨y144, hy144, h⟩ := bs h
        obtain ⟨g145, h⟩ := gs h
        refine At.rK (st' := ⟨[(0, sv p0), (2, .ptr 0 0), (3, .ptr 1 0), (5, .ptr 3 0), (6, i64 y91), (7, .ptr 4 0), (8, i64 x120), (9, .ptr 5 0)], [.blk 81 [.d (.list true 0 []), i64 0], .blk 81 [.row 2 (x83).length, i64 0], .row 84 3 (encL T_api_Ins.enc x83), .blk 84 [i64 (w64 y89), i64 0, i64 0], .dblk 46 (encL (eInt .i64) (List.set x121 (Int.toNat x120) y144)), .blk 123 (T_retraceref01_Got.pvs y135)]⟩) [0, 2, 3, 5, 6, 7, 8, 9] [0, 1, 2, 3, 4, 5] [c0 3 (C_retraceref01_Zag y135.U y144 hy144), oT 4 (⟨g145.1, g145.2.1⟩ : Within _ _), tT 5 ({ form := some (0, encL (eInt .i64) (List.set x121 (Int.toNat x120) y144)), obj := 4 }) (allc ((aSet_ok (he_int .i64) y144 g145).1) (allc ((aSet_ok (he_int .i64) y144 g145).2) all0))] (norm ?_)
        refine At.rG [0, 2, 3, 4, 5, 6, 7, 8] [0, 1, 2, 3, 4] [] (norm ?_)
        exact At.rK [0, 2, 3, 4, 5, 6, 7, 8] [0, 1, 2, 3, 4] [] fun _ _ i => ⟨_, li h, i⟩
    · refine At.nR [0, 2, 3, 4, 5, 7] [0, 1, 2, 3, 4] ?_
      obtain ⟨r146, h, e147⟩ := mr h
      rw [f123 _ e147] at h
      refine At.exit (norm ?_)
      obtain ⟨y150, hy150, h⟩ := bs h
      obtain ⟨y151, hy151, h⟩ := bs h
      refine At.sD 0 [0, 2, 3, 4, 5] [0, 1, 2, 3] [oT 0 ((aAt_of (he_int .i64) (d := .int .i64 y150) hy150 rfl).1), vT 1 (.int .i64 y150) ((aAt_of (he_int .i64) (d := .int .i64 y150) hy150 rfl).2), oT 2 ((aAt_of (he_int .i64) (d := .int .i64 y151) hy151 rfl).1), vT 3 (.int .i64 y151) ((aAt_of (he_int .i64) (d := .int .i64 y151) hy151 rfl).2)] ?_
      refine At.seq ?_
      obtain ⟨y156, hy156, h⟩ := bs h
      refine At.sR [0, 2, 3, 4, 5, 53] [0, 1, 2, 3] [c0 1 (C_retraceref16_Right (⟨(w64 y89), y150, y151⟩ : T_api_Ins) y156 hy156)] ?_
      refine At.cd h (fun b157 h => ?_) (fun b157 h => ?_)
      · refine At.sR [2] [0] [] ?_
        obtain ⟨r158, h, e159⟩ := mr h
        rw [f85 _ e159] at h
        refine At.eN [.loO 0] [2] [0] ?_
        obtain rfl := sq h
        exact At.ret (At.rR hR [])
      · refine At.nR [0, 2, 3, 4, 5] [0, 1, 2, 3] ?_
        refine At.skip (norm ?_)
        obtain ⟨g160, h⟩ := gs h
        exact At.rK [0, 2, 3, 4] [0, 1, 2] [aT T_api_Ins.enc_len 4 x83 ([(⟨(w64 y89), y150, y151⟩ : T_api_Ins)]) rfl g160] fun _ _ i => ⟨_, li h, i⟩
  · refine At.nR [2, 3] [0, 1, 2] ?_
    obtain ⟨r161, h, e162⟩ := mr h
    rw [f85 _ e162] at h
    refine At.exit (norm ?_)
    refine At.sR [2] [0, 2] [] ?_
    refine At.eN [.settle 1] [2] [0] ?_
    obtain rfl := sq h
    exact At.ret (At.rR hR [])
theorem C_retraceref20_tables (p0 : T_api_Code) (r : Bool) (h : F_retraceref20_tables p0 = some r) : FnOK Tryz.prog 41 [.agg (T_api_Code.pvs p0)] [] (bo r) [] [] := by
  refine fI Tryz.func41 rfl fun E gv R hR => ?_
  refine At.sR [1] [0] [] ?_
  refine At.sR [1, 3] [0] [] ?_
  refine At.seq ?_
  refine At.seqJ (S := Bool) (fun s => ⟨[(1, .ptr 0 0), (3, i64 ((p0.Defs).length : Int)), (44, bo s)], [.blk 27 (T_api_Code.pvs p0)]⟩) (fun s => F_retraceref20_tables_J1 p0 s = some r) ?_ ?_
  · rcases cs h with ⟨b527, h⟩ | ⟨b527, h⟩
    · exact At.rK [1, 3, 44] [0] [bT 2 b527] fun _ _ i => ⟨true, h, i⟩
    · rcases cs h with ⟨b528, h⟩ | ⟨b528, h⟩
      · exact At.rK [1, 3, 44] [0] [bT 2 b527, bT 6 b528] fun _ _ i => ⟨true, h, i⟩
      · rcases cs h with ⟨b529, h⟩ | ⟨b529, h⟩
        · exact At.rK [1, 3, 44] [0] [bT 2 b527, bT 6 b528, bT 12 b529] fun _ _ i => ⟨true, h, i⟩
        · rcases cs h with ⟨b530, h⟩ | ⟨b530, h⟩
          · exact At.rK [1, 3, 44] [0] [bT 2 b527, bT 6 b528, bT 12 b529, bT 17 b530] fun _ _ i => ⟨true, h, i⟩
          · rcases cs h with ⟨b531, h⟩ | ⟨b531, h⟩
            · exact At.rK [1, 3, 44] [0] [bT 2 b527, bT 6 b528, bT 12 b529, bT 17 b530, bT 23 b531] fun _ _ i => ⟨true, h, i⟩
            · obtain ⟨y532, hy532, h⟩ := bs h
              exact At.rK [1, 3, 44] [0] [bT 2 b527, bT 6 b528, bT 12 b529, bT 17 b530, bT 23 b531, eT T_api_Def.enc_len 28 hy532] fun _ _ i => ⟨(y532.Params != 0), h, i⟩
  · intro x21 h
    refine At.cd h (fun b22 h => ?_) (fun b22 h => ?_)
    · refine At.sR [2] [] [] ?_
      obtain rfl := sq h
      exact At.ret (At.rR hR [])
    · refine At.nR [1, 3] [0] ?_
      refine At.skip (norm ?_)
      refine At.seq ?_
      refine At.sR [1, 3, 4] [0] [] ?_
      refine At.block ?_
      refine At.nK (st' := ⟨[(1, .ptr 0 0), (3, i64 ((p0.Defs).length : Int)), (4, i64 0)], [.blk 27 (T_api_Code.pvs p0)]⟩) [1, 3, 4] [0] ?_
      refine At.lp (fun s : (Int) => ⟨[(1, .ptr 0 0), (3, i64 ((p0.Defs).length : Int)), (4, i64 s)], [.blk 27 (T_api_Code.pvs p0)]⟩) h ?_
      intro x210 oo211 h f212
      replace h : F_retraceref20_tables_L7 p0 x210 = some oo211 := h
      refine At.seq ?_
      refine At.sR [1, 3, 4, 47] [0] [] ?_
      refine At.cd h (fun b214 h => ?_) (fun b214 h => ?_)
      · refine At.nR [1, 3, 4] [0] ?_
        refine At.skip (norm ?_)
        refine At.seq ?_
        refine At.block ?_
        obtain ⟨y304, hy304, h⟩ := bs h
        refine At.sR [1, 3, 4, 5] [0, 1] [eT T_api_Def.enc_len 3 hy304] ?_
        refine At.seq ?_
        refine At.seqJ (S := Bool) (fun s => ⟨[(1, .ptr 0 0), (3, i64 ((p0.Defs).length : Int)), (4, i64 x210), (5, .ptr 1 0), (101, bo s)], [.blk 27 (T_api_Code.pvs p0), .blk 61 (T_api_Def.pvs y304)]⟩) (fun s => F_retraceref20_tables_J2 x210 y304 s = some oo211) ?_ ?_
        · rcases cs h with ⟨b376, h⟩ | ⟨b376, h⟩
          · obtain ⟨y377, hy377, h⟩ := bs h
            rcases cs h with ⟨b378, h⟩ | ⟨b378, h⟩
            · exact At.dK 0 [1, 3, 4, 5, 101] [0, 1] [bT 3 b376, c0 6 (C_retraceref08_Name y304.Name y377 hy377), bT 9 b378] fun _ _ i => ⟨true, h, i⟩
            · rcases cs h with ⟨b379, h⟩ | ⟨b379, h⟩
              · exact At.dK 0 [1, 3, 4, 5, 101] [0, 1] [bT 3 b376, c0 6 (C_retraceref08_Name y304.Name y377 hy377), bT 9 b378, bT 14 b379] fun _ _ i => ⟨true, h, i⟩
              · rcases cs h with ⟨b380, h⟩ | ⟨b380, h⟩
                · exact At.dK 0 [1, 3, 4, 5, 101] [0, 1] [bT 3 b376, c0 6 (C_retraceref08_Name y304.Name y377 hy377), bT 9 b378, bT 14 b379, bT 22 b380] fun _ _ i => ⟨true, h, i⟩
                · rcases cs h with ⟨b381, h⟩ | ⟨b381, h⟩
                  · rcases cs h with ⟨b382, h⟩ | ⟨b382, h⟩
                    · exact At.dK 0 [1, 3, 4, 5, 101] [0, 1] [bT 3 b376, c0 6 (C_retraceref08_Name y304.Name y377 hy377), bT 9 b378, bT 14 b379, bT 22 b380, bT 25 b381, bT 31 b382] fun _ _ i => ⟨true, h, i⟩
                    · rcases cs h with ⟨b383, h⟩ | ⟨b383, h⟩
                      · obtain ⟨y384, hy384, h⟩ := bs h
                        exact At.dK 0 [1, 3, 4, 5, 101] [0, 1] [bT 3 b376, c0 6 (C_retraceref08_Name y304.Name y377 hy377), bT 9 b378, bT 14 b379, bT 22 b380, bT 25 b381, bT 31 b382, bT 34 b383, eT T_api_Def.enc_len 41 hy384] fun _ _ i => ⟨(decide (y304.Entry ≤ y384.Entry)), h, i⟩
                      · exact At.dK 0 [1, 3, 4, 5, 101] [0, 1] [bT 3 b376, c0 6 (C_retraceref08_Name y304.Name y377 hy377), bT 9 b378, bT 14 b379, bT 22 b380, bT 25 b381, bT 31 b382, bT 34 b383] fun _ _ i => ⟨false, h, i⟩
                  · rcases cs h with ⟨b385, h⟩ | ⟨b385, h⟩
                    · obtain ⟨y386, hy386, h⟩ := bs h
                      exact At.dK 0 [1, 3, 4, 5, 101] [0, 1] [bT 3 b376, c0 6 (C_retraceref08_Name y304.Name y377 hy377), bT 9 b378, bT 14 b379, bT 22 b380, bT 25 b381, bT 34 b385, eT T_api_Def.enc_len 41 hy386] fun _ _ i => ⟨(decide (y304.Entry ≤ y386.Entry)), h, i⟩
                    · exact At.dK 0 [1, 3, 4, 5, 101] [0, 1] [bT 3 b376, c0 6 (C_retraceref08_Name y304.Name y377 hy377), bT 9 b378, bT 14 b379, bT 22 b380, bT 25 b381, bT 34 b385] fun _ _ i => ⟨false, h, i⟩
          · rcases cs h with ⟨b387, h⟩ | ⟨b387, h⟩
            · exact At.dK 0 [1, 3, 4, 5, 101] [0, 1] [bT 3 b376, bT 14 b387] fun _ _ i => ⟨true, h, i⟩
            · rcases cs h with ⟨b388, h⟩ | ⟨b388, h⟩
              · exact At.dK 0 [1, 3, 4, 5, 101] [0, 1] [bT 3 b376, bT 14 b387, bT 22 b388] fun _ _ i => ⟨true, h, i⟩
              · rcases cs h with ⟨b389, h⟩ | ⟨b389, h⟩
                · rcases cs h with ⟨b390, h⟩ | ⟨b390, h⟩
                  · exact At.dK 0 [1, 3, 4, 5, 101] [0, 1] [bT 3 b376, bT 14 b387, bT 22 b388, bT 25 b389, bT 31 b390] fun _ _ i => ⟨true, h, i⟩
                  · rcases cs h with ⟨b391, h⟩ | ⟨b391, h⟩
                    · obtain ⟨y392, hy392, h⟩ := bs h
                      exact At.dK 0 [1, 3, 4, 5, 101] [0, 1] [bT 3 b376, bT 14 b387, bT 22 b388, bT 25 b389, bT 31 b390, bT 34 b391, eT T_api_Def.enc_len 41 hy392] fun _ _ i => ⟨(decide (y304.Entry ≤ y392.Entry)), h, i⟩
                    · exact At.dK 0 [1, 3, 4, 5, 101] [0, 1] [bT 3 b376, bT 14 b387, bT 22 b388, bT 25 b389, bT 31 b390, bT 34 b391] fun _ _ i => ⟨false, h, i⟩
                · rcases cs h with ⟨b393, h⟩ | ⟨b393, h⟩
                  · obtain ⟨y394, hy394, h⟩ := bs h
                    exact At.dK 0 [1, 3, 4, 5, 101] [0, 1] [bT 3 b376, bT 14 b387, bT 22 b388, bT 25 b389, bT 34 b393, eT T_api_Def.enc_len 41 hy394] fun _ _ i => ⟨(decide (y304.Entry ≤ y394.Entry)), h, i⟩
                  · exact At.dK 0 [1, 3, 4, 5, 101] [0, 1] [bT 3 b376, bT 14 b387, bT 22 b388, bT 25 b389, bT 34 b393] fun _ _ i => ⟨false, h, i⟩
        · intro x364 h
          refine At.cd h (fun b365 h => ?_) (fun b365 h => ?_)
          · refine At.sR [2] [] [] ?_
            obtain ⟨r366, h, e367⟩ := mr h
            rw [f212 _ e367] at h
            obtain rfl := sq h
            exact At.ret (At.rR hR [])
          · refine At.nR [1, 3, 4, 5] [0, 1] ?_
            refine At.skip (norm ?_)
            refine At.seqJ (S := Bool) (fun s => ⟨[(1, .ptr 0 0), (3, i64 ((p0.Defs).length : Int)), (4, i64 x210), (116, bo s)], [.blk 27 (T_api_Code.pvs p0)]⟩) (fun s => F_retraceref20_tables_J3 x210 s = some oo211) ?_ ?_
            · rcases cs h with ⟨b374, h⟩ | ⟨b374, h⟩
              · exact At.rK [1, 3, 4, 116] [0] [bT 3 b374] fun _ _ i => ⟨true, h, i⟩
              · rcases cs h with ⟨b375, h⟩ | ⟨b375, h⟩
                · exact At.rK [1, 3, 4, 116] [0] [bT 3 b374, bT 10 b375] fun _ _ i => ⟨true, h, i⟩
                · exact At.rK [1, 3, 4, 116] [0] [bT 3 b374, bT 10 b375] fun _ _ i => ⟨(decide (16 < y304.Vars)), h, i⟩
            · intro x370 h
              refine At.cd h (fun b371 h => ?_) (fun b371 h => ?_)
              · refine At.sR [2] [] [] ?_
                obtain ⟨r372, h, e373⟩ := mr h
                rw [f212 _ e373] at h
                obtain rfl := sq h
                exact At.ret (At.rR hR [])
              · refine At.nR [1, 3, 4] [0] ?_
                refine At.skip (norm ?_)
                exact At.rK [1, 3, 4] [0] [] fun _ _ i => ⟨_, li h, i⟩
      · refine At.nR [1] [0] ?_
        obtain ⟨r395, h, e396⟩ := mr h
        rw [f212 _ e396] at h
        refine At.exit (norm ?_)
        refine At.sR [1, 6] [0] [] ?_
        refine At.seq ?_
        refine At.sR [1, 6, 7] [0] [] ?_
        refine At.block ?_
        refine At.nK (st' := ⟨[(1, .ptr 0 0), (6, i64 0), (7, i64 0)], [.blk 27 (T_api_Code.pvs p0)]⟩) [1, 6, 7] [0] ?_
        refine At.lp (fun s : (Int × Int) => ⟨[(1, .ptr 0 0), (6, i64 s.1), (7, i64 s.2)], [.blk 27 (T_api_Code.pvs p0)]⟩) h ?_
        rintro ⟨x462, x463⟩ oo464 h f465
        replace h : F_retraceref20_tables_L6 p0 x462 x463 = some oo464 := h
        refine At.seq ?_
        refine At.sR [1, 6, 7, 121] [0] [] ?_
        refine At.cd h (fun b467 h => ?_) (fun b467 h => ?_)
        · refine At.nR [1, 6, 7] [0] ?_
          refine At.skip (norm ?_)
          refine At.seqJ (S := Int) (fun s => ⟨[(1, .ptr 0 0), (6, i64 s), (7, i64 x463)], [.blk 27 (T_api_Code.pvs p0)]⟩) (fun s => F_retraceref20_tables_J4 x463 s = some oo464) ?_ ?_
          · refine At.block ?_
            obtain ⟨y497, hy497, h⟩ := bs h
            refine At.sR [1, 6, 7, 8] [0, 1] [eT T_api_Chan.enc_len 3 hy497] ?_
            refine At.seq ?_
            refine At.seqJ (S := Bool) (fun s => ⟨[(1, .ptr 0 0), (6, i64 x462), (7, i64 x463), (8, .ptr 1 0), (152, bo s)], [.blk 27 (T_api_Code.pvs p0), .blk 65 (T_api_Chan.pvs y497)]⟩) (fun s => F_retraceref20_tables_J5 x462 x463 y497 s = some oo464) ?_ ?_
            · obtain ⟨y520, hy520, h⟩ := bs h
              rcases cs h with ⟨b521, h⟩ | ⟨b521, h⟩
              · exact At.rK [1, 6, 7, 8, 152] [0, 1] [c0 2 (C_retraceref08_Name y497.Name y520 hy520), bT 4 b521] fun _ _ i => ⟨true, h, i⟩
              · rcases cs h with ⟨b522, h⟩ | ⟨b522, h⟩
                · exact At.rK [1, 6, 7, 8, 152] [0, 1] [c0 2 (C_retraceref08_Name y497.Name y520 hy520), bT 4 b521, bT 9 b522] fun _ _ i => ⟨true, h, i⟩
                · rcases cs h with ⟨b523, h⟩ | ⟨b523, h⟩
                  · exact At.rK [1, 6, 7, 8, 152] [0, 1] [c0 2 (C_retraceref08_Name y497.Name y520 hy520), bT 4 b521, bT 9 b522, bT 14 b523] fun _ _ i => ⟨true, h, i⟩
                  · rcases cs h with ⟨b524, h⟩ | ⟨b524, h⟩
                    · exact At.rK [1, 6, 7, 8, 152] [0, 1] [c0 2 (C_retraceref08_Name y497.Name y520 hy520), bT 4 b521, bT 9 b522, bT 14 b523, bT 20 b524] fun _ _ i => ⟨true, h, i⟩
                    · exact At.rK [1, 6, 7, 8, 152] [0, 1] [c0 2 (C_retraceref08_Name y497.Name y520 hy520), bT 4 b521, bT 9 b522, bT 14 b523, bT 20 b524] fun _ _ i => ⟨(decide (64 ≤ x462)), h, i⟩
            · intro x515 h
              refine At.cd h (fun b516 h => ?_) (fun b516 h => ?_)
              · refine At.sR [2] [] [] ?_
                obtain ⟨r517, h, e518⟩ := mr h
                rw [f465 _ e518] at h
                obtain rfl := sq h
                exact At.ret (At.rR hR [])
              · refine At.nR [1, 6, 7, 8] [0, 1] ?_
                refine At.skip (norm ?_)
                refine At.sR [1, 6, 7, 8] [0, 1] [] ?_
                refine At.sR [1, 6, 7, 159] [0] [] ?_
                refine At.cd h (fun b519 h => ?_) (fun b519 h => ?_)
                · exact At.rK [1, 6, 7] [0] [] fun _ _ i => ⟨(w64 ((w64 (x462 + y497.Size)) + 1)), h, i⟩
                · refine At.nR [1, 6, 7] [0] ?_
                  refine At.skip (fun _ _ i => ⟨(w64 (x462 + y497.Size)), h, i.en [] [1, 6, 7] [0]⟩)
          · intro x495 h
            exact At.rK [1, 6, 7] [0] [] fun _ _ i => ⟨_, li h, i⟩
        · refine At.nR [6] [] ?_
          obtain ⟨r525, h, e526⟩ := mr h
          rw [f465 _ e526] at h
          refine At.exit (norm ?_)
          refine At.sR [2] [] [] ?_
          obtain rfl := sq h
          exact At.ret (At.rR hR [])
theorem C_retraceref20_To (p0 : T_api_Code) (p1 : Int) (r : Int) (h : F_retraceref20_To p0 p1 = some r) : FnOK Tryz.prog 42 [.agg (T_api_Code.pvs p0), i64 p1] [] (i64 r) [] [] := by
  refine fI Tryz.func42 rfl fun E gv R hR => ?_
  refine At.sR [1, 2] [0] [] ?_
  refine At.seq ?_
  refine At.sR [1, 2, 10] [0] [] ?_
  refine At.cd h (fun b4 h => ?_) (fun b4 h => ?_)
  · obtain ⟨y6, hy6, h⟩ := bs h
    refine At.sR [4] [] [eT T_api_Def.enc_len 4 hy6] ?_
    obtain rfl := sq h
    exact At.ret (At.rR hR [])
  · refine At.nR [2] [0] ?_
    refine At.skip (norm ?_)
    refine At.sR [4] [] [] ?_
    obtain rfl := sq h
    exact At.ret (At.rR hR [])
theorem C_retraceref20_channel (p0 : T_api_Code) (p1 : Int) (p2 : Int) (r : Bool) (h : F_retraceref20_channel p0 p1 p2 = some r) : FnOK Tryz.prog 80 [.agg (T_api_Code.pvs p0), i64 p1, i64 p2] [] (bo r) [] [] := by
  refine fI Tryz.func80 rfl fun E gv R hR => ?_
  refine At.sR [1, 2, 3] [0] [] ?_
  refine At.seq ?_
  refine At.sR [1, 2, 3, 7] [0] [] ?_
  refine At.block ?_
  refine At.nK (st' := ⟨[(1, i64 p1), (2, i64 p2), (3, .ptr 0 0), (7, i64 0)], [.blk 27 (T_api_Code.pvs p0)]⟩) [1, 2, 3, 7] [0] ?_
  refine At.lp (fun s : (Int) => ⟨[(1, i64 p1), (2, i64 p2), (3, .ptr 0 0), (7, i64 s)], [.blk 27 (T_api_Code.pvs p0)]⟩) h ?_
  intro x26 oo27 h f28
  replace h : F_retraceref20_channel_L2 p0 p1 p2 x26 = some oo27 := h
  refine At.seq ?_
  refine At.sR [1, 2, 3, 7, 12] [0] [] ?_
  refine At.cd h (fun b30 h => ?_) (fun b30 h => ?_)
  · refine At.nR [1, 2, 3, 7] [0] ?_
    refine At.skip (norm ?_)
    refine At.seq ?_
    refine At.block ?_
    refine At.seqJ (S := Bool) (fun s => ⟨[(1, i64 p1), (2, i64 p2), (3, .ptr 0 0), (7, i64 x26), (32, bo s)], [.blk 27 (T_api_Code.pvs p0)]⟩) (fun s => F_retraceref20_channel_J1 x26 s = some oo27) ?_ ?_
    · obtain ⟨y46, hy46, h⟩ := bs h
      rcases cs h with ⟨b47, h⟩ | ⟨b47, h⟩
      · obtain ⟨y48, hy48, h⟩ := bs h
        exact At.rK [1, 2, 3, 7, 32] [0] [eT T_api_Chan.enc_len 3 hy46, bT 8 b47, eT T_api_Chan.enc_len 12 hy48] fun _ _ i => ⟨(y48.Size == p2), h, i⟩
      · exact At.rK [1, 2, 3, 7, 32] [0] [eT T_api_Chan.enc_len 3 hy46, bT 8 b47] fun _ _ i => ⟨false, h, i⟩
    · intro x42 h
      refine At.cd h (fun b43 h => ?_) (fun b43 h => ?_)
      · refine At.sR [6] [] [] ?_
        obtain ⟨r44, h, e45⟩ := mr h
        rw [f28 _ e45] at h
        obtain rfl := sq h
        exact At.ret (At.rR hR [])
      · refine At.nR [1, 2, 3, 7] [0] ?_
        refine At.skip (norm ?_)
        exact At.rK [1, 2, 3, 7] [0] [] fun _ _ i => ⟨_, li h, i⟩
  · refine At.nR [] [] ?_
    obtain ⟨r49, h, e50⟩ := mr h
    rw [f28 _ e50] at h
    refine At.exit (norm ?_)
    refine At.sR [6] [] [] ?_
    obtain rfl := sq h
    exact At.ret (At.rR hR [])
theorem C_retraceref20_target (p0 : T_api_Ins) (r : Int × Bool) (h : F_retraceref20_target p0 = some r) : FnOK Tryz.prog 81 [.agg (T_api_Ins.pvs p0)] [] (.tup [i64 r.1, bo r.2]) [] [] := by
  refine fI Tryz.func81 rfl fun E gv R hR => ?_
  refine At.sR [1] [0] [] ?_
  refine At.seq ?_
  obtain ⟨y6, hy6, h⟩ := bs h
  refine At.sR [1, 6] [0] [c0 2 (C_retraceref17_Which p0.Op y6 hy6)] ?_
  refine At.block ?_
  refine At.sR [1, 6, 7] [0] [] ?_
  refine At.cd h (fun b7 h => ?_) (fun b7 h => ?_)
  · refine At.sR [2, 3] [] [] ?_
    obtain rfl := sq h
    exact At.ret (At.rR hR [])
  · refine At.sR [1, 11] [0] [] ?_
    refine At.cd h (fun b8 h => ?_) (fun b8 h => ?_)
    · refine At.sR [2, 3] [] [] ?_
      obtain rfl := sq h
      exact At.ret (At.rR hR [])
    · refine At.nR [] [] ?_
      refine At.skip (norm ?_)
      refine At.seq ?_
      refine At.rK (st' := ⟨[(2, i64 0), (3, bo false)], []⟩) [2, 3] [] [] (norm ?_)
      obtain rfl := sq h
      exact At.ret (At.rR hR [])
theorem C_retraceref20_Chooses (p0 : Int) (r : Bool) (h : F_retraceref20_Chooses p0 = some r) : FnOK Tryz.prog 82 [i64 p0] [] (bo r) [] [] := by
  refine fI Tryz.func82 rfl fun E gv R hR => ?_
  refine At.sR [0] [] [] ?_
  refine At.seqJ (S := Bool) (fun s => ⟨[(2, bo s)], []⟩) (fun s => F_retraceref20_Chooses_J1 s = some r) ?_ ?_
  · rcases cs h with ⟨b3, h⟩ | ⟨b3, h⟩
    · exact At.rK [2] [] [bT 2 b3] fun _ _ i => ⟨(decide (p0 ≤ 22)), h, i⟩
    · exact At.rK [2] [] [bT 2 b3] fun _ _ i => ⟨false, h, i⟩
  · intro x2 h
    obtain rfl := sq h
    exact At.ret (At.rR hR [])
end Go.Ab
