import Derived.Test.YtholdfpblliiiaaGreatGT4
namespace Go.Ab
open Go.Proofs
set_option linter.unusedVariables false
set_option maxRecDepth 100000
theorem C_retracelaw24_large (p0 : T_api_Code) (p1 : T_api_Proc) (r : Bool) (h : F_retracelaw24_large p0 p1 = some r) : FnOK Tryz.prog 9 [.agg (T_api_Code.pvs p0), .agg (T_api_Proc.pvs p1)] [] (bo r) [] [] := by
  refine fI Tryz.func9 rfl fun E gv R hR => ?_
  refine At.sR [2, 3] [0, 1] [] ?_
  refine At.seqJ (S := Bool) (fun s => ⟨[(4, bo s)], []⟩) (fun s => F_retracelaw24_large_J1 s = some r) ?_ ?_
  · rcases cs h with ⟨b6, h⟩ | ⟨b6, h⟩
    · exact At.rK [4] [] [bT 4 b6] fun _ _ i => ⟨true, h, i⟩
    · rcases cs h with ⟨b7, h⟩ | ⟨b7, h⟩
      · exact At.rK [4] [] [bT 4 b6, bT 10 b7] fun _ _ i => ⟨true, h, i⟩
      · rcases cs h with ⟨b8, h⟩ | ⟨b8, h⟩
        · exact At.rK [4] [] [bT 4 b6, bT 10 b7, bT 16 b8] fun _ _ i => ⟨true, h, i⟩
        · rcases cs h with ⟨b9, h⟩ | ⟨b9, h⟩
          · exact At.rK [4] [] [bT 4 b6, bT 10 b7, bT 16 b8, bT 22 b9] fun _ _ i => ⟨true, h, i⟩
          · exact At.rK [4] [] [bT 4 b6, bT 10 b7, bT 16 b8, bT 22 b9] fun _ _ i => ⟨(decide (40 < ((p1.Alts).length : Int))), h, i⟩
  · intro x5 h
    obtain rfl := sq h
    exact At.ret (At.rR hR [])
theorem C_retraceref08_Letter (p0 : Int) (r : Bool) (h : F_retraceref08_Letter p0 = some r) : FnOK Tryz.prog 129 [u8 p0] [] (bo r) [] [] := by
  refine fI Tryz.func129 rfl fun E gv R hR => ?_
  refine At.sR [0] [] [] ?_
  refine At.seqJ (S := Bool) (fun s => ⟨[(2, bo s)], []⟩) (fun s => F_retraceref08_Letter_J1 s = some r) ?_ ?_
  · rcases cs h with ⟨b8, h⟩ | ⟨b8, h⟩
    · rcases cs h with ⟨b9, h⟩ | ⟨b9, h⟩
      · exact At.rK [2] [] [bT 2 b8, bT 6 b9] fun _ _ i => ⟨true, h, i⟩
      · rcases cs h with ⟨b10, h⟩ | ⟨b10, h⟩
        · rcases cs h with ⟨b11, h⟩ | ⟨b11, h⟩
          · exact At.rK [2] [] [bT 2 b8, bT 6 b9, bT 9 b10, bT 14 b11] fun _ _ i => ⟨true, h, i⟩
          · exact At.rK [2] [] [bT 2 b8, bT 6 b9, bT 9 b10, bT 14 b11] fun _ _ i => ⟨(p0 == 95), h, i⟩
        · exact At.rK [2] [] [bT 2 b8, bT 6 b9, bT 9 b10] fun _ _ i => ⟨(p0 == 95), h, i⟩
    · rcases cs h with ⟨b12, h⟩ | ⟨b12, h⟩
      · rcases cs h with ⟨b13, h⟩ | ⟨b13, h⟩
        · exact At.rK [2] [] [bT 2 b8, bT 9 b12, bT 14 b13] fun _ _ i => ⟨true, h, i⟩
        · exact At.rK [2] [] [bT 2 b8, bT 9 b12, bT 14 b13] fun _ _ i => ⟨(p0 == 95), h, i⟩
      · exact At.rK [2] [] [bT 2 b8, bT 9 b12] fun _ _ i => ⟨(p0 == 95), h, i⟩
  · intro x7 h
    obtain rfl := sq h
    exact At.ret (At.rR hR [])
theorem C_retraceref08_Digit (p0 : Int) (r : Bool) (h : F_retraceref08_Digit p0 = some r) : FnOK Tryz.prog 127 [u8 p0] [] (bo r) [] [] := by
  refine fI Tryz.func127 rfl fun E gv R hR => ?_
  refine At.sR [0] [] [] ?_
  refine At.seqJ (S := Bool) (fun s => ⟨[(2, bo s)], []⟩) (fun s => F_retraceref08_Digit_J1 s = some r) ?_ ?_
  · rcases cs h with ⟨b3, h⟩ | ⟨b3, h⟩
    · exact At.rK [2] [] [bT 2 b3] fun _ _ i => ⟨(decide (p0 ≤ 57)), h, i⟩
    · exact At.rK [2] [] [bT 2 b3] fun _ _ i => ⟨false, h, i⟩
  · intro x2 h
    obtain rfl := sq h
    exact At.ret (At.rR hR [])
theorem C_retraceref08_Words  (r : (List ByteArray)) (h : F_retraceref08_Words  = some r) : FnOK Tryz.prog 131 [] [] (.row 0 (r).length) [.row 9 1 (encL eStr r)] [] := by
  refine fI Tryz.func131 rfl fun E gv R hR => ?_
  refine At.sR [] [] [] ?_
  refine At.sR [0] [0] [] ?_
  obtain rfl := sq h
  exact At.ret (At.rR hR [0])
theorem C_retraceref08_In (p1 : ByteArray) (o0 : (List ByteArray)) (r : Bool) (h : F_retraceref08_In p1 o0 = some r) : FnOK Tryz.prog 130 [.row 0 (o0).length, sv p1] [.row 9 1 (encL eStr o0)] (bo r) [.row 9 1 (encL eStr o0)] [0] := by
  refine fI Tryz.func130 rfl fun E gv R hR => ?_
  refine At.sR [0, 1] [0, 1] [] ?_
  refine At.seq ?_
  refine At.sR [0, 1, 5] [0, 1] [] ?_
  refine At.block ?_
  refine At.nK (st' := ⟨[(0, .row 0 (o0).length), (1, sv p1), (5, i64 0)], [.row 9 1 (encL eStr o0), .ghost (gv 0) (.row 0 0)]⟩) [0, 1, 5] [0, 1] ?_
  refine At.lp (fun s : (Int) => ⟨[(0, .row 0 (o0).length), (1, sv p1), (5, i64 s)], [.row 9 1 (encL eStr o0), .ghost (gv 0) (.row 0 0)]⟩) h ?_
  intro x16 oo17 h f18
  replace h : F_retraceref08_In_L1 p1 o0 x16 = some oo17 := h
  refine At.seq ?_
  refine At.sR [0, 1, 5, 9] [0, 1] [] ?_
  refine At.cd h (fun b20 h => ?_) (fun b20 h => ?_)
  · refine At.nR [0, 1, 5] [0, 1] ?_
    refine At.skip (norm ?_)
    refine At.seq ?_
    refine At.block ?_
    obtain ⟨y25, hy25, h⟩ := bs h
    refine At.sR [0, 1, 5, 17] [0, 1] [oT 2 ((rAt_of he_str (d := .str y25) hy25 rfl).1), vT 3 (.str y25) ((rAt_of he_str (d := .str y25) hy25 rfl).2)] ?_
    refine At.cd h (fun b26 h => ?_) (fun b26 h => ?_)
    · refine At.sR [4] [0, 1] [] ?_
      obtain ⟨r27, h, e28⟩ := mr h
      rw [f18 _ e28] at h
      obtain rfl := sq h
      exact At.ret (At.rR hR [0])
    · refine At.nR [0, 1, 5] [0, 1] ?_
      refine At.skip (norm ?_)
      exact At.rK [0, 1, 5] [0, 1] [] fun _ _ i => ⟨_, li h, i⟩
  · refine At.nR [] [0, 1] ?_
    obtain ⟨r29, h, e30⟩ := mr h
    rw [f18 _ e30] at h
    refine At.exit (norm ?_)
    refine At.sR [4] [0, 1] [] ?_
    obtain rfl := sq h
    exact At.ret (At.rR hR [0])
theorem C_retraceref08_Name (p0 : ByteArray) (r : Bool) (h : F_retraceref08_Name p0 = some r) : FnOK Tryz.prog 96 [sv p0] [] (bo r) [] [] := by
  refine fI Tryz.func96 rfl fun E gv R hR => ?_
  refine At.sR [0] [] [] ?_
  refine At.seq ?_
  refine At.sR [0, 3] [] [] ?_
  refine At.block ?_
  refine At.nK (st' := ⟨[(0, sv p0), (3, i64 0)], []⟩) [0, 3] [] ?_
  refine At.lp (fun s : (Int) => ⟨[(0, sv p0), (3, i64 s)], []⟩) h ?_
  intro x38 oo39 h f40
  replace h : F_retraceref08_Name_L3 p0 x38 = some oo39 := h
  refine At.seq ?_
  refine At.sR [0, 3, 7] [] [] ?_
  refine At.cd h (fun b42 h => ?_) (fun b42 h => ?_)
  · refine At.nR [0, 3] [] ?_
    refine At.skip (norm ?_)
    refine At.seq ?_
    refine At.block ?_
    refine At.seqJ (S := Bool) (fun s => ⟨[(0, sv p0), (3, i64 x38), (25, bo s)], []⟩) (fun s => F_retraceref08_Name_J1 x38 s = some oo39) ?_ ?_
    · obtain ⟨y67, hy67, h⟩ := bs h
      obtain ⟨y68, hy68, h⟩ := bs h
      rcases cs h with ⟨b69, h⟩ | ⟨b69, h⟩
      · rcases cs h with ⟨b70, h⟩ | ⟨b70, h⟩
        · exact At.rK [0, 3, 25] [] [sT 2 hy67, c0 3 (C_retraceref08_Letter y67 y68 hy68), bT 5 b69, bT 8 b70] fun _ _ i => ⟨true, h, i⟩
        · obtain ⟨y71, hy71, h⟩ := bs h
          obtain ⟨y72, hy72, h⟩ := bs h
          exact At.rK [0, 3, 25] [] [sT 2 hy67, c0 3 (C_retraceref08_Letter y67 y68 hy68), bT 5 b69, bT 8 b70, sT 11 hy71, c0 12 (C_retraceref08_Digit y71 y72 hy72)] fun _ _ i => ⟨(!y72), h, i⟩
      · exact At.rK [0, 3, 25] [] [sT 2 hy67, c0 3 (C_retraceref08_Letter y67 y68 hy68), bT 5 b69] fun _ _ i => ⟨false, h, i⟩
    · intro x63 h
      refine At.cd h (fun b64 h => ?_) (fun b64 h => ?_)
      · refine At.sR [2] [] [] ?_
        obtain ⟨r65, h, e66⟩ := mr h
        rw [f40 _ e66] at h
        obtain rfl := sq h
        exact At.ret (At.rR hR [])
      · refine At.nR [0, 3] [] ?_
        refine At.skip (norm ?_)
        exact At.rK [0, 3] [] [] fun _ _ i => ⟨_, li h, i⟩
  · refine At.nR [0] [] ?_
    obtain ⟨r73, h, e74⟩ := mr h
    rw [f40 _ e74] at h
    refine At.exit (norm ?_)
    refine At.seqJ (S := Bool) (fun s => ⟨[(2, bo s)], []⟩) (fun s => F_retraceref08_Name_J2 s = some r) ?_ ?_
    · rcases cs h with ⟨b80, h⟩ | ⟨b80, h⟩
      · rcases cs h with ⟨b81, h⟩ | ⟨b81, h⟩
        · obtain ⟨y82, hy82, h⟩ := bs h
          obtain ⟨y83, hy83, h⟩ := bs h
          exact At.rK [2] [] [bT 3 b80, bT 8 b81, cT 9 0 [0] (C_retraceref08_Words y82 hy82), cT 11 1 [0] (C_retraceref08_In p0 y82 y83 hy83)] fun _ _ i => ⟨(!y83), h, i⟩
        · exact At.rK [2] [] [bT 3 b80, bT 8 b81] fun _ _ i => ⟨false, h, i⟩
      · exact At.rK [2] [] [bT 3 b80] fun _ _ i => ⟨false, h, i⟩
    · intro x79 h
      obtain rfl := sq h
      exact At.ret (At.rR hR [])
theorem C_retraceref20_tables (p0 : T_api_Code) (r : Bool) (h : F_retraceref20_tables p0 = some r) : FnOK Tryz.prog 58 [.agg (T_api_Code.pvs p0)] [] (bo r) [] [] := by
  refine fI Tryz.func58 rfl fun E gv R hR => ?_
  refine At.sR [1] [0] [] ?_
  refine At.sR [1, 3] [0] [] ?_
  refine At.seq ?_
  refine At.seqJ (S := Bool) (fun s => ⟨[(1, .ptr 0 0), (3, i64 ((p0.Defs).length : Int)), (44, bo s)], [.blk 27 (T_api_Code.pvs p0)]⟩) (fun s => F_retraceref20_tables_J1 p0 s = some r) ?_ ?_
  · rcases cs h with ⟨b527, h⟩ | ⟨b527, h⟩
    · exact At.rK [1, 3, 44] [0] [bT 2 b527] fun _ _ i => ⟨true, h, i⟩
    · rcases cs h with ⟨b528, h⟩ | ⟨b528, h⟩
      · exact At.rK [1, 3, 44] [0] [bT 2 b527, bT 6 b528] fun _ _ i => ⟨true, h, i⟩
      · rcases cs h with ⟨b529, h⟩ | ⟨b529, h⟩
        · exact At.rK [1, 3, 44] [0] [bT 2 b527, bT 6 b528, bT 12 b529] fun _ _ i => ⟨true, h, i⟩
        · rcases cs h with ⟨b530, h⟩ | ⟨b530, h⟩
          · exact At.rK [1, 3, 44] [0] [bT 2 b527, bT 6 b528, bT 12 b529, bT 17 b530] fun _ _ i => ⟨true, h, i⟩
          · rcases cs h with ⟨b531, h⟩ | ⟨b531, h⟩
            · exact At.rK [1, 3, 44] [0] [bT 2 b527, bT 6 b528, bT 12 b529, bT 17 b530, bT 23 b531] fun _ _ i => ⟨true, h, i⟩
            · obtain ⟨y532, hy532, h⟩ := bs h
              exact At.rK [1, 3, 44] [0] [bT 2 b527, bT 6 b528, bT 12 b529, bT 17 b530, bT 23 b531, eT T_api_Def.enc_len 28 hy532] fun _ _ i => ⟨(y532.Params != 0), h, i⟩
  · intro x21 h
    refine At.cd h (fun b22 h => ?_) (fun b22 h => ?_)
    · refine At.sR [2] [] [] ?_
      obtain rfl := sq h
      exact At.ret (At.rR hR [])
    · refine At.nR [1, 3] [0] ?_
      refine At.skip (norm ?_)
      refine At.seq ?_
      refine At.sR [1, 3, 4] [0] [] ?_
      refine At.block ?_
      refine At.nK (st' := ⟨[(1, .ptr 0 0), (3, i64 ((p0.Defs).length : Int)), (4, i64 0)], [.blk 27 (T_api_Code.pvs p0)]⟩) [1, 3, 4] [0] ?_
      refine At.lp (fun s : (Int) => ⟨[(1, .ptr 0 0), (3, i64 ((p0.Defs).length : Int)), (4, i64 s)], [.blk 27 (T_api_Code.pvs p0)]⟩) h ?_
      intro x210 oo211 h f212
      replace h : F_retraceref20_tables_L7 p0 x210 = some oo211 := h
      refine At.seq ?_
      refine At.sR [1, 3, 4, 47] [0] [] ?_
      refine At.cd h (fun b214 h => ?_) (fun b214 h => ?_)
      · refine At.nR [1, 3, 4] [0] ?_
        refine At.skip (norm ?_)
        refine At.seq ?_
        refine At.block ?_
        obtain ⟨y304, hy304, h⟩ := bs h
        refine At.sR [1, 3, 4, 5] [0, 1] [eT T_api_Def.enc_len 3 hy304] ?_
        refine At.seq ?_
        refine At.seqJ (S := Bool) (fun s => ⟨[(1, .ptr 0 0), (3, i64 ((p0.Defs).length : Int)), (4, i64 x210), (5, .ptr 1 0), (101, bo s)], [.blk 27 (T_api_Code.pvs p0), .blk 52 (T_api_Def.pvs y304)]⟩) (fun s => F_retraceref20_tables_J2 x210 y304 s = some oo211) ?_ ?_
        · rcases cs h with ⟨b376, h⟩ | ⟨b376, h⟩
          · obtain ⟨y377, hy377, h⟩ := bs h
            rcases cs h with ⟨b378, h⟩ | ⟨b378, h⟩
            · exact At.dK 0 [1, 3, 4, 5, 101] [0, 1] [bT 3 b376, c0 6 (C_retraceref08_Name y304.Name y377 hy377), bT 9 b378] fun _ _ i => ⟨true, h, i⟩
            · rcases cs h with ⟨b379, h⟩ | ⟨b379, h⟩
              · exact At.dK 0 [1, 3, 4, 5, 101] [0, 1] [bT 3 b376, c0 6 (C_retraceref08_Name y304.Name y377 hy377), bT 9 b378, bT 14 b379] fun _ _ i => ⟨true, h, i⟩
              · rcases cs h with ⟨b380, h⟩ | ⟨b380, h⟩
                · exact At.dK 0 [1, 3, 4, 5, 101] [0, 1] [bT 3 b376, c0 6 (C_retraceref08_Name y304.Name y377 hy377), bT 9 b378, bT 14 b379, bT 22 b380] fun _ _ i => ⟨true, h, i⟩
                · rcases cs h with ⟨b381, h⟩ | ⟨b381, h⟩
                  · rcases cs h with ⟨b382, h⟩ | ⟨b382, h⟩
                    · exact At.dK 0 [1, 3, 4, 5, 101] [0, 1] [bT 3 b376, c0 6 (C_retraceref08_Name y304.Name y377 hy377), bT 9 b378, bT 14 b379, bT 22 b380, bT 25 b381, bT 31 b382] fun _ _ i => ⟨true, h, i⟩
                    · rcases cs h with ⟨b383, h⟩ | ⟨b383, h⟩
                      · obtain ⟨y384, hy384, h⟩ := bs h
                        exact At.dK 0 [1, 3, 4, 5, 101] [0, 1] [bT 3 b376, c0 6 (C_retraceref08_Name y304.Name y377 hy377), bT 9 b378, bT 14 b379, bT 22 b380, bT 25 b381, bT 31 b382, bT 34 b383, eT T_api_Def.enc_len 41 hy384] fun _ _ i => ⟨(decide (y304.Entry ≤ y384.Entry)), h, i⟩
                      · exact At.dK 0 [1, 3, 4, 5, 101] [0, 1] [bT 3 b376, c0 6 (C_retraceref08_Name y304.Name y377 hy377), bT 9 b378, bT 14 b379, bT 22 b380, bT 25 b381, bT 31 b382, bT 34 b383] fun _ _ i => ⟨false, h, i⟩
                  · rcases cs h with ⟨b385, h⟩ | ⟨b385, h⟩
                    · obtain ⟨y386, hy386, h⟩ := bs h
                      exact At.dK 0 [1, 3, 4, 5, 101] [0, 1] [bT 3 b376, c0 6 (C_retraceref08_Name y304.Name y377 hy377), bT 9 b378, bT 14 b379, bT 22 b380, bT 25 b381, bT 34 b385, eT T_api_Def.enc_len 41 hy386] fun _ _ i => ⟨(decide (y304.Entry ≤ y386.Entry)), h, i⟩
                    · exact At.dK 0 [1, 3, 4, 5, 101] [0, 1] [bT 3 b376, c0 6 (C_retraceref08_Name y304.Name y377 hy377), bT 9 b378, bT 14 b379, bT 22 b380, bT 25 b381, bT 34 b385] fun _ _ i => ⟨false, h, i⟩
          · rcases cs h with ⟨b387, h⟩ | ⟨b387, h⟩
            · exact At.dK 0 [1, 3, 4, 5, 101] [0, 1] [bT 3 b376, bT 14 b387] fun _ _ i => ⟨true, h, i⟩
            · rcases cs h with ⟨b388, h⟩ | ⟨b388, h⟩
              · exact At.dK 0 [1, 3, 4, 5, 101] [0, 1] [bT 3 b376, bT 14 b387, bT 22 b388] fun _ _ i => ⟨true, h, i⟩
              · rcases cs h with ⟨b389, h⟩ | ⟨b389, h⟩
                · rcases cs h with ⟨b390, h⟩ | ⟨b390, h⟩
                  · exact At.dK 0 [1, 3, 4, 5, 101] [0, 1] [bT 3 b376, bT 14 b387, bT 22 b388, bT 25 b389, bT 31 b390] fun _ _ i => ⟨true, h, i⟩
                  · rcases cs h with ⟨b391, h⟩ | ⟨b391, h⟩
                    · obtain ⟨y392, hy392, h⟩ := bs h
                      exact At.dK 0 [1, 3, 4, 5, 101] [0, 1] [bT 3 b376, bT 14 b387, bT 22 b388, bT 25 b389, bT 31 b390, bT 34 b391, eT T_api_Def.enc_len 41 hy392] fun _ _ i => ⟨(decide (y304.Entry ≤ y392.Entry)), h, i⟩
                    · exact At.dK 0 [1, 3, 4, 5, 101] [0, 1] [bT 3 b376, bT 14 b387, bT 22 b388, bT 25 b389, bT 31 b390, bT 34 b391] fun _ _ i => ⟨false, h, i⟩
                · rcases cs h with ⟨b393, h⟩ | ⟨b393, h⟩
                  · obtain ⟨y394, hy394, h⟩ := bs h
                    exact At.dK 0 [1, 3, 4, 5, 101] [0, 1] [bT 3 b376, bT 14 b387, bT 22 b388, bT 25 b389, bT 34 b393, eT T_api_Def.enc_len 41 hy394] fun _ _ i => ⟨(decide (y304.Entry ≤ y394.Entry)), h, i⟩
                  · exact At.dK 0 [1, 3, 4, 5, 101] [0, 1] [bT 3 b376, bT 14 b387, bT 22 b388, bT 25 b389, bT 34 b393] fun _ _ i => ⟨false, h, i⟩
        · intro x364 h
          refine At.cd h (fun b365 h => ?_) (fun b365 h => ?_)
          · refine At.sR [2] [] [] ?_
            obtain ⟨r366, h, e367⟩ := mr h
            rw [f212 _ e367] at h
            obtain rfl := sq h
            exact At.ret (At.rR hR [])
          · refine At.nR [1, 3, 4, 5] [0, 1] ?_
            refine At.skip (norm ?_)
            refine At.seqJ (S := Bool) (fun s => ⟨[(1, .ptr 0 0), (3, i64 ((p0.Defs).length : Int)), (4, i64 x210), (116, bo s)], [.blk 27 (T_api_Code.pvs p0)]⟩) (fun s => F_retraceref20_tables_J3 x210 s = some oo211) ?_ ?_
            · rcases cs h with ⟨b374, h⟩ | ⟨b374, h⟩
              · exact At.rK [1, 3, 4, 116] [0] [bT 3 b374] fun _ _ i => ⟨true, h, i⟩
              · rcases cs h with ⟨b375, h⟩ | ⟨b375, h⟩
                · exact At.rK [1, 3, 4, 116] [0] [bT 3 b374, bT 10 b375] fun _ _ i => ⟨true, h, i⟩
                · exact At.rK [1, 3, 4, 116] [0] [bT 3 b374, bT 10 b375] fun _ _ i => ⟨(decide (16 < y304.Vars)), h, i⟩
            · intro x370 h
              refine At.cd h (fun b371 h => ?_) (fun b371 h => ?_)
              · refine At.sR [2] [] [] ?_
                obtain ⟨r372, h, e373⟩ := mr h
                rw [f212 _ e373] at h
                obtain rfl := sq h
                exact At.ret (At.rR hR [])
              · refine At.nR [1, 3, 4] [0] ?_
                refine At.skip (norm ?_)
                exact At.rK [1, 3, 4] [0] [] fun _ _ i => ⟨_, li h, i⟩
      · refine At.nR [1] [0] ?_
        obtain ⟨r395, h, e396⟩ := mr h
        rw [f212 _ e396] at h
        refine At.exit (norm ?_)
        refine At.sR [1, 6] [0] [] ?_
        refine At.seq ?_
        refine At.sR [1, 6, 7] [0] [] ?_
        refine At.block ?_
        refine At.nK (st' := ⟨[(1, .ptr 0 0), (6, i64 0), (7, i64 0)], [.blk 27 (T_api_Code.pvs p0)]⟩) [1, 6, 7] [0] ?_
        refine At.lp (fun s : (Int × Int) => ⟨[(1, .ptr 0 0), (6, i64 s.1), (7, i64 s.2)], [.blk 27 (T_api_Code.pvs p0)]⟩) h ?_
        rintro ⟨x462, x463⟩ oo464 h f465
        replace h : F_retraceref20_tables_L6 p0 x462 x463 = some oo464 := h
        refine At.seq ?_
        refine At.sR [1, 6, 7, 121] [0] [] ?_
        refine At.cd h (fun b467 h => ?_) (fun b467 h => ?_)
        · refine At.nR [1, 6, 7] [0] ?_
          refine At.skip (norm ?_)
          refine At.seqJ (S := Int) (fun s => ⟨[(1, .ptr 0 0), (6, i64 s), (7, i64 x463)], [.blk 27 (T_api_Code.pvs p0)]⟩) (fun s => F_retraceref20_tables_J4 x463 s = some oo464) ?_ ?_
          · refine At.block ?_
            obtain ⟨y497, hy497, h⟩ := bs h
            refine At.sR [1, 6, 7, 8] [0, 1] [eT T_api_Chan.enc_len 3 hy497] ?_
            refine At.seq ?_
            refine At.seqJ (S := Bool) (fun s => ⟨[(1, .ptr 0 0), (6, i64 x462), (7, i64 x463), (8, .ptr 1 0), (152, bo s)], [.blk 27 (T_api_Code.pvs p0), .blk 109 (T_api_Chan.pvs y497)]⟩) (fun s => F_retraceref20_tables_J5 x462 x463 y497 s = some oo464) ?_ ?_
            · obtain ⟨y520, hy520, h⟩ := bs h
              rcases cs h with ⟨b521, h⟩ | ⟨b521, h⟩
              · exact At.rK [1, 6, 7, 8, 152] [0, 1] [c0 2 (C_retraceref08_Name y497.Name y520 hy520), bT 4 b521] fun _ _ i => ⟨true, h, i⟩
              · rcases cs h with ⟨b522, h⟩ | ⟨b522, h⟩
                · exact At.rK [1, 6, 7, 8, 152] [0, 1] [c0 2 (C_retraceref08_Name y497.Name y520 hy520), bT 4 b521, bT 9 b522] fun _ _ i => ⟨true, h, i⟩
                · rcases cs h with ⟨b523, h⟩ | ⟨b523, h⟩
                  · exact At.rK [1, 6, 7, 8, 152] [0, 1] [c0 2 (C_retraceref08_Name y497.Name y520 hy520), bT 4 b521, bT 9 b522, bT 14 b523] fun _ _ i => ⟨true, h, i⟩
                  · rcases cs h with ⟨b524, h⟩ | ⟨b524, h⟩
                    · exact At.rK [1, 6, 7, 8, 152] [0, 1] [c0 2 (C_retraceref08_Name y497.Name y520 hy520), bT 4 b521, bT 9 b522, bT 14 b523, bT 20 b524] fun _ _ i => ⟨true, h, i⟩
                    · exact At.rK [1, 6, 7, 8, 152] [0, 1] [c0 2 (C_retraceref08_Name y497.Name y520 hy520), bT 4 b521, bT 9 b522, bT 14 b523, bT 20 b524] fun _ _ i => ⟨(decide (64 ≤ x462)), h, i⟩
            · intro x515 h
              refine At.cd h (fun b516 h => ?_) (fun b516 h => ?_)
              · refine At.sR [2] [] [] ?_
                obtain ⟨r517, h, e518⟩ := mr h
                rw [f465 _ e518] at h
                obtain rfl := sq h
                exact At.ret (At.rR hR [])
              · refine At.nR [1, 6, 7, 8] [0, 1] ?_
                refine At.skip (norm ?_)
                refine At.sR [1, 6, 7, 8] [0, 1] [] ?_
                refine At.sR [1, 6, 7, 159] [0] [] ?_
                refine At.cd h (fun b519 h => ?_) (fun b519 h => ?_)
                · exact At.rK [1, 6, 7] [0] [] fun _ _ i => ⟨(w64 ((w64 (x462 + y497.Size)) + 1)), h, i⟩
                · refine At.nR [1, 6, 7] [0] ?_
                  refine At.skip (fun _ _ i => ⟨(w64 (x462 + y497.Size)), h, i.en [] [1, 6, 7] [0]⟩)
          · intro x495 h
            exact At.rK [1, 6, 7] [0] [] fun _ _ i => ⟨_, li h, i⟩
        · refine At.nR [6] [] ?_
          obtain ⟨r525, h, e526⟩ := mr h
          rw [f465 _ e526] at h
          refine At.exit (norm ?_)
          refine At.sR [2] [] [] ?_
          obtain rfl := sq h
          exact At.ret (At.rR hR [])
theorem C_retraceref20_To (p0 : T_api_Code) (p1 : Int) (r : Int) (h : F_retraceref20_To p0 p1 = some r) : FnOK Tryz.prog 59 [.agg (T_api_Code.pvs p0), i64 p1] [] (i64 r) [] [] := by
  refine fI Tryz.func59 rfl fun E gv R hR => ?_
  refine At.sR [1, 2] [0] [] ?_
  refine At.seq ?_
  refine At.sR [1, 2, 10] [0] [] ?_
  refine At.cd h (fun b4 h => ?_) (fun b4 h => ?_)
  · obtain ⟨y6, hy6, h⟩ := bs h
    refine At.sR [4] [] [eT T_api_Def.enc_len 4 hy6] ?_
    obtain rfl := sq h
    exact At.ret (At.rR hR [])
  · refine At.nR [2] [0] ?_
    refine At.skip (norm ?_)
    refine At.sR [4] [] [] ?_
    obtain rfl := sq h
    exact At.ret (At.rR hR [])
theorem C_retraceref16_Nums (p0 : Int) (r : Int) (h : F_retraceref16_Nums p0 = some r) : FnOK Tryz.prog 143 [i64 p0] [] (i64 r) [] [] := by
  refine fI Tryz.func143 rfl fun E gv R hR => ?_
  refine At.sR [0] [] [] ?_
  refine At.seq ?_
  refine At.sR [3] [] [] ?_
  refine At.block ?_
  refine At.seqJ (S := Bool) (fun s => ⟨[(3, i64 p0), (4, bo s)], []⟩) (fun s => F_retraceref16_Nums_J1 p0 s = some r) ?_ ?_
  · refine At.sR [3, 4] [] [] ?_
    refine At.cd h (fun b63 h => ?_) (fun b63 h => ?_)
    · refine At.skip (fun _ _ i => ⟨(p0 == 9), h, i.en [] [3, 4] []⟩)
    · refine At.sR [3, 4] [] [] ?_
      refine At.cd h (fun b64 h => ?_) (fun b64 h => ?_)
      · refine At.skip (fun _ _ i => ⟨(p0 == 14), h, i.en [] [3, 4] []⟩)
      · exact At.rK [3, 4] [] [] fun _ _ i => ⟨(p0 == 19), h, i⟩
  · intro x35 h
    refine At.cd h (fun b36 h => ?_) (fun b36 h => ?_)
    · refine At.sR [2] [] [] ?_
      obtain rfl := sq h
      exact At.ret (At.rR hR [])
    · refine At.seqJ (S := Bool) (fun s => ⟨[(8, bo s)], []⟩) (fun s => F_retraceref16_Nums_J2 s = some r) ?_ ?_
      · refine At.sR [3, 8] [] [] ?_
        refine At.cd h (fun b51 h => ?_) (fun b51 h => ?_)
        · refine At.nR [8] [] ?_
          refine At.skip (fun _ _ i => ⟨(p0 == 1), h, i.en [] [8] []⟩)
        · refine At.sR [3, 8] [] [] ?_
          refine At.cd h (fun b52 h => ?_) (fun b52 h => ?_)
          · refine At.nR [8] [] ?_
            refine At.skip (fun _ _ i => ⟨(p0 == 2), h, i.en [] [8] []⟩)
          · refine At.sR [3, 8] [] [] ?_
            refine At.cd h (fun b53 h => ?_) (fun b53 h => ?_)
            · refine At.nR [8] [] ?_
              refine At.skip (fun _ _ i => ⟨(p0 == 3), h, i.en [] [8] []⟩)
            · refine At.sR [3, 8] [] [] ?_
              refine At.cd h (fun b54 h => ?_) (fun b54 h => ?_)
              · refine At.nR [8] [] ?_
                refine At.skip (fun _ _ i => ⟨(p0 == 4), h, i.en [] [8] []⟩)
              · refine At.sR [3, 8] [] [] ?_
                refine At.cd h (fun b55 h => ?_) (fun b55 h => ?_)
                · refine At.nK (st' := ⟨[(8, bo (p0 == 5))], []⟩) [8] [] ?_
                  refine At.skip (fun _ _ i => ⟨(p0 == 5), h, i⟩)
                · refine At.seq ?_
                  refine At.rK (st' := ⟨[(3, i64 p0), (8, bo (p0 == 6))], []⟩) [3, 8] [] [] (norm ?_)
                  refine At.cd h (fun b56 h => ?_) (fun b56 h => ?_)
                  · refine At.nR [8] [] ?_
                    refine At.skip (fun _ _ i => ⟨(p0 == 6), h, i.en [] [8] []⟩)
                  · refine At.sR [3, 8] [] [] ?_
                    refine At.cd h (fun b57 h => ?_) (fun b57 h => ?_)
                    · refine At.nR [8] [] ?_
                      refine At.skip (fun _ _ i => ⟨(p0 == 7), h, i.en [] [8] []⟩)
                    · refine At.sR [3, 8] [] [] ?_
                      refine At.cd h (fun b58 h => ?_) (fun b58 h => ?_)
                      · refine At.nR [8] [] ?_
                        refine At.skip (fun _ _ i => ⟨(p0 == 8), h, i.en [] [8] []⟩)
                      · refine At.sR [3, 8] [] [] ?_
                        refine At.cd h (fun b59 h => ?_) (fun b59 h => ?_)
                        · refine At.nR [8] [] ?_
                          refine At.skip (fun _ _ i => ⟨(p0 == 11), h, i.en [] [8] []⟩)
                        · refine At.sR [3, 8] [] [] ?_
                          refine At.cd h (fun b60 h => ?_) (fun b60 h => ?_)
                          · refine At.nR [8] [] ?_
                            refine At.skip (fun _ _ i => ⟨(p0 == 12), h, i.en [] [8] []⟩)
                          · refine At.sR [3, 8] [] [] ?_
                            refine At.cd h (fun b61 h => ?_) (fun b61 h => ?_)
                            · refine At.nK (st' := ⟨[(8, bo (p0 == 20))], []⟩) [8] [] ?_
                              refine At.skip (fun _ _ i => ⟨(p0 == 20), h, i⟩)
                            · refine At.seq ?_
                              refine At.rK (st' := ⟨[(3, i64 p0), (8, bo (p0 == 21))], []⟩) [3, 8] [] [] (norm ?_)
                              refine At.cd h (fun b62 h => ?_) (fun b62 h => ?_)
                              · refine At.nR [8] [] ?_
                                refine At.skip (fun _ _ i => ⟨(p0 == 21), h, i.en [] [8] []⟩)
                              · exact At.rK [8] [] [] fun _ _ i => ⟨(p0 == 22), h, i⟩
      · intro x49 h
        refine At.cd h (fun b50 h => ?_) (fun b50 h => ?_)
        · refine At.sR [2] [] [] ?_
          obtain rfl := sq h
          exact At.ret (At.rR hR [])
        · refine At.nR [] [] ?_
          refine At.skip (norm ?_)
          refine At.sR [2] [] [] ?_
          obtain rfl := sq h
          exact At.ret (At.rR hR [])
theorem C_retraceref16_Right (p0 : T_api_Ins) (r : Bool) (h : F_retraceref16_Right p0 = some r) : FnOK Tryz.prog 97 [.agg (T_api_Ins.pvs p0)] [] (bo r) [] [] := by
  refine fI Tryz.func97 rfl fun E gv R hR => ?_
  refine At.sR [1] [0] [] ?_
  obtain ⟨y2, hy2, h⟩ := bs h
  refine At.sR [1, 3] [0] [c0 2 (C_retraceref16_Nums p0.Op y2 hy2)] ?_
  refine At.seq ?_
  refine At.seqJ (S := Bool) (fun s => ⟨[(1, .ptr 0 0), (32, bo s)], [.blk 50 (T_api_Ins.pvs p0)]⟩) (fun s => F_retraceref16_Right_J1 p0 s = some r) ?_ ?_
  · rcases cs h with ⟨b53, h⟩ | ⟨b53, h⟩
    · exact At.rK [1, 32] [0] [bT 3 b53] fun _ _ i => ⟨true, h, i⟩
    · rcases cs h with ⟨b54, h⟩ | ⟨b54, h⟩
      · exact At.rK [1, 32] [0] [bT 3 b53, bT 8 b54] fun _ _ i => ⟨true, h, i⟩
      · rcases cs h with ⟨b55, h⟩ | ⟨b55, h⟩
        · rcases cs h with ⟨b56, h⟩ | ⟨b56, h⟩
          · exact At.rK [1, 32] [0] [bT 3 b53, bT 8 b54, bT 11 b55, bT 17 b56] fun _ _ i => ⟨true, h, i⟩
          · rcases cs h with ⟨b57, h⟩ | ⟨b57, h⟩
            · exact At.rK [1, 32] [0] [bT 3 b53, bT 8 b54, bT 11 b55, bT 17 b56, bT 20 b57] fun _ _ i => ⟨(p0.B != 0), h, i⟩
            · exact At.rK [1, 32] [0] [bT 3 b53, bT 8 b54, bT 11 b55, bT 17 b56, bT 20 b57] fun _ _ i => ⟨false, h, i⟩
        · rcases cs h with ⟨b58, h⟩ | ⟨b58, h⟩
          · exact At.rK [1, 32] [0] [bT 3 b53, bT 8 b54, bT 11 b55, bT 20 b58] fun _ _ i => ⟨(p0.B != 0), h, i⟩
          · exact At.rK [1, 32] [0] [bT 3 b53, bT 8 b54, bT 11 b55, bT 20 b58] fun _ _ i => ⟨false, h, i⟩
  · intro x23 h
    refine At.cd h (fun b24 h => ?_) (fun b24 h => ?_)
    · refine At.sR [2] [] [] ?_
      obtain rfl := sq h
      exact At.ret (At.rR hR [])
    · refine At.nR [1] [0] ?_
      refine At.skip (norm ?_)
      refine At.seq ?_
      refine At.seqJ (S := Bool) (fun s => ⟨[(55, bo s)], []⟩) (fun s => F_retraceref16_Right_J2 s = some r) ?_ ?_
      · rcases cs h with ⟨b47, h⟩ | ⟨b47, h⟩
        · rcases cs h with ⟨b48, h⟩ | ⟨b48, h⟩
          · exact At.rK [55] [] [bT 3 b47, bT 8 b48] fun _ _ i => ⟨true, h, i⟩
          · rcases cs h with ⟨b49, h⟩ | ⟨b49, h⟩
            · rcases cs h with ⟨b50, h⟩ | ⟨b50, h⟩
              · exact At.rK [55] [] [bT 3 b47, bT 8 b48, bT 12 b49, bT 16 b50] fun _ _ i => ⟨true, h, i⟩
              · exact At.rK [55] [] [bT 3 b47, bT 8 b48, bT 12 b49, bT 16 b50] fun _ _ i => ⟨(decide (17 < p0.A)), h, i⟩
            · exact At.rK [55] [] [bT 3 b47, bT 8 b48, bT 12 b49] fun _ _ i => ⟨false, h, i⟩
        · rcases cs h with ⟨b51, h⟩ | ⟨b51, h⟩
          · rcases cs h with ⟨b52, h⟩ | ⟨b52, h⟩
            · exact At.rK [55] [] [bT 3 b47, bT 12 b51, bT 16 b52] fun _ _ i => ⟨true, h, i⟩
            · exact At.rK [55] [] [bT 3 b47, bT 12 b51, bT 16 b52] fun _ _ i => ⟨(decide (17 < p0.A)), h, i⟩
          · exact At.rK [55] [] [bT 3 b47, bT 12 b51] fun _ _ i => ⟨false, h, i⟩
      · intro x45 h
        refine At.cd h (fun b46 h => ?_) (fun b46 h => ?_)
        · refine At.sR [2] [] [] ?_
          obtain rfl := sq h
          exact At.ret (At.rR hR [])
        · refine At.nR [] [] ?_
          refine At.skip (norm ?_)
          refine At.sR [2] [] [] ?_
          obtain rfl := sq h
          exact At.ret (At.rR hR [])
theorem C_retraceref20_channel (p0 : T_api_Code) (p1 : Int) (p2 : Int) (r : Bool) (h : F_retraceref20_channel p0 p1 p2 = some r) : FnOK Tryz.prog 98 [.agg (T_api_Code.pvs p0), i64 p1, i64 p2] [] (bo r) [] [] := by
  refine fI Tryz.func98 rfl fun E gv R hR => ?_
  refine At.sR [1, 2, 3] [0] [] ?_
  refine At.seq ?_
  refine At.sR [1, 2, 3, 7] [0] [] ?_
  refine At.block ?_
  refine At.nK (st' := ⟨[(1, i64 p1), (2, i64 p2), (3, .ptr 0 0), (7, i64 0)], [.blk 27 (T_api_Code.pvs p0)]⟩) [1, 2, 3, 7] [0] ?_
  refine At.lp (fun s : (Int) => ⟨[(1, i64 p1), (2, i64 p2), (3, .ptr 0 0), (7, i64 s)], [.blk 27 (T_api_Code.pvs p0)]⟩) h ?_
  intro x26 oo27 h f28
  replace h : F_retraceref20_channel_L2 p0 p1 p2 x26 = some oo27 := h
  refine At.seq ?_
  refine At.sR [1, 2, 3, 7, 12] [0] [] ?_
  refine At.cd h (fun b30 h => ?_) (fun b30 h => ?_)
  · refine At.nR [1, 2, 3, 7] [0] ?_
    refine At.skip (norm ?_)
    refine At.seq ?_
    refine At.block ?_
    refine At.seqJ (S := Bool) (fun s => ⟨[(1, i64 p1), (2, i64 p2), (3, .ptr 0 0), (7, i64 x26), (32, bo s)], [.blk 27 (T_api_Code.pvs p0)]⟩) (fun s => F_retraceref20_channel_J1 x26 s = some oo27) ?_ ?_
    · obtain ⟨y46, hy46, h⟩ := bs h
      rcases cs h with ⟨b47, h⟩ | ⟨b47, h⟩
      · obtain ⟨y48, hy48, h⟩ := bs h
        exact At.rK [1, 2, 3, 7, 32] [0] [eT T_api_Chan.enc_len 3 hy46, bT 8 b47, eT T_api_Chan.enc_len 12 hy48] fun _ _ i => ⟨(y48.Size == p2), h, i⟩
      · exact At.rK [1, 2, 3, 7, 32] [0] [eT T_api_Chan.enc_len 3 hy46, bT 8 b47] fun _ _ i => ⟨false, h, i⟩
    · intro x42 h
      refine At.cd h (fun b43 h => ?_) (fun b43 h => ?_)
      · refine At.sR [6] [] [] ?_
        obtain ⟨r44, h, e45⟩ := mr h
        rw [f28 _ e45] at h
        obtain rfl := sq h
        exact At.ret (At.rR hR [])
      · refine At.nR [1, 2, 3, 7] [0] ?_
        refine At.skip (norm ?_)
        exact At.rK [1, 2, 3, 7] [0] [] fun _ _ i => ⟨_, li h, i⟩
  · refine At.nR [] [] ?_
    obtain ⟨r49, h, e50⟩ := mr h
    rw [f28 _ e50] at h
    refine At.exit (norm ?_)
    refine At.sR [6] [] [] ?_
    obtain rfl := sq h
    exact At.ret (At.rR hR [])
theorem C_retraceref17_Which (p0 : Int) (r : Int) (h : F_retraceref17_Which p0 = some r) : FnOK Tryz.prog 119 [i64 p0] [] (i64 r) [] [] := by
  refine fI Tryz.func119 rfl fun E gv R hR => ?_
  refine At.sR [0] [] [] ?_
  refine At.seq ?_
  refine At.sR [0, 4] [] [] ?_
  refine At.cd h (fun b2 h => ?_) (fun b2 h => ?_)
  · refine At.sR [2] [] [] ?_
    obtain rfl := sq h
    exact At.ret (At.rR hR [])
  · refine At.nR [0] [] ?_
    refine At.skip (norm ?_)
    refine At.seq ?_
    refine At.seqJ (S := Bool) (fun s => ⟨[(26, bo s)], []⟩) (fun s => F_retraceref17_Which_J1 s = some r) ?_ ?_
    · rcases cs h with ⟨b22, h⟩ | ⟨b22, h⟩
      · exact At.rK [26] [] [bT 2 b22] fun _ _ i => ⟨true, h, i⟩
      · rcases cs h with ⟨b23, h⟩ | ⟨b23, h⟩
        · exact At.rK [26] [] [bT 2 b22, bT 6 b23] fun _ _ i => ⟨true, h, i⟩
        · rcases cs h with ⟨b24, h⟩ | ⟨b24, h⟩
          · exact At.rK [26] [] [bT 2 b22, bT 6 b23, bT 10 b24] fun _ _ i => ⟨true, h, i⟩
          · rcases cs h with ⟨b25, h⟩ | ⟨b25, h⟩
            · exact At.rK [26] [] [bT 2 b22, bT 6 b23, bT 10 b24, bT 14 b25] fun _ _ i => ⟨true, h, i⟩
            · rcases cs h with ⟨b26, h⟩ | ⟨b26, h⟩
              · exact At.rK [26] [] [bT 2 b22, bT 6 b23, bT 10 b24, bT 14 b25, bT 18 b26] fun _ _ i => ⟨true, h, i⟩
              · exact At.rK [26] [] [bT 2 b22, bT 6 b23, bT 10 b24, bT 14 b25, bT 18 b26] fun _ _ i => ⟨(p0 == 22), h, i⟩
    · intro x20 h
      refine At.cd h (fun b21 h => ?_) (fun b21 h => ?_)
      · refine At.sR [2] [] [] ?_
        obtain rfl := sq h
        exact At.ret (At.rR hR [])
      · refine At.nR [] [] ?_
        refine At.skip (norm ?_)
        refine At.sR [2] [] [] ?_
        obtain rfl := sq h
        exact At.ret (At.rR hR [])
theorem C_retraceref20_target (p0 : T_api_Ins) (r : Int × Bool) (h : F_retraceref20_target p0 = some r) : FnOK Tryz.prog 99 [.agg (T_api_Ins.pvs p0)] [] (.tup [i64 r.1, bo r.2]) [] [] := by
  refine fI Tryz.func99 rfl fun E gv R hR => ?_
  refine At.sR [1] [0] [] ?_
  refine At.seq ?_
  obtain ⟨y6, hy6, h⟩ := bs h
  refine At.sR [1, 6] [0] [c0 2 (C_retraceref17_Which p0.Op y6 hy6)] ?_
  refine At.block ?_
  refine At.sR [1, 6, 7] [0] [] ?_
  refine At.cd h (fun b7 h => ?_) (fun b7 h => ?_)
  · refine At.sR [2, 3] [] [] ?_
    obtain rfl := sq h
    exact At.ret (At.rR hR [])
  · refine At.sR [1, 11] [0] [] ?_
    refine At.cd h (fun b8 h => ?_) (fun b8 h => ?_)
    · refine At.sR [2, 3] [] [] ?_
      obtain rfl := sq h
      exact At.ret (At.rR hR [])
    · refine At.nR [] [] ?_
      refine At.skip (norm ?_)
      refine At.seq ?_
      refine At.rK (st' := ⟨[(2, i64 0), (3, bo false)], []⟩) [2, 3] [] [] (norm ?_)
      obtain rfl := sq h
      exact At.ret (At.rR hR [])
theorem C_retraceref20_Chooses (p0 : Int) (r : Bool) (h : F_retraceref20_Chooses p0 = some r) : FnOK Tryz.prog 100 [i64 p0] [] (bo r) [] [] := by
  refine fI Tryz.func100 rfl fun E gv R hR => ?_
  refine At.sR [0] [] [] ?_
  refine At.seqJ (S := Bool) (fun s => ⟨[(2, bo s)], []⟩) (fun s => F_retraceref20_Chooses_J1 s = some r) ?_ ?_
  · rcases cs h with ⟨b3, h⟩ | ⟨b3, h⟩
    · exact At.rK [2] [] [bT 2 b3] fun _ _ i => ⟨(decide (p0 ≤ 22)), h, i⟩
    · exact At.rK [2] [] [bT 2 b3] fun _ _ i => ⟨false, h, i⟩
  · intro x2 h
    obtain rfl := sq h
    exact At.ret (At.rR hR [])
theorem C_retraceref20_Settle (p0 : T_api_Code) (p1 : Int) (r : Int) (h : F_retraceref20_Settle p0 p1 = some r) : FnOK Tryz.prog 144 [.agg (T_api_Code.pvs p0), i64 p1] [] (i64 r) [] [] := by
  refine fI Tryz.func144 rfl fun E gv R hR => ?_
  refine At.sR [1, 2] [0] [] ?_
  refine At.sR [1, 2, 5] [0] [] ?_
  refine At.seq ?_
  refine At.sR [1, 2, 5, 6] [0] [] ?_
  refine At.block ?_
  refine At.nK (st' := ⟨[(1, i64 p1), (2, .ptr 0 0), (5, i64 p1), (6, i64 0)], [.blk 27 (T_api_Code.pvs p0)]⟩) [1, 2, 5, 6] [0] ?_
  refine At.lp (fun s : (Int × Int) => ⟨[(1, i64 p1), (2, .ptr 0 0), (5, i64 s.1), (6, i64 s.2)], [.blk 27 (T_api_Code.pvs p0)]⟩) h ?_
  rintro ⟨x45, x46⟩ oo47 h f48
  replace h : F_retraceref20_Settle_L2 p0 p1 x45 x46 = some oo47 := h
  refine At.seq ?_
  refine At.sR [1, 2, 5, 6, 12] [0] [] ?_
  refine At.cd h (fun b50 h => ?_) (fun b50 h => ?_)
  · refine At.nR [1, 2, 5, 6] [0] ?_
    refine At.skip (norm ?_)
    refine At.seq ?_
    refine At.block ?_
    refine At.seq ?_
    refine At.seqJ (S := Bool) (fun s => ⟨[(1, i64 p1), (2, .ptr 0 0), (5, i64 x45), (6, i64 x46), (32, bo s)], [.blk 27 (T_api_Code.pvs p0)]⟩) (fun s => F_retraceref20_Settle_J1 p0 x45 x46 s = some oo47) ?_ ?_
    · rcases cs h with ⟨b84, h⟩ | ⟨b84, h⟩
      · exact At.rK [1, 2, 5, 6, 32] [0] [bT 2 b84] fun _ _ i => ⟨true, h, i⟩
      · rcases cs h with ⟨b85, h⟩ | ⟨b85, h⟩
        · exact At.rK [1, 2, 5, 6, 32] [0] [bT 2 b84, bT 9 b85] fun _ _ i => ⟨true, h, i⟩
        · obtain ⟨y86, hy86, h⟩ := bs h
          exact At.rK [1, 2, 5, 6, 32] [0] [bT 2 b84, bT 9 b85, eT T_api_Ins.enc_len 13 hy86] fun _ _ i => ⟨(y86.Op != 6), h, i⟩
    · intro x79 h
      refine At.cd h (fun b80 h => ?_) (fun b80 h => ?_)
      · refine At.sR [4] [] [] ?_
        obtain ⟨r81, h, e82⟩ := mr h
        rw [f48 _ e82] at h
        obtain rfl := sq h
        exact At.ret (At.rR hR [])
      · refine At.nR [1, 2, 5, 6] [0] ?_
        refine At.skip (norm ?_)
        obtain ⟨y83, hy83, h⟩ := bs h
        refine At.rG [1, 2, 5, 6] [0] [eT T_api_Ins.enc_len 3 hy83] (norm ?_)
        exact At.rK [1, 2, 5, 6] [0] [] fun _ _ i => ⟨_, li h, i⟩
  · refine At.nR [1] [] ?_
    obtain ⟨r87, h, e88⟩ := mr h
    rw [f48 _ e88] at h
    refine At.exit (norm ?_)
    refine At.sR [4] [] [] ?_
    obtain rfl := sq h
    exact At.ret (At.rR hR [])
theorem C_retraceref20_rests (p0 : T_api_Code) (p1 : Int) (p2 : Int) (r : Bool) (h : F_retraceref20_rests p0 p1 p2 = some r) : FnOK Tryz.prog 101 [.agg (T_api_Code.pvs p0), i64 p1, i64 p2] [] (bo r) [] [] := by
  refine fI Tryz.func101 rfl fun E gv R hR => ?_
  refine At.sR [1, 2, 3] [0] [] ?_
  obtain ⟨y2, hy2, h⟩ := bs h
  refine At.sR [1, 2, 3] [0] [c0 2 (C_retraceref20_Settle p0 p2 y2 hy2)] ?_
  refine At.seqJ (S := Bool) (fun s => ⟨[(6, bo s)], []⟩) (fun s => F_retraceref20_rests_J1 s = some r) ?_ ?_
  · obtain ⟨y11, hy11, h⟩ := bs h
    rcases cs h with ⟨b12, h⟩ | ⟨b12, h⟩
    · obtain ⟨y13, hy13, h⟩ := bs h
      rcases cs h with ⟨b14, h⟩ | ⟨b14, h⟩
      · obtain ⟨y15, hy15, h⟩ := bs h
        rcases cs h with ⟨b16, h⟩ | ⟨b16, h⟩
        · exact At.rK [6] [] [eT T_api_Def.enc_len 4 hy11, bT 8 b12, c0 12 (C_retraceref20_To p0 p1 y13 hy13), bT 15 b14, eT T_api_Ins.enc_len 19 hy15, bT 23 b16] fun _ _ i => ⟨true, h, i⟩
        · obtain ⟨y17, hy17, h⟩ := bs h
          exact At.rK [6] [] [eT T_api_Def.enc_len 4 hy11, bT 8 b12, c0 12 (C_retraceref20_To p0 p1 y13 hy13), bT 15 b14, eT T_api_Ins.enc_len 19 hy15, bT 23 b16, eT T_api_Ins.enc_len 27 hy17] fun _ _ i => ⟨(y17.Op == 24), h, i⟩
      · exact At.rK [6] [] [eT T_api_Def.enc_len 4 hy11, bT 8 b12, c0 12 (C_retraceref20_To p0 p1 y13 hy13), bT 15 b14] fun _ _ i => ⟨false, h, i⟩
    · exact At.rK [6] [] [eT T_api_Def.enc_len 4 hy11, bT 8 b12] fun _ _ i => ⟨false, h, i⟩
  · intro x10 h
    obtain rfl := sq h
    exact At.ret (At.rR hR [])
theorem C_retraceref20_Acts (p0 : Int) (r : Bool) (h : F_retraceref20_Acts p0 = some r) : FnOK Tryz.prog 102 [i64 p0] [] (bo r) [] [] := by
  refine fI Tryz.func102 rfl fun E gv R hR => ?_
  refine At.sR [0] [] [] ?_
  refine At.seqJ (S := Bool) (fun s => ⟨[(2, bo s)], []⟩) (fun s => F_retraceref20_Acts_J1 s = some r) ?_ ?_
  · rcases cs h with ⟨b6, h⟩ | ⟨b6, h⟩
    · exact At.rK [2] [] [bT 2 b6] fun _ _ i => ⟨true, h, i⟩
    · rcases cs h with ⟨b7, h⟩ | ⟨b7, h⟩
      · exact At.rK [2] [] [bT 2 b6, bT 6 b7] fun _ _ i => ⟨true, h, i⟩
      · rcases cs h with ⟨b8, h⟩ | ⟨b8, h⟩
        · exact At.rK [2] [] [bT 2 b6, bT 6 b7, bT 10 b8] fun _ _ i => ⟨true, h, i⟩
        · rcases cs h with ⟨b9, h⟩ | ⟨b9, h⟩
          · exact At.rK [2] [] [bT 2 b6, bT 6 b7, bT 10 b8, bT 13 b9] fun _ _ i => ⟨(decide (p0 ≤ 17)), h, i⟩
          · exact At.rK [2] [] [bT 2 b6, bT 6 b7, bT 10 b8, bT 13 b9] fun _ _ i => ⟨false, h, i⟩
  · intro x5 h
    obtain rfl := sq h
    exact At.ret (At.rR hR [])
theorem C_retraceref20_may (p0 : T_api_Code) (p1 : Int) (p2 : Int) (p3 : Int) (r : Bool) (h : F_retraceref20_may p0 p1 p2 p3 = some r) : FnOK Tryz.prog 60 [.agg (T_api_Code.pvs p0), i64 p1, i64 p2, i64 p3] [] (bo r) [] [] := by
  refine fI Tryz.func60 rfl fun E gv R hR => ?_
  refine At.sR [1, 2, 3, 4] [0] [] ?_
  obtain ⟨y4, hy4, h⟩ := bs h
  obtain ⟨y5, hy5, h⟩ := bs h
  obtain ⟨y6, hy6, h⟩ := bs h
  refine At.sD 1 [1, 2, 3, 4, 9, 10, 11] [0, 1] [eT T_api_Ins.enc_len 3 hy4, eT T_api_Def.enc_len 8 hy5, c0 13 (C_retraceref20_To p0 p1 y6 hy6)] ?_
  refine At.seq ?_
  refine At.seqJ (S := Bool) (fun s => ⟨[(1, i64 p1), (2, i64 p2), (3, i64 p3), (4, .ptr 0 0), (9, .ptr 1 0), (10, i64 y5.Entry), (11, i64 y6), (53, bo s)], [.blk 27 (T_api_Code.pvs p0), .blk 50 (T_api_Ins.pvs y4)]⟩) (fun s => F_retraceref20_may_J1 p0 p1 p2 p3 y4 y5 y6 s = some r) ?_ ?_
  · obtain ⟨y183, hy183, h⟩ := bs h
    rcases cs h with ⟨b184, h⟩ | ⟨b184, h⟩
    · exact At.rK [1, 2, 3, 4, 9, 10, 11, 53] [0, 1] [c0 1 (C_retraceref16_Right y4 y183 hy183), bT 3 b184] fun _ _ i => ⟨true, h, i⟩
    · rcases cs h with ⟨b185, h⟩ | ⟨b185, h⟩
      · rcases cs h with ⟨b186, h⟩ | ⟨b186, h⟩
        · exact At.rK [1, 2, 3, 4, 9, 10, 11, 53] [0, 1] [c0 1 (C_retraceref16_Right y4 y183 hy183), bT 3 b184, bT 7 b185, bT 14 b186] fun _ _ i => ⟨true, h, i⟩
        · rcases cs h with ⟨b187, h⟩ | ⟨b187, h⟩
          · exact At.rK [1, 2, 3, 4, 9, 10, 11, 53] [0, 1] [c0 1 (C_retraceref16_Right y4 y183 hy183), bT 3 b184, bT 7 b185, bT 14 b186, bT 18 b187] fun _ _ i => ⟨(p2 == (w64 (y6 - 1))), h, i⟩
          · exact At.rK [1, 2, 3, 4, 9, 10, 11, 53] [0, 1] [c0 1 (C_retraceref16_Right y4 y183 hy183), bT 3 b184, bT 7 b185, bT 14 b186, bT 18 b187] fun _ _ i => ⟨false, h, i⟩
      · rcases cs h with ⟨b188, h⟩ | ⟨b188, h⟩
        · exact At.rK [1, 2, 3, 4, 9, 10, 11, 53] [0, 1] [c0 1 (C_retraceref16_Right y4 y183 hy183), bT 3 b184, bT 7 b185, bT 18 b188] fun _ _ i => ⟨(p2 == (w64 (y6 - 1))), h, i⟩
        · exact At.rK [1, 2, 3, 4, 9, 10, 11, 53] [0, 1] [c0 1 (C_retraceref16_Right y4 y183 hy183), bT 3 b184, bT 7 b185, bT 18 b188] fun _ _ i => ⟨false, h, i⟩
  · intro x27 h
    refine At.cd h (fun b28 h => ?_) (fun b28 h => ?_)
    · refine At.sR [8] [] [] ?_
      obtain rfl := sq h
      exact At.ret (At.rR hR [])
    · refine At.nR [1, 2, 3, 4, 9, 10, 11] [0, 1] ?_
      refine At.skip (norm ?_)
      refine At.seq ?_
      refine At.seqJ (S := Bool) (fun s => ⟨[(1, i64 p1), (2, i64 p2), (4, .ptr 0 0), (9, .ptr 1 0), (10, i64 y5.Entry), (11, i64 y6), (77, bo s)], [.blk 27 (T_api_Code.pvs p0), .blk 50 (T_api_Ins.pvs y4)]⟩) (fun s => F_retraceref20_may_J2 p0 p1 p2 y4 y5 y6 s = some r) ?_ ?_
      · rcases cs h with ⟨b177, h⟩ | ⟨b177, h⟩
        · rcases cs h with ⟨b178, h⟩ | ⟨b178, h⟩
          · rcases cs h with ⟨b179, h⟩ | ⟨b179, h⟩
            · exact At.rK [1, 2, 4, 9, 10, 11, 77] [0, 1] [bT 3 b177, bT 8 b178, bT 13 b179] fun _ _ i => ⟨true, h, i⟩
            · rcases cs h with ⟨b180, h⟩ | ⟨b180, h⟩
              · exact At.rK [1, 2, 4, 9, 10, 11, 77] [0, 1] [bT 3 b177, bT 8 b178, bT 13 b179, bT 17 b180] fun _ _ i => ⟨(y4.A != p3), h, i⟩
              · exact At.rK [1, 2, 4, 9, 10, 11, 77] [0, 1] [bT 3 b177, bT 8 b178, bT 13 b179, bT 17 b180] fun _ _ i => ⟨false, h, i⟩
          · rcases cs h with ⟨b181, h⟩ | ⟨b181, h⟩
            · exact At.rK [1, 2, 4, 9, 10, 11, 77] [0, 1] [bT 3 b177, bT 8 b178, bT 17 b181] fun _ _ i => ⟨(y4.A != p3), h, i⟩
            · exact At.rK [1, 2, 4, 9, 10, 11, 77] [0, 1] [bT 3 b177, bT 8 b178, bT 17 b181] fun _ _ i => ⟨false, h, i⟩
        · rcases cs h with ⟨b182, h⟩ | ⟨b182, h⟩
          · exact At.rK [1, 2, 4, 9, 10, 11, 77] [0, 1] [bT 3 b177, bT 17 b182] fun _ _ i => ⟨(y4.A != p3), h, i⟩
          · exact At.rK [1, 2, 4, 9, 10, 11, 77] [0, 1] [bT 3 b177, bT 17 b182] fun _ _ i => ⟨false, h, i⟩
      · intro x49 h
        refine At.cd h (fun b50 h => ?_) (fun b50 h => ?_)
        · refine At.sR [8] [] [] ?_
          obtain rfl := sq h
          exact At.ret (At.rR hR [])
        · refine At.nR [1, 2, 4, 9, 10, 11] [0, 1] ?_
          refine At.skip (norm ?_)
          refine At.seqJ (S := Bool) (fun s => ⟨[(1, i64 p1), (2, i64 p2), (4, .ptr 0 0), (9, .ptr 1 0), (10, i64 y5.Entry), (11, i64 y6), (12, bo s)], [.blk 27 (T_api_Code.pvs p0), .blk 50 (T_api_Ins.pvs y4)]⟩) (fun s => F_retraceref20_may_J3 p0 p1 p2 y4 y5 y6 s = some r) ?_ ?_
          · rcases cs h with ⟨b173, h⟩ | ⟨b173, h⟩
            · exact At.rK [1, 2, 4, 9, 10, 11, 12] [0, 1] [bT 3 b173] fun _ _ i => ⟨true, h, i⟩
            · rcases cs h with ⟨b174, h⟩ | ⟨b174, h⟩
              · exact At.rK [1, 2, 4, 9, 10, 11, 12] [0, 1] [bT 3 b173, bT 8 b174] fun _ _ i => ⟨true, h, i⟩
              · rcases cs h with ⟨b175, h⟩ | ⟨b175, h⟩
                · exact At.rK [1, 2, 4, 9, 10, 11, 12] [0, 1] [bT 3 b173, bT 8 b174, bT 13 b175] fun _ _ i => ⟨true, h, i⟩
                · rcases cs h with ⟨b176, h⟩ | ⟨b176, h⟩
                  · exact At.rK [1, 2, 4, 9, 10, 11, 12] [0, 1] [bT 3 b173, bT 8 b174, bT 13 b175, bT 18 b176] fun _ _ i => ⟨true, h, i⟩
                  · exact At.rK [1, 2, 4, 9, 10, 11, 12] [0, 1] [bT 3 b173, bT 8 b174, bT 13 b175, bT 18 b176] fun _ _ i => ⟨(y4.Op == 19), h, i⟩
          · intro x55 h
            refine At.seq ?_
            refine At.seqJ (S := Bool) (fun s => ⟨[(1, i64 p1), (2, i64 p2), (4, .ptr 0 0), (9, .ptr 1 0), (10, i64 y5.Entry), (11, i64 y6), (131, bo s)], [.blk 27 (T_api_Code.pvs p0), .blk 50 (T_api_Ins.pvs y4)]⟩) (fun s => F_retraceref20_may_J4 p0 p1 p2 y4 y5 y6 s = some r) ?_ ?_
            · rcases cs h with ⟨b165, h⟩ | ⟨b165, h⟩
              · rcases cs h with ⟨b166, h⟩ | ⟨b166, h⟩
                · exact At.dK 0 [1, 2, 4, 9, 10, 11, 131] [0, 1] [bT 1 b165, bT 5 b166] fun _ _ i => ⟨true, h, i⟩
                · obtain ⟨y167, hy167, h⟩ := bs h
                  rcases cs h with ⟨b168, h⟩ | ⟨b168, h⟩
                  · exact At.dK 0 [1, 2, 4, 9, 10, 11, 131] [0, 1] [bT 1 b165, bT 5 b166, eT T_api_Def.enc_len 11 hy167, bT 17 b168] fun _ _ i => ⟨true, h, i⟩
                  · rcases cs h with ⟨b169, h⟩ | ⟨b169, h⟩
                    · obtain ⟨y170, hy170, h⟩ := bs h
                      exact At.dK 0 [1, 2, 4, 9, 10, 11, 131] [0, 1] [bT 1 b165, bT 5 b166, eT T_api_Def.enc_len 11 hy167, bT 17 b168, bT 21 b169, c0 27 (C_retraceref20_channel p0 y4.A y4.B y170 hy170)] fun _ _ i => ⟨(!y170), h, i⟩
                    · exact At.dK 0 [1, 2, 4, 9, 10, 11, 131] [0, 1] [bT 1 b165, bT 5 b166, eT T_api_Def.enc_len 11 hy167, bT 17 b168, bT 21 b169] fun _ _ i => ⟨false, h, i⟩
              · rcases cs h with ⟨b171, h⟩ | ⟨b171, h⟩
                · obtain ⟨y172, hy172, h⟩ := bs h
                  exact At.dK 0 [1, 2, 4, 9, 10, 11, 131] [0, 1] [bT 1 b165, bT 21 b171, c0 27 (C_retraceref20_channel p0 y4.A y4.B y172 hy172)] fun _ _ i => ⟨(!y172), h, i⟩
                · exact At.dK 0 [1, 2, 4, 9, 10, 11, 131] [0, 1] [bT 1 b165, bT 21 b171] fun _ _ i => ⟨false, h, i⟩
            · intro x82 h
              refine At.cd h (fun b83 h => ?_) (fun b83 h => ?_)
              · refine At.sR [8] [] [] ?_
                obtain rfl := sq h
                exact At.ret (At.rR hR [])
              · refine At.nR [1, 2, 4, 9, 10, 11] [0, 1] ?_
                refine At.skip (norm ?_)
                refine At.seq ?_
                refine At.seqJ (S := Bool) (fun s => ⟨[(1, i64 p1), (2, i64 p2), (4, .ptr 0 0), (9, .ptr 1 0), (10, i64 y5.Entry), (11, i64 y6), (159, bo s)], [.blk 27 (T_api_Code.pvs p0), .blk 50 (T_api_Ins.pvs y4)]⟩) (fun s => F_retraceref20_may_J5 p0 p1 p2 y4 y5 y6 s = some r) ?_ ?_
                · rcases cs h with ⟨b161, h⟩ | ⟨b161, h⟩
                  · rcases cs h with ⟨b162, h⟩ | ⟨b162, h⟩
                    · exact At.dK 0 [1, 2, 4, 9, 10, 11, 159] [0, 1] [bT 3 b161, bT 7 b162] fun _ _ i => ⟨true, h, i⟩
                    · rcases cs h with ⟨b163, h⟩ | ⟨b163, h⟩
                      · exact At.dK 0 [1, 2, 4, 9, 10, 11, 159] [0, 1] [bT 3 b161, bT 7 b162, bT 15 b163] fun _ _ i => ⟨true, h, i⟩
                      · obtain ⟨y164, hy164, h⟩ := bs h
                        exact At.dK 0 [1, 2, 4, 9, 10, 11, 159] [0, 1] [bT 3 b161, bT 7 b162, bT 15 b163, eT T_api_Def.enc_len 22 hy164] fun _ _ i => ⟨(y4.B != y164.Params), h, i⟩
                  · exact At.dK 0 [1, 2, 4, 9, 10, 11, 159] [0, 1] [bT 3 b161] fun _ _ i => ⟨false, h, i⟩
                · intro x98 h
                  refine At.cd h (fun b99 h => ?_) (fun b99 h => ?_)
                  · refine At.sR [8] [] [] ?_
                    obtain rfl := sq h
                    exact At.ret (At.rR hR [])
                  · refine At.nR [1, 2, 4, 9, 10, 11] [0, 1] ?_
                    refine At.skip (norm ?_)
                    refine At.seqJ (S := Unit) (fun s => ⟨[(1, i64 p1), (2, i64 p2), (4, .ptr 0 0), (9, .ptr 1 0)], [.blk 27 (T_api_Code.pvs p0), .blk 50 (T_api_Ins.pvs y4)]⟩) (fun s => F_retraceref20_may_J6 p0 p1 p2 y4 = some r) ?_ ?_
                    · obtain ⟨y135, hy135, h⟩ := bs h
                      refine At.sR [1, 2, 4, 9, 10, 11, 13, 14] [0, 1] [c0 1 (C_retraceref20_target y4 y135 hy135)] ?_
                      refine At.sR [1, 2, 4, 9, 10, 11, 13, 165] [0, 1] [] ?_
                      refine At.cd h (fun b136 h => ?_) (fun b136 h => ?_)
                      · refine At.seqJ (S := Bool) (fun s => ⟨[(1, i64 p1), (2, i64 p2), (4, .ptr 0 0), (9, .ptr 1 0), (199, bo s)], [.blk 27 (T_api_Code.pvs p0), .blk 50 (T_api_Ins.pvs y4)]⟩) (fun s => F_retraceref20_may_J8 p0 p1 p2 y4 s = some r) ?_ ?_
                        · rcases cs h with ⟨b150, h⟩ | ⟨b150, h⟩
                          · exact At.rK [1, 2, 4, 9, 199] [0, 1] [bT 3 b150] fun _ _ i => ⟨true, h, i⟩
                          · rcases cs h with ⟨b151, h⟩ | ⟨b151, h⟩
                            · exact At.rK [1, 2, 4, 9, 199] [0, 1] [bT 3 b150, bT 8 b151] fun _ _ i => ⟨true, h, i⟩
                            · rcases cs h with ⟨b152, h⟩ | ⟨b152, h⟩
                              · obtain ⟨y153, hy153, h⟩ := bs h
                                rcases cs h with ⟨b154, h⟩ | ⟨b154, h⟩
                                · exact At.rK [1, 2, 4, 9, 199] [0, 1] [bT 3 b150, bT 8 b151, bT 12 b152, eT T_api_Ins.enc_len 16 hy153, bT 22 b154] fun _ _ i => ⟨true, h, i⟩
                                · obtain ⟨y155, hy155, h⟩ := bs h
                                  rcases cs h with ⟨b156, h⟩ | ⟨b156, h⟩
                                  · obtain ⟨y157, hy157, h⟩ := bs h
                                    exact At.rK [1, 2, 4, 9, 199] [0, 1] [bT 3 b150, bT 8 b151, bT 12 b152, eT T_api_Ins.enc_len 16 hy153, bT 22 b154, c0 25 (C_retraceref20_Chooses y4.Op y155 hy155), bT 26 b156, c0 30 (C_retraceref20_rests p0 p1 y135.1 y157 hy157)] fun _ _ i => ⟨(!y157), h, i⟩
                                  · exact At.rK [1, 2, 4, 9, 199] [0, 1] [bT 3 b150, bT 8 b151, bT 12 b152, eT T_api_Ins.enc_len 16 hy153, bT 22 b154, c0 25 (C_retraceref20_Chooses y4.Op y155 hy155), bT 26 b156] fun _ _ i => ⟨false, h, i⟩
                              · obtain ⟨y158, hy158, h⟩ := bs h
                                rcases cs h with ⟨b159, h⟩ | ⟨b159, h⟩
                                · obtain ⟨y160, hy160, h⟩ := bs h
                                  exact At.rK [1, 2, 4, 9, 199] [0, 1] [bT 3 b150, bT 8 b151, bT 12 b152, c0 25 (C_retraceref20_Chooses y4.Op y158 hy158), bT 26 b159, c0 30 (C_retraceref20_rests p0 p1 y135.1 y160 hy160)] fun _ _ i => ⟨(!y160), h, i⟩
                                · exact At.rK [1, 2, 4, 9, 199] [0, 1] [bT 3 b150, bT 8 b151, bT 12 b152, c0 25 (C_retraceref20_Chooses y4.Op y158 hy158), bT 26 b159] fun _ _ i => ⟨false, h, i⟩
                        · intro x148 h
                          refine At.cd h (fun b149 h => ?_) (fun b149 h => ?_)
                          · refine At.sR [8] [] [] ?_
                            obtain rfl := sq h
                            exact At.ret (At.rR hR [])
                          · refine At.nR [1, 2, 4, 9] [0, 1] ?_
                            refine At.skip (fun _ _ i => ⟨(), h, i.en [] [1, 2, 4, 9] [0, 1]⟩)
                      · refine At.nR [1, 2, 4, 9] [0, 1] ?_
                        refine At.skip (fun _ _ i => ⟨(), h, i.en [] [1, 2, 4, 9] [0, 1]⟩)
                    · intro _ h
                      refine At.seqJ (S := Bool) (fun s => ⟨[(8, bo s)], []⟩) (fun s => F_retraceref20_may_J7 s = some r) ?_ ?_
                      · obtain ⟨y131, hy131, h⟩ := bs h
                        rcases cs h with ⟨b132, h⟩ | ⟨b132, h⟩
                        · exact At.rK [8] [] [c0 2 (C_retraceref20_Acts y4.Op y131 hy131), bT 4 b132] fun _ _ i => ⟨true, h, i⟩
                        · obtain ⟨y133, hy133, h⟩ := bs h
                          exact At.rK [8] [] [c0 2 (C_retraceref20_Acts y4.Op y131 hy131), bT 4 b132, c0 9 (C_retraceref20_rests p0 p1 (w64 (p2 + 1)) y133 hy133)] fun _ _ i => ⟨y133, h, i⟩
                      · intro x130 h
                        obtain rfl := sq h
                        exact At.ret (At.rR hR [])
theorem C_retraceref15_Wide (p0 : Int) (r : Int) (h : F_retraceref15_Wide p0 = some r) : FnOK Tryz.prog 145 [i64 p0] [] (i64 r) [] [] := by
  refine fI Tryz.func145 rfl fun E gv R hR => ?_
  refine At.sR [0] [] [] ?_
  refine At.seq ?_
  refine At.seqJ (S := Bool) (fun s => ⟨[(0, i64 p0), (8, bo s)], []⟩) (fun s => F_retraceref15_Wide_J1 p0 s = some r) ?_ ?_
  · rcases cs h with ⟨b16, h⟩ | ⟨b16, h⟩
    · exact At.rK [0, 8] [] [bT 2 b16] fun _ _ i => ⟨true, h, i⟩
    · exact At.rK [0, 8] [] [bT 2 b16] fun _ _ i => ⟨(p0 == 4), h, i⟩
  · intro x6 h
    refine At.cd h (fun b7 h => ?_) (fun b7 h => ?_)
    · refine At.sR [2] [] [] ?_
      obtain rfl := sq h
      exact At.ret (At.rR hR [])
    · refine At.nR [0] [] ?_
      refine At.skip (norm ?_)
      refine At.seq ?_
      refine At.seqJ (S := Bool) (fun s => ⟨[(14, bo s)], []⟩) (fun s => F_retraceref15_Wide_J2 s = some r) ?_ ?_
      · rcases cs h with ⟨b15, h⟩ | ⟨b15, h⟩
        · exact At.rK [14] [] [bT 2 b15] fun _ _ i => ⟨(decide (p0 ≤ 17)), h, i⟩
        · exact At.rK [14] [] [bT 2 b15] fun _ _ i => ⟨false, h, i⟩
      · intro x13 h
        refine At.cd h (fun b14 h => ?_) (fun b14 h => ?_)
        · refine At.sR [2] [] [] ?_
          obtain rfl := sq h
          exact At.ret (At.rR hR [])
        · refine At.nR [] [] ?_
          refine At.skip (norm ?_)
          refine At.sR [2] [] [] ?_
          obtain rfl := sq h
          exact At.ret (At.rR hR [])
theorem C_retraceref16_Takes (p0 : T_api_Ins) (r : Int) (h : F_retraceref16_Takes p0 = some r) : FnOK Tryz.prog 104 [.agg (T_api_Ins.pvs p0)] [] (i64 r) [] [] := by
  refine fI Tryz.func104 rfl fun E gv R hR => ?_
  refine At.sR [1] [0] [] ?_
  refine At.seq ?_
  obtain ⟨y5, hy5, h⟩ := bs h
  refine At.sR [1, 5] [0] [c0 1 (C_retraceref16_Right p0 y5 hy5)] ?_
  refine At.cd h (fun b6 h => ?_) (fun b6 h => ?_)
  · refine At.sR [2] [] [] ?_
    obtain rfl := sq h
    exact At.ret (At.rR hR [])
  · refine At.nR [1] [0] ?_
    refine At.skip (norm ?_)
    refine At.seqJ (S := Unit) (fun s => ⟨[], []⟩) (fun s => F_retraceref16_Takes_J1 = some r) ?_ ?_
    · refine At.sR [1, 7] [0] [] ?_
      refine At.block ?_
      refine At.sR [1, 7, 8] [0] [] ?_
      refine At.cd h (fun b37 h => ?_) (fun b37 h => ?_)
      · refine At.seq ?_
        obtain ⟨y39, hy39, h⟩ := bs h
        refine At.rK (st' := ⟨[(2, i64 y39)], []⟩) [2] [] [c0 2 (C_retraceref15_Wide p0.A y39 hy39)] (norm ?_)
        obtain rfl := sq h
        exact At.ret (At.rR hR [])
      · refine At.seq ?_
        refine At.rK (st' := ⟨[(1, .ptr 0 0), (7, i64 p0.Op), (13, bo (p0.Op == 14))], [.blk 50 (T_api_Ins.pvs p0)]⟩) [1, 7, 13] [0] [] (norm ?_)
        refine At.cd h (fun b40 h => ?_) (fun b40 h => ?_)
        · refine At.sR [2] [] [] ?_
          obtain rfl := sq h
          exact At.ret (At.rR hR [])
        · refine At.sR [1, 7, 17] [0] [] ?_
          refine At.cd h (fun b41 h => ?_) (fun b41 h => ?_)
          · refine At.sR [21] [] [] ?_
            refine At.cd h (fun b42 h => ?_) (fun b42 h => ?_)
            · refine At.sR [2] [] [] ?_
              obtain rfl := sq h
              exact At.ret (At.rR hR [])
            · refine At.nR [] [] ?_
              refine At.skip (fun _ _ i => ⟨(), h, i.en [] [] []⟩)
          · refine At.seqJ (S := Bool) (fun s => ⟨[(7, i64 p0.Op), (22, bo s)], []⟩) (fun s => F_retraceref16_Takes_J2 p0 s = some r) ?_ ?_
            · refine At.sR [7, 22] [] [] ?_
              refine At.cd h (fun b66 h => ?_) (fun b66 h => ?_)
              · refine At.skip (fun _ _ i => ⟨(p0.Op == 10), h, i.en [] [7, 22] []⟩)
              · exact At.rK [7, 22] [] [] fun _ _ i => ⟨(p0.Op == 20), h, i⟩
            · intro x44 h
              refine At.cd h (fun b45 h => ?_) (fun b45 h => ?_)
              · refine At.sR [2] [] [] ?_
                obtain rfl := sq h
                exact At.ret (At.rR hR [])
              · refine At.seqJ (S := Bool) (fun s => ⟨[(25, bo s)], []⟩) (fun s => F_retraceref16_Takes_J3 s = some r) ?_ ?_
                · refine At.sR [7, 25] [] [] ?_
                  refine At.cd h (fun b57 h => ?_) (fun b57 h => ?_)
                  · refine At.nR [25] [] ?_
                    refine At.skip (fun _ _ i => ⟨(p0.Op == 4), h, i.en [] [25] []⟩)
                  · refine At.sR [7, 25] [] [] ?_
                    refine At.cd h (fun b58 h => ?_) (fun b58 h => ?_)
                    · refine At.nR [25] [] ?_
                      refine At.skip (fun _ _ i => ⟨(p0.Op == 7), h, i.en [] [25] []⟩)
                    · refine At.sR [7, 25] [] [] ?_
                      refine At.cd h (fun b59 h => ?_) (fun b59 h => ?_)
                      · refine At.nR [25] [] ?_
                        refine At.skip (fun _ _ i => ⟨(p0.Op == 8), h, i.en [] [25] []⟩)
                      · refine At.sR [7, 25] [] [] ?_
                        refine At.cd h (fun b60 h => ?_) (fun b60 h => ?_)
                        · refine At.nR [25] [] ?_
                          refine At.skip (fun _ _ i => ⟨(p0.Op == 11), h, i.en [] [25] []⟩)
                        · refine At.sR [7, 25] [] [] ?_
                          refine At.cd h (fun b61 h => ?_) (fun b61 h => ?_)
                          · refine At.nK (st' := ⟨[(25, bo (p0.Op == 12))], []⟩) [25] [] ?_
                            refine At.skip (fun _ _ i => ⟨(p0.Op == 12), h, i⟩)
                          · refine At.seq ?_
                            refine At.rK (st' := ⟨[(7, i64 p0.Op), (25, bo (p0.Op == 13))], []⟩) [7, 25] [] [] (norm ?_)
                            refine At.cd h (fun b62 h => ?_) (fun b62 h => ?_)
                            · refine At.nR [25] [] ?_
                              refine At.skip (fun _ _ i => ⟨(p0.Op == 13), h, i.en [] [25] []⟩)
                            · refine At.sR [7, 25] [] [] ?_
                              refine At.cd h (fun b63 h => ?_) (fun b63 h => ?_)
                              · refine At.nR [25] [] ?_
                                refine At.skip (fun _ _ i => ⟨(p0.Op == 15), h, i.en [] [25] []⟩)
                              · refine At.sR [7, 25] [] [] ?_
                                refine At.cd h (fun b64 h => ?_) (fun b64 h => ?_)
                                · refine At.nR [25] [] ?_
                                  refine At.skip (fun _ _ i => ⟨(p0.Op == 16), h, i.en [] [25] []⟩)
                                · refine At.sR [7, 25] [] [] ?_
                                  refine At.cd h (fun b65 h => ?_) (fun b65 h => ?_)
                                  · refine At.nR [25] [] ?_
                                    refine At.skip (fun _ _ i => ⟨(p0.Op == 19), h, i.en [] [25] []⟩)
                                  · exact At.rK [25] [] [] fun _ _ i => ⟨(p0.Op == 21), h, i⟩
                · intro x55 h
                  refine At.cd h (fun b56 h => ?_) (fun b56 h => ?_)
                  · refine At.sR [2] [] [] ?_
                    obtain rfl := sq h
                    exact At.ret (At.rR hR [])
                  · refine At.nR [] [] ?_
                    refine At.skip (fun _ _ i => ⟨(), h, i.en [] [] []⟩)
    · intro _ h
      refine At.sR [2] [] [] ?_
      obtain rfl := sq h
      exact At.ret (At.rR hR [])
theorem C_retraceref20_fits (p0 : T_api_Ins) (p1 : T_retraceref20_Is) (r : Bool) (h : F_retraceref20_fits p0 p1 = some r) : FnOK Tryz.prog 103 [.agg (T_api_Ins.pvs p0), .agg (T_retraceref20_Is.pvs p1)] [] (bo r) [] [] := by
  refine fI Tryz.func103 rfl fun E gv R hR => ?_
  refine At.sR [2, 3] [0, 1] [] ?_
  obtain ⟨y2, hy2, h⟩ := bs h
  refine At.sD 0 [2, 3, 5] [0, 1] [c0 3 (C_retraceref16_Takes p0 y2 hy2)] ?_
  refine At.seq ?_
  refine At.sR [2, 3, 5, 12] [0, 1] [] ?_
  refine At.cd h (fun b4 h => ?_) (fun b4 h => ?_)
  · refine At.sR [4] [] [] ?_
    obtain rfl := sq h
    exact At.ret (At.rR hR [])
  · refine At.nR [2, 3, 5] [0, 1] ?_
    refine At.skip (norm ?_)
    refine At.seq ?_
    refine At.seqJ (S := Bool) (fun s => ⟨[(2, .ptr 0 0), (3, .ptr 1 0), (5, i64 (w64 (p1.N - y2))), (25, bo s)], [.blk 50 (T_api_Ins.pvs p0), .blk 156 (T_retraceref20_Is.pvs p1)]⟩) (fun s => F_retraceref20_fits_J1 p0 p1 y2 s = some r) ?_ ?_
    · rcases cs h with ⟨b59, h⟩ | ⟨b59, h⟩
      · exact At.rK [2, 3, 5, 25] [0, 1] [bT 3 b59] fun _ _ i => ⟨true, h, i⟩
      · rcases cs h with ⟨b60, h⟩ | ⟨b60, h⟩
        · exact At.rK [2, 3, 5, 25] [0, 1] [bT 3 b59, bT 8 b60] fun _ _ i => ⟨true, h, i⟩
        · exact At.rK [2, 3, 5, 25] [0, 1] [bT 3 b59, bT 8 b60] fun _ _ i => ⟨(p0.Op == 25), h, i⟩
    · intro x16 h
      refine At.cd h (fun b17 h => ?_) (fun b17 h => ?_)
      · refine At.seqJ (S := Bool) (fun s => ⟨[(4, bo s)], []⟩) (fun s => F_retraceref20_fits_J2 s = some r) ?_ ?_
        · rcases cs h with ⟨b20, h⟩ | ⟨b20, h⟩
          · exact At.rK [4] [] [bT 3 b20] fun _ _ i => ⟨(!p1.Choose), h, i⟩
          · exact At.rK [4] [] [bT 3 b20] fun _ _ i => ⟨false, h, i⟩
        · intro x19 h
          obtain rfl := sq h
          exact At.ret (At.rR hR [])
      · refine At.nR [2, 3, 5] [0, 1] ?_
        refine At.skip (norm ?_)
        refine At.seq ?_
        refine At.sR [2, 3, 5, 36] [0, 1] [] ?_
        refine At.cd h (fun b25 h => ?_) (fun b25 h => ?_)
        · refine At.seqJ (S := Bool) (fun s => ⟨[(4, bo s)], []⟩) (fun s => F_retraceref20_fits_J3 s = some r) ?_ ?_
          · rcases cs h with ⟨b28, h⟩ | ⟨b28, h⟩
            · exact At.rK [4] [] [bT 3 b28] fun _ _ i => ⟨p1.Choose, h, i⟩
            · exact At.rK [4] [] [bT 3 b28] fun _ _ i => ⟨false, h, i⟩
          · intro x27 h
            obtain rfl := sq h
            exact At.ret (At.rR hR [])
        · refine At.nR [2, 3, 5] [0, 1] ?_
          refine At.skip (norm ?_)
          refine At.seq ?_
          obtain ⟨y36, hy36, h⟩ := bs h
          refine At.sR [2, 3, 5, 46] [0, 1] [c0 2 (C_retraceref20_Chooses p0.Op y36 hy36)] ?_
          refine At.cd h (fun b37 h => ?_) (fun b37 h => ?_)
          · refine At.seqJ (S := Bool) (fun s => ⟨[(4, bo s)], []⟩) (fun s => F_retraceref20_fits_J4 s = some r) ?_ ?_
            · rcases cs h with ⟨b40, h⟩ | ⟨b40, h⟩
              · exact At.rK [4] [] [bT 2 b40] fun _ _ i => ⟨p1.Choose, h, i⟩
              · exact At.rK [4] [] [bT 2 b40] fun _ _ i => ⟨false, h, i⟩
            · intro x39 h
              obtain rfl := sq h
              exact At.ret (At.rR hR [])
          · refine At.nR [2, 3, 5] [0, 1] ?_
            refine At.skip (norm ?_)
            refine At.seq ?_
            refine At.seqJ (S := Bool) (fun s => ⟨[(3, .ptr 0 0), (5, i64 (w64 (p1.N - y2))), (60, bo s)], [.blk 156 (T_retraceref20_Is.pvs p1)]⟩) (fun s => F_retraceref20_fits_J5 p1 y2 s = some r) ?_ ?_
            · obtain ⟨y57, hy57, h⟩ := bs h
              rcases cs h with ⟨b58, h⟩ | ⟨b58, h⟩
              · exact At.rK [3, 5, 60] [1] [c0 2 (C_retraceref20_Acts p0.Op y57 hy57), bT 3 b58] fun _ _ i => ⟨true, h, i⟩
              · exact At.rK [3, 5, 60] [1] [c0 2 (C_retraceref20_Acts p0.Op y57 hy57), bT 3 b58] fun _ _ i => ⟨(p0.Op == 18), h, i⟩
            · intro x52 h
              refine At.cd h (fun b53 h => ?_) (fun b53 h => ?_)
              · refine At.seqJ (S := Bool) (fun s => ⟨[(4, bo s)], []⟩) (fun s => F_retraceref20_fits_J6 s = some r) ?_ ?_
                · rcases cs h with ⟨b56, h⟩ | ⟨b56, h⟩
                  · exact At.rK [4] [] [bT 2 b56] fun _ _ i => ⟨(!p1.Choose), h, i⟩
                  · exact At.rK [4] [] [bT 2 b56] fun _ _ i => ⟨false, h, i⟩
                · intro x55 h
                  obtain rfl := sq h
                  exact At.ret (At.rR hR [])
              · refine At.nR [] [] ?_
                refine At.skip (norm ?_)
                refine At.sR [4] [] [] ?_
                obtain rfl := sq h
                exact At.ret (At.rR hR [])
theorem C_retraceref16_Gives (p0 : T_api_Ins) (r : Int) (h : F_retraceref16_Gives p0 = some r) : FnOK Tryz.prog 105 [.agg (T_api_Ins.pvs p0)] [] (i64 r) [] [] := by
  refine fI Tryz.func105 rfl fun E gv R hR => ?_
  refine At.sR [1] [0] [] ?_
  refine At.seq ?_
  refine At.seqJ (S := Bool) (fun s => ⟨[(24, bo s)], []⟩) (fun s => F_retraceref16_Gives_J1 s = some r) ?_ ?_
  · obtain ⟨y20, hy20, h⟩ := bs h
    rcases cs h with ⟨b21, h⟩ | ⟨b21, h⟩
    · rcases cs h with ⟨b22, h⟩ | ⟨b22, h⟩
      · exact At.rK [24] [] [c0 1 (C_retraceref16_Right p0 y20 hy20), bT 2 b21, bT 6 b22] fun _ _ i => ⟨true, h, i⟩
      · rcases cs h with ⟨b23, h⟩ | ⟨b23, h⟩
        · exact At.rK [24] [] [c0 1 (C_retraceref16_Right p0 y20 hy20), bT 2 b21, bT 6 b22, bT 11 b23] fun _ _ i => ⟨true, h, i⟩
        · rcases cs h with ⟨b24, h⟩ | ⟨b24, h⟩
          · exact At.rK [24] [] [c0 1 (C_retraceref16_Right p0 y20 hy20), bT 2 b21, bT 6 b22, bT 11 b23, bT 16 b24] fun _ _ i => ⟨true, h, i⟩
          · exact At.rK [24] [] [c0 1 (C_retraceref16_Right p0 y20 hy20), bT 2 b21, bT 6 b22, bT 11 b23, bT 16 b24] fun _ _ i => ⟨(p0.Op == 9), h, i⟩
    · exact At.rK [24] [] [c0 1 (C_retraceref16_Right p0 y20 hy20), bT 2 b21] fun _ _ i => ⟨false, h, i⟩
  · intro x18 h
    refine At.cd h (fun b19 h => ?_) (fun b19 h => ?_)
    · refine At.sR [2] [] [] ?_
      obtain rfl := sq h
      exact At.ret (At.rR hR [])
    · refine At.nR [] [] ?_
      refine At.skip (norm ?_)
      refine At.sR [2] [] [] ?_
      obtain rfl := sq h
      exact At.ret (At.rR hR [])
theorem C_retraceref20_meets (p1 : Int) (p2 : Int) (p3 : T_retraceref20_Is) (o0 : (List T_retraceref20_Is)) (r : ((List T_retraceref20_Is) × Bool) ⊕ ((List T_retraceref20_Is) × Bool)) (h : F_retraceref20_meets p1 p2 p3 o0 = some r) : FnOK Tryz.prog 106 [.row 0 (o0).length, i64 p1, i64 p2, .agg (T_retraceref20_Is.pvs p3)] [.row 156 3 (encL T_retraceref20_Is.enc o0)] ((Sum.elim (fun r => .tup [.row 0 (r.1).length, bo r.2]) (fun r => .tup [.row 1 (r.1).length, bo r.2])) r) ((Sum.elim (fun r => [.row 156 3 (encL T_retraceref20_Is.enc r.1)]) (fun r => [.row 156 3 (encL T_retraceref20_Is.enc o0), .row 156 3 (encL T_retraceref20_Is.enc r.1)])) r) [0] := by
  refine fI Tryz.func106 rfl fun E gv R hR => ?_
  refine At.sR [0, 1, 2, 7] [0, 1, 2] [] ?_
  refine At.seq ?_
  refine At.sR [0, 2, 7, 13] [0, 1, 2] [] ?_
  refine At.cd h (fun b2 h => ?_) (fun b2 h => ?_)
  · refine At.sD 0 [8, 9] [0, 1] [] ?_
    obtain rfl := sq h
    exact At.ret (At.rR hR [0])
  · refine At.nR [0, 2, 7] [0, 1, 2] ?_
    refine At.skip (norm ?_)
    refine At.seq ?_
    obtain ⟨y9, hy9, h⟩ := bs h
    refine At.sR [0, 2, 7, 22] [0, 1, 2] [oT 2 (rEl hy9), vT 4 (.bool y9.Come) (rElV T_retraceref20_Is.enc_len hy9 0 (by decide) (d := .bool y9.Come) (by rfl))] ?_
    refine At.cd h (fun b10 h => ?_) (fun b10 h => ?_)
    · obtain ⟨y12, hy12, h⟩ := bs h
      refine At.sD 0 [8, 9] [0, 1] [oT 3 (rEl hy12), tT 4 ({ orc := .cells [.bool y12.Come, .int .i64 y12.N, .bool y12.Choose] }) (allc (rElC T_retraceref20_Is.enc_len hy12 0 3 (by decide) (by rfl)) all0)] ?_
      obtain rfl := sq h
      exact At.ret (At.rR hR [0])
    · refine At.nR [0, 2, 7] [0, 1, 2] ?_
      refine At.skip (norm ?_)
      refine At.seq ?_
      obtain ⟨g14, h⟩ := gs h
      refine At.rK (st' := ⟨[(2, i64 p2), (7, .ptr 2 0), (10, .row 3 ((([] : List T_retraceref20_Is) ++ o0)).length)], [.row 156 3 (encL T_retraceref20_Is.enc o0), .ghost (gv 0) (.row 0 0), .blk 156 (T_retraceref20_Is.pvs p3), .row 156 3 (encL T_retraceref20_Is.enc (([] : List T_retraceref20_Is) ++ o0))]⟩) [2, 7, 10] [0, 1, 2, 3] [aT T_retraceref20_Is.enc_len 2 ([] : List T_retraceref20_Is) o0 rfl g14] (norm ?_)
      refine At.seq ?_
      obtain ⟨y16, hy16, h⟩ := bs h
      refine At.rK (st' := ⟨[(10, .row 2 ((([] : List T_retraceref20_Is) ++ o0)).length)], [.row 156 3 (encL T_retraceref20_Is.enc o0), .ghost (gv 0) (.row 0 0), .row 156 3 (encL T_retraceref20_Is.enc (List.set (([] : List T_retraceref20_Is) ++ o0) (Int.toNat p2) p3))]⟩) [10] [0, 1, 3] [oT 3 (rEl hy16), tT 4 ({ form := some (0, encL T_retraceref20_Is.enc (List.set (([] : List T_retraceref20_Is) ++ o0) (Int.toNat p2) p3)), obj := 3 }) (allc ((rSetM T_retraceref20_Is.enc_len hy16 0 p3 (vs := [.bool p3.Come, .int .i64 p3.N, .bool p3.Choose]) (by rfl) (Nat.le_of_ble_eq_true rfl)).1) (allc ((rSetM T_retraceref20_Is.enc_len hy16 0 p3 (vs := [.bool p3.Come, .int .i64 p3.N, .bool p3.Choose]) (by rfl) (Nat.le_of_ble_eq_true rfl)).2) all0))] (relen (st2 := ⟨[(10, .row 2 ((List.set (([] : List T_retraceref20_Is) ++ o0) (Int.toNat p2) p3)).length)], [.row 156 3 (encL T_retraceref20_Is.enc o0), .ghost (gv 0) (.row 0 0), .row 156 3 (encL T_retraceref20_Is.enc (List.set (([] : List T_retraceref20_Is) ++ o0) (Int.toNat p2) p3))]⟩) (by simp only [List.length_set]) (norm ?_))
      refine At.sR [8, 9] [0, 1, 2] [] ?_
      obtain rfl := sq h
      exact At.ret (At.rR hR [0, 2])
theorem C_retraceref20_Flow (p0 : T_api_Code) (p1 : Int) (r : (List T_retraceref20_Is) × Int) (h : F_retraceref20_Flow p0 p1 = some r) : FnOK Tryz.prog 61 [.agg (T_api_Code.pvs p0), i64 p1] [] (.tup [.row 0 (r.1).length, i64 r.2]) [.row 156 3 (encL T_retraceref20_Is.enc r.1)] [] := by
  refine fI Tryz.func61 rfl fun E gv R hR => ?_
  refine At.sR [1, 2] [0] [] ?_
  obtain ⟨g2, h⟩ := gs h
  refine At.sR [1, 2, 6] [0, 1] [tT 4 ({ form := some (((List.replicate (Int.toNat (w64 (((p0.Ins).length : Int) + 1))) (⟨false, 0, false⟩ : T_retraceref20_Is))).length, encL T_retraceref20_Is.enc (List.replicate (Int.toNat (w64 (((p0.Ins).length : Int) + 1))) (⟨false, 0, false⟩ : T_retraceref20_Is))) }) (allc (len_rep (Int.toNat (w64 (((p0.Ins).length : Int) + 1))) (⟨false, 0, false⟩ : T_retraceref20_Is)) (allc (encL_repM T_retraceref20_Is.enc (⟨false, 0, false⟩ : T_retraceref20_Is) rfl (Int.toNat (w64 (((p0.Ins).length : Int) + 1)))) (allc g2 all0)))] ?_
  refine At.seq ?_
  obtain ⟨y5, hy5, h⟩ := bs h
  obtain ⟨y6, hy6, h⟩ := bs h
  refine At.rK (st' := ⟨[(1, i64 p1), (2, .ptr 0 0), (6, .row 1 ((List.replicate (Int.toNat (w64 (((p0.Ins).length : Int) + 1))) (⟨false, 0, false⟩ : T_retraceref20_Is))).length)], [.blk 27 (T_api_Code.pvs p0), .row 156 3 (encL T_retraceref20_Is.enc (List.set (List.replicate (Int.toNat (w64 (((p0.Ins).length : Int) + 1))) (⟨false, 0, false⟩ : T_retraceref20_Is)) (Int.toNat y5.Entry) (⟨true, y6.N, y6.Choose⟩ : T_retraceref20_Is)))]⟩) [1, 2, 6] [0, 1] [eT T_api_Def.enc_len 4 hy5, oT 7 (rEl hy6), tT 9 ({ form := some (0, encL T_retraceref20_Is.enc (List.set (List.replicate (Int.toNat (w64 (((p0.Ins).length : Int) + 1))) (⟨false, 0, false⟩ : T_retraceref20_Is)) (Int.toNat y5.Entry) (⟨true, y6.N, y6.Choose⟩ : T_retraceref20_Is))), obj := 1 }) (allc ((rSetM T_retraceref20_Is.enc_len hy6 0 (⟨true, y6.N, y6.Choose⟩ : T_retraceref20_Is) (vs := [.bool true]) (by rfl) (Nat.le_of_ble_eq_true rfl)).1) (allc ((rSetM T_retraceref20_Is.enc_len hy6 0 (⟨true, y6.N, y6.Choose⟩ : T_retraceref20_Is) (vs := [.bool true]) (by rfl) (Nat.le_of_ble_eq_true rfl)).2) all0))] (relen (st2 := ⟨[(1, i64 p1), (2, .ptr 0 0), (6, .row 1 ((List.set (List.replicate (Int.toNat (w64 (((p0.Ins).length : Int) + 1))) (⟨false, 0, false⟩ : T_retraceref20_Is)) (Int.toNat y5.Entry) (⟨true, y6.N, y6.Choose⟩ : T_retraceref20_Is))).length)], [.blk 27 (T_api_Code.pvs p0), .row 156 3 (encL T_retraceref20_Is.enc (List.set (List.replicate (Int.toNat (w64 (((p0.Ins).length : Int) + 1))) (⟨false, 0, false⟩ : T_retraceref20_Is)) (Int.toNat y5.Entry) (⟨true, y6.N, y6.Choose⟩ : T_retraceref20_Is)))]⟩) (by simp only [List.length_set]) (norm ?_))
  refine At.seq ?_
  obtain ⟨y227, hy227, h⟩ := bs h
  refine At.sR [1, 2, 6, 7] [0, 1] [eT T_api_Def.enc_len 3 hy227] ?_
  refine At.block ?_
  refine At.nK (st' := ⟨[(1, i64 p1), (2, .ptr 0 0), (6, .row 1 ((List.set (List.replicate (Int.toNat (w64 (((p0.Ins).length : Int) + 1))) (⟨false, 0, false⟩ : T_retraceref20_Is)) (Int.toNat y5.Entry) (⟨true, y6.N, y6.Choose⟩ : T_retraceref20_Is))).length), (7, i64 y227.Entry)], [.blk 27 (T_api_Code.pvs p0), .row 156 3 (encL T_retraceref20_Is.enc (List.set (List.replicate (Int.toNat (w64 (((p0.Ins).length : Int) + 1))) (⟨false, 0, false⟩ : T_retraceref20_Is)) (Int.toNat y5.Entry) (⟨true, y6.N, y6.Choose⟩ : T_retraceref20_Is)))]⟩) [1, 2, 6, 7] [0, 1] ?_
  refine At.lp (fun s : (Int × (List T_retraceref20_Is)) => ⟨[(1, i64 p1), (2, .ptr 0 0), (6, .row 1 (s.2).length), (7, i64 s.1)], [.blk 27 (T_api_Code.pvs p0), .row 156 3 (encL T_retraceref20_Is.enc s.2)]⟩) h ?_
  rintro ⟨x228, x229⟩ oo230 h f231
  replace h : F_retraceref20_Flow_L8 p0 p1 x228 x229 = some oo230 := h
  refine At.seq ?_
  obtain ⟨y236, hy236, h⟩ := bs h
  refine At.sR [1, 2, 6, 7, 38] [0, 1] [c0 3 (C_retraceref20_To p0 p1 y236 hy236)] ?_
  refine At.cd h (fun b237 h => ?_) (fun b237 h => ?_)
  · refine At.nR [1, 2, 6, 7] [0, 1] ?_
    refine At.skip (norm ?_)
    refine At.seqJ (S := (List T_retraceref20_Is)) (fun s => ⟨[(1, i64 p1), (2, .ptr 0 0), (6, .row 1 (s).length), (7, i64 x228)], [.blk 27 (T_api_Code.pvs p0), .row 156 3 (encL T_retraceref20_Is.enc s)]⟩) (fun s => F_retraceref20_Flow_J1 x228 s = some oo230) ?_ ?_
    · refine At.block ?_
      refine At.seq ?_
      refine At.seqJ (S := Bool) (fun s => ⟨[(1, i64 p1), (2, .ptr 0 0), (6, .row 1 (x229).length), (7, i64 x228), (55, bo s)], [.blk 27 (T_api_Code.pvs p0), .row 156 3 (encL T_retraceref20_Is.enc x229)]⟩) (fun s => F_retraceref20_Flow_J2 p0 x228 x229 s = some oo230) ?_ ?_
      · obtain ⟨y440, hy440, h⟩ := bs h
        rcases cs h with ⟨b441, h⟩ | ⟨b441, h⟩
        · obtain ⟨y442, hy442, h⟩ := bs h
          exact At.rK [1, 2, 6, 7, 55] [0, 1] [oT 2 (rEl hy440), vT 4 (.bool y440.Come) (rElV T_retraceref20_Is.enc_len hy440 0 (by decide) (d := .bool y440.Come) (by rfl)), bT 6 b441, eT T_api_Ins.enc_len 10 hy442] fun _ _ i => ⟨(y442.Op != 1), h, i⟩
        · exact At.rK [1, 2, 6, 7, 55] [0, 1] [oT 2 (rEl hy440), vT 4 (.bool y440.Come) (rElV T_retraceref20_Is.enc_len hy440 0 (by decide) (d := .bool y440.Come) (by rfl)), bT 6 b441] fun _ _ i => ⟨false, h, i⟩
      · intro x349 h
        refine At.cd h (fun b350 h => ?_) (fun b350 h => ?_)
        · refine At.nR [1, 2, 6, 7] [0, 1] ?_
          refine At.exit (fun _ _ i => ⟨x229, h, i.en [] [1, 2, 6, 7] [0, 1]⟩)
        · refine At.nR [1, 2, 6, 7] [0, 1] ?_
          refine At.skip (norm ?_)
          refine At.seq ?_
          obtain ⟨y352, hy352, h⟩ := bs h
          refine At.rK (st' := ⟨[(1, i64 p1), (2, .ptr 0 0), (6, .row 1 (x229).length), (7, i64 x228)], [.blk 27 (T_api_Code.pvs p0), .row 156 3 (encL T_retraceref20_Is.enc (List.set x229 (Int.toNat x228) (⟨true, y352.N, y352.Choose⟩ : T_retraceref20_Is)))]⟩) [1, 2, 6, 7] [0, 1] [oT 2 (rEl hy352), tT 4 ({ form := some (0, encL T_retraceref20_Is.enc (List.set x229 (Int.toNat x228) (⟨true, y352.N, y352.Choose⟩ : T_retraceref20_Is))), obj := 1 }) (allc ((rSetM T_retraceref20_Is.enc_len hy352 0 (⟨true, y352.N, y352.Choose⟩ : T_retraceref20_Is) (vs := [.bool true]) (by rfl) (Nat.le_of_ble_eq_true rfl)).1) (allc ((rSetM T_retraceref20_Is.enc_len hy352 0 (⟨true, y352.N, y352.Choose⟩ : T_retraceref20_Is) (vs := [.bool true]) (by rfl) (Nat.le_of_ble_eq_true rfl)).2) all0))] (relen (st2 := ⟨[(1, i64 p1), (2, .ptr 0 0), (6, .row 1 ((List.set x229 (Int.toNat x228) (⟨true, y352.N, y352.Choose⟩ : T_retraceref20_Is))).length), (7, i64 x228)], [.blk 27 (T_api_Code.pvs p0), .row 156 3 (encL T_retraceref20_Is.enc (List.set x229 (Int.toNat x228) (⟨true, y352.N, y352.Choose⟩ : T_retraceref20_Is)))]⟩) (by simp only [List.length_set]) (norm ?_))
          obtain ⟨y354, hy354, h⟩ := bs h
          refine At.sR [1, 2, 6, 7, 8] [0, 1, 2] [eT T_api_Ins.enc_len 3 hy354] ?_
          refine At.seq ?_
          obtain ⟨y362, hy362, h⟩ := bs h
          obtain ⟨y363, hy363, h⟩ := bs h
          refine At.sD 0 [1, 2, 6, 7, 8, 71] [0, 1, 2] [oT 3 (rEl hy362), tT 4 ({ orc := .cells [.bool y362.Come, .int .i64 y362.N, .bool y362.Choose] }) (allc (rElC T_retraceref20_Is.enc_len hy362 0 3 (by decide) (by rfl)) all0), c0 5 (C_retraceref20_fits y354 y362 y363 hy363)] ?_
          refine At.cd h (fun b364 h => ?_) (fun b364 h => ?_)
          · refine At.sR [4, 5] [1] [] ?_
            obtain ⟨r365, h, e366⟩ := mr h
            rw [f231 _ e366] at h
            obtain rfl := sq h
            exact At.ret (At.rR hR [0])
          · refine At.nR [1, 2, 6, 7, 8] [0, 1, 2] ?_
            refine At.skip (norm ?_)
            refine At.seqJ (S := Int × Bool) (fun s => ⟨[(1, i64 p1), (2, .ptr 0 0), (6, .row 1 ((List.set x229 (Int.toNat x228) (⟨true, y352.N, y352.Choose⟩ : T_retraceref20_Is))).length), (7, i64 x228), (8, .ptr 2 0), (9, .ptr 3 0)], [.blk 27 (T_api_Code.pvs p0), .row 156 3 (encL T_retraceref20_Is.enc (List.set x229 (Int.toNat x228) (⟨true, y352.N, y352.Choose⟩ : T_retraceref20_Is))), .blk 50 (T_api_Ins.pvs y354), .blk 156 [bo true, i64 s.1, bo s.2]]⟩) (fun s => F_retraceref20_Flow_J3 x228 x229 y352 y354 s.1 s.2 = some oo230) ?_ ?_
            · obtain ⟨y435, hy435, h⟩ := bs h
              obtain ⟨y436, hy436, h⟩ := bs h
              obtain ⟨y437, hy437, h⟩ := bs h
              obtain ⟨y438, hy438, h⟩ := bs h
              rcases cs h with ⟨b439, h⟩ | ⟨b439, h⟩
              · exact At.dK 1 [1, 2, 6, 7, 8, 9] [0, 1, 2, 3] [oT 2 (rEl hy435), vT 4 (.int .i64 y435.N) (rElV T_retraceref20_Is.enc_len hy435 1 (by decide) (d := .int .i64 y435.N) (by rfl)), c0 6 (C_retraceref16_Takes y354 y436 hy436), c0 9 (C_retraceref16_Gives y354 y437 hy437), oT 13 (rEl hy438), vT 15 (.bool y438.Choose) (rElV T_retraceref20_Is.enc_len hy438 2 (by decide) (d := .bool y438.Choose) (by rfl)), bT 16 b439] fun _ _ i => ⟨((w64 ((w64 (y435.N - y436)) + y437)), true), h, i⟩
              · exact At.dK 1 [1, 2, 6, 7, 8, 9] [0, 1, 2, 3] [oT 2 (rEl hy435), vT 4 (.int .i64 y435.N) (rElV T_retraceref20_Is.enc_len hy435 1 (by decide) (d := .int .i64 y435.N) (by rfl)), c0 6 (C_retraceref16_Takes y354 y436 hy436), c0 9 (C_retraceref16_Gives y354 y437 hy437), oT 13 (rEl hy438), vT 15 (.bool y438.Choose) (rElV T_retraceref20_Is.enc_len hy438 2 (by decide) (d := .bool y438.Choose) (by rfl)), bT 16 b439] fun _ _ i => ⟨((w64 ((w64 (y435.N - y436)) + y437)), (y354.Op == 25)), h, i⟩
            · rintro ⟨x372, x373⟩ h
              replace h : F_retraceref20_Flow_J3 x228 x229 y352 y354 x372 x373 = some oo230 := h
              refine At.sR [1, 2, 6, 7, 8, 9, 10] [0, 1, 2, 3] [] ?_
              refine At.seqJ (S := Bool × (List T_retraceref20_Is)) (fun s => ⟨[(1, i64 p1), (2, .ptr 0 0), (6, .row 1 (s.2).length), (7, i64 x228), (8, .ptr 2 0), (9, .ptr 3 0), (10, bo s.1)], [.blk 27 (T_api_Code.pvs p0), .row 156 3 (encL T_retraceref20_Is.enc s.2), .blk 50 (T_api_Ins.pvs y354), .blk 156 [bo true, i64 x372, bo x373]]⟩) (fun s => F_retraceref20_Flow_J4 x228 y354 x372 x373 s.1 s.2 = some oo230) ?_ ?_
              · obtain ⟨y422, hy422, h⟩ := bs h
                refine At.sR [1, 2, 6, 7, 8, 9, 10, 11, 12] [0, 1, 2, 3] [c0 1 (C_retraceref20_target y354 y422 hy422)] ?_
                refine At.sR [1, 2, 6, 7, 8, 9, 10, 11, 101] [0, 1, 2, 3] [] ?_
                refine At.cd h (fun b423 h => ?_) (fun b423 h => ?_)
                · refine At.sR [1, 2, 6, 7, 8, 9, 11, 13] [0, 1, 2, 3, 4] [] ?_
                  refine At.seqJ (S := Int × Bool) (fun s => ⟨[(1, i64 p1), (2, .ptr 0 0), (6, .row 1 ((List.set x229 (Int.toNat x228) (⟨true, y352.N, y352.Choose⟩ : T_retraceref20_Is))).length), (7, i64 x228), (8, .ptr 2 0), (9, .ptr 3 0), (11, i64 y422.1), (13, .ptr 4 0)], [.blk 27 (T_api_Code.pvs p0), .row 156 3 (encL T_retraceref20_Is.enc (List.set x229 (Int.toNat x228) (⟨true, y352.N, y352.Choose⟩ : T_retraceref20_Is))), .blk 50 (T_api_Ins.pvs y354), .blk 156 [bo true, i64 x372, bo x373], .blk 156 [bo true, i64 s.1, bo s.2]]⟩) (fun s => F_retraceref20_Flow_J7 x228 x229 y352 y354 x372 x373 y422 s.1 s.2 = some oo230) ?_ ?_
                  · obtain ⟨y433, hy433, h⟩ := bs h
                    refine At.sR [1, 2, 6, 7, 8, 9, 11, 13, 105] [0, 1, 2, 3, 4] [c0 2 (C_retraceref20_Chooses y354.Op y433 hy433)] ?_
                    refine At.cd h (fun b434 h => ?_) (fun b434 h => ?_)
                    · exact At.rK [1, 2, 6, 7, 8, 9, 11, 13] [0, 1, 2, 3, 4] [] fun _ _ i => ⟨(0, false), h, i⟩
                    · refine At.nK (st' := ⟨[(1, i64 p1), (2, .ptr 0 0), (6, .row 1 ((List.set x229 (Int.toNat x228) (⟨true, y352.N, y352.Choose⟩ : T_retraceref20_Is))).length), (7, i64 x228), (8, .ptr 2 0), (9, .ptr 3 0), (11, i64 y422.1), (13, .ptr 4 0)], [.blk 27 (T_api_Code.pvs p0), .row 156 3 (encL T_retraceref20_Is.enc (List.set x229 (Int.toNat x228) (⟨true, y352.N, y352.Choose⟩ : T_retraceref20_Is))), .blk 50 (T_api_Ins.pvs y354), .blk 156 [bo true, i64 x372, bo x373], .blk 156 [bo true, i64 x372, bo x373]]⟩) [1, 2, 6, 7, 8, 9, 11, 13] [0, 1, 2, 3, 4] ?_
                      refine At.skip (fun _ _ i => ⟨(x372, x373), h, i⟩)
                  · rintro ⟨x427, x428⟩ h
                    replace h : F_retraceref20_Flow_J7 x228 x229 y352 y354 x372 x373 y422 x427 x428 = some oo230 := h
                    obtain ⟨y429, hy429, h⟩ := bs h
                    rcases y429 with y430 | y431
                    · exact At.rK [1, 2, 6, 7, 8, 9, 10] [0, 1, 2, 3] [cT 4 1 [1] (C_retraceref20_meets x228 y422.1 (⟨true, x427, x428⟩ : T_retraceref20_Is) (List.set x229 (Int.toNat x228) (⟨true, y352.N, y352.Choose⟩ : T_retraceref20_Is)) (.inl y430) hy429)] fun _ _ i => ⟨(y430.2, y430.1), h, i⟩
                    · exact At.rK [1, 2, 6, 7, 8, 9, 10] [0, 5, 2, 3] [cT 4 1 [1, 5] (C_retraceref20_meets x228 y422.1 (⟨true, x427, x428⟩ : T_retraceref20_Is) (List.set x229 (Int.toNat x228) (⟨true, y352.N, y352.Choose⟩ : T_retraceref20_Is)) (.inr y431) hy429)] fun _ _ i => ⟨(y431.2, y431.1), h, i⟩
                · refine At.nR [1, 2, 6, 7, 8, 9, 10] [0, 1, 2, 3] ?_
                  refine At.skip (fun _ _ i => ⟨(true, (List.set x229 (Int.toNat x228) (⟨true, y352.N, y352.Choose⟩ : T_retraceref20_Is))), h, i.en [] [1, 2, 6, 7, 8, 9, 10] [0, 1, 2, 3]⟩)
              · rintro ⟨x388, x389⟩ h
                replace h : F_retraceref20_Flow_J4 x228 y354 x372 x373 x388 x389 = some oo230 := h
                refine At.seq ?_
                refine At.sR [1, 2, 6, 7, 8, 9, 10, 116] [0, 1, 2, 3] [] ?_
                refine At.cd h (fun b391 h => ?_) (fun b391 h => ?_)
                · refine At.sR [4, 5] [1] [] ?_
                  obtain ⟨r392, h, e393⟩ := mr h
                  rw [f231 _ e393] at h
                  obtain rfl := sq h
                  exact At.ret (At.rR hR [0])
                · refine At.nR [1, 2, 6, 7, 8, 9, 10] [0, 1, 2, 3] ?_
                  refine At.skip (norm ?_)
                  refine At.seqJ (S := Bool × (List T_retraceref20_Is)) (fun s => ⟨[(1, i64 p1), (2, .ptr 0 0), (6, .row 1 (s.2).length), (7, i64 x228), (10, bo s.1)], [.blk 27 (T_api_Code.pvs p0), .row 156 3 (encL T_retraceref20_Is.enc s.2)]⟩) (fun s => F_retraceref20_Flow_J5 x228 s.1 s.2 = some oo230) ?_ ?_
                  · refine At.seqJ (S := Bool) (fun s => ⟨[(1, i64 p1), (2, .ptr 0 0), (6, .row 1 (x389).length), (7, i64 x228), (9, .ptr 2 0), (10, bo x388), (136, bo s)], [.blk 27 (T_api_Code.pvs p0), .row 156 3 (encL T_retraceref20_Is.enc x389), .blk 156 [bo true, i64 x372, bo x373]]⟩) (fun s => F_retraceref20_Flow_J6 x228 x372 x373 x388 x389 s = some oo230) ?_ ?_
                    · rcases cs h with ⟨b418, h⟩ | ⟨b418, h⟩
                      · rcases cs h with ⟨b419, h⟩ | ⟨b419, h⟩
                        · rcases cs h with ⟨b420, h⟩ | ⟨b420, h⟩
                          · exact At.rK [1, 2, 6, 7, 9, 10, 136] [0, 1, 3] [bT 3 b418, bT 8 b419, bT 13 b420] fun _ _ i => ⟨(y354.Op != 24), h, i⟩
                          · exact At.rK [1, 2, 6, 7, 9, 10, 136] [0, 1, 3] [bT 3 b418, bT 8 b419, bT 13 b420] fun _ _ i => ⟨false, h, i⟩
                        · exact At.rK [1, 2, 6, 7, 9, 10, 136] [0, 1, 3] [bT 3 b418, bT 8 b419] fun _ _ i => ⟨false, h, i⟩
                      · exact At.rK [1, 2, 6, 7, 9, 10, 136] [0, 1, 3] [bT 3 b418] fun _ _ i => ⟨false, h, i⟩
                    · intro x413 h
                      refine At.cd h (fun b414 h => ?_) (fun b414 h => ?_)
                      · obtain ⟨y415, hy415, h⟩ := bs h
                        rcases y415 with y416 | y417
                        · exact At.rK [1, 2, 6, 7, 10] [0, 1] [cT 5 1 [1] (C_retraceref20_meets x228 (w64 (x228 + 1)) (⟨true, x372, x373⟩ : T_retraceref20_Is) x389 (.inl y416) hy415)] fun _ _ i => ⟨(y416.2, y416.1), h, i⟩
                        · exact At.rK [1, 2, 6, 7, 10] [0, 3] [cT 5 1 [1, 3] (C_retraceref20_meets x228 (w64 (x228 + 1)) (⟨true, x372, x373⟩ : T_retraceref20_Is) x389 (.inr y417) hy415)] fun _ _ i => ⟨(y417.2, y417.1), h, i⟩
                      · refine At.nR [1, 2, 6, 7, 10] [0, 1] ?_
                        refine At.skip (fun _ _ i => ⟨(x388, x389), h, i.en [] [1, 2, 6, 7, 10] [0, 1]⟩)
                  · rintro ⟨x405, x406⟩ h
                    replace h : F_retraceref20_Flow_J5 x228 x405 x406 = some oo230 := h
                    refine At.sR [1, 2, 6, 7, 147] [0, 1] [] ?_
                    refine At.cd h (fun b407 h => ?_) (fun b407 h => ?_)
                    · refine At.sR [4, 5] [1] [] ?_
                      obtain ⟨r408, h, e409⟩ := mr h
                      rw [f231 _ e409] at h
                      obtain rfl := sq h
                      exact At.ret (At.rR hR [0])
                    · refine At.nR [1, 2, 6, 7] [0, 1] ?_
                      refine At.skip (fun _ _ i => ⟨x406, h, i.en [] [1, 2, 6, 7] [0, 1]⟩)
    · intro x337 h
      exact At.rK [1, 2, 6, 7] [0, 1] [] fun _ _ i => ⟨_, li h, i⟩
  · refine At.nR [6] [1] ?_
    obtain ⟨r443, h, e444⟩ := mr h
    rw [f231 _ e444] at h
    refine At.exit (norm ?_)
    refine At.sR [4, 5] [0] [] ?_
    obtain rfl := sq h
    exact At.ret (At.rR hR [0])
theorem C_retraceref20_Check (p0 : T_api_Code) (r : (List Int)) (h : F_retraceref20_Check p0 = some r) : FnOK Tryz.prog 27 [.agg (T_api_Code.pvs p0)] [] (.dagg (encL (eInt .i64) r)) [] [] := by
  refine fI Tryz.func27 rfl fun E gv R hR => ?_
  refine At.sR [1, 2] [0, 1] [] ?_
  refine At.seq ?_
  obtain ⟨y7, hy7, h⟩ := bs h
  refine At.sR [1, 2, 11] [0, 1] [c0 1 (C_retraceref20_tables p0 y7 hy7)] ?_
  refine At.cd h (fun b8 h => ?_) (fun b8 h => ?_)
  · obtain ⟨g10, h⟩ := gs h
    refine At.sR [2] [1] [oN 1 (allc (lenN (he_int .i64) ([0, 3] : List Int) g10.1) (allc (lenN (he_int .i64) (List.replicate 2 (0 : Int)) g10.2) all0))] ?_
    obtain ⟨g11, h⟩ := gs h
    obtain rfl := sq h
    exact At.ret (At.rQ hR [] (allc (lenN (he_int .i64) ([0, 3] : List Int) g11) all0))
  · refine At.nR [1, 2] [0, 1] ?_
    refine At.skip (norm ?_)
    refine At.sR [1, 2, 3] [0, 1] [] ?_
    refine At.seq ?_
    refine At.sR [1, 2, 3, 4] [0, 1] [] ?_
    refine At.block ?_
    refine At.nK (st' := ⟨[(1, .ptr 0 0), (2, .ptr 1 0), (3, i64 0), (4, i64 0)], [.blk 27 (T_api_Code.pvs p0), .dblk 71 (encL (eInt .i64) (List.replicate 2 (0 : Int)))]⟩) [1, 2, 3, 4] [0, 1] ?_
    refine At.lp (fun s : (Int × Int) => ⟨[(1, .ptr 0 0), (2, .ptr 1 0), (3, i64 s.1), (4, i64 s.2)], [.blk 27 (T_api_Code.pvs p0), .dblk 71 (encL (eInt .i64) (List.replicate 2 (0 : Int)))]⟩) h ?_
    rintro ⟨x108, x109⟩ oo110 h f111
    replace h : F_retraceref20_Check_L4 p0 x108 x109 = some oo110 := h
    refine At.seq ?_
    refine At.sR [1, 2, 3, 4, 17] [0, 1] [] ?_
    refine At.cd h (fun b113 h => ?_) (fun b113 h => ?_)
    · refine At.nR [1, 2, 3, 4] [0, 1] ?_
      refine At.skip (norm ?_)
      refine At.seq ?_
      refine At.block ?_
      obtain ⟨y158, hy158, h⟩ := bs h
      refine At.sR [1, 2, 3, 4, 5] [0, 1] [eT T_api_Def.enc_len 3 hy158] ?_
      refine At.block ?_
      refine At.nK (st' := ⟨[(1, .ptr 0 0), (2, .ptr 1 0), (3, i64 x108), (4, i64 x109), (5, i64 y158.Entry)], [.blk 27 (T_api_Code.pvs p0), .dblk 71 (encL (eInt .i64) (List.replicate 2 (0 : Int)))]⟩) [1, 2, 3, 4, 5] [0, 1] ?_
      refine At.lp (fun s : (Int × Int) => ⟨[(1, .ptr 0 0), (2, .ptr 1 0), (3, i64 s.1), (4, i64 x109), (5, i64 s.2)], [.blk 27 (T_api_Code.pvs p0), .dblk 71 (encL (eInt .i64) (List.replicate 2 (0 : Int)))]⟩) h ?_
      rintro ⟨x159, x160⟩ oo161 h f162
      replace h : F_retraceref20_Check_L2 p0 x109 x159 x160 = some oo161 := h
      refine At.seq ?_
      obtain ⟨y167, hy167, h⟩ := bs h
      refine At.sR [1, 2, 3, 4, 5, 30] [0, 1] [c0 3 (C_retraceref20_To p0 x109 y167 hy167)] ?_
      refine At.cd h (fun b168 h => ?_) (fun b168 h => ?_)
      · refine At.nR [1, 2, 3, 4, 5] [0, 1] ?_
        refine At.skip (norm ?_)
        refine At.seqJ (S := Int) (fun s => ⟨[(1, .ptr 0 0), (2, .ptr 1 0), (3, i64 s), (4, i64 x109), (5, i64 x160)], [.blk 27 (T_api_Code.pvs p0), .dblk 71 (encL (eInt .i64) (List.replicate 2 (0 : Int)))]⟩) (fun s => F_retraceref20_Check_J1 x160 s = some oo161) ?_ ?_
        · refine At.block ?_
          refine At.seq ?_
          obtain ⟨y189, hy189, h⟩ := bs h
          refine At.sR [1, 2, 3, 4, 5, 38] [0, 1] [c0 4 (C_retraceref20_may p0 x109 x160 x159 y189 hy189)] ?_
          refine At.cd h (fun b190 h => ?_) (fun b190 h => ?_)
          · obtain ⟨g192, h⟩ := gs h
            refine At.sR [2] [1] [oN 2 (allc (lenN (he_int .i64) ([x160, 15] : List Int) g192.1) (allc (lenN (he_int .i64) (List.replicate 2 (0 : Int)) g192.2) all0))] ?_
            obtain ⟨r193, h, e194⟩ := mr h
            rw [f162 _ e194] at h
            obtain ⟨r195, h, e196⟩ := mr h
            rw [f111 _ e196] at h
            obtain ⟨g197, h⟩ := gs h
            obtain rfl := sq h
            exact At.ret (At.rQ hR [] (allc (lenN (he_int .i64) ([x160, 15] : List Int) g197) all0))
          · refine At.nR [1, 2, 3, 4, 5] [0, 1] ?_
            refine At.skip (norm ?_)
            obtain ⟨y199, hy199, h⟩ := bs h
            refine At.sR [1, 2, 3, 4, 5, 47] [0, 1] [eT T_api_Ins.enc_len 3 hy199] ?_
            refine At.cd h (fun b200 h => ?_) (fun b200 h => ?_)
            · exact At.rK [1, 2, 3, 4, 5] [0, 1] [] fun _ _ i => ⟨(w64 (x159 + 1)), h, i⟩
            · refine At.nK (st' := ⟨[(1, .ptr 0 0), (2, .ptr 1 0), (3, i64 x159), (4, i64 x109), (5, i64 x160)], [.blk 27 (T_api_Code.pvs p0), .dblk 71 (encL (eInt .i64) (List.replicate 2 (0 : Int)))]⟩) [1, 2, 3, 4, 5] [0, 1] ?_
              refine At.skip (fun _ _ i => ⟨x159, h, i⟩)
        · intro x182 h
          exact At.rK [1, 2, 3, 4, 5] [0, 1] [] fun _ _ i => ⟨_, li h, i⟩
      · refine At.nR [1, 2, 3, 4] [0, 1] ?_
        obtain ⟨r201, h, e202⟩ := mr h
        rw [f162 _ e202] at h
        refine At.exit (norm ?_)
        exact At.rK [1, 2, 3, 4] [0, 1] [] fun _ _ i => ⟨_, li h, i⟩
    · refine At.nR [1, 2, 3] [0, 1] ?_
      obtain ⟨r203, h, e204⟩ := mr h
      rw [f111 _ e204] at h
      refine At.exit (norm ?_)
      refine At.seq ?_
      refine At.sR [1, 2, 53] [0, 1] [] ?_
      refine At.cd h (fun b208 h => ?_) (fun b208 h => ?_)
      · obtain ⟨g210, h⟩ := gs h
        refine At.sR [2] [1] [oN 1 (allc (lenN (he_int .i64) ([0, 3] : List Int) g210.1) (allc (lenN (he_int .i64) (List.replicate 2 (0 : Int)) g210.2) all0))] ?_
        obtain ⟨g211, h⟩ := gs h
        obtain rfl := sq h
        exact At.ret (At.rQ hR [] (allc (lenN (he_int .i64) ([0, 3] : List Int) g211) all0))
      · refine At.nR [1, 2] [0, 1] ?_
        refine At.skip (norm ?_)
        refine At.seq ?_
        refine At.sR [1, 2, 6] [0, 1] [] ?_
        refine At.block ?_
        refine At.nK (st' := ⟨[(1, .ptr 0 0), (2, .ptr 1 0), (6, i64 0)], [.blk 27 (T_api_Code.pvs p0), .dblk 71 (encL (eInt .i64) (List.replicate 2 (0 : Int)))]⟩) [1, 2, 6] [0, 1] ?_
        refine At.lp (fun s : (Int) => ⟨[(1, .ptr 0 0), (2, .ptr 1 0), (6, i64 s)], [.blk 27 (T_api_Code.pvs p0), .dblk 71 (encL (eInt .i64) (List.replicate 2 (0 : Int)))]⟩) h ?_
        intro x231 oo232 h f233
        replace h : F_retraceref20_Check_L3 p0 x231 = some oo232 := h
        refine At.seq ?_
        refine At.sR [1, 2, 6, 59] [0, 1] [] ?_
        refine At.cd h (fun b235 h => ?_) (fun b235 h => ?_)
        · refine At.nR [1, 2, 6] [0, 1] ?_
          refine At.skip (norm ?_)
          refine At.seq ?_
          refine At.block ?_
          obtain ⟨y242, hy242, h⟩ := bs h
          refine At.sR [1, 2, 6, 8] [0, 1] [cT 2 0 [2] (C_retraceref20_Flow p0 x231 y242 hy242)] ?_
          refine At.sR [1, 2, 6, 8, 69] [0, 1] [] ?_
          refine At.cd h (fun b243 h => ?_) (fun b243 h => ?_)
          · obtain ⟨g245, h⟩ := gs h
            refine At.sR [2] [1] [oN 2 (allc (lenN (he_int .i64) ([y242.2, 14] : List Int) g245.1) (allc (lenN (he_int .i64) (List.replicate 2 (0 : Int)) g245.2) all0))] ?_
            obtain ⟨r246, h, e247⟩ := mr h
            rw [f233 _ e247] at h
            obtain ⟨g248, h⟩ := gs h
            obtain rfl := sq h
            exact At.ret (At.rQ hR [] (allc (lenN (he_int .i64) ([y242.2, 14] : List Int) g248) all0))
          · refine At.nR [1, 2, 6] [0, 1] ?_
            refine At.skip (norm ?_)
            exact At.rK [1, 2, 6] [0, 1] [] fun _ _ i => ⟨_, li h, i⟩
        · refine At.nR [2] [1] ?_
          obtain ⟨r249, h, e250⟩ := mr h
          rw [f233 _ e250] at h
          refine At.exit (norm ?_)
          obtain ⟨g252, h⟩ := gs h
          refine At.sR [2] [0] [oN 1 (allc (lenN (he_int .i64) ([0, 0] : List Int) g252.1) (allc (lenN (he_int .i64) (List.replicate 2 (0 : Int)) g252.2) all0))] ?_
          obtain ⟨g253, h⟩ := gs h
          obtain rfl := sq h
          exact At.ret (At.rQ hR [] (allc (lenN (he_int .i64) ([0, 0] : List Int) g253) all0))
theorem C_retraceref20_Right (p0 : T_api_Code) (r : Bool) (h : F_retraceref20_Right p0 = some r) : FnOK Tryz.prog 10 [.agg (T_api_Code.pvs p0)] [] (bo r) [] [] := by
  refine fI Tryz.func10 rfl fun E gv R hR => ?_
  refine At.sR [1] [0] [] ?_
  obtain ⟨y3, hy3, h⟩ := bs h
  obtain ⟨g4, h⟩ := gs h
  refine At.sR [2] [] [c0 1 (C_retraceref20_Check p0 y3 hy3), tT 3 ({ orc := .val (.bool (y3 == ([0, 0] : List Int))) }) (allc (eqTwo_ok .i64 g4) (allc (twoOK .i64 g4) all0))] ?_
  obtain rfl := sq h
  exact At.ret (At.rR hR [])
theorem C_retraceref22_from (p0 : Int) (p1 : Int) (r : Bool) (h : F_retraceref22_from p0 p1 = some r) : FnOK Tryz.prog 28 [i64 p0, i64 p1] [] (bo r) [] [] := by
  refine fI Tryz.func28 rfl fun E gv R hR => ?_
  refine At.sR [0, 1] [] [] ?_
  refine At.seqJ (S := Bool) (fun s => ⟨[(4, bo s)], []⟩) (fun s => F_retraceref22_from_J1 s = some r) ?_ ?_
  · rcases cs h with ⟨b3, h⟩ | ⟨b3, h⟩
    · exact At.rK [4] [] [bT 2 b3] fun _ _ i => ⟨(decide (p0 < p1)), h, i⟩
    · exact At.rK [4] [] [bT 2 b3] fun _ _ i => ⟨false, h, i⟩
  · intro x2 h
    obtain rfl := sq h
    exact At.ret (At.rR hR [])
theorem C_retraceref20_Routine (p0 : T_api_Code) (p1 : Int) (r : Int) (h : F_retraceref20_Routine p0 p1 = some r) : FnOK Tryz.prog 62 [.agg (T_api_Code.pvs p0), i64 p1] [] (i64 r) [] [] := by
  refine fI Tryz.func62 rfl fun E gv R hR => ?_
  refine At.sR [1, 2] [0] [] ?_
  refine At.sR [1, 2, 5] [0] [] ?_
  refine At.seq ?_
  refine At.sR [1, 2, 5, 6] [0] [] ?_
  refine At.block ?_
  refine At.nK (st' := ⟨[(1, i64 p1), (2, .ptr 0 0), (5, i64 (-1)), (6, i64 0)], [.blk 27 (T_api_Code.pvs p0)]⟩) [1, 2, 5, 6] [0] ?_
  refine At.lp (fun s : (Int × Int) => ⟨[(1, i64 p1), (2, .ptr 0 0), (5, i64 s.1), (6, i64 s.2)], [.blk 27 (T_api_Code.pvs p0)]⟩) h ?_
  rintro ⟨x26, x27⟩ oo28 h f29
  replace h : F_retraceref20_Routine_L3 p0 p1 x26 x27 = some oo28 := h
  refine At.seq ?_
  refine At.seqJ (S := Bool) (fun s => ⟨[(1, i64 p1), (2, .ptr 0 0), (5, i64 x26), (6, i64 x27), (22, bo s)], [.blk 27 (T_api_Code.pvs p0)]⟩) (fun s => F_retraceref20_Routine_J1 p0 p1 x26 x27 s = some oo28) ?_ ?_
  · rcases cs h with ⟨b49, h⟩ | ⟨b49, h⟩
    · rcases cs h with ⟨b50, h⟩ | ⟨b50, h⟩
      · exact At.rK [1, 2, 5, 6, 22] [0] [bT 5 b49, bT 9 b50] fun _ _ i => ⟨(decide (p1 < ((p0.Ins).length : Int))), h, i⟩
      · exact At.rK [1, 2, 5, 6, 22] [0] [bT 5 b49, bT 9 b50] fun _ _ i => ⟨false, h, i⟩
    · exact At.rK [1, 2, 5, 6, 22] [0] [bT 5 b49] fun _ _ i => ⟨false, h, i⟩
  · intro x38 h
    refine At.cd h (fun b39 h => ?_) (fun b39 h => ?_)
    · refine At.nR [1, 2, 5, 6] [0] ?_
      refine At.skip (norm ?_)
      refine At.seqJ (S := Int) (fun s => ⟨[(1, i64 p1), (2, .ptr 0 0), (5, i64 s), (6, i64 x27)], [.blk 27 (T_api_Code.pvs p0)]⟩) (fun s => F_retraceref20_Routine_J2 x27 s = some oo28) ?_ ?_
      · refine At.block ?_
        obtain ⟨y45, hy45, h⟩ := bs h
        refine At.sR [1, 2, 5, 6, 32] [0] [eT T_api_Def.enc_len 3 hy45] ?_
        refine At.cd h (fun b46 h => ?_) (fun b46 h => ?_)
        · exact At.rK [1, 2, 5, 6] [0] [] fun _ _ i => ⟨x27, h, i⟩
        · refine At.nR [1, 2, 5, 6] [0] ?_
          refine At.skip (fun _ _ i => ⟨x26, h, i.en [] [1, 2, 5, 6] [0]⟩)
      · intro x43 h
        exact At.rK [1, 2, 5, 6] [0] [] fun _ _ i => ⟨_, li h, i⟩
    · refine At.nR [5] [] ?_
      obtain ⟨r47, h, e48⟩ := mr h
      rw [f29 _ e48] at h
      refine At.exit (norm ?_)
      refine At.sR [4] [] [] ?_
      obtain rfl := sq h
      exact At.ret (At.rR hR [])
theorem C_retraceref22_is (p0 : T_api_Code) (p1 : Int) (p2 : Int) (p3 : Int) (r : Bool) (h : F_retraceref22_is p0 p1 p2 p3 = some r) : FnOK Tryz.prog 29 [.agg (T_api_Code.pvs p0), i64 p1, i64 p2, i64 p3] [] (bo r) [] [] := by
  refine fI Tryz.func29 rfl fun E gv R hR => ?_
  refine At.sR [1, 2, 3, 4] [0] [] ?_
  refine At.seqJ (S := Bool) (fun s => ⟨[(8, bo s)], []⟩) (fun s => F_retraceref22_is_J1 s = some r) ?_ ?_
  · obtain ⟨y6, hy6, h⟩ := bs h
    rcases cs h with ⟨b7, h⟩ | ⟨b7, h⟩
    · rcases cs h with ⟨b8, h⟩ | ⟨b8, h⟩
      · obtain ⟨y9, hy9, h⟩ := bs h
        exact At.rK [8] [] [c0 2 (C_retraceref20_Routine p0 p2 y6 hy6), bT 5 b7, bT 9 b8, eT T_api_Ins.enc_len 13 hy9] fun _ _ i => ⟨(y9.Op == p3), h, i⟩
      · exact At.rK [8] [] [c0 2 (C_retraceref20_Routine p0 p2 y6 hy6), bT 5 b7, bT 9 b8] fun _ _ i => ⟨false, h, i⟩
    · exact At.rK [8] [] [c0 2 (C_retraceref20_Routine p0 p2 y6 hy6), bT 5 b7] fun _ _ i => ⟨false, h, i⟩
  · intro x5 h
    obtain rfl := sq h
    exact At.ret (At.rR hR [])
theorem C_retraceref22_Rests (p0 : T_api_Code) (p1 : Int) (p2 : Int) (r : Bool) (h : F_retraceref22_Rests p0 p1 p2 = some r) : FnOK Tryz.prog 15 [.agg (T_api_Code.pvs p0), i64 p1, i64 p2] [] (bo r) [] [] := by
  refine fI Tryz.func15 rfl fun E gv R hR => ?_
  refine At.sR [1, 2, 3] [0] [] ?_
  refine At.seqJ (S := Bool) (fun s => ⟨[(6, bo s)], []⟩) (fun s => F_retraceref22_Rests_J1 s = some r) ?_ ?_
  · obtain ⟨y5, hy5, h⟩ := bs h
    rcases cs h with ⟨b6, h⟩ | ⟨b6, h⟩
    · exact At.rK [6] [] [c0 3 (C_retraceref22_is p0 p1 p2 1 y5 hy5), bT 4 b6] fun _ _ i => ⟨true, h, i⟩
    · obtain ⟨y7, hy7, h⟩ := bs h
      exact At.rK [6] [] [c0 3 (C_retraceref22_is p0 p1 p2 1 y5 hy5), bT 4 b6, c0 8 (C_retraceref22_is p0 p1 p2 24 y7 hy7)] fun _ _ i => ⟨y7, h, i⟩
  · intro x4 h
    obtain rfl := sq h
    exact At.ret (At.rR hR [])
theorem C_retraceref22_Chans (p0 : T_api_Code) (r : Int) (h : F_retraceref22_Chans p0 = some r) : FnOK Tryz.prog 30 [.agg (T_api_Code.pvs p0)] [] (i64 r) [] [] := by
  refine fI Tryz.func30 rfl fun E gv R hR => ?_
  refine At.sR [1] [0] [] ?_
  refine At.sR [1, 3] [0] [] ?_
  refine At.seq ?_
  refine At.sR [1, 3, 4] [0] [] ?_
  refine At.block ?_
  refine At.nK (st' := ⟨[(1, .ptr 0 0), (3, i64 0), (4, i64 0)], [.blk 27 (T_api_Code.pvs p0)]⟩) [1, 3, 4] [0] ?_
  refine At.lp (fun s : (Int × Int) => ⟨[(1, .ptr 0 0), (3, i64 s.1), (4, i64 s.2)], [.blk 27 (T_api_Code.pvs p0)]⟩) h ?_
  rintro ⟨x18, x19⟩ oo20 h f21
  replace h : F_retraceref22_Chans_L2 p0 x18 x19 = some oo20 := h
  refine At.seq ?_
  refine At.sR [1, 3, 4, 9] [0] [] ?_
  refine At.cd h (fun b23 h => ?_) (fun b23 h => ?_)
  · refine At.nR [1, 3, 4] [0] ?_
    refine At.skip (norm ?_)
    refine At.seqJ (S := Int) (fun s => ⟨[(1, .ptr 0 0), (3, i64 s), (4, i64 x19)], [.blk 27 (T_api_Code.pvs p0)]⟩) (fun s => F_retraceref22_Chans_J1 x19 s = some oo20) ?_ ?_
    · refine At.block ?_
      obtain ⟨y30, hy30, h⟩ := bs h
      refine At.sR [1, 3, 4, 18] [0] [eT T_api_Chan.enc_len 3 hy30] ?_
      refine At.cd h (fun b31 h => ?_) (fun b31 h => ?_)
      · obtain ⟨y32, hy32, h⟩ := bs h
        exact At.rK [1, 3, 4] [0] [eT T_api_Chan.enc_len 4 hy32] fun _ _ i => ⟨(w64 (x18 + y32.Size)), h, i⟩
      · exact At.rK [1, 3, 4] [0] [] fun _ _ i => ⟨(w64 (x18 + 1)), h, i⟩
    · intro x28 h
      exact At.rK [1, 3, 4] [0] [] fun _ _ i => ⟨_, li h, i⟩
  · refine At.nR [3] [] ?_
    obtain ⟨r33, h, e34⟩ := mr h
    rw [f21 _ e34] at h
    refine At.exit (norm ?_)
    refine At.sR [2] [] [] ?_
    obtain rfl := sq h
    exact At.ret (At.rR hR [])
theorem C_retraceref22_alt (p0 : T_api_Code) (p1 : T_api_Proc) (p2 : T_api_Alt) (r : Bool) (h : F_retraceref22_alt p0 p1 p2 = some r) : FnOK Tryz.prog 31 [.agg (T_api_Code.pvs p0), .agg (T_api_Proc.pvs p1), .agg (T_api_Alt.pvs p2)] [] (bo r) [] [] := by
  refine fI Tryz.func31 rfl fun E gv R hR => ?_
  refine At.sR [3, 4, 5] [0, 1, 2] [] ?_
  refine At.seq ?_
  obtain ⟨y5, hy5, h⟩ := bs h
  refine At.sR [3, 4, 5, 13] [0, 1, 2] [c0 5 (C_retraceref22_Rests p0 p1.Def p2.Goto y5 hy5)] ?_
  refine At.cd h (fun b6 h => ?_) (fun b6 h => ?_)
  · refine At.sR [6] [] [] ?_
    obtain rfl := sq h
    exact At.ret (At.rR hR [])
  · refine At.nR [3, 4, 5] [0, 1, 2] ?_
    refine At.skip (norm ?_)
    refine At.seq ?_
    refine At.sR [3, 4, 5, 15] [0, 1, 2] [] ?_
    refine At.block ?_
    refine At.sR [3, 4, 5, 15, 16] [0, 1, 2] [] ?_
    refine At.cd h (fun b35 h => ?_) (fun b35 h => ?_)
    · refine At.seqJ (S := Bool) (fun s => ⟨[(6, bo s)], []⟩) (fun s => F_retraceref22_alt_J1 s = some r) ?_ ?_
      · obtain ⟨y42, hy42, h⟩ := bs h
        obtain ⟨y43, hy43, h⟩ := bs h
        rcases cs h with ⟨b44, h⟩ | ⟨b44, h⟩
        · obtain ⟨y45, hy45, h⟩ := bs h
          rcases cs h with ⟨b46, h⟩ | ⟨b46, h⟩
          · exact At.dK 0 [6] [] [c0 3 (C_retraceref22_Chans p0 y42 hy42), c0 4 (C_retraceref22_from p2.Chan y42 y43 hy43), bT 5 b44, c0 11 (C_retraceref22_from p2.Slot ((p1.Vars).length : Int) y45 hy45), bT 13 b46] fun _ _ i => ⟨(p2.Val == 0), h, i⟩
          · exact At.dK 0 [6] [] [c0 3 (C_retraceref22_Chans p0 y42 hy42), c0 4 (C_retraceref22_from p2.Chan y42 y43 hy43), bT 5 b44, c0 11 (C_retraceref22_from p2.Slot ((p1.Vars).length : Int) y45 hy45), bT 13 b46] fun _ _ i => ⟨false, h, i⟩
        · exact At.dK 0 [6] [] [c0 3 (C_retraceref22_Chans p0 y42 hy42), c0 4 (C_retraceref22_from p2.Chan y42 y43 hy43), bT 5 b44] fun _ _ i => ⟨false, h, i⟩
      · intro x41 h
        obtain rfl := sq h
        exact At.ret (At.rR hR [])
    · refine At.seq ?_
      refine At.rK (st' := ⟨[(3, .ptr 0 0), (5, .ptr 1 0), (15, i64 p2.Kind), (36, bo (p2.Kind == 2))], [.blk 27 (T_api_Code.pvs p0), .blk 47 (T_api_Alt.pvs p2)]⟩) [3, 5, 15, 36] [0, 2] [] (norm ?_)
      refine At.cd h (fun b47 h => ?_) (fun b47 h => ?_)
      · refine At.seqJ (S := Bool) (fun s => ⟨[(6, bo s)], []⟩) (fun s => F_retraceref22_alt_J2 s = some r) ?_ ?_
        · obtain ⟨y52, hy52, h⟩ := bs h
          obtain ⟨y53, hy53, h⟩ := bs h
          rcases cs h with ⟨b54, h⟩ | ⟨b54, h⟩
          · exact At.dK 0 [6] [] [c0 3 (C_retraceref22_Chans p0 y52 hy52), c0 4 (C_retraceref22_from p2.Chan y52 y53 hy53), bT 5 b54] fun _ _ i => ⟨(p2.Slot == 0), h, i⟩
          · exact At.dK 0 [6] [] [c0 3 (C_retraceref22_Chans p0 y52 hy52), c0 4 (C_retraceref22_from p2.Chan y52 y53 hy53), bT 5 b54] fun _ _ i => ⟨false, h, i⟩
        · intro x51 h
          obtain rfl := sq h
          exact At.ret (At.rR hR [])
      · refine At.sR [5, 48] [1] [] ?_
        refine At.cd h (fun b55 h => ?_) (fun b55 h => ?_)
        · refine At.seqJ (S := Bool) (fun s => ⟨[(6, bo s)], []⟩) (fun s => F_retraceref22_alt_J3 s = some r) ?_ ?_
          · obtain ⟨y60, hy60, h⟩ := bs h
            rcases cs h with ⟨b61, h⟩ | ⟨b61, h⟩
            · rcases cs h with ⟨b62, h⟩ | ⟨b62, h⟩
              · exact At.rK [6] [] [c0 2 (C_retraceref22_from p2.Val 1099511627777 y60 hy60), bT 3 b61, bT 8 b62] fun _ _ i => ⟨(p2.Slot == 0), h, i⟩
              · exact At.rK [6] [] [c0 2 (C_retraceref22_from p2.Val 1099511627777 y60 hy60), bT 3 b61, bT 8 b62] fun _ _ i => ⟨false, h, i⟩
            · exact At.rK [6] [] [c0 2 (C_retraceref22_from p2.Val 1099511627777 y60 hy60), bT 3 b61] fun _ _ i => ⟨false, h, i⟩
          · intro x59 h
            obtain rfl := sq h
            exact At.ret (At.rR hR [])
        · refine At.nR [] [] ?_
          refine At.skip (norm ?_)
          refine At.sR [6] [] [] ?_
          obtain rfl := sq h
          exact At.ret (At.rR hR [])
theorem C_retraceref22_Is (p0 : T_api_Code) (p1 : T_api_Proc) (r : Bool) (h : F_retraceref22_Is p0 p1 = some r) : FnOK Tryz.prog 11 [.agg (T_api_Code.pvs p0), .agg (T_api_Proc.pvs p1)] [] (bo r) [] [] := by
  refine fI Tryz.func11 rfl fun E gv R hR => ?_
  refine At.sR [2, 3] [0, 1] [] ?_
  refine At.seq ?_
  refine At.seqJ (S := Bool) (fun s => ⟨[(2, .ptr 0 0), (3, .ptr 1 0), (38, bo s)], [.blk 27 (T_api_Code.pvs p0), .blk 38 (T_api_Proc.pvs p1)]⟩) (fun s => F_retraceref22_Is_J1 p0 p1 s = some r) ?_ ?_
  · obtain ⟨y309, hy309, h⟩ := bs h
    rcases cs h with ⟨b310, h⟩ | ⟨b310, h⟩
    · exact At.dK 0 [2, 3, 38] [0, 1] [c0 5 (C_retraceref22_from p1.Def ((p0.Defs).length : Int) y309 hy309), bT 7 b310] fun _ _ i => ⟨true, h, i⟩
    · obtain ⟨y311, hy311, h⟩ := bs h
      rcases cs h with ⟨b312, h⟩ | ⟨b312, h⟩
      · exact At.dK 0 [2, 3, 38] [0, 1] [c0 5 (C_retraceref22_from p1.Def ((p0.Defs).length : Int) y309 hy309), bT 7 b310, eT T_api_Def.enc_len 15 hy311, bT 20 b312] fun _ _ i => ⟨true, h, i⟩
      · obtain ⟨y313, hy313, h⟩ := bs h
        rcases cs h with ⟨b314, h⟩ | ⟨b314, h⟩
        · exact At.dK 0 [2, 3, 38] [0, 1] [c0 5 (C_retraceref22_from p1.Def ((p0.Defs).length : Int) y309 hy309), bT 7 b310, eT T_api_Def.enc_len 15 hy311, bT 20 b312, c0 23 (C_retraceref22_from p1.Fuel 1048577 y313 hy313), bT 26 b314] fun _ _ i => ⟨true, h, i⟩
        · obtain ⟨y315, hy315, h⟩ := bs h
          exact At.dK 0 [2, 3, 38] [0, 1] [c0 5 (C_retraceref22_from p1.Def ((p0.Defs).length : Int) y309 hy309), bT 7 b310, eT T_api_Def.enc_len 15 hy311, bT 20 b312, c0 23 (C_retraceref22_from p1.Fuel 1048577 y313 hy313), bT 26 b314, c0 29 (C_retraceref22_from p1.Since 1099511627777 y315 hy315)] fun _ _ i => ⟨(!y315), h, i⟩
  · intro x24 h
    refine At.cd h (fun b25 h => ?_) (fun b25 h => ?_)
    · refine At.sR [4] [] [] ?_
      obtain rfl := sq h
      exact At.ret (At.rR hR [])
    · refine At.nR [2, 3] [0, 1] ?_
      refine At.skip (norm ?_)
      refine At.seqJ (S := Bool) (fun s => ⟨[(2, .ptr 0 0), (3, .ptr 1 0), (5, bo s)], [.blk 27 (T_api_Code.pvs p0), .blk 38 (T_api_Proc.pvs p1)]⟩) (fun s => F_retraceref22_Is_J2 p0 p1 s = some r) ?_ ?_
      · rcases cs h with ⟨b308, h⟩ | ⟨b308, h⟩
        · exact At.rK [2, 3, 5] [0, 1] [bT 3 b308] fun _ _ i => ⟨true, h, i⟩
        · exact At.rK [2, 3, 5] [0, 1] [bT 3 b308] fun _ _ i => ⟨(p1.Mode == 2), h, i⟩
      · intro x27 h
        refine At.seq ?_
        refine At.seqJ (S := Bool) (fun s => ⟨[(2, .ptr 0 0), (3, .ptr 1 0), (5, bo x27), (83, bo s)], [.blk 27 (T_api_Code.pvs p0), .blk 38 (T_api_Proc.pvs p1)]⟩) (fun s => F_retraceref22_Is_J3 p0 p1 x27 s = some r) ?_ ?_
        · rcases cs h with ⟨b286, h⟩ | ⟨b286, h⟩
          · rcases cs h with ⟨b287, h⟩ | ⟨b287, h⟩
            · exact At.rK [2, 3, 5, 83] [0, 1] [bT 2 b286, bT 7 b287] fun _ _ i => ⟨true, h, i⟩
            · rcases cs h with ⟨b288, h⟩ | ⟨b288, h⟩
              · rcases cs h with ⟨b289, h⟩ | ⟨b289, h⟩
                · exact At.rK [2, 3, 5, 83] [0, 1] [bT 2 b286, bT 7 b287, bT 11 b288, bT 17 b289] fun _ _ i => ⟨true, h, i⟩
                · rcases cs h with ⟨b290, h⟩ | ⟨b290, h⟩
                  · rcases cs h with ⟨b291, h⟩ | ⟨b291, h⟩
                    · exact At.rK [2, 3, 5, 83] [0, 1] [bT 2 b286, bT 7 b287, bT 11 b288, bT 17 b289, bT 21 b290, bT 27 b291] fun _ _ i => ⟨true, h, i⟩
                    · rcases cs h with ⟨b292, h⟩ | ⟨b292, h⟩
                      · exact At.rK [2, 3, 5, 83] [0, 1] [bT 2 b286, bT 7 b287, bT 11 b288, bT 17 b289, bT 21 b290, bT 27 b291, bT 31 b292] fun _ _ i => ⟨(p1.Until != 0), h, i⟩
                      · exact At.rK [2, 3, 5, 83] [0, 1] [bT 2 b286, bT 7 b287, bT 11 b288, bT 17 b289, bT 21 b290, bT 27 b291, bT 31 b292] fun _ _ i => ⟨false, h, i⟩
                  · rcases cs h with ⟨b293, h⟩ | ⟨b293, h⟩
                    · exact At.rK [2, 3, 5, 83] [0, 1] [bT 2 b286, bT 7 b287, bT 11 b288, bT 17 b289, bT 21 b290, bT 31 b293] fun _ _ i => ⟨(p1.Until != 0), h, i⟩
                    · exact At.rK [2, 3, 5, 83] [0, 1] [bT 2 b286, bT 7 b287, bT 11 b288, bT 17 b289, bT 21 b290, bT 31 b293] fun _ _ i => ⟨false, h, i⟩
              · rcases cs h with ⟨b294, h⟩ | ⟨b294, h⟩
                · rcases cs h with ⟨b295, h⟩ | ⟨b295, h⟩
                  · exact At.rK [2, 3, 5, 83] [0, 1] [bT 2 b286, bT 7 b287, bT 11 b288, bT 21 b294, bT 27 b295] fun _ _ i => ⟨true, h, i⟩
                  · rcases cs h with ⟨b296, h⟩ | ⟨b296, h⟩
                    · exact At.rK [2, 3, 5, 83] [0, 1] [bT 2 b286, bT 7 b287, bT 11 b288, bT 21 b294, bT 27 b295, bT 31 b296] fun _ _ i => ⟨(p1.Until != 0), h, i⟩
                    · exact At.rK [2, 3, 5, 83] [0, 1] [bT 2 b286, bT 7 b287, bT 11 b288, bT 21 b294, bT 27 b295, bT 31 b296] fun _ _ i => ⟨false, h, i⟩
                · rcases cs h with ⟨b297, h⟩ | ⟨b297, h⟩
                  · exact At.rK [2, 3, 5, 83] [0, 1] [bT 2 b286, bT 7 b287, bT 11 b288, bT 21 b294, bT 31 b297] fun _ _ i => ⟨(p1.Until != 0), h, i⟩
                  · exact At.rK [2, 3, 5, 83] [0, 1] [bT 2 b286, bT 7 b287, bT 11 b288, bT 21 b294, bT 31 b297] fun _ _ i => ⟨false, h, i⟩
          · rcases cs h with ⟨b298, h⟩ | ⟨b298, h⟩
            · rcases cs h with ⟨b299, h⟩ | ⟨b299, h⟩
              · exact At.rK [2, 3, 5, 83] [0, 1] [bT 2 b286, bT 11 b298, bT 17 b299] fun _ _ i => ⟨true, h, i⟩
              · rcases cs h with ⟨b300, h⟩ | ⟨b300, h⟩
                · rcases cs h with ⟨b301, h⟩ | ⟨b301, h⟩
                  · exact At.rK [2, 3, 5, 83] [0, 1] [bT 2 b286, bT 11 b298, bT 17 b299, bT 21 b300, bT 27 b301] fun _ _ i => ⟨true, h, i⟩
                  · rcases cs h with ⟨b302, h⟩ | ⟨b302, h⟩
                    · exact At.rK [2, 3, 5, 83] [0, 1] [bT 2 b286, bT 11 b298, bT 17 b299, bT 21 b300, bT 27 b301, bT 31 b302] fun _ _ i => ⟨(p1.Until != 0), h, i⟩
                    · exact At.rK [2, 3, 5, 83] [0, 1] [bT 2 b286, bT 11 b298, bT 17 b299, bT 21 b300, bT 27 b301, bT 31 b302] fun _ _ i => ⟨false, h, i⟩
                · rcases cs h with ⟨b303, h⟩ | ⟨b303, h⟩
                  · exact At.rK [2, 3, 5, 83] [0, 1] [bT 2 b286, bT 11 b298, bT 17 b299, bT 21 b300, bT 31 b303] fun _ _ i => ⟨(p1.Until != 0), h, i⟩
                  · exact At.rK [2, 3, 5, 83] [0, 1] [bT 2 b286, bT 11 b298, bT 17 b299, bT 21 b300, bT 31 b303] fun _ _ i => ⟨false, h, i⟩
            · rcases cs h with ⟨b304, h⟩ | ⟨b304, h⟩
              · rcases cs h with ⟨b305, h⟩ | ⟨b305, h⟩
                · exact At.rK [2, 3, 5, 83] [0, 1] [bT 2 b286, bT 11 b298, bT 21 b304, bT 27 b305] fun _ _ i => ⟨true, h, i⟩
                · rcases cs h with ⟨b306, h⟩ | ⟨b306, h⟩
                  · exact At.rK [2, 3, 5, 83] [0, 1] [bT 2 b286, bT 11 b298, bT 21 b304, bT 27 b305, bT 31 b306] fun _ _ i => ⟨(p1.Until != 0), h, i⟩
                  · exact At.rK [2, 3, 5, 83] [0, 1] [bT 2 b286, bT 11 b298, bT 21 b304, bT 27 b305, bT 31 b306] fun _ _ i => ⟨false, h, i⟩
              · rcases cs h with ⟨b307, h⟩ | ⟨b307, h⟩
                · exact At.rK [2, 3, 5, 83] [0, 1] [bT 2 b286, bT 11 b298, bT 21 b304, bT 31 b307] fun _ _ i => ⟨(p1.Until != 0), h, i⟩
                · exact At.rK [2, 3, 5, 83] [0, 1] [bT 2 b286, bT 11 b298, bT 21 b304, bT 31 b307] fun _ _ i => ⟨false, h, i⟩
        · intro x96 h
          refine At.cd h (fun b97 h => ?_) (fun b97 h => ?_)
          · refine At.sR [4] [] [] ?_
            obtain rfl := sq h
            exact At.ret (At.rR hR [])
          · refine At.nR [2, 3, 5] [0, 1] ?_
            refine At.skip (norm ?_)
            refine At.seq ?_
            refine At.seqJ (S := Bool) (fun s => ⟨[(2, .ptr 0 0), (3, .ptr 1 0), (106, bo s)], [.blk 27 (T_api_Code.pvs p0), .blk 38 (T_api_Proc.pvs p1)]⟩) (fun s => F_retraceref22_Is_J4 p0 p1 s = some r) ?_ ?_
            · rcases cs h with ⟨b280, h⟩ | ⟨b280, h⟩
              · rcases cs h with ⟨b281, h⟩ | ⟨b281, h⟩
                · rcases cs h with ⟨b282, h⟩ | ⟨b282, h⟩
                  · exact At.rK [2, 3, 106] [0, 1] [bT 2 b280, bT 7 b281, bT 12 b282] fun _ _ i => ⟨true, h, i⟩
                  · rcases cs h with ⟨b283, h⟩ | ⟨b283, h⟩
                    · exact At.rK [2, 3, 106] [0, 1] [bT 2 b280, bT 7 b281, bT 12 b282, bT 16 b283] fun _ _ i => ⟨(decide (0 < ((p1.Alts).length : Int))), h, i⟩
                    · exact At.rK [2, 3, 106] [0, 1] [bT 2 b280, bT 7 b281, bT 12 b282, bT 16 b283] fun _ _ i => ⟨false, h, i⟩
                · rcases cs h with ⟨b284, h⟩ | ⟨b284, h⟩
                  · exact At.rK [2, 3, 106] [0, 1] [bT 2 b280, bT 7 b281, bT 16 b284] fun _ _ i => ⟨(decide (0 < ((p1.Alts).length : Int))), h, i⟩
                  · exact At.rK [2, 3, 106] [0, 1] [bT 2 b280, bT 7 b281, bT 16 b284] fun _ _ i => ⟨false, h, i⟩
              · rcases cs h with ⟨b285, h⟩ | ⟨b285, h⟩
                · exact At.rK [2, 3, 106] [0, 1] [bT 2 b280, bT 16 b285] fun _ _ i => ⟨(decide (0 < ((p1.Alts).length : Int))), h, i⟩
                · exact At.rK [2, 3, 106] [0, 1] [bT 2 b280, bT 16 b285] fun _ _ i => ⟨false, h, i⟩
            · intro x118 h
              refine At.cd h (fun b119 h => ?_) (fun b119 h => ?_)
              · refine At.sR [4] [] [] ?_
                obtain rfl := sq h
                exact At.ret (At.rR hR [])
              · refine At.nR [2, 3] [0, 1] ?_
                refine At.skip (norm ?_)
                refine At.seq ?_
                refine At.sR [2, 3, 108] [0, 1] [] ?_
                refine At.block ?_
                refine At.seqJ (S := Bool) (fun s => ⟨[(2, .ptr 0 0), (3, .ptr 1 0), (108, i64 p1.Mode), (109, bo s)], [.blk 27 (T_api_Code.pvs p0), .blk 38 (T_api_Proc.pvs p1)]⟩) (fun s => F_retraceref22_Is_J5 p0 p1 s = some r) ?_ ?_
                · refine At.sR [2, 3, 108, 109] [0, 1] [] ?_
                  refine At.cd h (fun b279 h => ?_) (fun b279 h => ?_)
                  · refine At.skip (fun _ _ i => ⟨(p1.Mode == 0), h, i.en [] [2, 3, 108, 109] [0, 1]⟩)
                  · exact At.rK [2, 3, 108, 109] [0, 1] [] fun _ _ i => ⟨(p1.Mode == 6), h, i⟩
                · intro x201 h
                  refine At.cd h (fun b202 h => ?_) (fun b202 h => ?_)
                  · obtain ⟨y204, hy204, h⟩ := bs h
                    refine At.sR [4] [] [c0 5 (C_retraceref22_is p0 p1.Def p1.At 1 y204 hy204)] ?_
                    obtain rfl := sq h
                    exact At.ret (At.rR hR [])
                  · refine At.sR [2, 3, 108, 118] [0, 1] [] ?_
                    refine At.cd h (fun b205 h => ?_) (fun b205 h => ?_)
                    · refine At.seqJ (S := Bool) (fun s => ⟨[(4, bo s)], []⟩) (fun s => F_retraceref22_Is_J6 s = some r) ?_ ?_
                      · obtain ⟨y211, hy211, h⟩ := bs h
                        rcases cs h with ⟨b212, h⟩ | ⟨b212, h⟩
                        · obtain ⟨y213, hy213, h⟩ := bs h
                          obtain ⟨y214, hy214, h⟩ := bs h
                          exact At.dK 0 [4] [] [c0 5 (C_retraceref22_Rests p0 p1.Def p1.At y211 hy211), bT 6 b212, c0 10 (C_retraceref22_Chans p0 y213 hy213), c0 11 (C_retraceref22_from p1.Chan y213 y214 hy214)] fun _ _ i => ⟨y214, h, i⟩
                        · exact At.dK 0 [4] [] [c0 5 (C_retraceref22_Rests p0 p1.Def p1.At y211 hy211), bT 6 b212] fun _ _ i => ⟨false, h, i⟩
                      · intro x210 h
                        obtain rfl := sq h
                        exact At.ret (At.rR hR [])
                    · refine At.sR [2, 3, 108, 133] [0, 1] [] ?_
                      refine At.cd h (fun b215 h => ?_) (fun b215 h => ?_)
                      · refine At.seqJ (S := Bool) (fun s => ⟨[(4, bo s)], []⟩) (fun s => F_retraceref22_Is_J7 s = some r) ?_ ?_
                        · obtain ⟨y223, hy223, h⟩ := bs h
                          rcases cs h with ⟨b224, h⟩ | ⟨b224, h⟩
                          · obtain ⟨y225, hy225, h⟩ := bs h
                            obtain ⟨y226, hy226, h⟩ := bs h
                            rcases cs h with ⟨b227, h⟩ | ⟨b227, h⟩
                            · obtain ⟨y228, hy228, h⟩ := bs h
                              exact At.dK 0 [4] [] [c0 5 (C_retraceref22_Rests p0 p1.Def p1.At y223 hy223), bT 6 b224, c0 10 (C_retraceref22_Chans p0 y225 hy225), c0 11 (C_retraceref22_from p1.Chan y225 y226 hy226), bT 13 b227, c0 19 (C_retraceref22_from p1.Slot ((p1.Vars).length : Int) y228 hy228)] fun _ _ i => ⟨y228, h, i⟩
                            · exact At.dK 0 [4] [] [c0 5 (C_retraceref22_Rests p0 p1.Def p1.At y223 hy223), bT 6 b224, c0 10 (C_retraceref22_Chans p0 y225 hy225), c0 11 (C_retraceref22_from p1.Chan y225 y226 hy226), bT 13 b227] fun _ _ i => ⟨false, h, i⟩
                          · exact At.dK 0 [4] [] [c0 5 (C_retraceref22_Rests p0 p1.Def p1.At y223 hy223), bT 6 b224] fun _ _ i => ⟨false, h, i⟩
                        · intro x222 h
                          obtain rfl := sq h
                          exact At.ret (At.rR hR [])
                      · refine At.sR [2, 3, 108, 156] [0, 1] [] ?_
                        refine At.cd h (fun b229 h => ?_) (fun b229 h => ?_)
                        · refine At.seqJ (S := Bool) (fun s => ⟨[(4, bo s)], []⟩) (fun s => F_retraceref22_Is_J8 s = some r) ?_ ?_
                          · obtain ⟨y234, hy234, h⟩ := bs h
                            rcases cs h with ⟨b235, h⟩ | ⟨b235, h⟩
                            · obtain ⟨y236, hy236, h⟩ := bs h
                              exact At.rK [4] [] [c0 5 (C_retraceref22_Rests p0 p1.Def p1.At y234 hy234), bT 6 b235, c0 9 (C_retraceref22_from p1.Until 1099511627777 y236 hy236)] fun _ _ i => ⟨y236, h, i⟩
                            · exact At.rK [4] [] [c0 5 (C_retraceref22_Rests p0 p1.Def p1.At y234 hy234), bT 6 b235] fun _ _ i => ⟨false, h, i⟩
                          · intro x233 h
                            obtain rfl := sq h
                            exact At.ret (At.rR hR [])
                        · refine At.sR [2, 3, 108, 169] [0, 1] [] ?_
                          refine At.cd h (fun b237 h => ?_) (fun b237 h => ?_)
                          · refine At.sR [4] [] [] ?_
                            obtain rfl := sq h
                            exact At.ret (At.rR hR [])
                          · refine At.sR [2, 3, 174] [0, 1] [] ?_
                            refine At.cd h (fun b238 h => ?_) (fun b238 h => ?_)
                            · refine At.seq ?_
                              refine At.seq ?_
                              refine At.rK (st' := ⟨[(2, .ptr 0 0), (3, .ptr 1 0), (6, i64 0)], [.blk 27 (T_api_Code.pvs p0), .blk 38 (T_api_Proc.pvs p1)]⟩) [2, 3, 6] [0, 1] [] (norm ?_)
                              refine At.block ?_
                              refine At.lp (fun s : (Int) => ⟨[(2, .ptr 0 0), (3, .ptr 1 0), (6, i64 s)], [.blk 27 (T_api_Code.pvs p0), .blk 38 (T_api_Proc.pvs p1)]⟩) h ?_
                              intro x258 oo259 h f260
                              replace h : F_retraceref22_Is_L9 p0 p1 x258 = some oo259 := h
                              refine At.seq ?_
                              refine At.sR [2, 3, 6, 180] [0, 1] [] ?_
                              refine At.cd h (fun b262 h => ?_) (fun b262 h => ?_)
                              · refine At.nR [2, 3, 6] [0, 1] ?_
                                refine At.skip (norm ?_)
                                refine At.seq ?_
                                refine At.block ?_
                                obtain ⟨y270, hy270, h⟩ := bs h
                                obtain ⟨y271, hy271, h⟩ := bs h
                                refine At.sD 0 [2, 3, 6, 191] [0, 1] [eT T_api_Alt.enc_len 5 hy270, c0 7 (C_retraceref22_alt p0 p1 y270 y271 hy271)] ?_
                                refine At.cd h (fun b272 h => ?_) (fun b272 h => ?_)
                                · refine At.sR [4] [] [] ?_
                                  obtain ⟨r273, h, e274⟩ := mr h
                                  rw [f260 _ e274] at h
                                  obtain rfl := sq h
                                  exact At.ret (At.rR hR [])
                                · refine At.nR [2, 3, 6] [0, 1] ?_
                                  refine At.skip (norm ?_)
                                  exact At.rK [2, 3, 6] [0, 1] [] fun _ _ i => ⟨_, li h, i⟩
                              · refine At.nR [2, 3] [0, 1] ?_
                                obtain ⟨r275, h, e276⟩ := mr h
                                rw [f260 _ e276] at h
                                refine At.exit (norm ?_)
                                obtain ⟨y278, hy278, h⟩ := bs h
                                refine At.sR [4] [] [c0 5 (C_retraceref22_is p0 p1.Def p1.At 1 y278 hy278)] ?_
                                obtain rfl := sq h
                                exact At.ret (At.rR hR [])
                            · refine At.nK (st' := ⟨[], []⟩) [] [] ?_
                              refine At.skip (norm ?_)
                              refine At.sR [4] [] [] ?_
                              obtain rfl := sq h
                              exact At.ret (At.rR hR [])
theorem C_retraceref19_Text (p0 : ByteArray) (r : T_retraceref19_Got) (h : F_retraceref19_Text p0 = some r) : FnOK Tryz.prog 7 [sv p0] [] (.agg (T_retraceref19_Got.pvs r)) [] [] :=
  ran_ok okText_14 (pv := fun r => .agg (T_retraceref19_Got.pvs r)) ran_Text rfl h
theorem C_code_Stmt (p0 : T_api_Code) (p1 : Int) (r : Int) (h : F_code_Stmt p0 p1 = some r) : FnOK Tryz.prog 19 [.agg (T_api_Code.pvs p0), i64 p1] [] (i64 r) [] [] := by
  refine fI Tryz.func19 rfl fun E gv R hR => ?_
  refine At.sR [1, 2] [0] [] ?_
  refine At.seq ?_
  refine At.seqJ (S := Bool) (fun s => ⟨[(1, i64 p1), (2, .ptr 0 0), (22, bo s)], [.blk 27 (T_api_Code.pvs p0)]⟩) (fun s => F_code_Stmt_J1 p0 p1 s = some r) ?_ ?_
  · rcases cs h with ⟨b16, h⟩ | ⟨b16, h⟩
    · exact At.rK [1, 2, 22] [0] [bT 2 b16] fun _ _ i => ⟨true, h, i⟩
    · rcases cs h with ⟨b17, h⟩ | ⟨b17, h⟩
      · exact At.rK [1, 2, 22] [0] [bT 2 b16, bT 9 b17] fun _ _ i => ⟨true, h, i⟩
      · obtain ⟨y18, hy18, h⟩ := bs h
        exact At.rK [1, 2, 22] [0] [bT 2 b16, bT 9 b17, eT T_api_Ins.enc_len 13 hy18] fun _ _ i => ⟨(y18.Op != 1), h, i⟩
  · intro x12 h
    refine At.cd h (fun b13 h => ?_) (fun b13 h => ?_)
    · refine At.sR [4] [] [] ?_
      obtain rfl := sq h
      exact At.ret (At.rR hR [])
    · refine At.nR [1, 2] [0] ?_
      refine At.skip (norm ?_)
      obtain ⟨y15, hy15, h⟩ := bs h
      refine At.sR [4] [] [eT T_api_Ins.enc_len 3 hy15] ?_
      obtain rfl := sq h
      exact At.ret (At.rR hR [])
theorem C_stack_New_int (p0 : Int) (r : T_stack_Stack_int_) (h : F_stack_New_int p0 = some r) : FnOK Tryz.prog 32 [i64 p0] [] (.ptr 0 0) [.blk 123 [.d (.list true 0 []), i64 r.most]] [] := by
  refine fI Tryz.func32 rfl fun E gv R hR => ?_
  refine At.sR [0] [] [] ?_
  refine At.sR [2] [0] [] ?_
  obtain rfl := sq h
  exact At.ret (At.rR hR [0])
theorem C_stack_Stack_int_Room (o0 : T_stack_Stack_int_) (r : Int) (h : F_stack_Stack_int_Room o0 = some r) : FnOK Tryz.prog 146 [.ptr 0 0] [.blk 123 [.row 1 (o0.l).length, i64 o0.most], .row 3 1 (encL (eInt .i64) o0.l)] (i64 r) [.blk 123 [.row 1 (o0.l).length, i64 o0.most], .row 3 1 (encL (eInt .i64) o0.l)] [1, 2] := by
  refine fI Tryz.func146 rfl fun E gv R hR => ?_
  refine At.sR [0] [0, 1, 2, 3] [] ?_
  refine At.seq ?_
  refine At.sR [0, 4] [0, 1, 2, 3] [] ?_
  refine At.cn ?_
  refine At.nR [0] [0, 1, 2, 3] ?_
  refine At.skip (norm ?_)
  refine At.sD 0 [2] [0, 1, 2, 3] [] ?_
  obtain rfl := sq h
  exact At.ret (At.rR hR [0, 1])
theorem C_stack_Stack_int_Push (p1 : Int) (o0 : T_stack_Stack_int_) (r : Bool × T_stack_Stack_int_) (h : F_stack_Stack_int_Push p1 o0 = some r) : FnOK Tryz.prog 107 [.ptr 0 0, i64 p1] [.blk 123 [.row 1 (o0.l).length, i64 o0.most], .row 3 1 (encL (eInt .i64) o0.l)] (bo r.1) [.blk 123 [.row 1 (r.2.l).length, i64 r.2.most], .row 3 1 (encL (eInt .i64) r.2.l)] [1, 2, 3] := by
  refine fI Tryz.func107 rfl fun E gv R hR => ?_
  refine At.sR [0, 1] [0, 1, 2, 3] [] ?_
  refine At.seq ?_
  obtain ⟨y5, hy5, h⟩ := bs h
  refine At.sR [0, 1, 7] [0, 1, 2, 3] [cT 1 2 [0, 1] (C_stack_Stack_int_Room o0 y5 hy5)] ?_
  refine At.cd h (fun b6 h => ?_) (fun b6 h => ?_)
  · refine At.sR [4] [0, 1, 2, 3] [] ?_
    refine At.eN [.hideG 3] [4] [0, 1, 2, 3] ?_
    obtain rfl := sq h
    exact At.ret (At.rR hR [0, 1])
  · refine At.nR [0, 1] [0, 1, 2, 3] ?_
    refine At.skip (norm ?_)
    obtain ⟨g8, h⟩ := gs h
    refine At.sR [] [0, 1, 2, 3] [aT (he_int .i64) 7 o0.l ([p1]) rfl g8] ?_
    refine At.sR [4] [0, 1, 2, 3] [] ?_
    obtain rfl := sq h
    exact At.ret (At.rR hR [0, 1])
theorem C_run_runner_end (p1 : Int) (p2 : Int) (o0_0 : (List T_api_Ins)) (o0_1 : (List T_api_Def)) (o0_2 : (List T_api_Chan)) (o0_3 : Int) (o0_4 : Int) (o0_5 : Int) (o0_6 : Int) (o0_7 : (List Int)) (o0_8 : Int) (o0_9 : Int) (o0_10 : Int) (o0_11 : Int) (o0_12 : Int) (o0_13 : Int) (o0_14 : Int) (o0_15 : (List T_api_Alt)) (o0_17 : Int) (o0_18 : Int) (o0_19 : Int) (o0_20 : Int) (o0_21 : Int) (o0_22 : Int) (o0_23 : Int) (o0_24 : Int) (o0_27 : Int) (o0_28 : Bool) (o1 : T_stack_Stack_int_) (o3 : (List Int)) (o4 : (List T_api_Alt)) (r : Int × Int × Bool) (h : F_run_runner_end p1 p2 = some r) : FnOK Tryz.prog 71 [.ptr 0 0, i64 p1, i64 p2] [.blk 81 [lv T_api_Ins.enc o0_0, lv T_api_Def.enc o0_1, lv T_api_Chan.enc o0_2, i64 o0_3, i64 o0_4, i64 o0_5, i64 o0_6, lv (eInt .i64) o0_7, i64 o0_8, i64 o0_9, i64 o0_10, i64 o0_11, i64 o0_12, i64 o0_13, i64 o0_14, lv T_api_Alt.enc o0_15, .ptr 1 0, i64 o0_17, i64 o0_18, i64 o0_19, i64 o0_20, i64 o0_21, i64 o0_22, i64 o0_23, i64 o0_24, .row 3 (o3).length, .row 4 (o4).length, i64 o0_27, bo o0_28], .blk 123 [.row 2 (o1.l).length, i64 o1.most], .row 3 1 (encL (eInt .i64) o1.l), .row 3 1 (encL (eInt .i64) o3), .row 47 5 (encL T_api_Alt.enc o4)] (.tup []) [.blk 81 [lv T_api_Ins.enc o0_0, lv T_api_Def.enc o0_1, lv T_api_Chan.enc o0_2, i64 o0_3, i64 o0_4, i64 o0_5, i64 o0_6, lv (eInt .i64) o0_7, i64 o0_8, i64 o0_9, i64 o0_10, i64 o0_11, i64 o0_12, i64 o0_13, i64 o0_14, lv T_api_Alt.enc o0_15, .ptr 1 0, i64 o0_17, i64 r.1, i64 o0_19, i64 r.2.1, i64 o0_21, i64 o0_22, i64 o0_23, i64 o0_24, .row 3 (o3).length, .row 4 (o4).length, i64 o0_27, bo r.2.2], .blk 123 [.row 2 (o1.l).length, i64 o1.most], .row 3 1 (encL (eInt .i64) o1.l), .row 3 1 (encL (eInt .i64) o3), .row 47 5 (encL T_api_Alt.enc o4)] [1, 3, 4, 6, 8] := by
  refine fI Tryz.func71 rfl fun E gv R hR => ?_
  obtain rfl := sq h
  refine At.rG [] [0, 1, 2, 3, 4, 5, 6, 7, 8, 9] [] (edq (l := []) (ks := []) (ρ := [0, 1, 2, 3, 4, 5, 6, 7, 8, 9]) (st' := ⟨[], [.blk 81 [lv T_api_Ins.enc o0_0, lv T_api_Def.enc o0_1, lv T_api_Chan.enc o0_2, i64 o0_3, i64 o0_4, i64 o0_5, i64 o0_6, lv (eInt .i64) o0_7, i64 o0_8, i64 o0_9, i64 o0_10, i64 o0_11, i64 o0_12, i64 o0_13, i64 o0_14, lv T_api_Alt.enc o0_15, .ptr 1 0, i64 o0_17, i64 p1, i64 o0_19, i64 p2, i64 o0_21, i64 o0_22, i64 o0_23, i64 o0_24, .row 3 (o3).length, .row 4 (o4).length, i64 o0_27, bo true], .blk 123 [.row 2 (o1.l).length, i64 o1.most], .row 3 1 (encL (eInt .i64) o1.l), .row 3 1 (encL (eInt .i64) o3), .row 47 5 (encL T_api_Alt.enc o4), .ghost (gv 0) (.ptr 0 0), .ghost (gv 1) (.ptr 1 0), .ghost (gv 2) (.row 2 0), .ghost (gv 3) (.row 3 0), .ghost (gv 4) (.row 4 0)]⟩) (by kernel_rfl) (At.rN hR [0, 1, 2, 3, 4]))
theorem C_run_runner_fault (p1 : Int) (o0_0 : (List T_api_Ins)) (o0_1 : (List T_api_Def)) (o0_2 : (List T_api_Chan)) (o0_3 : Int) (o0_4 : Int) (o0_5 : Int) (o0_6 : Int) (o0_7 : (List Int)) (o0_8 : Int) (o0_9 : Int) (o0_10 : Int) (o0_11 : Int) (o0_12 : Int) (o0_13 : Int) (o0_14 : Int) (o0_15 : (List T_api_Alt)) (o0_17 : Int) (o0_18 : Int) (o0_19 : Int) (o0_20 : Int) (o0_21 : Int) (o0_22 : Int) (o0_23 : Int) (o0_24 : Int) (o0_27 : Int) (o0_28 : Bool) (o1 : T_stack_Stack_int_) (o3 : (List Int)) (o4 : (List T_api_Alt)) (r : Int × Int × Int × Int × Int × Int × Int × Bool × (List Int) × (List T_api_Alt)) (h : F_run_runner_fault p1 = some r) : FnOK Tryz.prog 74 [.ptr 0 0, i64 p1] [.blk 81 [lv T_api_Ins.enc o0_0, lv T_api_Def.enc o0_1, lv T_api_Chan.enc o0_2, i64 o0_3, i64 o0_4, i64 o0_5, i64 o0_6, lv (eInt .i64) o0_7, i64 o0_8, i64 o0_9, i64 o0_10, i64 o0_11, i64 o0_12, i64 o0_13, i64 o0_14, lv T_api_Alt.enc o0_15, .ptr 1 0, i64 o0_17, i64 o0_18, i64 o0_19, i64 o0_20, i64 o0_21, i64 o0_22, i64 o0_23, i64 o0_24, .row 3 (o3).length, .row 4 (o4).length, i64 o0_27, bo o0_28], .blk 123 [.row 2 (o1.l).length, i64 o1.most], .row 3 1 (encL (eInt .i64) o1.l), .row 3 1 (encL (eInt .i64) o3), .row 47 5 (encL T_api_Alt.enc o4)] (.tup []) [.blk 81 [lv T_api_Ins.enc o0_0, lv T_api_Def.enc o0_1, lv T_api_Chan.enc o0_2, i64 o0_3, i64 o0_4, i64 o0_5, i64 o0_6, lv (eInt .i64) o0_7, i64 o0_8, i64 o0_9, i64 o0_10, i64 o0_11, i64 o0_12, i64 o0_13, i64 o0_14, lv T_api_Alt.enc o0_15, .ptr 1 0, i64 o0_17, i64 r.1, i64 o0_19, i64 r.2.1, i64 r.2.2.1, i64 r.2.2.2.1, i64 r.2.2.2.2.1, i64 r.2.2.2.2.2.1, .row 3 (r.2.2.2.2.2.2.2.2.1).length, .row 4 (r.2.2.2.2.2.2.2.2.2).length, i64 r.2.2.2.2.2.2.1, bo r.2.2.2.2.2.2.2.1], .blk 123 [.row 2 (o1.l).length, i64 o1.most], .row 3 1 (encL (eInt .i64) o1.l), .row 3 1 (encL (eInt .i64) r.2.2.2.2.2.2.2.2.1), .row 47 5 (encL T_api_Alt.enc r.2.2.2.2.2.2.2.2.2)] [1, 3, 4, 6, 7, 8, 9] := by
  refine fI Tryz.func74 rfl fun E gv R hR => ?_
  refine At.sR [0] [0, 1, 2, 3, 4, 5, 6, 7, 8, 9] [] ?_
  refine At.eds [.reO 0 25 3] (st' := ⟨[(0, .ptr 0 0)], [.blk 81 [lv T_api_Ins.enc o0_0, lv T_api_Def.enc o0_1, lv T_api_Chan.enc o0_2, i64 o0_3, i64 o0_4, i64 o0_5, i64 o0_6, lv (eInt .i64) o0_7, i64 o0_8, i64 o0_9, i64 o0_10, i64 o0_11, i64 o0_12, i64 o0_13, i64 o0_14, lv T_api_Alt.enc o0_15, .ptr 1 0, i64 o0_17, i64 0, i64 o0_19, i64 0, i64 0, i64 0, i64 0, i64 0, .row 3 ([] : List Int).length, .d (.list true 0 []), i64 p1, bo o0_28], .blk 123 [.row 2 (o1.l).length, i64 o1.most], .row 3 1 (encL (eInt .i64) o1.l), .row 3 1 (encL (eInt .i64) ([])), .row 47 5 (encL T_api_Alt.enc o4), .ghost (gv 0) (.ptr 0 0), .ghost (gv 1) (.ptr 1 0), .ghost (gv 2) (.row 2 0), .ghost (gv 3) (.undef), .ghost (gv 4) (.row 4 0)]⟩) (by kernel_rfl) ?_
  refine At.eds [.reO 0 26 4] (st' := ⟨[(0, .ptr 0 0)], [.blk 81 [lv T_api_Ins.enc o0_0, lv T_api_Def.enc o0_1, lv T_api_Chan.enc o0_2, i64 o0_3, i64 o0_4, i64 o0_5, i64 o0_6, lv (eInt .i64) o0_7, i64 o0_8, i64 o0_9, i64 o0_10, i64 o0_11, i64 o0_12, i64 o0_13, i64 o0_14, lv T_api_Alt.enc o0_15, .ptr 1 0, i64 o0_17, i64 0, i64 o0_19, i64 0, i64 0, i64 0, i64 0, i64 0, .row 3 ([] : List Int).length, .row 4 ([] : List T_api_Alt).length, i64 p1, bo o0_28], .blk 123 [.row 2 (o1.l).length, i64 o1.most], .row 3 1 (encL (eInt .i64) o1.l), .row 3 1 (encL (eInt .i64) ([])), .row 47 5 (encL T_api_Alt.enc ([])), .ghost (gv 0) (.ptr 0 0), .ghost (gv 1) (.ptr 1 0), .ghost (gv 2) (.row 2 0), .ghost (gv 3) (.undef), .ghost (gv 4) (.undef)]⟩) (by kernel_rfl) ?_
  obtain ⟨y1, hy1, h⟩ := bs h
  obtain rfl := sq h
  refine At.rG [] [0, 1, 2, 3, 4, 5, 6, 7, 8, 9] [cT 1 5 [0, 1, 2, 3, 4] (C_run_runner_end 11 0 o0_0 o0_1 o0_2 o0_3 o0_4 o0_5 o0_6 o0_7 o0_8 o0_9 o0_10 o0_11 o0_12 o0_13 o0_14 o0_15 o0_17 0 o0_19 0 0 0 0 0 p1 o0_28 o1 ([] : List Int) ([] : List T_api_Alt) y1 hy1)] (edq (l := []) (ks := []) (ρ := [0, 1, 2, 3, 4, 5, 6, 7, 8, 9]) (st' := ⟨[], [.blk 81 [lv T_api_Ins.enc o0_0, lv T_api_Def.enc o0_1, lv T_api_Chan.enc o0_2, i64 o0_3, i64 o0_4, i64 o0_5, i64 o0_6, lv (eInt .i64) o0_7, i64 o0_8, i64 o0_9, i64 o0_10, i64 o0_11, i64 o0_12, i64 o0_13, i64 o0_14, lv T_api_Alt.enc o0_15, .ptr 1 0, i64 o0_17, i64 y1.1, i64 o0_19, i64 y1.2.1, i64 0, i64 0, i64 0, i64 0, .row 3 ([] : List Int).length, .row 4 ([] : List T_api_Alt).length, i64 p1, bo y1.2.2], .blk 123 [.row 2 (o1.l).length, i64 o1.most], .row 3 1 (encL (eInt .i64) o1.l), .row 3 1 (encL (eInt .i64) ([])), .row 47 5 (encL T_api_Alt.enc ([])), .ghost (gv 0) (.ptr 0 0), .ghost (gv 1) (.ptr 1 0), .ghost (gv 2) (.row 2 0), .ghost (gv 3) (.undef), .ghost (gv 4) (.undef)]⟩) (by kernel_rfl) (At.rN hR [0, 1, 2, 3, 4]))
theorem C_run_runner_lay (o0_0 : (List T_api_Ins)) (o0_1 : (List T_api_Def)) (o0_2 : (List T_api_Chan)) (o0_3 : Int) (o0_4 : Int) (o0_5 : Int) (o0_6 : Int) (o0_7 : (List Int)) (o0_8 : Int) (o0_9 : Int) (o0_10 : Int) (o0_11 : Int) (o0_12 : Int) (o0_13 : Int) (o0_14 : Int) (o0_15 : (List T_api_Alt)) (o0_17 : Int) (o0_18 : Int) (o0_19 : Int) (o0_20 : Int) (o0_21 : Int) (o0_22 : Int) (o0_23 : Int) (o0_24 : Int) (o0_27 : Int) (o0_28 : Bool) (o1 : T_stack_Stack_int_) (o3 : (List Int)) (o4 : (List T_api_Alt)) (o5 : (List Int)) (r : Int × Int × Int × Int × Int × Int × Int × Bool × T_stack_Stack_int_ × (List Int) × (List T_api_Alt)) (h : F_run_runner_lay o0_18 o0_20 o0_21 o0_22 o0_23 o0_24 o0_27 o0_28 o1 o3 o4 o5 = some r) : FnOK Tryz.prog 63 [.ptr 0 0, .row 5 (o5).length] [.blk 81 [lv T_api_Ins.enc o0_0, lv T_api_Def.enc o0_1, lv T_api_Chan.enc o0_2, i64 o0_3, i64 o0_4, i64 o0_5, i64 o0_6, lv (eInt .i64) o0_7, i64 o0_8, i64 o0_9, i64 o0_10, i64 o0_11, i64 o0_12, i64 o0_13, i64 o0_14, lv T_api_Alt.enc o0_15, .ptr 1 0, i64 o0_17, i64 o0_18, i64 o0_19, i64 o0_20, i64 o0_21, i64 o0_22, i64 o0_23, i64 o0_24, .row 3 (o3).length, .row 4 (o4).length, i64 o0_27, bo o0_28], .blk 123 [.row 2 (o1.l).length, i64 o1.most], .row 3 1 (encL (eInt .i64) o1.l), .row 3 1 (encL (eInt .i64) o3), .row 47 5 (encL T_api_Alt.enc o4), .row 3 1 (encL (eInt .i64) o5)] (.tup []) [.blk 81 [lv T_api_Ins.enc o0_0, lv T_api_Def.enc o0_1, lv T_api_Chan.enc o0_2, i64 o0_3, i64 o0_4, i64 o0_5, i64 o0_6, lv (eInt .i64) o0_7, i64 o0_8, i64 o0_9, i64 o0_10, i64 o0_11, i64 o0_12, i64 o0_13, i64 o0_14, lv T_api_Alt.enc o0_15, .ptr 1 0, i64 o0_17, i64 r.1, i64 o0_19, i64 r.2.1, i64 r.2.2.1, i64 r.2.2.2.1, i64 r.2.2.2.2.1, i64 r.2.2.2.2.2.1, .row 3 (r.2.2.2.2.2.2.2.2.2.1).length, .row 4 (r.2.2.2.2.2.2.2.2.2.2).length, i64 r.2.2.2.2.2.2.1, bo r.2.2.2.2.2.2.2.1], .blk 123 [.row 2 (r.2.2.2.2.2.2.2.2.1.l).length, i64 r.2.2.2.2.2.2.2.2.1.most], .row 3 1 (encL (eInt .i64) r.2.2.2.2.2.2.2.2.1.l), .row 3 1 (encL (eInt .i64) r.2.2.2.2.2.2.2.2.2.1), .row 47 5 (encL T_api_Alt.enc r.2.2.2.2.2.2.2.2.2.2), .row 3 1 (encL (eInt .i64) o5)] [1, 3, 4, 5, 6, 7, 8, 9, 10] := by
  refine fI Tryz.func63 rfl fun E gv R hR => ?_
  refine At.sR [0, 6, 7, 8] [0, 1, 2, 3, 4, 5, 6, 7, 8, 9, 10, 11] [] ?_
  refine At.block ?_
  refine At.nK (st' := ⟨[(0, .ptr 0 0), (6, .row 5 (o5).length), (7, i64 ((o5).length : Int)), (8, i64 0)], [.blk 81 [lv T_api_Ins.enc o0_0, lv T_api_Def.enc o0_1, lv T_api_Chan.enc o0_2, i64 o0_3, i64 o0_4, i64 o0_5, i64 o0_6, lv (eInt .i64) o0_7, i64 o0_8, i64 o0_9, i64 o0_10, i64 o0_11, i64 o0_12, i64 o0_13, i64 o0_14, lv T_api_Alt.enc o0_15, .ptr 1 0, i64 o0_17, i64 o0_18, i64 o0_19, i64 o0_20, i64 o0_21, i64 o0_22, i64 o0_23, i64 o0_24, .row 3 (o3).length, .row 4 (o4).length, i64 o0_27, bo o0_28], .blk 123 [.row 2 (o1.l).length, i64 o1.most], .row 3 1 (encL (eInt .i64) o1.l), .row 3 1 (encL (eInt .i64) o3), .row 47 5 (encL T_api_Alt.enc o4), .row 3 1 (encL (eInt .i64) o5), .ghost (gv 0) (.ptr 0 0), .ghost (gv 1) (.ptr 1 0), .ghost (gv 2) (.row 2 0), .ghost (gv 3) (.row 3 0), .ghost (gv 4) (.row 4 0), .ghost (gv 5) (.row 5 0)]⟩) [0, 6, 7, 8] [0, 1, 2, 3, 4, 5, 6, 7, 8, 9, 10, 11] ?_
  refine At.edNar [.hideG 8, .hideG 9, .hideG 10] [0, 6, 7, 8] [0, 1, 2, 3, 4, 5, 6, 7, 8, 9, 10, 11] (st' := ⟨[(0, .ptr 0 0), (6, .row 5 (o5).length), (7, i64 ((o5).length : Int)), (8, i64 0)], [.blk 81 [lv T_api_Ins.enc o0_0, lv T_api_Def.enc o0_1, lv T_api_Chan.enc o0_2, i64 o0_3, i64 o0_4, i64 o0_5, i64 o0_6, lv (eInt .i64) o0_7, i64 o0_8, i64 o0_9, i64 o0_10, i64 o0_11, i64 o0_12, i64 o0_13, i64 o0_14, lv T_api_Alt.enc o0_15, .ptr 1 0, i64 o0_17, i64 o0_18, i64 o0_19, i64 o0_20, i64 o0_21, i64 o0_22, i64 o0_23, i64 o0_24, .row 3 (o3).length, .row 4 (o4).length, i64 o0_27, bo o0_28], .blk 123 [.row 2 (o1.l).length, i64 o1.most], .row 3 1 (encL (eInt .i64) o1.l), .row 3 1 (encL (eInt .i64) o3), .row 47 5 (encL T_api_Alt.enc o4), .row 3 1 (encL (eInt .i64) o5), .ghost (gv 0) (.ptr 0 0), .ghost (gv 1) (.ptr 1 0), .ghost (gv 2) (.undef), .ghost (gv 3) (.undef), .ghost (gv 4) (.undef), .ghost (gv 5) (.row 5 0)]⟩) (by kernel_rfl) ?_
  refine At.lp (fun s : (Int × Int × Int × Int × Int × Int × Int × Int × Bool × Int × (List Int) × (List Int) × (List T_api_Alt)) => ⟨[(0, .ptr 0 0), (6, .row 5 (o5).length), (7, i64 ((o5).length : Int)), (8, i64 s.1)], [.blk 81 [lv T_api_Ins.enc o0_0, lv T_api_Def.enc o0_1, lv T_api_Chan.enc o0_2, i64 o0_3, i64 o0_4, i64 o0_5, i64 o0_6, lv (eInt .i64) o0_7, i64 o0_8, i64 o0_9, i64 o0_10, i64 o0_11, i64 o0_12, i64 o0_13, i64 o0_14, lv T_api_Alt.enc o0_15, .ptr 1 0, i64 o0_17, i64 s.2.1, i64 o0_19, i64 s.2.2.1, i64 s.2.2.2.1, i64 s.2.2.2.2.1, i64 s.2.2.2.2.2.1, i64 s.2.2.2.2.2.2.1, .row 3 (s.2.2.2.2.2.2.2.2.2.2.2.1).length, .row 4 (s.2.2.2.2.2.2.2.2.2.2.2.2).length, i64 s.2.2.2.2.2.2.2.1, bo s.2.2.2.2.2.2.2.2.1], .blk 123 [.row 2 (s.2.2.2.2.2.2.2.2.2.2.1).length, i64 s.2.2.2.2.2.2.2.2.2.1], .row 3 1 (encL (eInt .i64) s.2.2.2.2.2.2.2.2.2.2.1), .row 3 1 (encL (eInt .i64) s.2.2.2.2.2.2.2.2.2.2.2.1), .row 47 5 (encL T_api_Alt.enc s.2.2.2.2.2.2.2.2.2.2.2.2), .row 3 1 (encL (eInt .i64) o5), .ghost (gv 0) (.ptr 0 0), .ghost (gv 1) (.ptr 1 0), .ghost (gv 2) (.undef), .ghost (gv 3) (.undef), .ghost (gv 4) (.undef), .ghost (gv 5) (.row 5 0)]⟩) h ?_
  rintro ⟨x1, x2, x3, x4, x5, x6, x7, x8, x9, x10, x11, x12, x13⟩ oo14 h f15
  replace h : F_run_runner_lay_L2 o5 x1 x2 x3 x4 x5 x6 x7 x8 x9 x10 x11 x12 x13 = some oo14 := h
  refine At.sR [0, 6, 7, 8, 9] [0, 1, 2, 3, 4, 5, 6, 7, 8, 9, 10, 11] [] ?_
  refine At.seq ?_
  refine At.cd h (fun b17 h => ?_) (fun b17 h => ?_)
  · refine At.nR [0, 6, 7, 8] [0, 1, 2, 3, 4, 5, 6, 7, 8, 9, 10, 11] ?_
    refine At.skip (norm ?_)
    refine At.seqJ (S := Int × Int × Int × Int × Int × Int × Int × Bool × Int × (List Int) × (List Int) × (List T_api_Alt)) (fun s => ⟨[(0, .ptr 0 0), (6, .row 5 (o5).length), (7, i64 ((o5).length : Int)), (8, i64 x1)], [.blk 81 [lv T_api_Ins.enc o0_0, lv T_api_Def.enc o0_1, lv T_api_Chan.enc o0_2, i64 o0_3, i64 o0_4, i64 o0_5, i64 o0_6, lv (eInt .i64) o0_7, i64 o0_8, i64 o0_9, i64 o0_10, i64 o0_11, i64 o0_12, i64 o0_13, i64 o0_14, lv T_api_Alt.enc o0_15, .ptr 1 0, i64 o0_17, i64 s.1, i64 o0_19, i64 s.2.1, i64 s.2.2.1, i64 s.2.2.2.1, i64 s.2.2.2.2.1, i64 s.2.2.2.2.2.1, .row 3 (s.2.2.2.2.2.2.2.2.2.2.1).length, .row 4 (s.2.2.2.2.2.2.2.2.2.2.2).length, i64 s.2.2.2.2.2.2.1, bo s.2.2.2.2.2.2.2.1], .blk 123 [.row 2 (s.2.2.2.2.2.2.2.2.2.1).length, i64 s.2.2.2.2.2.2.2.2.1], .row 3 1 (encL (eInt .i64) s.2.2.2.2.2.2.2.2.2.1), .row 3 1 (encL (eInt .i64) s.2.2.2.2.2.2.2.2.2.2.1), .row 47 5 (encL T_api_Alt.enc s.2.2.2.2.2.2.2.2.2.2.2), .row 3 1 (encL (eInt .i64) o5), .ghost (gv 0) (.ptr 0 0), .ghost (gv 1) (.ptr 1 0), .ghost (gv 2) (.undef), .ghost (gv 3) (.undef), .ghost (gv 4) (.undef), .ghost (gv 5) (.row 5 0)]⟩) (fun s => F_run_runner_lay_J1 x1 s.1 s.2.1 s.2.2.1 s.2.2.2.1 s.2.2.2.2.1 s.2.2.2.2.2.1 s.2.2.2.2.2.2.1 s.2.2.2.2.2.2.2.1 s.2.2.2.2.2.2.2.2.1 s.2.2.2.2.2.2.2.2.2.1 s.2.2.2.2.2.2.2.2.2.2.1 s.2.2.2.2.2.2.2.2.2.2.2 = some oo14) ?_ ?_
    · refine At.block ?_
      obtain ⟨y37, hy37, h⟩ := bs h
      refine At.sR [0, 5, 6, 7, 8] [0, 1, 2, 3, 4, 5, 6, 7, 8, 9, 10, 11] [oT 0 ((rAt_of (he_int .i64) (d := .int .i64 y37) hy37 rfl).1), vT 1 (.int .i64 y37) ((rAt_of (he_int .i64) (d := .int .i64 y37) hy37 rfl).2)] ?_
      obtain ⟨y39, hy39, h⟩ := bs h
      refine At.sR [0, 6, 7, 8, 18] [0, 1, 2, 3, 4, 5, 6, 7, 8, 9, 10, 11] [cT 5 2 [1, 2] (C_stack_Stack_int_Push y37 (⟨x11, x10⟩ : T_stack_Stack_int_) y39 hy39)] ?_
      refine At.cd h (fun b40 h => ?_) (fun b40 h => ?_)
      · obtain ⟨y41, hy41, h⟩ := bs h
        exact At.rK [0, 6, 7, 8] [0, 1, 2, 3, 4, 5, 6, 7, 8, 9, 10, 11] [cT 1 5 [0, 1, 2, 3, 4] (C_run_runner_fault 2 o0_0 o0_1 o0_2 o0_3 o0_4 o0_5 o0_6 o0_7 o0_8 o0_9 o0_10 o0_11 o0_12 o0_13 o0_14 o0_15 o0_17 x2 o0_19 x3 x4 x5 x6 x7 x8 x9 y39.2 x12 x13 y41 hy41)] fun _ _ i => ⟨(y41.1, y41.2.1, y41.2.2.1, y41.2.2.2.1, y41.2.2.2.2.1, y41.2.2.2.2.2.1, y41.2.2.2.2.2.2.1, y41.2.2.2.2.2.2.2.1, y39.2.most, y39.2.l, y41.2.2.2.2.2.2.2.2.1, y41.2.2.2.2.2.2.2.2.2), h, i⟩
      · refine At.nR [0, 6, 7, 8] [0, 1, 2, 3, 4, 5, 6, 7, 8, 9, 10, 11] ?_
        refine At.skip (fun _ _ i => ⟨(x2, x3, x4, x5, x6, x7, x8, x9, y39.2.most, y39.2.l, x12, x13), h, i.en [] [0, 6, 7, 8] [0, 1, 2, 3, 4, 5, 6, 7, 8, 9, 10, 11]⟩)
    · rintro ⟨x24, x25, x26, x27, x28, x29, x30, x31, x32, x33, x34, x35⟩ h
      replace h : F_run_runner_lay_J1 x1 x24 x25 x26 x27 x28 x29 x30 x31 x32 x33 x34 x35 = some oo14 := h
      exact At.rK [0, 6, 7, 8] [0, 1, 2, 3, 4, 5, 6, 7, 8, 9, 10, 11] [] fun _ _ i => ⟨_, li h, i⟩
  · refine At.nR [] [0, 1, 2, 3, 4, 5, 6, 7, 8, 9, 10, 11] ?_
    obtain ⟨r42, h, e43⟩ := mr h
    rw [f15 _ e43] at h
    obtain rfl := sq h
    refine At.exit (edq (l := []) (ks := []) (ρ := [0, 1, 2, 3, 4, 5, 6, 7, 8, 9, 10, 11]) (st' := ⟨[], [.blk 81 [lv T_api_Ins.enc o0_0, lv T_api_Def.enc o0_1, lv T_api_Chan.enc o0_2, i64 o0_3, i64 o0_4, i64 o0_5, i64 o0_6, lv (eInt .i64) o0_7, i64 o0_8, i64 o0_9, i64 o0_10, i64 o0_11, i64 o0_12, i64 o0_13, i64 o0_14, lv T_api_Alt.enc o0_15, .ptr 1 0, i64 o0_17, i64 x2, i64 o0_19, i64 x3, i64 x4, i64 x5, i64 x6, i64 x7, .row 3 (x12).length, .row 4 (x13).length, i64 x8, bo x9], .blk 123 [.row 2 (x11).length, i64 x10], .row 3 1 (encL (eInt .i64) x11), .row 3 1 (encL (eInt .i64) x12), .row 47 5 (encL T_api_Alt.enc x13), .row 3 1 (encL (eInt .i64) o5), .ghost (gv 0) (.ptr 0 0), .ghost (gv 1) (.ptr 1 0), .ghost (gv 2) (.undef), .ghost (gv 3) (.undef), .ghost (gv 4) (.undef), .ghost (gv 5) (.row 5 0)]⟩) (by kernel_rfl) (At.rN hR [0, 1, 2, 3, 4, 5]))
theorem C_run_runner_slot (p1 : Int) (o0_0 : (List T_api_Ins)) (o0_1 : (List T_api_Def)) (o0_2 : (List T_api_Chan)) (o0_3 : Int) (o0_4 : Int) (o0_5 : Int) (o0_6 : Int) (o0_7 : (List Int)) (o0_8 : Int) (o0_9 : Int) (o0_10 : Int) (o0_11 : Int) (o0_12 : Int) (o0_13 : Int) (o0_14 : Int) (o0_15 : (List T_api_Alt)) (o0_17 : Int) (o0_18 : Int) (o0_19 : Int) (o0_20 : Int) (o0_21 : Int) (o0_22 : Int) (o0_23 : Int) (o0_24 : Int) (o0_27 : Int) (o0_28 : Bool) (o1 : T_stack_Stack_int_) (o3 : (List Int)) (o4 : (List T_api_Alt)) (r : Int) (h : F_run_runner_slot p1 o0_7 = some r) : FnOK Tryz.prog 64 [.ptr 0 0, i64 p1] [.blk 81 [lv T_api_Ins.enc o0_0, lv T_api_Def.enc o0_1, lv T_api_Chan.enc o0_2, i64 o0_3, i64 o0_4, i64 o0_5, i64 o0_6, lv (eInt .i64) o0_7, i64 o0_8, i64 o0_9, i64 o0_10, i64 o0_11, i64 o0_12, i64 o0_13, i64 o0_14, lv T_api_Alt.enc o0_15, .ptr 1 0, i64 o0_17, i64 o0_18, i64 o0_19, i64 o0_20, i64 o0_21, i64 o0_22, i64 o0_23, i64 o0_24, .row 3 (o3).length, .row 4 (o4).length, i64 o0_27, bo o0_28], .blk 123 [.row 2 (o1.l).length, i64 o1.most], .row 3 1 (encL (eInt .i64) o1.l), .row 3 1 (encL (eInt .i64) o3), .row 47 5 (encL T_api_Alt.enc o4)] (i64 r) [.blk 81 [lv T_api_Ins.enc o0_0, lv T_api_Def.enc o0_1, lv T_api_Chan.enc o0_2, i64 o0_3, i64 o0_4, i64 o0_5, i64 o0_6, lv (eInt .i64) o0_7, i64 o0_8, i64 o0_9, i64 o0_10, i64 o0_11, i64 o0_12, i64 o0_13, i64 o0_14, lv T_api_Alt.enc o0_15, .ptr 1 0, i64 o0_17, i64 o0_18, i64 o0_19, i64 o0_20, i64 o0_21, i64 o0_22, i64 o0_23, i64 o0_24, .row 3 (o3).length, .row 4 (o4).length, i64 o0_27, bo o0_28], .blk 123 [.row 2 (o1.l).length, i64 o1.most], .row 3 1 (encL (eInt .i64) o1.l), .row 3 1 (encL (eInt .i64) o3), .row 47 5 (encL T_api_Alt.enc o4)] [1, 3, 4, 6, 8] := by
  refine fI Tryz.func64 rfl fun E gv R hR => ?_
  refine At.sR [0, 1] [0, 1, 2, 3, 4, 5, 6, 7, 8, 9] [] ?_
  refine At.seq ?_
  refine At.seqJ (S := Bool) (fun s => ⟨[(0, .ptr 0 0), (1, i64 p1), (16, bo s)], [.blk 81 [lv T_api_Ins.enc o0_0, lv T_api_Def.enc o0_1, lv T_api_Chan.enc o0_2, i64 o0_3, i64 o0_4, i64 o0_5, i64 o0_6, lv (eInt .i64) o0_7, i64 o0_8, i64 o0_9, i64 o0_10, i64 o0_11, i64 o0_12, i64 o0_13, i64 o0_14, lv T_api_Alt.enc o0_15, .ptr 1 0, i64 o0_17, i64 o0_18, i64 o0_19, i64 o0_20, i64 o0_21, i64 o0_22, i64 o0_23, i64 o0_24, .row 3 (o3).length, .row 4 (o4).length, i64 o0_27, bo o0_28], .blk 123 [.row 2 (o1.l).length, i64 o1.most], .row 3 1 (encL (eInt .i64) o1.l), .row 3 1 (encL (eInt .i64) o3), .row 47 5 (encL T_api_Alt.enc o4), .ghost (gv 0) (.ptr 0 0), .ghost (gv 1) (.ptr 1 0), .ghost (gv 2) (.row 2 0), .ghost (gv 3) (.row 3 0), .ghost (gv 4) (.row 4 0)]⟩) (fun s => F_run_runner_slot_J1 p1 o0_7 s = some r) ?_ ?_
  · rcases cs h with ⟨b10, h⟩ | ⟨b10, h⟩
    · exact At.rK [0, 1, 16] [0, 1, 2, 3, 4, 5, 6, 7, 8, 9] [bT 2 b10] fun _ _ i => ⟨true, h, i⟩
    · exact At.rK [0, 1, 16] [0, 1, 2, 3, 4, 5, 6, 7, 8, 9] [bT 2 b10] fun _ _ i => ⟨(decide (((o0_7).length : Int) ≤ p1)), h, i⟩
  · intro x6 h
    refine At.cd h (fun b7 h => ?_) (fun b7 h => ?_)
    · refine At.sR [4] [0, 1, 2, 3, 4, 5, 6, 7, 8, 9] [] ?_
      obtain rfl := sq h
      exact At.ret (At.rR hR [0, 1, 2, 3, 4])
    · refine At.nR [0, 1] [0, 1, 2, 3, 4, 5, 6, 7, 8, 9] ?_
      refine At.skip (norm ?_)
      obtain ⟨y9, hy9, h⟩ := bs h
      refine At.sR [4] [0, 1, 2, 3, 4, 5, 6, 7, 8, 9] [eT (he_int .i64) 6 hy9] ?_
      obtain rfl := sq h
      exact At.ret (At.rR hR [0, 1, 2, 3, 4])
theorem C_arith_Wide (p0 : Int) (r : Int) (h : F_arith_Wide p0 = some r) : FnOK Tryz.prog 92 [i64 p0] [] (i64 r) [] [] := by
  refine fI Tryz.func92 rfl fun E gv R hR => ?_
  refine At.sR [0] [] [] ?_
  refine At.seq ?_
  refine At.block ?_
  refine At.seqJ (S := Bool) (fun s => ⟨[(0, i64 p0), (3, bo s)], []⟩) (fun s => F_arith_Wide_J1 p0 s = some r) ?_ ?_
  · rcases cs h with ⟨b16, h⟩ | ⟨b16, h⟩
    · exact At.rK [0, 3] [] [bT 2 b16] fun _ _ i => ⟨true, h, i⟩
    · exact At.rK [0, 3] [] [bT 2 b16] fun _ _ i => ⟨(p0 == 4), h, i⟩
  · intro x10 h
    refine At.cd h (fun b11 h => ?_) (fun b11 h => ?_)
    · refine At.sR [2] [] [] ?_
      obtain rfl := sq h
      exact At.ret (At.rR hR [])
    · refine At.seqJ (S := Bool) (fun s => ⟨[(10, bo s)], []⟩) (fun s => F_arith_Wide_J2 s = some r) ?_ ?_
      · rcases cs h with ⟨b15, h⟩ | ⟨b15, h⟩
        · exact At.rK [10] [] [bT 2 b15] fun _ _ i => ⟨(decide (p0 ≤ 17)), h, i⟩
        · exact At.rK [10] [] [bT 2 b15] fun _ _ i => ⟨false, h, i⟩
      · intro x13 h
        refine At.cd h (fun b14 h => ?_) (fun b14 h => ?_)
        · refine At.sR [2] [] [] ?_
          obtain rfl := sq h
          exact At.ret (At.rR hR [])
        · refine At.nR [] [] ?_
          refine At.skip (norm ?_)
          refine At.sR [2] [] [] ?_
          obtain rfl := sq h
          exact At.ret (At.rR hR [])
theorem C_stack_Stack_int_Len (o0 : T_stack_Stack_int_) (r : Int) (h : F_stack_Stack_int_Len o0 = some r) : FnOK Tryz.prog 111 [.ptr 0 0] [.blk 123 [.row 1 (o0.l).length, i64 o0.most], .row 3 1 (encL (eInt .i64) o0.l)] (i64 r) [.blk 123 [.row 1 (o0.l).length, i64 o0.most], .row 3 1 (encL (eInt .i64) o0.l)] [1, 2] := by
  refine fI Tryz.func111 rfl fun E gv R hR => ?_
  refine At.sR [0] [0, 1, 2, 3] [] ?_
  refine At.seq ?_
  refine At.sR [0, 4] [0, 1, 2, 3] [] ?_
  refine At.cn ?_
  refine At.nR [0] [0, 1, 2, 3] ?_
  refine At.skip (norm ?_)
  refine At.sR [2] [0, 1, 2, 3] [] ?_
  obtain rfl := sq h
  exact At.ret (At.rR hR [0, 1])
theorem C_slices_Clone_int_int (p0 : (List Int)) (r : (List Int)) (h : F_slices_Clone_int_int p0 = some r) : FnOK Tryz.prog 112 [lv (eInt .i64) p0] [] (.row 0 (r).length) [.row 3 1 (encL (eInt .i64) r)] [] := by
  refine fI Tryz.func112 rfl fun E gv R hR => ?_
  refine At.sR [0] [] [] ?_
  refine At.seq ?_
  refine At.seq ?_
  refine At.nilEq (t0 := 0) (t3 := 3) (t4 := 4) (e := 3) (tt := false) (k := (p0).length) (xs := encL (eInt .i64) p0) rfl rfl rfl rfl rfl rfl (by decide) (by decide) (by kernel_rfl) (by kernel_rfl) ?_
  rintro (_ | _) hk
  · refine norm ?_
    refine At.nar [0, 4] [] (st' := ⟨[(0, lv (eInt .i64) p0), (4, bo false)], []⟩) (by kernel_rfl) ?_
    refine At.cn ?_
    refine At.nR [0] [] ?_
    refine At.skip (norm ?_)
    obtain ⟨g2, h⟩ := gs h
    refine At.sR [2] [0] [aT (he_int .i64) 2 ([] : List Int) p0 rfl g2] ?_
    obtain rfl := sq h
    exact At.ret (At.rR hR [0])
  · obtain rfl := List.length_eq_zero_iff.1 (hk rfl)
    obtain ⟨_, h⟩ := grd_some h
    refine norm ?_
    refine At.nar [0, 4] [] (st' := ⟨[(0, lv (eInt .i64) ([] : List Int)), (4, bo true)], []⟩) (by kernel_rfl) ?_
    refine At.cy ?_
    refine At.sR [2] [] [] ?_
    refine At.eN [.ownS 2 3 1] [2] [0] ?_
    obtain rfl := sq h
    exact At.ret (At.rR hR [0])
theorem C_stack_Stack_int_Take (p1 : Int) (o0 : T_stack_Stack_int_) (r : (List Int) × Bool × T_stack_Stack_int_) (h : F_stack_Stack_int_Take p1 o0 = some r) : FnOK Tryz.prog 73 [.ptr 0 0, i64 p1] [.blk 123 [.row 1 (o0.l).length, i64 o0.most], .row 3 1 (encL (eInt .i64) o0.l)] (.tup [.row 2 (r.1).length, bo r.2.1]) [.blk 123 [.row 1 (r.2.2.l).length, i64 r.2.2.most], .row 3 1 (encL (eInt .i64) r.2.2.l), .row 3 1 (encL (eInt .i64) r.1)] [1, 2, 3] := by
  refine fI Tryz.func73 rfl fun E gv R hR => ?_
  refine At.sR [0, 1] [0, 1, 2, 3] [] ?_
  obtain ⟨y2, hy2, h⟩ := bs h
  refine At.sR [0, 1, 6] [0, 1, 2, 3] [cT 1 2 [0, 1] (C_stack_Stack_int_Len o0 y2 hy2)] ?_
  refine At.seq ?_
  refine At.seqJ (S := Bool) (fun s => ⟨[(0, .ptr 0 0), (6, i64 (w64 (y2 - p1))), (21, bo s)], [.blk 123 [.row 1 (o0.l).length, i64 o0.most], .row 3 1 (encL (eInt .i64) o0.l), .ghost (gv 0) (.ptr 0 0), .ghost (gv 1) (.row 1 0)]⟩) (fun s => F_stack_Stack_int_Take_J1 p1 o0 y2 s = some r) ?_ ?_
  · rcases cs h with ⟨b23, h⟩ | ⟨b23, h⟩
    · exact At.rK [0, 6, 21] [0, 1, 2, 3] [bT 6 b23] fun _ _ i => ⟨true, h, i⟩
    · exact At.rK [0, 6, 21] [0, 1, 2, 3] [bT 6 b23] fun _ _ i => ⟨(decide ((w64 (y2 - p1)) < 0)), h, i⟩
  · intro x8 h
    refine At.cd h (fun b9 h => ?_) (fun b9 h => ?_)
    · refine At.sR [4, 5] [0, 1, 2, 3] [] ?_
      refine At.eN [.hideG 3, .ownS 4 3 1] [4, 5] [0, 1, 2, 3, 4] ?_
      obtain rfl := sq h
      exact At.ret (At.rR hR [0, 1, 4])
    · refine At.nR [0, 6] [0, 1, 2, 3] ?_
      refine At.skip (norm ?_)
      refine At.seqJ (S := (List Int)) (fun s => ⟨[(0, .ptr 0 0), (6, i64 (w64 (y2 - p1))), (7, .row 4 (s).length)], [.blk 123 [.row 1 (o0.l).length, i64 o0.most], .row 3 1 (encL (eInt .i64) o0.l), .ghost (gv 0) (.ptr 0 0), .ghost (gv 1) (.row 1 0), .row 3 1 (encL (eInt .i64) s)]⟩) (fun s => F_stack_Stack_int_Take_J2 p1 o0 y2 s = some r) ?_ ?_
      · rcases tf (decide ((w64 (y2 - p1)) < ((o0.l).length : Int))) with b18 | b18
        · replace h := cond_t b18 h
          obtain ⟨g19, h⟩ := gs h
          obtain ⟨y20, hy20, h⟩ := bs h
          exact At.rK [0, 6, 7] [0, 1, 2, 3, 4] [tT 5 ({ orc := .pcells [] }) (allc g19 all0), cT 6 1 [1, 4] (FnOK.lent (args := [.view 0 (Int.toNat (w64 (y2 - p1)) * 1) (Int.toNat (((o0.l).length : Int) - (w64 (y2 - p1))))]) (σ := [.row 3 1 (encL (eInt .i64) o0.l)]) (res' := .row 1 (y20).length) (C_slices_Clone_int_int (lCut o0.l (w64 (y2 - p1)) ((o0.l).length : Int)) y20 hy20) (hk := asDs_view (e := 3) (he_int .i64) g19) (hs := sc_row (fun _ => rfl) y20))] fun _ _ i => ⟨y20, h, i⟩
        · replace h := cond_f b18 h
          obtain ⟨g21, h⟩ := gs h
          obtain ⟨y22, hy22, h⟩ := bs h
          exact At.rK [0, 6, 7] [0, 1, 2, 3, 4] [tT 5 ({ orc := .nums [] }) (allc g21 all0), cT 6 0 [4] (C_slices_Clone_int_int ([] : List Int) y22 hy22)] fun _ _ i => ⟨y22, h, i⟩
      · intro x15 h
        obtain ⟨g17, h⟩ := gs h
        refine At.sR [7] [0, 1, 2, 3, 4] [tT 7 ({ orc := .ents [], form := some ((lCut o0.l 0 (w64 (y2 - p1))).length, encL (eInt .i64) (lCut o0.l 0 (w64 (y2 - p1)))) }) (allc ((trunc_ok (he_int .i64) g17).1) (allc ((trunc_ok (he_int .i64) g17).2) (allc g17 all0)))] ?_
        refine At.sR [4, 5] [0, 1, 2, 3, 4] [] ?_
        obtain rfl := sq h
        exact At.ret (At.rR hR [0, 1, 4])
theorem C_arith_bit (p0 : Bool) (r : Int) (h : F_arith_bit p0 = some r) : FnOK Tryz.prog 163 [bo p0] [] (i64 r) [] [] := by
  refine fI Tryz.func163 rfl fun E gv R hR => ?_
  refine At.sR [0] [] [] ?_
  refine At.seq ?_
  refine At.sR [3] [] [] ?_
  refine At.cd h (fun b2 h => ?_) (fun b2 h => ?_)
  · refine At.sR [2] [] [] ?_
    obtain rfl := sq h
    exact At.ret (At.rR hR [])
  · refine At.nR [] [] ?_
    refine At.skip (norm ?_)
    refine At.sR [2] [] [] ?_
    obtain rfl := sq h
    exact At.ret (At.rR hR [])
theorem C_arith_compared (p0 : Int) (p1 : Int) (r : Int × Int × Int × Int × Int × Int × Int × Int × Int) (h : F_arith_compared p0 p1 = some r) : FnOK Tryz.prog 147 [i64 p0, i64 p1] [] (.mapv 0) [.mp [.int .i64 10, .int .i64 11, .int .i64 12, .int .i64 13, .int .i64 14, .int .i64 15, .int .i64 16, .int .i64 17, .int .i64 4] [i64 r.1, i64 r.2.1, i64 r.2.2.1, i64 r.2.2.2.1, i64 r.2.2.2.2.1, i64 r.2.2.2.2.2.1, i64 r.2.2.2.2.2.2.1, i64 r.2.2.2.2.2.2.2.1, i64 r.2.2.2.2.2.2.2.2]] [] := by
  refine fI Tryz.func147 rfl fun E gv R hR => ?_
  refine At.sR [0, 1] [] [] ?_
  refine At.seqJ (S := Int × Int × Int × Int × Int × Int × Int × Int × Int) (fun s => ⟨[(4, .mapv 0)], [.mp [.int .i64 10, .int .i64 11, .int .i64 12, .int .i64 13, .int .i64 14, .int .i64 15, .int .i64 16, .int .i64 17, .int .i64 4] [i64 s.1, i64 s.2.1, i64 s.2.2.1, i64 s.2.2.2.1, i64 s.2.2.2.2.1, i64 s.2.2.2.2.2.1, i64 s.2.2.2.2.2.2.1, i64 s.2.2.2.2.2.2.2.1, i64 s.2.2.2.2.2.2.2.2]]⟩) (fun s => F_arith_compared_J1 s.1 s.2.1 s.2.2.1 s.2.2.2.1 s.2.2.2.2.1 s.2.2.2.2.2.1 s.2.2.2.2.2.2.1 s.2.2.2.2.2.2.2.1 s.2.2.2.2.2.2.2.2 = some r) ?_ ?_
  · obtain ⟨y29, hy29, h⟩ := bs h
    obtain ⟨y30, hy30, h⟩ := bs h
    obtain ⟨y31, hy31, h⟩ := bs h
    obtain ⟨y32, hy32, h⟩ := bs h
    obtain ⟨y33, hy33, h⟩ := bs h
    obtain ⟨y34, hy34, h⟩ := bs h
    rcases cs h with ⟨b35, h⟩ | ⟨b35, h⟩
    · obtain ⟨y36, hy36, h⟩ := bs h
      rcases cs h with ⟨b37, h⟩ | ⟨b37, h⟩
      · obtain ⟨y38, hy38, h⟩ := bs h
        obtain ⟨y39, hy39, h⟩ := bs h
        exact At.rK [4] [0] [c0 4 (C_arith_bit (p0 == p1) y29 hy29), c0 9 (C_arith_bit (p0 != p1) y30 hy30), c0 14 (C_arith_bit (decide (p0 < p1)) y31 hy31), c0 19 (C_arith_bit (decide (p0 ≤ p1)) y32 hy32), c0 24 (C_arith_bit (decide (p1 < p0)) y33 hy33), c0 29 (C_arith_bit (decide (p1 ≤ p0)) y34 hy34), bT 33 b35, c0 37 (C_arith_bit (p1 != 0) y36 hy36), bT 41 b37, c0 45 (C_arith_bit true y38 hy38), c0 49 (C_arith_bit (p0 == 0) y39 hy39)] fun _ _ i => ⟨(y29, y30, y31, y32, y33, y34, y36, y38, y39), h, i⟩
      · obtain ⟨y40, hy40, h⟩ := bs h
        obtain ⟨y41, hy41, h⟩ := bs h
        exact At.rK [4] [0] [c0 4 (C_arith_bit (p0 == p1) y29 hy29), c0 9 (C_arith_bit (p0 != p1) y30 hy30), c0 14 (C_arith_bit (decide (p0 < p1)) y31 hy31), c0 19 (C_arith_bit (decide (p0 ≤ p1)) y32 hy32), c0 24 (C_arith_bit (decide (p1 < p0)) y33 hy33), c0 29 (C_arith_bit (decide (p1 ≤ p0)) y34 hy34), bT 33 b35, c0 37 (C_arith_bit (p1 != 0) y36 hy36), bT 41 b37, c0 45 (C_arith_bit (p1 != 0) y40 hy40), c0 49 (C_arith_bit (p0 == 0) y41 hy41)] fun _ _ i => ⟨(y29, y30, y31, y32, y33, y34, y36, y40, y41), h, i⟩
    · obtain ⟨y42, hy42, h⟩ := bs h
      rcases cs h with ⟨b43, h⟩ | ⟨b43, h⟩
      · obtain ⟨y44, hy44, h⟩ := bs h
        obtain ⟨y45, hy45, h⟩ := bs h
        exact At.rK [4] [0] [c0 4 (C_arith_bit (p0 == p1) y29 hy29), c0 9 (C_arith_bit (p0 != p1) y30 hy30), c0 14 (C_arith_bit (decide (p0 < p1)) y31 hy31), c0 19 (C_arith_bit (decide (p0 ≤ p1)) y32 hy32), c0 24 (C_arith_bit (decide (p1 < p0)) y33 hy33), c0 29 (C_arith_bit (decide (p1 ≤ p0)) y34 hy34), bT 33 b35, c0 37 (C_arith_bit false y42 hy42), bT 41 b43, c0 45 (C_arith_bit true y44 hy44), c0 49 (C_arith_bit (p0 == 0) y45 hy45)] fun _ _ i => ⟨(y29, y30, y31, y32, y33, y34, y42, y44, y45), h, i⟩
      · obtain ⟨y46, hy46, h⟩ := bs h
        obtain ⟨y47, hy47, h⟩ := bs h
        exact At.rK [4] [0] [c0 4 (C_arith_bit (p0 == p1) y29 hy29), c0 9 (C_arith_bit (p0 != p1) y30 hy30), c0 14 (C_arith_bit (decide (p0 < p1)) y31 hy31), c0 19 (C_arith_bit (decide (p0 ≤ p1)) y32 hy32), c0 24 (C_arith_bit (decide (p1 < p0)) y33 hy33), c0 29 (C_arith_bit (decide (p1 ≤ p0)) y34 hy34), bT 33 b35, c0 37 (C_arith_bit false y42 hy42), bT 41 b43, c0 45 (C_arith_bit (p1 != 0) y46 hy46), c0 49 (C_arith_bit (p0 == 0) y47 hy47)] fun _ _ i => ⟨(y29, y30, y31, y32, y33, y34, y42, y46, y47), h, i⟩
  · rintro ⟨x20, x21, x22, x23, x24, x25, x26, x27, x28⟩ h
    replace h : F_arith_compared_J1 x20 x21 x22 x23 x24 x25 x26 x27 x28 = some r := h
    obtain rfl := sq h
    exact At.ret (At.rR hR [0])
theorem C_arith_Apply (p0 : Int) (p1 : Int) (p2 : Int) (r : Int × Int) (h : F_arith_Apply p0 p1 p2 = some r) : FnOK Tryz.prog 108 [i64 p0, i64 p1, i64 p2] [] (.tup [i64 r.1, i64 r.2]) [] [] := by
  refine fI Tryz.func108 rfl fun E gv R hR => ?_
  refine At.sR [0, 1, 2] [] [] ?_
  refine At.seq ?_
  refine At.sR [0, 1, 2, 8] [] [] ?_
  refine At.block ?_
  refine At.sR [0, 1, 2, 8, 9] [] [] ?_
  refine At.cd h (fun b19 h => ?_) (fun b19 h => ?_)
  · refine At.sR [6, 7] [] [] ?_
    obtain rfl := sq h
    exact At.ret (At.rR hR [])
  · refine At.sR [0, 1, 2, 8, 13] [] [] ?_
    refine At.cd h (fun b20 h => ?_) (fun b20 h => ?_)
    · refine At.sR [6, 7] [] [] ?_
      obtain rfl := sq h
      exact At.ret (At.rR hR [])
    · refine At.sR [0, 1, 2, 8, 18] [] [] ?_
      refine At.cd h (fun b21 h => ?_) (fun b21 h => ?_)
      · refine At.seq ?_
        refine At.rK (st' := ⟨[(6, i64 (w64 (p1 - p2))), (7, i64 0)], []⟩) [6, 7] [] [] (norm ?_)
        obtain rfl := sq h
        exact At.ret (At.rR hR [])
      · refine At.seq ?_
        refine At.rK (st' := ⟨[(0, i64 p0), (1, i64 p1), (2, i64 p2), (8, i64 p0), (23, bo (p0 == 7))], []⟩) [0, 1, 2, 8, 23] [] [] (norm ?_)
        refine At.cd h (fun b22 h => ?_) (fun b22 h => ?_)
        · refine At.sR [6, 7] [] [] ?_
          obtain rfl := sq h
          exact At.ret (At.rR hR [])
        · refine At.seqJ (S := Bool) (fun s => ⟨[(0, i64 p0), (1, i64 p1), (2, i64 p2), (28, bo s)], []⟩) (fun s => F_arith_Apply_J1 p0 p1 p2 s = some r) ?_ ?_
          · refine At.sR [0, 1, 2, 8, 28] [] [] ?_
            refine At.cd h (fun b38 h => ?_) (fun b38 h => ?_)
            · refine At.nR [0, 1, 2, 28] [] ?_
              refine At.skip (fun _ _ i => ⟨(p0 == 8), h, i.en [] [0, 1, 2, 28] []⟩)
            · exact At.rK [0, 1, 2, 28] [] [] fun _ _ i => ⟨(p0 == 9), h, i⟩
          · intro x24 h
            refine At.cd h (fun b25 h => ?_) (fun b25 h => ?_)
            · refine At.seq ?_
              refine At.sR [0, 1, 2, 32] [] [] ?_
              refine At.cd h (fun b27 h => ?_) (fun b27 h => ?_)
              · refine At.sR [6, 7] [] [] ?_
                obtain rfl := sq h
                exact At.ret (At.rR hR [])
              · refine At.nR [0, 1, 2] [] ?_
                refine At.skip (norm ?_)
                refine At.seq ?_
                refine At.sR [1, 2, 34] [] [] ?_
                refine At.cd h (fun b31 h => ?_) (fun b31 h => ?_)
                · obtain ⟨g33, h⟩ := gs h
                  refine At.sR [6, 7] [] [oT 2 g33] ?_
                  obtain rfl := sq h
                  exact At.ret (At.rR hR [])
                · refine At.nR [1, 2] [] ?_
                  refine At.skip (norm ?_)
                  obtain ⟨g35, h⟩ := gs h
                  refine At.sR [6, 7] [] [oT 2 g35] ?_
                  obtain rfl := sq h
                  exact At.ret (At.rR hR [])
            · refine At.nR [0, 1, 2] [] ?_
              refine At.skip (norm ?_)
              obtain ⟨y37, hy37, h⟩ := bs h
              refine At.sR [6, 7] [] [cT 2 0 [0] (C_arith_compared p1 p2 y37 hy37)] ?_
              obtain rfl := sq h
              exact At.ret (At.rR hR [])
theorem C_run_runner_reckon (p1 : Int) (o0_0 : (List T_api_Ins)) (o0_1 : (List T_api_Def)) (o0_2 : (List T_api_Chan)) (o0_3 : Int) (o0_4 : Int) (o0_5 : Int) (o0_6 : Int) (o0_7 : (List Int)) (o0_8 : Int) (o0_9 : Int) (o0_10 : Int) (o0_11 : Int) (o0_12 : Int) (o0_13 : Int) (o0_14 : Int) (o0_15 : (List T_api_Alt)) (o0_17 : Int) (o0_18 : Int) (o0_19 : Int) (o0_20 : Int) (o0_21 : Int) (o0_22 : Int) (o0_23 : Int) (o0_24 : Int) (o0_27 : Int) (o0_28 : Bool) (o1 : T_stack_Stack_int_) (o3 : (List Int)) (o4 : (List T_api_Alt)) (r : Int × Int × Int × Int × Int × Int × Int × Bool × T_stack_Stack_int_ × (List Int) × (List T_api_Alt)) (h : F_run_runner_reckon p1 o0_18 o0_20 o0_21 o0_22 o0_23 o0_24 o0_27 o0_28 o1 o3 o4 = some r) : FnOK Tryz.prog 65 [.ptr 0 0, i64 p1] [.blk 81 [lv T_api_Ins.enc o0_0, lv T_api_Def.enc o0_1, lv T_api_Chan.enc o0_2, i64 o0_3, i64 o0_4, i64 o0_5, i64 o0_6, lv (eInt .i64) o0_7, i64 o0_8, i64 o0_9, i64 o0_10, i64 o0_11, i64 o0_12, i64 o0_13, i64 o0_14, lv T_api_Alt.enc o0_15, .ptr 1 0, i64 o0_17, i64 o0_18, i64 o0_19, i64 o0_20, i64 o0_21, i64 o0_22, i64 o0_23, i64 o0_24, .row 3 (o3).length, .row 4 (o4).length, i64 o0_27, bo o0_28], .blk 123 [.row 2 (o1.l).length, i64 o1.most], .row 3 1 (encL (eInt .i64) o1.l), .row 3 1 (encL (eInt .i64) o3), .row 47 5 (encL T_api_Alt.enc o4)] (.tup []) [.blk 81 [lv T_api_Ins.enc o0_0, lv T_api_Def.enc o0_1, lv T_api_Chan.enc o0_2, i64 o0_3, i64 o0_4, i64 o0_5, i64 o0_6, lv (eInt .i64) o0_7, i64 o0_8, i64 o0_9, i64 o0_10, i64 o0_11, i64 o0_12, i64 o0_13, i64 o0_14, lv T_api_Alt.enc o0_15, .ptr 1 0, i64 o0_17, i64 r.1, i64 o0_19, i64 r.2.1, i64 r.2.2.1, i64 r.2.2.2.1, i64 r.2.2.2.2.1, i64 r.2.2.2.2.2.1, .row 3 (r.2.2.2.2.2.2.2.2.2.1).length, .row 4 (r.2.2.2.2.2.2.2.2.2.2).length, i64 r.2.2.2.2.2.2.1, bo r.2.2.2.2.2.2.2.1], .blk 123 [.row 2 (r.2.2.2.2.2.2.2.2.1.l).length, i64 r.2.2.2.2.2.2.2.2.1.most], .row 3 1 (encL (eInt .i64) r.2.2.2.2.2.2.2.2.1.l), .row 3 1 (encL (eInt .i64) r.2.2.2.2.2.2.2.2.2.1), .row 47 5 (encL T_api_Alt.enc r.2.2.2.2.2.2.2.2.2.2)] [1, 3, 4, 5, 6, 7, 8, 9] := by
  refine fI Tryz.func65 rfl fun E gv R hR => ?_
  obtain ⟨y3, hy3, h⟩ := bs h
  obtain ⟨y4, hy4, h⟩ := bs h
  refine At.sD 1 [0, 1, 4] [0, 1, 2, 3, 4, 5, 6, 7, 8, 9, 10] [c0 5 (C_arith_Wide p1 y3 hy3), cT 6 2 [1, 2, 10] (C_stack_Stack_int_Take y3 o1 y4 hy4)] ?_
  obtain ⟨g6, h⟩ := gs h
  refine At.sR [0, 1, 4] [0, 1, 2, 3, 4, 5, 6, 7, 8, 9, 10] [aT (he_int .i64) 2 y4.1 ([0, 0]) rfl g6] ?_
  obtain ⟨y10, hy10, h⟩ := bs h
  obtain ⟨y11, hy11, h⟩ := bs h
  obtain ⟨y12, hy12, h⟩ := bs h
  refine At.sD 0 [0, 6, 7] [0, 1, 2, 3, 4, 5, 6, 7, 8, 9] [oT 2 ((rAt_of (he_int .i64) (d := .int .i64 y10) hy10 rfl).1), vT 3 (.int .i64 y10) ((rAt_of (he_int .i64) (d := .int .i64 y10) hy10 rfl).2), oT 5 ((rAt_of (he_int .i64) (d := .int .i64 y11) hy11 rfl).1), vT 6 (.int .i64 y11) ((rAt_of (he_int .i64) (d := .int .i64 y11) hy11 rfl).2), c0 7 (C_arith_Apply p1 y10 y11 y12 hy12)] ?_
  refine At.seq ?_
  refine At.sR [0, 6, 7, 33] [0, 1, 2, 3, 4, 5, 6, 7, 8, 9] [] ?_
  refine At.cd h (fun b16 h => ?_) (fun b16 h => ?_)
  · obtain ⟨y18, hy18, h⟩ := bs h
    refine At.sR [] [0, 1, 2, 3, 4, 5, 6, 7, 8, 9] [cT 2 5 [0, 1, 2, 3, 4] (C_run_runner_fault y12.2 o0_0 o0_1 o0_2 o0_3 o0_4 o0_5 o0_6 o0_7 o0_8 o0_9 o0_10 o0_11 o0_12 o0_13 o0_14 o0_15 o0_17 o0_18 o0_19 o0_20 o0_21 o0_22 o0_23 o0_24 o0_27 o0_28 y4.2.2 o3 o4 y18 hy18)] ?_
    obtain rfl := sq h
    exact At.ret (At.rR hR [0, 1, 2, 3, 4])
  · refine At.nR [0, 6] [0, 1, 2, 3, 4, 5, 6, 7, 8, 9] ?_
    refine At.skip (norm ?_)
    obtain ⟨y19, hy19, h⟩ := bs h
    obtain rfl := sq h
    refine At.rK (st' := ⟨[], [.blk 81 [lv T_api_Ins.enc o0_0, lv T_api_Def.enc o0_1, lv T_api_Chan.enc o0_2, i64 o0_3, i64 o0_4, i64 o0_5, i64 o0_6, lv (eInt .i64) o0_7, i64 o0_8, i64 o0_9, i64 o0_10, i64 o0_11, i64 o0_12, i64 o0_13, i64 o0_14, lv T_api_Alt.enc o0_15, .ptr 1 0, i64 o0_17, i64 y19.1, i64 o0_19, i64 y19.2.1, i64 y19.2.2.1, i64 y19.2.2.2.1, i64 y19.2.2.2.2.1, i64 y19.2.2.2.2.2.1, .row 3 (y19.2.2.2.2.2.2.2.2.2.1).length, .row 4 (y19.2.2.2.2.2.2.2.2.2.2).length, i64 y19.2.2.2.2.2.2.1, bo y19.2.2.2.2.2.2.2.1], .blk 123 [.row 2 (y19.2.2.2.2.2.2.2.2.1.l).length, i64 y19.2.2.2.2.2.2.2.2.1.most], .row 3 1 (encL (eInt .i64) y19.2.2.2.2.2.2.2.2.1.l), .row 3 1 (encL (eInt .i64) y19.2.2.2.2.2.2.2.2.2.1), .row 47 5 (encL T_api_Alt.enc y19.2.2.2.2.2.2.2.2.2.2), .ghost (gv 0) (.ptr 0 0), .ghost (gv 1) (.ptr 1 0), .ghost (gv 2) (.undef), .ghost (gv 3) (.undef), .ghost (gv 4) (.undef)]⟩) [] [0, 1, 2, 3, 4, 5, 6, 7, 8, 9] [cT 3 6 [0, 1, 2, 3, 4, 10] (C_run_runner_lay o0_0 o0_1 o0_2 o0_3 o0_4 o0_5 o0_6 o0_7 o0_8 o0_9 o0_10 o0_11 o0_12 o0_13 o0_14 o0_15 o0_17 o0_18 o0_19 o0_20 o0_21 o0_22 o0_23 o0_24 o0_27 o0_28 y4.2.2 o3 o4 ([y12.1]) y19 hy19)] (At.rN hR [0, 1, 2, 3, 4])
theorem C_run_runner_jump (p1 : Int) (p2 : Bool) (o0_0 : (List T_api_Ins)) (o0_1 : (List T_api_Def)) (o0_2 : (List T_api_Chan)) (o0_3 : Int) (o0_4 : Int) (o0_5 : Int) (o0_6 : Int) (o0_7 : (List Int)) (o0_8 : Int) (o0_9 : Int) (o0_10 : Int) (o0_11 : Int) (o0_12 : Int) (o0_13 : Int) (o0_14 : Int) (o0_15 : (List T_api_Alt)) (o0_17 : Int) (o0_18 : Int) (o0_19 : Int) (o0_20 : Int) (o0_21 : Int) (o0_22 : Int) (o0_23 : Int) (o0_24 : Int) (o0_27 : Int) (o0_28 : Bool) (o1 : T_stack_Stack_int_) (o3 : (List Int)) (o4 : (List T_api_Alt)) (r : Int) (h : F_run_runner_jump p1 p2 o0_17 = some r) : FnOK Tryz.prog 66 [.ptr 0 0, i64 p1, bo p2] [.blk 81 [lv T_api_Ins.enc o0_0, lv T_api_Def.enc o0_1, lv T_api_Chan.enc o0_2, i64 o0_3, i64 o0_4, i64 o0_5, i64 o0_6, lv (eInt .i64) o0_7, i64 o0_8, i64 o0_9, i64 o0_10, i64 o0_11, i64 o0_12, i64 o0_13, i64 o0_14, lv T_api_Alt.enc o0_15, .ptr 1 0, i64 o0_17, i64 o0_18, i64 o0_19, i64 o0_20, i64 o0_21, i64 o0_22, i64 o0_23, i64 o0_24, .row 3 (o3).length, .row 4 (o4).length, i64 o0_27, bo o0_28], .blk 123 [.row 2 (o1.l).length, i64 o1.most], .row 3 1 (encL (eInt .i64) o1.l), .row 3 1 (encL (eInt .i64) o3), .row 47 5 (encL T_api_Alt.enc o4)] (.tup []) [.blk 81 [lv T_api_Ins.enc o0_0, lv T_api_Def.enc o0_1, lv T_api_Chan.enc o0_2, i64 o0_3, i64 o0_4, i64 o0_5, i64 o0_6, lv (eInt .i64) o0_7, i64 o0_8, i64 o0_9, i64 o0_10, i64 o0_11, i64 o0_12, i64 o0_13, i64 o0_14, lv T_api_Alt.enc o0_15, .ptr 1 0, i64 r, i64 o0_18, i64 o0_19, i64 o0_20, i64 o0_21, i64 o0_22, i64 o0_23, i64 o0_24, .row 3 (o3).length, .row 4 (o4).length, i64 o0_27, bo o0_28], .blk 123 [.row 2 (o1.l).length, i64 o1.most], .row 3 1 (encL (eInt .i64) o1.l), .row 3 1 (encL (eInt .i64) o3), .row 47 5 (encL T_api_Alt.enc o4)] [1, 3, 4, 6, 8] := by
  refine fI Tryz.func66 rfl fun E gv R hR => ?_
  refine At.sR [0, 1, 6] [0, 1, 2, 3, 4, 5, 6, 7, 8, 9] [] ?_
  refine At.cd h (fun b1 h => ?_) (fun b1 h => ?_)
  · obtain rfl := sq h
    refine At.rG [] [0, 1, 2, 3, 4, 5, 6, 7, 8, 9] [] (edq (l := []) (ks := []) (ρ := [0, 1, 2, 3, 4, 5, 6, 7, 8, 9]) (st' := ⟨[], [.blk 81 [lv T_api_Ins.enc o0_0, lv T_api_Def.enc o0_1, lv T_api_Chan.enc o0_2, i64 o0_3, i64 o0_4, i64 o0_5, i64 o0_6, lv (eInt .i64) o0_7, i64 o0_8, i64 o0_9, i64 o0_10, i64 o0_11, i64 o0_12, i64 o0_13, i64 o0_14, lv T_api_Alt.enc o0_15, .ptr 1 0, i64 p1, i64 o0_18, i64 o0_19, i64 o0_20, i64 o0_21, i64 o0_22, i64 o0_23, i64 o0_24, .row 3 (o3).length, .row 4 (o4).length, i64 o0_27, bo o0_28], .blk 123 [.row 2 (o1.l).length, i64 o1.most], .row 3 1 (encL (eInt .i64) o1.l), .row 3 1 (encL (eInt .i64) o3), .row 47 5 (encL T_api_Alt.enc o4), .ghost (gv 0) (.ptr 0 0), .ghost (gv 1) (.ptr 1 0), .ghost (gv 2) (.row 2 0), .ghost (gv 3) (.row 3 0), .ghost (gv 4) (.row 4 0)]⟩) (by kernel_rfl) (At.rN hR [0, 1, 2, 3, 4]))
  · refine At.nR [] [0, 1, 2, 3, 4, 5, 6, 7, 8, 9] ?_
    obtain rfl := sq h
    refine At.skip (edq (l := []) (ks := []) (ρ := [0, 1, 2, 3, 4, 5, 6, 7, 8, 9]) (st' := ⟨[], [.blk 81 [lv T_api_Ins.enc o0_0, lv T_api_Def.enc o0_1, lv T_api_Chan.enc o0_2, i64 o0_3, i64 o0_4, i64 o0_5, i64 o0_6, lv (eInt .i64) o0_7, i64 o0_8, i64 o0_9, i64 o0_10, i64 o0_11, i64 o0_12, i64 o0_13, i64 o0_14, lv T_api_Alt.enc o0_15, .ptr 1 0, i64 o0_17, i64 o0_18, i64 o0_19, i64 o0_20, i64 o0_21, i64 o0_22, i64 o0_23, i64 o0_24, .row 3 (o3).length, .row 4 (o4).length, i64 o0_27, bo o0_28], .blk 123 [.row 2 (o1.l).length, i64 o1.most], .row 3 1 (encL (eInt .i64) o1.l), .row 3 1 (encL (eInt .i64) o3), .row 47 5 (encL T_api_Alt.enc o4), .ghost (gv 0) (.ptr 0 0), .ghost (gv 1) (.ptr 1 0), .ghost (gv 2) (.row 2 0), .ghost (gv 3) (.row 3 0), .ghost (gv 4) (.row 4 0)]⟩) (by kernel_rfl) (At.rN hR [0, 1, 2, 3, 4]))
theorem C_stack_Stack_int_Pop (o0 : T_stack_Stack_int_) (r : Int × Bool × T_stack_Stack_int_) (h : F_stack_Stack_int_Pop o0 = some r) : FnOK Tryz.prog 109 [.ptr 0 0] [.blk 123 [.row 1 (o0.l).length, i64 o0.most], .row 3 1 (encL (eInt .i64) o0.l)] (.tup [i64 r.1, bo r.2.1]) [.blk 123 [.row 1 (r.2.2.l).length, i64 r.2.2.most], .row 3 1 (encL (eInt .i64) r.2.2.l)] [1, 2, 3] := by
  refine fI Tryz.func109 rfl fun E gv R hR => ?_
  refine At.sR [0] [0, 1, 2, 3] [] ?_
  obtain ⟨y2, hy2, h⟩ := bs h
  refine At.sR [4, 5] [0, 1, 2, 3, 4] [cT 1 2 [0, 1, 4] (C_stack_Stack_int_Take 1 o0 y2 hy2)] ?_
  refine At.seq ?_
  refine At.sR [4, 13] [0, 1, 2, 3, 4] [] ?_
  refine At.cd h (fun b4 h => ?_) (fun b4 h => ?_)
  · refine At.sR [6] [0, 1, 2, 3] [] ?_
    refine At.sR [2, 3] [0, 1, 2, 3] [] ?_
    obtain rfl := sq h
    exact At.ret (At.rR hR [0, 1])
  · refine At.nR [4] [0, 1, 2, 3, 4] ?_
    refine At.skip (norm ?_)
    obtain ⟨y6, hy6, h⟩ := bs h
    refine At.sR [2, 3] [0, 1, 2, 3] [oT 1 ((rAt_of (he_int .i64) (d := .int .i64 y6) hy6 rfl).1), vT 2 (.int .i64 y6) ((rAt_of (he_int .i64) (d := .int .i64 y6) hy6 rfl).2)] ?_
    obtain rfl := sq h
    exact At.ret (At.rR hR [0, 1])
theorem C_run_runner_take (o0_0 : (List T_api_Ins)) (o0_1 : (List T_api_Def)) (o0_2 : (List T_api_Chan)) (o0_3 : Int) (o0_4 : Int) (o0_5 : Int) (o0_6 : Int) (o0_7 : (List Int)) (o0_8 : Int) (o0_9 : Int) (o0_10 : Int) (o0_11 : Int) (o0_12 : Int) (o0_13 : Int) (o0_14 : Int) (o0_15 : (List T_api_Alt)) (o0_17 : Int) (o0_18 : Int) (o0_19 : Int) (o0_20 : Int) (o0_21 : Int) (o0_22 : Int) (o0_23 : Int) (o0_24 : Int) (o0_27 : Int) (o0_28 : Bool) (o1 : T_stack_Stack_int_) (o3 : (List Int)) (o4 : (List T_api_Alt)) (r : Int × T_stack_Stack_int_) (h : F_run_runner_take o1 = some r) : FnOK Tryz.prog 67 [.ptr 0 0] [.blk 81 [lv T_api_Ins.enc o0_0, lv T_api_Def.enc o0_1, lv T_api_Chan.enc o0_2, i64 o0_3, i64 o0_4, i64 o0_5, i64 o0_6, lv (eInt .i64) o0_7, i64 o0_8, i64 o0_9, i64 o0_10, i64 o0_11, i64 o0_12, i64 o0_13, i64 o0_14, lv T_api_Alt.enc o0_15, .ptr 1 0, i64 o0_17, i64 o0_18, i64 o0_19, i64 o0_20, i64 o0_21, i64 o0_22, i64 o0_23, i64 o0_24, .row 3 (o3).length, .row 4 (o4).length, i64 o0_27, bo o0_28], .blk 123 [.row 2 (o1.l).length, i64 o1.most], .row 3 1 (encL (eInt .i64) o1.l), .row 3 1 (encL (eInt .i64) o3), .row 47 5 (encL T_api_Alt.enc o4)] (i64 r.1) [.blk 81 [lv T_api_Ins.enc o0_0, lv T_api_Def.enc o0_1, lv T_api_Chan.enc o0_2, i64 o0_3, i64 o0_4, i64 o0_5, i64 o0_6, lv (eInt .i64) o0_7, i64 o0_8, i64 o0_9, i64 o0_10, i64 o0_11, i64 o0_12, i64 o0_13, i64 o0_14, lv T_api_Alt.enc o0_15, .ptr 1 0, i64 o0_17, i64 o0_18, i64 o0_19, i64 o0_20, i64 o0_21, i64 o0_22, i64 o0_23, i64 o0_24, .row 3 (o3).length, .row 4 (o4).length, i64 o0_27, bo o0_28], .blk 123 [.row 2 (r.2.l).length, i64 r.2.most], .row 3 1 (encL (eInt .i64) r.2.l), .row 3 1 (encL (eInt .i64) o3), .row 47 5 (encL T_api_Alt.enc o4)] [1, 3, 4, 5, 6, 8] := by
  refine fI Tryz.func67 rfl fun E gv R hR => ?_
  refine At.sR [0] [0, 1, 2, 3, 4, 5, 6, 7, 8, 9] [] ?_
  obtain ⟨y2, hy2, h⟩ := bs h
  refine At.sR [3] [0, 1, 2, 3, 4, 5, 6, 7, 8, 9] [cT 4 2 [1, 2] (C_stack_Stack_int_Pop o1 y2 hy2)] ?_
  refine At.sR [2] [0, 1, 2, 3, 4, 5, 6, 7, 8, 9] [] ?_
  obtain rfl := sq h
  exact At.ret (At.rR hR [0, 1, 2, 3, 4])
theorem C_run_runner_channel (p1 : T_api_Ins) (o0_0 : (List T_api_Ins)) (o0_1 : (List T_api_Def)) (o0_2 : (List T_api_Chan)) (o0_3 : Int) (o0_4 : Int) (o0_5 : Int) (o0_6 : Int) (o0_7 : (List Int)) (o0_8 : Int) (o0_9 : Int) (o0_10 : Int) (o0_11 : Int) (o0_12 : Int) (o0_13 : Int) (o0_14 : Int) (o0_15 : (List T_api_Alt)) (o0_17 : Int) (o0_18 : Int) (o0_19 : Int) (o0_20 : Int) (o0_21 : Int) (o0_22 : Int) (o0_23 : Int) (o0_24 : Int) (o0_27 : Int) (o0_28 : Bool) (o1 : T_stack_Stack_int_) (o3 : (List Int)) (o4 : (List T_api_Alt)) (r : Int × Int × Int × Int × Int × Int × Int × Bool × T_stack_Stack_int_ × (List Int) × (List T_api_Alt)) (h : F_run_runner_channel p1 o0_18 o0_20 o0_21 o0_22 o0_23 o0_24 o0_27 o0_28 o1 o3 o4 = some r) : FnOK Tryz.prog 68 [.ptr 0 0, .agg (T_api_Ins.pvs p1)] [.blk 81 [lv T_api_Ins.enc o0_0, lv T_api_Def.enc o0_1, lv T_api_Chan.enc o0_2, i64 o0_3, i64 o0_4, i64 o0_5, i64 o0_6, lv (eInt .i64) o0_7, i64 o0_8, i64 o0_9, i64 o0_10, i64 o0_11, i64 o0_12, i64 o0_13, i64 o0_14, lv T_api_Alt.enc o0_15, .ptr 1 0, i64 o0_17, i64 o0_18, i64 o0_19, i64 o0_20, i64 o0_21, i64 o0_22, i64 o0_23, i64 o0_24, .row 3 (o3).length, .row 4 (o4).length, i64 o0_27, bo o0_28], .blk 123 [.row 2 (o1.l).length, i64 o1.most], .row 3 1 (encL (eInt .i64) o1.l), .row 3 1 (encL (eInt .i64) o3), .row 47 5 (encL T_api_Alt.enc o4)] (.tup []) [.blk 81 [lv T_api_Ins.enc o0_0, lv T_api_Def.enc o0_1, lv T_api_Chan.enc o0_2, i64 o0_3, i64 o0_4, i64 o0_5, i64 o0_6, lv (eInt .i64) o0_7, i64 o0_8, i64 o0_9, i64 o0_10, i64 o0_11, i64 o0_12, i64 o0_13, i64 o0_14, lv T_api_Alt.enc o0_15, .ptr 1 0, i64 o0_17, i64 r.1, i64 o0_19, i64 r.2.1, i64 r.2.2.1, i64 r.2.2.2.1, i64 r.2.2.2.2.1, i64 r.2.2.2.2.2.1, .row 3 (r.2.2.2.2.2.2.2.2.2.1).length, .row 4 (r.2.2.2.2.2.2.2.2.2.2).length, i64 r.2.2.2.2.2.2.1, bo r.2.2.2.2.2.2.2.1], .blk 123 [.row 2 (r.2.2.2.2.2.2.2.2.1.l).length, i64 r.2.2.2.2.2.2.2.2.1.most], .row 3 1 (encL (eInt .i64) r.2.2.2.2.2.2.2.2.1.l), .row 3 1 (encL (eInt .i64) r.2.2.2.2.2.2.2.2.2.1), .row 47 5 (encL T_api_Alt.enc r.2.2.2.2.2.2.2.2.2.2)] [1, 3, 4, 5, 6, 7, 8, 9] := by
  refine fI Tryz.func68 rfl fun E gv R hR => ?_
  refine At.sR [0, 3] [0, 1, 2, 3, 4, 5, 6, 7, 8, 9, 10] [] ?_
  refine At.seq ?_
  refine At.sR [0, 3, 7] [0, 1, 2, 3, 4, 5, 6, 7, 8, 9, 10] [] ?_
  refine At.cd h (fun b4 h => ?_) (fun b4 h => ?_)
  · obtain ⟨y6, hy6, h⟩ := bs h
    refine At.sR [] [0, 1, 2, 3, 4, 5, 6, 7, 8, 9] [cT 4 6 [0, 1, 2, 3, 4, 11] (C_run_runner_lay o0_0 o0_1 o0_2 o0_3 o0_4 o0_5 o0_6 o0_7 o0_8 o0_9 o0_10 o0_11 o0_12 o0_13 o0_14 o0_15 o0_17 o0_18 o0_19 o0_20 o0_21 o0_22 o0_23 o0_24 o0_27 o0_28 o1 o3 o4 ([p1.A]) y6 hy6)] ?_
    obtain rfl := sq h
    exact At.ret (At.rR hR [0, 1, 2, 3, 4])
  · refine At.nR [0, 3] [0, 1, 2, 3, 4, 5, 6, 7, 8, 9, 10] ?_
    refine At.skip (norm ?_)
    obtain ⟨y8, hy8, h⟩ := bs h
    refine At.sR [0, 3, 4] [0, 1, 2, 3, 4, 5, 6, 7, 8, 9, 10] [cT 1 5 [0, 1, 2, 3, 4] (C_run_runner_take o0_0 o0_1 o0_2 o0_3 o0_4 o0_5 o0_6 o0_7 o0_8 o0_9 o0_10 o0_11 o0_12 o0_13 o0_14 o0_15 o0_17 o0_18 o0_19 o0_20 o0_21 o0_22 o0_23 o0_24 o0_27 o0_28 o1 o3 o4 y8 hy8)] ?_
    refine At.seq ?_
    refine At.seqJ (S := Bool) (fun s => ⟨[(0, .ptr 0 0), (3, .ptr 10 0), (4, i64 y8.1), (22, bo s)], [.blk 81 [lv T_api_Ins.enc o0_0, lv T_api_Def.enc o0_1, lv T_api_Chan.enc o0_2, i64 o0_3, i64 o0_4, i64 o0_5, i64 o0_6, lv (eInt .i64) o0_7, i64 o0_8, i64 o0_9, i64 o0_10, i64 o0_11, i64 o0_12, i64 o0_13, i64 o0_14, lv T_api_Alt.enc o0_15, .ptr 1 0, i64 o0_17, i64 o0_18, i64 o0_19, i64 o0_20, i64 o0_21, i64 o0_22, i64 o0_23, i64 o0_24, .row 3 (o3).length, .row 4 (o4).length, i64 o0_27, bo o0_28], .blk 123 [.row 2 (y8.2.l).length, i64 y8.2.most], .row 3 1 (encL (eInt .i64) y8.2.l), .row 3 1 (encL (eInt .i64) o3), .row 47 5 (encL T_api_Alt.enc o4), .ghost (gv 0) (.ptr 0 0), .ghost (gv 1) (.ptr 1 0), .ghost (gv 2) (.undef), .ghost (gv 3) (.row 3 0), .ghost (gv 4) (.row 4 0), .blk 50 (T_api_Ins.pvs p1)]⟩) (fun s => F_run_runner_channel_J1 p1 o0_18 o0_20 o0_21 o0_22 o0_23 o0_24 o0_27 o0_28 o3 o4 y8 s = some r) ?_ ?_
    · rcases cs h with ⟨b21, h⟩ | ⟨b21, h⟩
      · exact At.rK [0, 3, 4, 22] [0, 1, 2, 3, 4, 5, 6, 7, 8, 9, 10] [bT 2 b21] fun _ _ i => ⟨true, h, i⟩
      · exact At.rK [0, 3, 4, 22] [0, 1, 2, 3, 4, 5, 6, 7, 8, 9, 10] [bT 2 b21] fun _ _ i => ⟨(decide (p1.B ≤ y8.1)), h, i⟩
    · intro x16 h
      refine At.cd h (fun b17 h => ?_) (fun b17 h => ?_)
      · obtain ⟨y19, hy19, h⟩ := bs h
        refine At.sR [] [0, 1, 2, 3, 4, 5, 6, 7, 8, 9] [cT 1 5 [0, 1, 2, 3, 4] (C_run_runner_fault 4 o0_0 o0_1 o0_2 o0_3 o0_4 o0_5 o0_6 o0_7 o0_8 o0_9 o0_10 o0_11 o0_12 o0_13 o0_14 o0_15 o0_17 o0_18 o0_19 o0_20 o0_21 o0_22 o0_23 o0_24 o0_27 o0_28 y8.2 o3 o4 y19 hy19)] ?_
        obtain rfl := sq h
        exact At.ret (At.rR hR [0, 1, 2, 3, 4])
      · refine At.nR [0, 3, 4] [0, 1, 2, 3, 4, 5, 6, 7, 8, 9, 10] ?_
        refine At.skip (norm ?_)
        obtain ⟨y20, hy20, h⟩ := bs h
        obtain rfl := sq h
        refine At.rG [] [0, 1, 2, 3, 4, 5, 6, 7, 8, 9] [cT 6 6 [0, 1, 2, 3, 4, 11] (C_run_runner_lay o0_0 o0_1 o0_2 o0_3 o0_4 o0_5 o0_6 o0_7 o0_8 o0_9 o0_10 o0_11 o0_12 o0_13 o0_14 o0_15 o0_17 o0_18 o0_19 o0_20 o0_21 o0_22 o0_23 o0_24 o0_27 o0_28 y8.2 o3 o4 ([(w64 (p1.A + y8.1))]) y20 hy20)] (edq (l := []) (ks := []) (ρ := [0, 1, 2, 3, 4, 5, 6, 7, 8, 9]) (st' := ⟨[], [.blk 81 [lv T_api_Ins.enc o0_0, lv T_api_Def.enc o0_1, lv T_api_Chan.enc o0_2, i64 o0_3, i64 o0_4, i64 o0_5, i64 o0_6, lv (eInt .i64) o0_7, i64 o0_8, i64 o0_9, i64 o0_10, i64 o0_11, i64 o0_12, i64 o0_13, i64 o0_14, lv T_api_Alt.enc o0_15, .ptr 1 0, i64 o0_17, i64 y20.1, i64 o0_19, i64 y20.2.1, i64 y20.2.2.1, i64 y20.2.2.2.1, i64 y20.2.2.2.2.1, i64 y20.2.2.2.2.2.1, .row 3 (y20.2.2.2.2.2.2.2.2.2.1).length, .row 4 (y20.2.2.2.2.2.2.2.2.2.2).length, i64 y20.2.2.2.2.2.2.1, bo y20.2.2.2.2.2.2.2.1], .blk 123 [.row 2 (y20.2.2.2.2.2.2.2.2.1.l).length, i64 y20.2.2.2.2.2.2.2.2.1.most], .row 3 1 (encL (eInt .i64) y20.2.2.2.2.2.2.2.2.1.l), .row 3 1 (encL (eInt .i64) y20.2.2.2.2.2.2.2.2.2.1), .row 47 5 (encL T_api_Alt.enc y20.2.2.2.2.2.2.2.2.2.2), .ghost (gv 0) (.ptr 0 0), .ghost (gv 1) (.ptr 1 0), .ghost (gv 2) (.undef), .ghost (gv 3) (.undef), .ghost (gv 4) (.undef)]⟩) (by kernel_rfl) (At.rN hR [0, 1, 2, 3, 4]))
theorem C_proc_Chans (p0 : T_api_Code) (r : Int) (h : F_proc_Chans p0 = some r) : FnOK Tryz.prog 110 [.agg (T_api_Code.pvs p0)] [] (i64 r) [] [] := by
  refine fI Tryz.func110 rfl fun E gv R hR => ?_
  refine At.sR [1] [0] [] ?_
  refine At.sR [1, 3] [0] [] ?_
  refine At.seq ?_
  refine At.sR [3, 7, 8, 9] [] [] ?_
  refine At.block ?_
  refine At.nK (st' := ⟨[(3, i64 0), (7, lv T_api_Chan.enc p0.Chans), (8, i64 ((p0.Chans).length : Int)), (9, i64 0)], []⟩) [3, 7, 8, 9] [] ?_
  refine At.lp (fun s : (Int × Int) => ⟨[(3, i64 s.1), (7, lv T_api_Chan.enc p0.Chans), (8, i64 ((p0.Chans).length : Int)), (9, i64 s.2)], []⟩) h ?_
  rintro ⟨x13, x14⟩ oo15 h f16
  replace h : F_proc_Chans_L1 p0 x13 x14 = some oo15 := h
  refine At.sR [3, 7, 8, 9, 10] [] [] ?_
  refine At.seq ?_
  refine At.cd h (fun b18 h => ?_) (fun b18 h => ?_)
  · refine At.nR [3, 7, 8, 9] [] ?_
    refine At.skip (norm ?_)
    refine At.seq ?_
    refine At.block ?_
    obtain ⟨y22, hy22, h⟩ := bs h
    refine At.sR [3, 5, 7, 8, 9] [0] [eT T_api_Chan.enc_len 0 hy22] ?_
    refine At.rG [3, 7, 8, 9] [] [] (norm ?_)
    exact At.rK [3, 7, 8, 9] [] [] fun _ _ i => ⟨_, li h, i⟩
  · refine At.nR [3] [] ?_
    obtain ⟨r23, h, e24⟩ := mr h
    rw [f16 _ e24] at h
    refine At.exit (norm ?_)
    refine At.sR [2] [] [] ?_
    obtain rfl := sq h
    exact At.ret (At.rR hR [])
theorem C_run_runner_none (p1 : Int) (o0_0 : (List T_api_Ins)) (o0_1 : (List T_api_Def)) (o0_2 : (List T_api_Chan)) (o0_3 : Int) (o0_4 : Int) (o0_5 : Int) (o0_6 : Int) (o0_7 : (List Int)) (o0_8 : Int) (o0_9 : Int) (o0_10 : Int) (o0_11 : Int) (o0_12 : Int) (o0_13 : Int) (o0_14 : Int) (o0_15 : (List T_api_Alt)) (o0_17 : Int) (o0_18 : Int) (o0_19 : Int) (o0_20 : Int) (o0_21 : Int) (o0_22 : Int) (o0_23 : Int) (o0_24 : Int) (o0_27 : Int) (o0_28 : Bool) (o1 : T_stack_Stack_int_) (o3 : (List Int)) (o4 : (List T_api_Alt)) (r : Bool × Int × Int × Int × Int × Int × Int × Int × Bool × (List Int) × (List T_api_Alt)) (h : F_run_runner_none p1 o0_0 o0_1 o0_2 o0_3 o0_4 o0_18 o0_20 o0_21 o0_22 o0_23 o0_24 o0_27 o0_28 o3 o4 = some r) : FnOK Tryz.prog 72 [.ptr 0 0, i64 p1] [.blk 81 [lv T_api_Ins.enc o0_0, lv T_api_Def.enc o0_1, lv T_api_Chan.enc o0_2, i64 o0_3, i64 o0_4, i64 o0_5, i64 o0_6, lv (eInt .i64) o0_7, i64 o0_8, i64 o0_9, i64 o0_10, i64 o0_11, i64 o0_12, i64 o0_13, i64 o0_14, lv T_api_Alt.enc o0_15, .ptr 1 0, i64 o0_17, i64 o0_18, i64 o0_19, i64 o0_20, i64 o0_21, i64 o0_22, i64 o0_23, i64 o0_24, .row 3 (o3).length, .row 4 (o4).length, i64 o0_27, bo o0_28], .blk 123 [.row 2 (o1.l).length, i64 o1.most], .row 3 1 (encL (eInt .i64) o1.l), .row 3 1 (encL (eInt .i64) o3), .row 47 5 (encL T_api_Alt.enc o4)] (bo r.1) [.blk 81 [lv T_api_Ins.enc o0_0, lv T_api_Def.enc o0_1, lv T_api_Chan.enc o0_2, i64 o0_3, i64 o0_4, i64 o0_5, i64 o0_6, lv (eInt .i64) o0_7, i64 o0_8, i64 o0_9, i64 o0_10, i64 o0_11, i64 o0_12, i64 o0_13, i64 o0_14, lv T_api_Alt.enc o0_15, .ptr 1 0, i64 o0_17, i64 r.2.1, i64 o0_19, i64 r.2.2.1, i64 r.2.2.2.1, i64 r.2.2.2.2.1, i64 r.2.2.2.2.2.1, i64 r.2.2.2.2.2.2.1, .row 3 (r.2.2.2.2.2.2.2.2.2.1).length, .row 4 (r.2.2.2.2.2.2.2.2.2.2).length, i64 r.2.2.2.2.2.2.2.1, bo r.2.2.2.2.2.2.2.2.1], .blk 123 [.row 2 (o1.l).length, i64 o1.most], .row 3 1 (encL (eInt .i64) o1.l), .row 3 1 (encL (eInt .i64) r.2.2.2.2.2.2.2.2.2.1), .row 47 5 (encL T_api_Alt.enc r.2.2.2.2.2.2.2.2.2.2)] [1, 3, 4, 6, 7, 8, 9] := by
  refine fI Tryz.func72 rfl fun E gv R hR => ?_
  refine At.sR [0, 1] [0, 1, 2, 3, 4, 5, 6, 7, 8, 9] [] ?_
  refine At.seq ?_
  refine At.seqJ (S := Bool) (fun s => ⟨[(0, .ptr 0 0), (15, bo s)], [.blk 81 [lv T_api_Ins.enc o0_0, lv T_api_Def.enc o0_1, lv T_api_Chan.enc o0_2, i64 o0_3, i64 o0_4, i64 o0_5, i64 o0_6, lv (eInt .i64) o0_7, i64 o0_8, i64 o0_9, i64 o0_10, i64 o0_11, i64 o0_12, i64 o0_13, i64 o0_14, lv T_api_Alt.enc o0_15, .ptr 1 0, i64 o0_17, i64 o0_18, i64 o0_19, i64 o0_20, i64 o0_21, i64 o0_22, i64 o0_23, i64 o0_24, .row 3 (o3).length, .row 4 (o4).length, i64 o0_27, bo o0_28], .blk 123 [.row 2 (o1.l).length, i64 o1.most], .row 3 1 (encL (eInt .i64) o1.l), .row 3 1 (encL (eInt .i64) o3), .row 47 5 (encL T_api_Alt.enc o4), .ghost (gv 0) (.ptr 0 0), .ghost (gv 1) (.ptr 1 0), .ghost (gv 2) (.row 2 0), .ghost (gv 3) (.row 3 0), .ghost (gv 4) (.row 4 0)]⟩) (fun s => F_run_runner_none_J1 o0_18 o0_20 o0_21 o0_22 o0_23 o0_24 o0_27 o0_28 o3 o4 s = some r) ?_ ?_
  · rcases cs h with ⟨b13, h⟩ | ⟨b13, h⟩
    · obtain ⟨y14, hy14, h⟩ := bs h
      exact At.rK [0, 15] [0, 1, 2, 3, 4, 5, 6, 7, 8, 9] [bT 2 b13, c0 8 (C_proc_Chans (⟨o0_0, o0_1, o0_2, o0_3, o0_4⟩ : T_api_Code) y14 hy14)] fun _ _ i => ⟨(decide (p1 < y14)), h, i⟩
    · exact At.rK [0, 15] [0, 1, 2, 3, 4, 5, 6, 7, 8, 9] [bT 2 b13] fun _ _ i => ⟨false, h, i⟩
  · intro x9 h
    refine At.cd h (fun b10 h => ?_) (fun b10 h => ?_)
    · refine At.sR [4] [0, 1, 2, 3, 4, 5, 6, 7, 8, 9] [] ?_
      refine At.eN [.hideG 8, .hideG 9] [4] [0, 1, 2, 3, 4, 5, 6, 7, 8, 9] ?_
      obtain rfl := sq h
      exact At.ret (At.rR hR [0, 1, 2, 3, 4])
    · refine At.nR [0] [0, 1, 2, 3, 4, 5, 6, 7, 8, 9] ?_
      refine At.skip (norm ?_)
      obtain ⟨y12, hy12, h⟩ := bs h
      refine At.sR [] [0, 1, 2, 3, 4, 5, 6, 7, 8, 9] [cT 1 5 [0, 1, 2, 3, 4] (C_run_runner_fault 4 o0_0 o0_1 o0_2 o0_3 o0_4 o0_5 o0_6 o0_7 o0_8 o0_9 o0_10 o0_11 o0_12 o0_13 o0_14 o0_15 o0_17 o0_18 o0_19 o0_20 o0_21 o0_22 o0_23 o0_24 o0_27 o0_28 o1 o3 o4 y12 hy12)] ?_
      refine At.sR [4] [0, 1, 2, 3, 4, 5, 6, 7, 8, 9] [] ?_
      obtain rfl := sq h
      exact At.ret (At.rR hR [0, 1, 2, 3, 4])
theorem C_code_Settle (p0 : T_api_Code) (p1 : Int) (r : Int) (h : F_code_Settle p0 p1 = some r) : FnOK Tryz.prog 70 [.agg (T_api_Code.pvs p0), i64 p1] [] (i64 r) [] [] := by
  refine fI Tryz.func70 rfl fun E gv R hR => ?_
  refine At.sR [1, 2] [0] [] ?_
  refine At.sR [1, 2, 5] [0] [] ?_
  refine At.seq ?_
  refine At.sR [1, 2, 5, 10, 11] [0] [] ?_
  refine At.block ?_
  refine At.nK (st' := ⟨[(1, i64 p1), (2, .ptr 0 0), (5, i64 p1), (10, i64 (w64 (((p0.Ins).length : Int) + 1))), (11, i64 0)], [.blk 27 (T_api_Code.pvs p0)]⟩) [1, 2, 5, 10, 11] [0] ?_
  refine At.lp (fun s : (Int × Int) => ⟨[(1, i64 p1), (2, .ptr 0 0), (5, i64 s.1), (10, i64 (w64 (((p0.Ins).length : Int) + 1))), (11, i64 s.2)], [.blk 27 (T_api_Code.pvs p0)]⟩) h ?_
  rintro ⟨x45, x46⟩ oo47 h f48
  replace h : F_code_Settle_L2 p0 p1 x45 x46 = some oo47 := h
  refine At.sR [1, 2, 5, 10, 11, 12] [0] [] ?_
  refine At.seq ?_
  refine At.cd h (fun b50 h => ?_) (fun b50 h => ?_)
  · refine At.nR [1, 2, 5, 10, 11] [0] ?_
    refine At.skip (norm ?_)
    refine At.seq ?_
    refine At.block ?_
    refine At.seq ?_
    refine At.seqJ (S := Bool) (fun s => ⟨[(1, i64 p1), (2, .ptr 0 0), (5, i64 x45), (10, i64 (w64 (((p0.Ins).length : Int) + 1))), (11, i64 x46), (30, bo s)], [.blk 27 (T_api_Code.pvs p0)]⟩) (fun s => F_code_Settle_J1 p0 x45 x46 s = some oo47) ?_ ?_
    · rcases cs h with ⟨b84, h⟩ | ⟨b84, h⟩
      · exact At.rK [1, 2, 5, 10, 11, 30] [0] [bT 2 b84] fun _ _ i => ⟨true, h, i⟩
      · rcases cs h with ⟨b85, h⟩ | ⟨b85, h⟩
        · exact At.rK [1, 2, 5, 10, 11, 30] [0] [bT 2 b84, bT 9 b85] fun _ _ i => ⟨true, h, i⟩
        · obtain ⟨y86, hy86, h⟩ := bs h
          exact At.rK [1, 2, 5, 10, 11, 30] [0] [bT 2 b84, bT 9 b85, eT T_api_Ins.enc_len 13 hy86] fun _ _ i => ⟨(y86.Op != 6), h, i⟩
    · intro x79 h
      refine At.cd h (fun b80 h => ?_) (fun b80 h => ?_)
      · refine At.sR [4] [] [] ?_
        obtain ⟨r81, h, e82⟩ := mr h
        rw [f48 _ e82] at h
        obtain rfl := sq h
        exact At.ret (At.rR hR [])
      · refine At.nR [1, 2, 5, 10, 11] [0] ?_
        refine At.skip (norm ?_)
        obtain ⟨y83, hy83, h⟩ := bs h
        refine At.rG [1, 2, 5, 10, 11] [0] [eT T_api_Ins.enc_len 3 hy83] (norm ?_)
        exact At.rK [1, 2, 5, 10, 11] [0] [] fun _ _ i => ⟨_, li h, i⟩
  · refine At.nR [1] [] ?_
    obtain ⟨r87, h, e88⟩ := mr h
    rw [f48 _ e88] at h
    refine At.exit (norm ?_)
    refine At.sR [4] [] [] ?_
    obtain rfl := sq h
    exact At.ret (At.rR hR [])
theorem C_run_runner_alt (p1 : T_api_Alt) (p2 : Int) (o0_0 : (List T_api_Ins)) (o0_1 : (List T_api_Def)) (o0_2 : (List T_api_Chan)) (o0_3 : Int) (o0_4 : Int) (o0_5 : Int) (o0_6 : Int) (o0_7 : (List Int)) (o0_8 : Int) (o0_9 : Int) (o0_10 : Int) (o0_11 : Int) (o0_12 : Int) (o0_13 : Int) (o0_14 : Int) (o0_15 : (List T_api_Alt)) (o0_17 : Int) (o0_18 : Int) (o0_19 : Int) (o0_20 : Int) (o0_21 : Int) (o0_22 : Int) (o0_23 : Int) (o0_24 : Int) (o0_27 : Int) (o0_28 : Bool) (o1 : T_stack_Stack_int_) (o3 : (List Int)) (o4 : (List T_api_Alt)) (r : Int × Int × Int × Int × Int × Int × Int × Bool × (List Int) × (List T_api_Alt)) (h : F_run_runner_alt p1 p2 o0_0 o0_1 o0_2 o0_3 o0_4 o0_18 o0_20 o0_21 o0_22 o0_23 o0_24 o0_27 o0_28 o3 o4 = some r) : FnOK Tryz.prog 69 [.ptr 0 0, .agg (T_api_Alt.pvs p1), i64 p2] [.blk 81 [lv T_api_Ins.enc o0_0, lv T_api_Def.enc o0_1, lv T_api_Chan.enc o0_2, i64 o0_3, i64 o0_4, i64 o0_5, i64 o0_6, lv (eInt .i64) o0_7, i64 o0_8, i64 o0_9, i64 o0_10, i64 o0_11, i64 o0_12, i64 o0_13, i64 o0_14, lv T_api_Alt.enc o0_15, .ptr 1 0, i64 o0_17, i64 o0_18, i64 o0_19, i64 o0_20, i64 o0_21, i64 o0_22, i64 o0_23, i64 o0_24, .row 3 (o3).length, .row 4 (o4).length, i64 o0_27, bo o0_28], .blk 123 [.row 2 (o1.l).length, i64 o1.most], .row 3 1 (encL (eInt .i64) o1.l), .row 3 1 (encL (eInt .i64) o3), .row 47 5 (encL T_api_Alt.enc o4)] (.tup []) [.blk 81 [lv T_api_Ins.enc o0_0, lv T_api_Def.enc o0_1, lv T_api_Chan.enc o0_2, i64 o0_3, i64 o0_4, i64 o0_5, i64 o0_6, lv (eInt .i64) o0_7, i64 o0_8, i64 o0_9, i64 o0_10, i64 o0_11, i64 o0_12, i64 o0_13, i64 o0_14, lv T_api_Alt.enc o0_15, .ptr 1 0, i64 o0_17, i64 r.1, i64 o0_19, i64 r.2.1, i64 r.2.2.1, i64 r.2.2.2.1, i64 r.2.2.2.2.1, i64 r.2.2.2.2.2.1, .row 3 (r.2.2.2.2.2.2.2.2.1).length, .row 4 (r.2.2.2.2.2.2.2.2.2).length, i64 r.2.2.2.2.2.2.1, bo r.2.2.2.2.2.2.2.1], .blk 123 [.row 2 (o1.l).length, i64 o1.most], .row 3 1 (encL (eInt .i64) o1.l), .row 3 1 (encL (eInt .i64) r.2.2.2.2.2.2.2.2.1), .row 47 5 (encL T_api_Alt.enc r.2.2.2.2.2.2.2.2.2)] [1, 3, 4, 6, 7, 8, 9] := by
  refine fI Tryz.func69 rfl fun E gv R hR => ?_
  refine At.sR [0, 2, 4] [0, 1, 2, 3, 4, 5, 6, 7, 8, 9, 10] [] ?_
  refine At.seq ?_
  refine At.seqJ (S := Bool × Int × Int × Int × Int × Int × Int × Int × Bool × (List Int) × (List T_api_Alt)) (fun s => ⟨[(0, .ptr 0 0), (2, i64 p2), (4, .ptr 10 0), (19, bo s.1)], [.blk 81 [lv T_api_Ins.enc o0_0, lv T_api_Def.enc o0_1, lv T_api_Chan.enc o0_2, i64 o0_3, i64 o0_4, i64 o0_5, i64 o0_6, lv (eInt .i64) o0_7, i64 o0_8, i64 o0_9, i64 o0_10, i64 o0_11, i64 o0_12, i64 o0_13, i64 o0_14, lv T_api_Alt.enc o0_15, .ptr 1 0, i64 o0_17, i64 s.2.1, i64 o0_19, i64 s.2.2.1, i64 s.2.2.2.1, i64 s.2.2.2.2.1, i64 s.2.2.2.2.2.1, i64 s.2.2.2.2.2.2.1, .row 3 (s.2.2.2.2.2.2.2.2.2.1).length, .row 4 (s.2.2.2.2.2.2.2.2.2.2).length, i64 s.2.2.2.2.2.2.2.1, bo s.2.2.2.2.2.2.2.2.1], .blk 123 [.row 2 (o1.l).length, i64 o1.most], .row 3 1 (encL (eInt .i64) o1.l), .row 3 1 (encL (eInt .i64) s.2.2.2.2.2.2.2.2.2.1), .row 47 5 (encL T_api_Alt.enc s.2.2.2.2.2.2.2.2.2.2), .ghost (gv 0) (.ptr 0 0), .ghost (gv 1) (.ptr 1 0), .ghost (gv 2) (.row 2 0), .ghost (gv 3) (.undef), .ghost (gv 4) (.undef), .blk 47 (T_api_Alt.pvs p1)]⟩) (fun s => F_run_runner_alt_J1 p1 p2 o0_0 o0_1 o0_2 o0_3 o0_4 s.1 s.2.1 s.2.2.1 s.2.2.2.1 s.2.2.2.2.1 s.2.2.2.2.2.1 s.2.2.2.2.2.2.1 s.2.2.2.2.2.2.2.1 s.2.2.2.2.2.2.2.2.1 s.2.2.2.2.2.2.2.2.2.1 s.2.2.2.2.2.2.2.2.2.2 = some r) ?_ ?_
  · rcases cs h with ⟨b40, h⟩ | ⟨b40, h⟩
    · obtain ⟨y41, hy41, h⟩ := bs h
      exact At.rK [0, 2, 4, 19] [0, 1, 2, 3, 4, 5, 6, 7, 8, 9, 10] [bT 3 b40, cT 12 5 [0, 1, 2, 3, 4] (C_run_runner_none p1.Chan o0_0 o0_1 o0_2 o0_3 o0_4 o0_5 o0_6 o0_7 o0_8 o0_9 o0_10 o0_11 o0_12 o0_13 o0_14 o0_15 o0_17 o0_18 o0_19 o0_20 o0_21 o0_22 o0_23 o0_24 o0_27 o0_28 o1 o3 o4 y41 hy41)] fun _ _ i => ⟨(y41.1, y41.2.1, y41.2.2.1, y41.2.2.2.1, y41.2.2.2.2.1, y41.2.2.2.2.2.1, y41.2.2.2.2.2.2.1, y41.2.2.2.2.2.2.2.1, y41.2.2.2.2.2.2.2.2.1, y41.2.2.2.2.2.2.2.2.2.1, y41.2.2.2.2.2.2.2.2.2.2), h, i⟩
    · rcases cs h with ⟨b42, h⟩ | ⟨b42, h⟩
      · obtain ⟨y43, hy43, h⟩ := bs h
        exact At.rK [0, 2, 4, 19] [0, 1, 2, 3, 4, 5, 6, 7, 8, 9, 10] [bT 3 b40, bT 8 b42, cT 12 5 [0, 1, 2, 3, 4] (C_run_runner_none p1.Chan o0_0 o0_1 o0_2 o0_3 o0_4 o0_5 o0_6 o0_7 o0_8 o0_9 o0_10 o0_11 o0_12 o0_13 o0_14 o0_15 o0_17 o0_18 o0_19 o0_20 o0_21 o0_22 o0_23 o0_24 o0_27 o0_28 o1 o3 o4 y43 hy43)] fun _ _ i => ⟨(y43.1, y43.2.1, y43.2.2.1, y43.2.2.2.1, y43.2.2.2.2.1, y43.2.2.2.2.2.1, y43.2.2.2.2.2.2.1, y43.2.2.2.2.2.2.2.1, y43.2.2.2.2.2.2.2.2.1, y43.2.2.2.2.2.2.2.2.2.1, y43.2.2.2.2.2.2.2.2.2.2), h, i⟩
      · exact At.rG [0, 2, 4, 19] [0, 1, 2, 3, 4, 5, 6, 7, 8, 9, 10] [bT 3 b40, bT 8 b42] fun _ _ i => ⟨(false, o0_18, o0_20, o0_21, o0_22, o0_23, o0_24, o0_27, o0_28, o3, o4), h, i.en [.hideG 8, .hideG 9] [0, 2, 4, 19] [0, 1, 2, 3, 4, 5, 6, 7, 8, 9, 10]⟩
  · rintro ⟨x25, x26, x27, x28, x29, x30, x31, x32, x33, x34, x35⟩ h
    replace h : F_run_runner_alt_J1 p1 p2 o0_0 o0_1 o0_2 o0_3 o0_4 x25 x26 x27 x28 x29 x30 x31 x32 x33 x34 x35 = some r := h
    refine At.cd h (fun b36 h => ?_) (fun b36 h => ?_)
    · refine At.eN [] [] [0, 1, 2, 3, 4, 5, 6, 7, 8, 9] ?_
      obtain rfl := sq h
      exact At.ret (At.rR hR [0, 1, 2, 3, 4])
    · refine At.nR [0, 2, 4] [0, 1, 2, 3, 4, 5, 6, 7, 8, 9, 10] ?_
      refine At.skip (norm ?_)
      obtain ⟨y38, hy38, h⟩ := bs h
      refine At.sR [0, 4] [0, 1, 2, 3, 4, 5, 6, 7, 8, 9, 10] [c0 5 (C_code_Settle (⟨o0_0, o0_1, o0_2, o0_3, o0_4⟩ : T_api_Code) p2 y38 hy38)] ?_
      obtain ⟨g39, h⟩ := gs h
      obtain rfl := sq h
      refine At.dG 1 [] [0, 1, 2, 3, 4, 5, 6, 7, 8, 9] [aT T_api_Alt.enc_len 8 x35 ([(⟨p1.Kind, p1.Chan, p1.Val, p1.Slot, y38⟩ : T_api_Alt)]) rfl g39] (edq (l := []) (ks := []) (ρ := [0, 1, 2, 3, 4, 5, 6, 7, 8, 9]) (st' := ⟨[], [.blk 81 [lv T_api_Ins.enc o0_0, lv T_api_Def.enc o0_1, lv T_api_Chan.enc o0_2, i64 o0_3, i64 o0_4, i64 o0_5, i64 o0_6, lv (eInt .i64) o0_7, i64 o0_8, i64 o0_9, i64 o0_10, i64 o0_11, i64 o0_12, i64 o0_13, i64 o0_14, lv T_api_Alt.enc o0_15, .ptr 1 0, i64 o0_17, i64 x26, i64 o0_19, i64 x27, i64 x28, i64 x29, i64 x30, i64 x31, .row 3 (x34).length, .row 4 ((x35 ++ [(⟨p1.Kind, p1.Chan, p1.Val, p1.Slot, y38⟩ : T_api_Alt)])).length, i64 x32, bo x33], .blk 123 [.row 2 (o1.l).length, i64 o1.most], .row 3 1 (encL (eInt .i64) o1.l), .row 3 1 (encL (eInt .i64) x34), .row 47 5 (encL T_api_Alt.enc (x35 ++ [(⟨p1.Kind, p1.Chan, p1.Val, p1.Slot, y38⟩ : T_api_Alt)])), .ghost (gv 0) (.ptr 0 0), .ghost (gv 1) (.ptr 1 0), .ghost (gv 2) (.row 2 0), .ghost (gv 3) (.undef), .ghost (gv 4) (.undef)]⟩) (by kernel_rfl) (At.rN hR [0, 1, 2, 3, 4]))
theorem C_run_runner_reckons (p1 : T_api_Ins) (o0_0 : (List T_api_Ins)) (o0_1 : (List T_api_Def)) (o0_2 : (List T_api_Chan)) (o0_3 : Int) (o0_4 : Int) (o0_5 : Int) (o0_6 : Int) (o0_7 : (List Int)) (o0_8 : Int) (o0_9 : Int) (o0_10 : Int) (o0_11 : Int) (o0_12 : Int) (o0_13 : Int) (o0_14 : Int) (o0_15 : (List T_api_Alt)) (o0_17 : Int) (o0_18 : Int) (o0_19 : Int) (o0_20 : Int) (o0_21 : Int) (o0_22 : Int) (o0_23 : Int) (o0_24 : Int) (o0_27 : Int) (o0_28 : Bool) (o1 : T_stack_Stack_int_) (o3 : (List Int)) (o4 : (List T_api_Alt)) (r : Bool × Int × Int × Int × Int × Int × Int × Int × Int × Bool × T_stack_Stack_int_ × (List Int) × (List T_api_Alt)) (h : F_run_runner_reckons p1 o0_0 o0_1 o0_2 o0_3 o0_4 o0_7 o0_17 o0_18 o0_20 o0_21 o0_22 o0_23 o0_24 o0_27 o0_28 o1 o3 o4 = some r) : FnOK Tryz.prog 33 [.ptr 0 0, .agg (T_api_Ins.pvs p1)] [.blk 81 [lv T_api_Ins.enc o0_0, lv T_api_Def.enc o0_1, lv T_api_Chan.enc o0_2, i64 o0_3, i64 o0_4, i64 o0_5, i64 o0_6, lv (eInt .i64) o0_7, i64 o0_8, i64 o0_9, i64 o0_10, i64 o0_11, i64 o0_12, i64 o0_13, i64 o0_14, lv T_api_Alt.enc o0_15, .ptr 1 0, i64 o0_17, i64 o0_18, i64 o0_19, i64 o0_20, i64 o0_21, i64 o0_22, i64 o0_23, i64 o0_24, .row 3 (o3).length, .row 4 (o4).length, i64 o0_27, bo o0_28], .blk 123 [.row 2 (o1.l).length, i64 o1.most], .row 3 1 (encL (eInt .i64) o1.l), .row 3 1 (encL (eInt .i64) o3), .row 47 5 (encL T_api_Alt.enc o4)] (bo r.1) [.blk 81 [lv T_api_Ins.enc o0_0, lv T_api_Def.enc o0_1, lv T_api_Chan.enc o0_2, i64 o0_3, i64 o0_4, i64 o0_5, i64 o0_6, lv (eInt .i64) o0_7, i64 o0_8, i64 o0_9, i64 o0_10, i64 o0_11, i64 o0_12, i64 o0_13, i64 o0_14, lv T_api_Alt.enc o0_15, .ptr 1 0, i64 r.2.1, i64 r.2.2.1, i64 o0_19, i64 r.2.2.2.1, i64 r.2.2.2.2.1, i64 r.2.2.2.2.2.1, i64 r.2.2.2.2.2.2.1, i64 r.2.2.2.2.2.2.2.1, .row 3 (r.2.2.2.2.2.2.2.2.2.2.2.1).length, .row 4 (r.2.2.2.2.2.2.2.2.2.2.2.2).length, i64 r.2.2.2.2.2.2.2.2.1, bo r.2.2.2.2.2.2.2.2.2.1], .blk 123 [.row 2 (r.2.2.2.2.2.2.2.2.2.2.1.l).length, i64 r.2.2.2.2.2.2.2.2.2.2.1.most], .row 3 1 (encL (eInt .i64) r.2.2.2.2.2.2.2.2.2.2.1.l), .row 3 1 (encL (eInt .i64) r.2.2.2.2.2.2.2.2.2.2.2.1), .row 47 5 (encL T_api_Alt.enc r.2.2.2.2.2.2.2.2.2.2.2.2)] [1, 3, 4, 5, 6, 7, 8, 9] := by
  refine fI Tryz.func33 rfl fun E gv R hR => ?_
  refine At.sR [0, 3] [0, 1, 2, 3, 4, 5, 6, 7, 8, 9, 10] [] ?_
  refine At.seqJ (S := Int × Int × Int × Int × Int × Int × Int × Int × Bool × Int × (List Int) × (List Int) × (List T_api_Alt)) (fun s => ⟨[], [.blk 81 [lv T_api_Ins.enc o0_0, lv T_api_Def.enc o0_1, lv T_api_Chan.enc o0_2, i64 o0_3, i64 o0_4, i64 o0_5, i64 o0_6, lv (eInt .i64) o0_7, i64 o0_8, i64 o0_9, i64 o0_10, i64 o0_11, i64 o0_12, i64 o0_13, i64 o0_14, lv T_api_Alt.enc o0_15, .ptr 1 0, i64 s.1, i64 s.2.1, i64 o0_19, i64 s.2.2.1, i64 s.2.2.2.1, i64 s.2.2.2.2.1, i64 s.2.2.2.2.2.1, i64 s.2.2.2.2.2.2.1, .row 3 (s.2.2.2.2.2.2.2.2.2.2.2.1).length, .row 4 (s.2.2.2.2.2.2.2.2.2.2.2.2).length, i64 s.2.2.2.2.2.2.2.1, bo s.2.2.2.2.2.2.2.2.1], .blk 123 [.row 2 (s.2.2.2.2.2.2.2.2.2.2.1).length, i64 s.2.2.2.2.2.2.2.2.2.1], .row 3 1 (encL (eInt .i64) s.2.2.2.2.2.2.2.2.2.2.1), .row 3 1 (encL (eInt .i64) s.2.2.2.2.2.2.2.2.2.2.2.1), .row 47 5 (encL T_api_Alt.enc s.2.2.2.2.2.2.2.2.2.2.2.2), .ghost (gv 0) (.ptr 0 0), .ghost (gv 1) (.ptr 1 0), .ghost (gv 2) (.undef), .ghost (gv 3) (.undef), .ghost (gv 4) (.undef)]⟩) (fun s => F_run_runner_reckons_J1 s.1 s.2.1 s.2.2.1 s.2.2.2.1 s.2.2.2.2.1 s.2.2.2.2.2.1 s.2.2.2.2.2.2.1 s.2.2.2.2.2.2.2.1 s.2.2.2.2.2.2.2.2.1 s.2.2.2.2.2.2.2.2.2.1 s.2.2.2.2.2.2.2.2.2.2.1 s.2.2.2.2.2.2.2.2.2.2.2.1 s.2.2.2.2.2.2.2.2.2.2.2.2 = some r) ?_ ?_
  · refine At.sR [0, 3, 7] [0, 1, 2, 3, 4, 5, 6, 7, 8, 9, 10] [] ?_
    refine At.block ?_
    refine At.sR [0, 3, 7, 8] [0, 1, 2, 3, 4, 5, 6, 7, 8, 9, 10] [] ?_
    refine At.cd h (fun b45 h => ?_) (fun b45 h => ?_)
    · obtain ⟨y46, hy46, h⟩ := bs h
      exact At.rK [] [0, 1, 2, 3, 4, 5, 6, 7, 8, 9] [cT 4 6 [0, 1, 2, 3, 4, 11] (C_run_runner_lay o0_0 o0_1 o0_2 o0_3 o0_4 o0_5 o0_6 o0_7 o0_8 o0_9 o0_10 o0_11 o0_12 o0_13 o0_14 o0_15 o0_17 o0_18 o0_19 o0_20 o0_21 o0_22 o0_23 o0_24 o0_27 o0_28 o1 o3 o4 ([p1.A]) y46 hy46)] fun _ _ i => ⟨(o0_17, y46.1, y46.2.1, y46.2.2.1, y46.2.2.2.1, y46.2.2.2.2.1, y46.2.2.2.2.2.1, y46.2.2.2.2.2.2.1, y46.2.2.2.2.2.2.2.1, y46.2.2.2.2.2.2.2.2.1.most, y46.2.2.2.2.2.2.2.2.1.l, y46.2.2.2.2.2.2.2.2.2.1, y46.2.2.2.2.2.2.2.2.2.2), h, i⟩
    · refine At.sR [0, 3, 7, 15] [0, 1, 2, 3, 4, 5, 6, 7, 8, 9, 10] [] ?_
      refine At.cd h (fun b47 h => ?_) (fun b47 h => ?_)
      · obtain ⟨y48, hy48, h⟩ := bs h
        obtain ⟨y49, hy49, h⟩ := bs h
        exact At.rK [] [0, 1, 2, 3, 4, 5, 6, 7, 8, 9] [cT 4 5 [0, 1, 2, 3, 4] (C_run_runner_slot p1.A o0_0 o0_1 o0_2 o0_3 o0_4 o0_5 o0_6 o0_7 o0_8 o0_9 o0_10 o0_11 o0_12 o0_13 o0_14 o0_15 o0_17 o0_18 o0_19 o0_20 o0_21 o0_22 o0_23 o0_24 o0_27 o0_28 o1 o3 o4 y48 hy48), cT 6 6 [0, 1, 2, 3, 4, 11] (C_run_runner_lay o0_0 o0_1 o0_2 o0_3 o0_4 o0_5 o0_6 o0_7 o0_8 o0_9 o0_10 o0_11 o0_12 o0_13 o0_14 o0_15 o0_17 o0_18 o0_19 o0_20 o0_21 o0_22 o0_23 o0_24 o0_27 o0_28 o1 o3 o4 ([y48]) y49 hy49)] fun _ _ i => ⟨(o0_17, y49.1, y49.2.1, y49.2.2.1, y49.2.2.2.1, y49.2.2.2.2.1, y49.2.2.2.2.2.1, y49.2.2.2.2.2.2.1, y49.2.2.2.2.2.2.2.1, y49.2.2.2.2.2.2.2.2.1.most, y49.2.2.2.2.2.2.2.2.1.l, y49.2.2.2.2.2.2.2.2.2.1, y49.2.2.2.2.2.2.2.2.2.2), h, i⟩
      · refine At.sR [0, 3, 7, 24] [0, 1, 2, 3, 4, 5, 6, 7, 8, 9, 10] [] ?_
        refine At.cd h (fun b50 h => ?_) (fun b50 h => ?_)
        · obtain ⟨y51, hy51, h⟩ := bs h
          exact At.rK [] [0, 1, 2, 3, 4, 5, 6, 7, 8, 9] [cT 3 5 [0, 1, 2, 3, 4] (C_run_runner_reckon p1.A o0_0 o0_1 o0_2 o0_3 o0_4 o0_5 o0_6 o0_7 o0_8 o0_9 o0_10 o0_11 o0_12 o0_13 o0_14 o0_15 o0_17 o0_18 o0_19 o0_20 o0_21 o0_22 o0_23 o0_24 o0_27 o0_28 o1 o3 o4 y51 hy51)] fun _ _ i => ⟨(o0_17, y51.1, y51.2.1, y51.2.2.1, y51.2.2.2.1, y51.2.2.2.2.1, y51.2.2.2.2.2.1, y51.2.2.2.2.2.2.1, y51.2.2.2.2.2.2.2.1, y51.2.2.2.2.2.2.2.2.1.most, y51.2.2.2.2.2.2.2.2.1.l, y51.2.2.2.2.2.2.2.2.2.1, y51.2.2.2.2.2.2.2.2.2.2), h, i⟩
        · refine At.seq ?_
          refine At.rK (st' := ⟨[(0, .ptr 0 0), (3, .ptr 10 0), (7, i64 p1.Op), (30, bo (p1.Op == 6))], [.blk 81 [lv T_api_Ins.enc o0_0, lv T_api_Def.enc o0_1, lv T_api_Chan.enc o0_2, i64 o0_3, i64 o0_4, i64 o0_5, i64 o0_6, lv (eInt .i64) o0_7, i64 o0_8, i64 o0_9, i64 o0_10, i64 o0_11, i64 o0_12, i64 o0_13, i64 o0_14, lv T_api_Alt.enc o0_15, .ptr 1 0, i64 o0_17, i64 o0_18, i64 o0_19, i64 o0_20, i64 o0_21, i64 o0_22, i64 o0_23, i64 o0_24, .row 3 (o3).length, .row 4 (o4).length, i64 o0_27, bo o0_28], .blk 123 [.row 2 (o1.l).length, i64 o1.most], .row 3 1 (encL (eInt .i64) o1.l), .row 3 1 (encL (eInt .i64) o3), .row 47 5 (encL T_api_Alt.enc o4), .ghost (gv 0) (.ptr 0 0), .ghost (gv 1) (.ptr 1 0), .ghost (gv 2) (.row 2 0), .ghost (gv 3) (.row 3 0), .ghost (gv 4) (.row 4 0), .blk 50 (T_api_Ins.pvs p1)]⟩) [0, 3, 7, 30] [0, 1, 2, 3, 4, 5, 6, 7, 8, 9, 10] [] (norm ?_)
          refine At.cd h (fun b52 h => ?_) (fun b52 h => ?_)
          · obtain ⟨y53, hy53, h⟩ := bs h
            exact At.rG [] [0, 1, 2, 3, 4, 5, 6, 7, 8, 9] [cT 3 5 [0, 1, 2, 3, 4] (C_run_runner_jump p1.A true o0_0 o0_1 o0_2 o0_3 o0_4 o0_5 o0_6 o0_7 o0_8 o0_9 o0_10 o0_11 o0_12 o0_13 o0_14 o0_15 o0_17 o0_18 o0_19 o0_20 o0_21 o0_22 o0_23 o0_24 o0_27 o0_28 o1 o3 o4 y53 hy53)] fun _ _ i => ⟨(y53, o0_18, o0_20, o0_21, o0_22, o0_23, o0_24, o0_27, o0_28, o1.most, o1.l, o3, o4), h, i.en [.hideG 7, .hideG 8, .hideG 9] [] [0, 1, 2, 3, 4, 5, 6, 7, 8, 9]⟩
          · refine At.sR [0, 3, 7, 36] [0, 1, 2, 3, 4, 5, 6, 7, 8, 9, 10] [] ?_
            refine At.cd h (fun b54 h => ?_) (fun b54 h => ?_)
            · obtain ⟨y55, hy55, h⟩ := bs h
              obtain ⟨y56, hy56, h⟩ := bs h
              exact At.dG 0 [] [0, 1, 2, 3, 4, 5, 6, 7, 8, 9] [cT 4 5 [0, 1, 2, 3, 4] (C_run_runner_take o0_0 o0_1 o0_2 o0_3 o0_4 o0_5 o0_6 o0_7 o0_8 o0_9 o0_10 o0_11 o0_12 o0_13 o0_14 o0_15 o0_17 o0_18 o0_19 o0_20 o0_21 o0_22 o0_23 o0_24 o0_27 o0_28 o1 o3 o4 y55 hy55), cT 6 5 [0, 1, 2, 3, 4] (C_run_runner_jump p1.A (y55.1 == 0) o0_0 o0_1 o0_2 o0_3 o0_4 o0_5 o0_6 o0_7 o0_8 o0_9 o0_10 o0_11 o0_12 o0_13 o0_14 o0_15 o0_17 o0_18 o0_19 o0_20 o0_21 o0_22 o0_23 o0_24 o0_27 o0_28 y55.2 o3 o4 y56 hy56)] fun _ _ i => ⟨(y56, o0_18, o0_20, o0_21, o0_22, o0_23, o0_24, o0_27, o0_28, y55.2.most, y55.2.l, o3, o4), h, i.en [.hideG 8, .hideG 9] [] [0, 1, 2, 3, 4, 5, 6, 7, 8, 9]⟩
            · refine At.sR [0, 3, 7, 45] [0, 1, 2, 3, 4, 5, 6, 7, 8, 9, 10] [] ?_
              refine At.cd h (fun b57 h => ?_) (fun b57 h => ?_)
              · obtain ⟨y58, hy58, h⟩ := bs h
                obtain ⟨y59, hy59, h⟩ := bs h
                exact At.dG 0 [] [0, 1, 2, 3, 4, 5, 6, 7, 8, 9] [cT 4 5 [0, 1, 2, 3, 4] (C_run_runner_take o0_0 o0_1 o0_2 o0_3 o0_4 o0_5 o0_6 o0_7 o0_8 o0_9 o0_10 o0_11 o0_12 o0_13 o0_14 o0_15 o0_17 o0_18 o0_19 o0_20 o0_21 o0_22 o0_23 o0_24 o0_27 o0_28 o1 o3 o4 y58 hy58), cT 6 5 [0, 1, 2, 3, 4] (C_run_runner_jump p1.A (y58.1 != 0) o0_0 o0_1 o0_2 o0_3 o0_4 o0_5 o0_6 o0_7 o0_8 o0_9 o0_10 o0_11 o0_12 o0_13 o0_14 o0_15 o0_17 o0_18 o0_19 o0_20 o0_21 o0_22 o0_23 o0_24 o0_27 o0_28 y58.2 o3 o4 y59 hy59)] fun _ _ i => ⟨(y59, o0_18, o0_20, o0_21, o0_22, o0_23, o0_24, o0_27, o0_28, y58.2.most, y58.2.l, o3, o4), h, i.en [.hideG 8, .hideG 9] [] [0, 1, 2, 3, 4, 5, 6, 7, 8, 9]⟩
              · refine At.sR [0, 3, 7, 54] [0, 1, 2, 3, 4, 5, 6, 7, 8, 9, 10] [] ?_
                refine At.cd h (fun b60 h => ?_) (fun b60 h => ?_)
                · obtain ⟨y61, hy61, h⟩ := bs h
                  exact At.rK [] [0, 1, 2, 3, 4, 5, 6, 7, 8, 9] [cT 2 5 [0, 1, 2, 3, 4] (C_run_runner_channel p1 o0_0 o0_1 o0_2 o0_3 o0_4 o0_5 o0_6 o0_7 o0_8 o0_9 o0_10 o0_11 o0_12 o0_13 o0_14 o0_15 o0_17 o0_18 o0_19 o0_20 o0_21 o0_22 o0_23 o0_24 o0_27 o0_28 o1 o3 o4 y61 hy61)] fun _ _ i => ⟨(o0_17, y61.1, y61.2.1, y61.2.2.1, y61.2.2.2.1, y61.2.2.2.2.1, y61.2.2.2.2.2.1, y61.2.2.2.2.2.2.1, y61.2.2.2.2.2.2.2.1, y61.2.2.2.2.2.2.2.2.1.most, y61.2.2.2.2.2.2.2.2.1.l, y61.2.2.2.2.2.2.2.2.2.1, y61.2.2.2.2.2.2.2.2.2.2), h, i⟩
                · refine At.sR [0, 3, 7, 59] [0, 1, 2, 3, 4, 5, 6, 7, 8, 9, 10] [] ?_
                  refine At.cd h (fun b62 h => ?_) (fun b62 h => ?_)
                  · refine At.nR [] [0, 1, 2, 3, 4, 5, 6, 7, 8, 9] ?_
                    refine At.skip (fun _ _ i => ⟨(o0_17, o0_18, o0_20, o0_21, o0_22, o0_23, o0_24, o0_27, o0_28, o1.most, o1.l, o3, o4), h, i.en [.hideG 7, .hideG 8, .hideG 9] [] [0, 1, 2, 3, 4, 5, 6, 7, 8, 9]⟩)
                  · refine At.sR [0, 3, 7, 61] [0, 1, 2, 3, 4, 5, 6, 7, 8, 9, 10] [] ?_
                    refine At.cd h (fun b63 h => ?_) (fun b63 h => ?_)
                    · obtain ⟨y64, hy64, h⟩ := bs h
                      obtain ⟨y65, hy65, h⟩ := bs h
                      exact At.dK 0 [] [0, 1, 2, 3, 4, 5, 6, 7, 8, 9] [cT 2 5 [0, 1, 2, 3, 4] (C_run_runner_take o0_0 o0_1 o0_2 o0_3 o0_4 o0_5 o0_6 o0_7 o0_8 o0_9 o0_10 o0_11 o0_12 o0_13 o0_14 o0_15 o0_17 o0_18 o0_19 o0_20 o0_21 o0_22 o0_23 o0_24 o0_27 o0_28 o1 o3 o4 y64 hy64), cT 8 5 [0, 1, 2, 3, 4] (C_run_runner_alt (⟨1, y64.1, 0, p1.A, 0⟩ : T_api_Alt) p1.B o0_0 o0_1 o0_2 o0_3 o0_4 o0_5 o0_6 o0_7 o0_8 o0_9 o0_10 o0_11 o0_12 o0_13 o0_14 o0_15 o0_17 o0_18 o0_19 o0_20 o0_21 o0_22 o0_23 o0_24 o0_27 o0_28 y64.2 o3 o4 y65 hy65)] fun _ _ i => ⟨(o0_17, y65.1, y65.2.1, y65.2.2.1, y65.2.2.2.1, y65.2.2.2.2.1, y65.2.2.2.2.2.1, y65.2.2.2.2.2.2.1, y65.2.2.2.2.2.2.2.1, y64.2.most, y64.2.l, y65.2.2.2.2.2.2.2.2.1, y65.2.2.2.2.2.2.2.2.2), h, i⟩
                    · refine At.seq ?_
                      refine At.rK (st' := ⟨[(0, .ptr 0 0), (3, .ptr 10 0), (7, i64 p1.Op), (72, bo (p1.Op == 20))], [.blk 81 [lv T_api_Ins.enc o0_0, lv T_api_Def.enc o0_1, lv T_api_Chan.enc o0_2, i64 o0_3, i64 o0_4, i64 o0_5, i64 o0_6, lv (eInt .i64) o0_7, i64 o0_8, i64 o0_9, i64 o0_10, i64 o0_11, i64 o0_12, i64 o0_13, i64 o0_14, lv T_api_Alt.enc o0_15, .ptr 1 0, i64 o0_17, i64 o0_18, i64 o0_19, i64 o0_20, i64 o0_21, i64 o0_22, i64 o0_23, i64 o0_24, .row 3 (o3).length, .row 4 (o4).length, i64 o0_27, bo o0_28], .blk 123 [.row 2 (o1.l).length, i64 o1.most], .row 3 1 (encL (eInt .i64) o1.l), .row 3 1 (encL (eInt .i64) o3), .row 47 5 (encL T_api_Alt.enc o4), .ghost (gv 0) (.ptr 0 0), .ghost (gv 1) (.ptr 1 0), .ghost (gv 2) (.row 2 0), .ghost (gv 3) (.row 3 0), .ghost (gv 4) (.row 4 0), .blk 50 (T_api_Ins.pvs p1)]⟩) [0, 3, 7, 72] [0, 1, 2, 3, 4, 5, 6, 7, 8, 9, 10] [] (norm ?_)
                      refine At.cd h (fun b66 h => ?_) (fun b66 h => ?_)
                      · obtain ⟨y68, hy68, h⟩ := bs h
                        refine At.sR [0, 3, 5] [0, 1, 2, 3, 4, 5, 6, 7, 8, 9, 10] [cT 1 5 [0, 1, 2, 3, 4] (C_run_runner_take o0_0 o0_1 o0_2 o0_3 o0_4 o0_5 o0_6 o0_7 o0_8 o0_9 o0_10 o0_11 o0_12 o0_13 o0_14 o0_15 o0_17 o0_18 o0_19 o0_20 o0_21 o0_22 o0_23 o0_24 o0_27 o0_28 o1 o3 o4 y68 hy68)] ?_
                        obtain ⟨y69, hy69, h⟩ := bs h
                        obtain ⟨y70, hy70, h⟩ := bs h
                        exact At.dK 0 [] [0, 1, 2, 3, 4, 5, 6, 7, 8, 9] [cT 3 5 [0, 1, 2, 3, 4] (C_run_runner_take o0_0 o0_1 o0_2 o0_3 o0_4 o0_5 o0_6 o0_7 o0_8 o0_9 o0_10 o0_11 o0_12 o0_13 o0_14 o0_15 o0_17 o0_18 o0_19 o0_20 o0_21 o0_22 o0_23 o0_24 o0_27 o0_28 y68.2 o3 o4 y69 hy69), cT 7 5 [0, 1, 2, 3, 4] (C_run_runner_alt (⟨2, y69.1, y68.1, 0, 0⟩ : T_api_Alt) p1.A o0_0 o0_1 o0_2 o0_3 o0_4 o0_5 o0_6 o0_7 o0_8 o0_9 o0_10 o0_11 o0_12 o0_13 o0_14 o0_15 o0_17 o0_18 o0_19 o0_20 o0_21 o0_22 o0_23 o0_24 o0_27 o0_28 y69.2 o3 o4 y70 hy70)] fun _ _ i => ⟨(o0_17, y70.1, y70.2.1, y70.2.2.1, y70.2.2.2.1, y70.2.2.2.2.1, y70.2.2.2.2.2.1, y70.2.2.2.2.2.2.1, y70.2.2.2.2.2.2.2.1, y69.2.most, y69.2.l, y70.2.2.2.2.2.2.2.2.1, y70.2.2.2.2.2.2.2.2.2), h, i⟩
                      · refine At.sR [0, 3, 7, 84] [0, 1, 2, 3, 4, 5, 6, 7, 8, 9, 10] [] ?_
                        refine At.cd h (fun b71 h => ?_) (fun b71 h => ?_)
                        · obtain ⟨y72, hy72, h⟩ := bs h
                          obtain ⟨y73, hy73, h⟩ := bs h
                          exact At.dK 0 [] [0, 1, 2, 3, 4, 5, 6, 7, 8, 9] [cT 2 5 [0, 1, 2, 3, 4] (C_run_runner_take o0_0 o0_1 o0_2 o0_3 o0_4 o0_5 o0_6 o0_7 o0_8 o0_9 o0_10 o0_11 o0_12 o0_13 o0_14 o0_15 o0_17 o0_18 o0_19 o0_20 o0_21 o0_22 o0_23 o0_24 o0_27 o0_28 o1 o3 o4 y72 hy72), cT 6 5 [0, 1, 2, 3, 4] (C_run_runner_alt (⟨3, 0, y72.1, 0, 0⟩ : T_api_Alt) p1.A o0_0 o0_1 o0_2 o0_3 o0_4 o0_5 o0_6 o0_7 o0_8 o0_9 o0_10 o0_11 o0_12 o0_13 o0_14 o0_15 o0_17 o0_18 o0_19 o0_20 o0_21 o0_22 o0_23 o0_24 o0_27 o0_28 y72.2 o3 o4 y73 hy73)] fun _ _ i => ⟨(o0_17, y73.1, y73.2.1, y73.2.2.1, y73.2.2.2.1, y73.2.2.2.2.1, y73.2.2.2.2.2.1, y73.2.2.2.2.2.2.1, y73.2.2.2.2.2.2.2.1, y72.2.most, y72.2.l, y73.2.2.2.2.2.2.2.2.1, y73.2.2.2.2.2.2.2.2.2), h, i⟩
                        · refine At.sR [0, 3, 93] [0, 1, 2, 3, 4, 5, 6, 7, 8, 9, 10] [] ?_
                          refine At.cd h (fun b74 h => ?_) (fun b74 h => ?_)
                          · obtain ⟨y75, hy75, h⟩ := bs h
                            exact At.rG [] [0, 1, 2, 3, 4, 5, 6, 7, 8, 9] [cT 4 5 [0, 1, 2, 3, 4] (C_run_runner_alt (⟨4, 0, 0, 0, 0⟩ : T_api_Alt) p1.A o0_0 o0_1 o0_2 o0_3 o0_4 o0_5 o0_6 o0_7 o0_8 o0_9 o0_10 o0_11 o0_12 o0_13 o0_14 o0_15 o0_17 o0_18 o0_19 o0_20 o0_21 o0_22 o0_23 o0_24 o0_27 o0_28 o1 o3 o4 y75 hy75)] fun _ _ i => ⟨(o0_17, y75.1, y75.2.1, y75.2.2.1, y75.2.2.2.1, y75.2.2.2.2.1, y75.2.2.2.2.2.1, y75.2.2.2.2.2.2.1, y75.2.2.2.2.2.2.2.1, o1.most, o1.l, y75.2.2.2.2.2.2.2.2.1, y75.2.2.2.2.2.2.2.2.2), h, i.en [.hideG 7] [] [0, 1, 2, 3, 4, 5, 6, 7, 8, 9]⟩
                          · refine At.sR [4] [0, 1, 2, 3, 4, 5, 6, 7, 8, 9] [] ?_
                            refine At.eN [.hideG 7, .hideG 8, .hideG 9] [4] [0, 1, 2, 3, 4, 5, 6, 7, 8, 9] ?_
                            obtain rfl := sq h
                            exact At.ret (At.rR hR [0, 1, 2, 3, 4])
  · rintro ⟨x32, x33, x34, x35, x36, x37, x38, x39, x40, x41, x42, x43, x44⟩ h
    replace h : F_run_runner_reckons_J1 x32 x33 x34 x35 x36 x37 x38 x39 x40 x41 x42 x43 x44 = some r := h
    refine At.sR [4] [0, 1, 2, 3, 4, 5, 6, 7, 8, 9] [] ?_
    obtain rfl := sq h
    exact At.ret (At.rR hR [0, 1, 2, 3, 4])
end Go.Ab
