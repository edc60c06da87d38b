/- GS1 -/
import Derived.Test.YtkkaknlijebppaaGS
namespace Go.Ab
open Go.Proofs
set_option linter.unusedVariables false
set_option maxRecDepth 100000
theorem C_vint_Get (p0 : ByteArray) (p1 : Int) (r : Int × Int × Int) (h : F_vint_Get p0 p1 = some r) : FnOK Try.prog 27 [sv p0, i64 p1] [] (.tup [u64 r.1, i64 r.2.1, i64 r.2.2]) [] [] := by
  refine fI Try.func27 rfl fun E gv R hR => ?_
  refine At.sR [0, 1] [] [] ?_
  refine At.scope ?_
  refine At.seq ?_
  refine At.seqJ (S := Bool) (fun s => ⟨[(0, sv p0), (1, i64 p1), (18, bo s)], []⟩) (fun s => F_vint_Get_J1 p0 p1 s = some r) ?_ ?_
  · rcases cs h with ⟨b173, h⟩ | ⟨b173, h⟩
    · exact At.rK [0, 1, 18] [] [bT 2 b173] fun _ _ i => ⟨true, h, i⟩
    · exact At.rK [0, 1, 18] [] [bT 2 b173] fun _ _ i => ⟨(decide ((p0.size : Int) < p1)), h, i⟩
  · intro x6 h
    refine At.cd h (fun b7 h => ?_) (fun b7 h => ?_)
    · refine At.sR [4, 5, 6] [] [] ?_
      obtain rfl := sq h
      exact At.ret (At.rR hR [])
    · refine At.nR [0, 1] [] ?_
      refine At.skip (norm ?_)
      refine At.sR [0, 1, 7] [] [] ?_
      refine At.sR [0, 1, 7, 8] [] [] ?_
      refine At.seq ?_
      refine At.label (norm ?_)
      refine At.seqJ (S := Int) (fun s => ⟨[(7, i64 s)], []⟩) (fun s => F_vint_Get_J2 s = some r) ?_ ?_
      · obtain ⟨g93, h⟩ := gs h
        obtain ⟨g94, h⟩ := gs h
        refine At.sR [1, 7, 8, 22, 23, 24] [0] [oT 2 g93, tT 3 ({ form := some ((sB (p0.extract (Int.toNat p1) (Int.toNat (p0.size : Int)))).length, encL (eInt .u8) (sB (p0.extract (Int.toNat p1) (Int.toNat (p0.size : Int))))) }) (allc (len_sB (p0.extract (Int.toNat p1) (Int.toNat (p0.size : Int)))) (allc (encL_sB (p0.extract (Int.toNat p1) (Int.toNat (p0.size : Int)))) (allc g94 all0)))] ?_
        refine At.block ?_
        refine At.nK (st' := ⟨[(1, i64 p1), (7, i64 2), (8, u64 0), (22, .row 0 ((sB (p0.extract (Int.toNat p1) (Int.toNat (p0.size : Int))))).length), (23, i64 (((sB (p0.extract (Int.toNat p1) (Int.toNat (p0.size : Int))))).length : Int)), (24, i64 0)], [.row 5 1 (encL (eInt .u8) (sB (p0.extract (Int.toNat p1) (Int.toNat (p0.size : Int)))))]⟩) [1, 7, 8, 22, 23, 24] [0] ?_
        refine At.lp (fun s : (Int × Int) => ⟨[(1, i64 p1), (7, i64 2), (8, u64 s.1), (22, .row 0 ((sB (p0.extract (Int.toNat p1) (Int.toNat (p0.size : Int))))).length), (23, i64 (((sB (p0.extract (Int.toNat p1) (Int.toNat (p0.size : Int))))).length : Int)), (24, i64 s.2)], [.row 5 1 (encL (eInt .u8) (sB (p0.extract (Int.toNat p1) (Int.toNat (p0.size : Int)))))]⟩) h ?_
        rintro ⟨x95, x96⟩ oo97 h f98
        replace h : F_vint_Get_L5 p0 p1 x95 x96 = some oo97 := h
        refine At.sR [1, 7, 8, 22, 23, 24, 25] [0] [] ?_
        refine At.seq ?_
        refine At.cd h (fun b100 h => ?_) (fun b100 h => ?_)
        · refine At.nR [1, 7, 8, 22, 23, 24] [0] ?_
          refine At.skip (norm ?_)
          refine At.seq ?_
          refine At.block ?_
          obtain ⟨y135, hy135, h⟩ := bs h
          refine At.sR [1, 7, 8, 9, 10, 22, 23, 24] [0] [oT 1 ((rAt_of (he_int .u8) (d := .int .u8 y135) hy135 rfl).1), vT 2 (.int .u8 y135) ((rAt_of (he_int .u8) (d := .int .u8 y135) hy135 rfl).2)] ?_
          refine At.seq ?_
          refine At.block ?_
          refine At.seqJ (S := Bool) (fun s => ⟨[(1, i64 p1), (7, i64 2), (8, u64 x95), (9, i64 x96), (10, u8 y135), (22, .row 0 ((sB (p0.extract (Int.toNat p1) (Int.toNat (p0.size : Int))))).length), (23, i64 (((sB (p0.extract (Int.toNat p1) (Int.toNat (p0.size : Int))))).length : Int)), (24, i64 x96), (29, bo s)], [.row 5 1 (encL (eInt .u8) (sB (p0.extract (Int.toNat p1) (Int.toNat (p0.size : Int)))))]⟩) (fun s => F_vint_Get_J3 p1 x95 x96 y135 s = some oo97) ?_ ?_
          · refine At.seqJ (S := Bool) (fun s => ⟨[(1, i64 p1), (7, i64 2), (8, u64 x95), (9, i64 x96), (10, u8 y135), (22, .row 0 ((sB (p0.extract (Int.toNat p1) (Int.toNat (p0.size : Int))))).length), (23, i64 (((sB (p0.extract (Int.toNat p1) (Int.toNat (p0.size : Int))))).length : Int)), (24, i64 x96), (29, bo s)], [.row 5 1 (encL (eInt .u8) (sB (p0.extract (Int.toNat p1) (Int.toNat (p0.size : Int)))))]⟩) (fun s => F_vint_Get_J4 p1 x95 x96 y135 s = some oo97) ?_ ?_
            · rcases cs h with ⟨b170, h⟩ | ⟨b170, h⟩
              · exact At.rK [1, 7, 8, 9, 10, 22, 23, 24, 29] [0] [bT 2 b170] fun _ _ i => ⟨(decide (1 < y135)), h, i⟩
              · exact At.rK [1, 7, 8, 9, 10, 22, 23, 24, 29] [0] [bT 2 b170] fun _ _ i => ⟨false, h, i⟩
            · intro x167 h
              refine At.cd h (fun b168 h => ?_) (fun b168 h => ?_)
              · refine At.skip (fun _ _ i => ⟨x167, h, i⟩)
              · rcases cs h with ⟨b169, h⟩ | ⟨b169, h⟩
                · exact At.rK [1, 7, 8, 9, 10, 22, 23, 24, 29] [0] [bT 2 b169] fun _ _ i => ⟨(y135 == 0), h, i⟩
                · exact At.rK [1, 7, 8, 9, 10, 22, 23, 24, 29] [0] [bT 2 b169] fun _ _ i => ⟨false, h, i⟩
          · intro x156 h
            refine At.cd h (fun b157 h => ?_) (fun b157 h => ?_)
            · refine At.sR [7] [] [] ?_
              obtain ⟨r158, h, e159⟩ := mr h
              rw [f98 _ e159] at h
              refine At.exit (fun _ _ i => ⟨3, h, i.en [] [7] []⟩)
            · refine At.sR [1, 7, 8, 9, 10, 22, 23, 24, 42] [0] [] ?_
              refine At.cd h (fun b160 h => ?_) (fun b160 h => ?_)
              · obtain ⟨g162, h⟩ := gs h
                refine At.sR [4, 5, 6] [] [oT 5 g162] ?_
                obtain ⟨r163, h, e164⟩ := mr h
                rw [f98 _ e164] at h
                obtain rfl := sq h
                exact At.ret (At.rR hR [])
              · refine At.nR [1, 7, 8, 9, 10, 22, 23, 24] [0] ?_
                refine At.skip (norm ?_)
                obtain ⟨g165, h⟩ := gs h
                refine At.rG [1, 7, 8, 22, 23, 24] [0] [oT 6 g165] (norm ?_)
                exact At.rK [1, 7, 8, 22, 23, 24] [0] [] fun _ _ i => ⟨_, li h, i⟩
        · refine At.nR [7] [] ?_
          obtain ⟨r171, h, e172⟩ := mr h
          rw [f98 _ e172] at h
          refine At.exit (fun _ _ i => ⟨2, h, i.en [] [7] []⟩)
      · intro x90 h
        refine At.sR [4, 5, 6] [] [] ?_
        obtain rfl := sq h
        exact At.ret (At.rR hR [])
theorem C_crc_table  (r : (List Int)) (h : F_crc_table  = some r) : FnOK Try.prog 85 [] [] (.dagg (encL (eInt .u32) r)) [] [] := by
  refine fI Try.func85 rfl fun E gv R hR => ?_
  refine At.sR [0] [0] [] ?_
  refine At.sR [0, 1] [0, 1] [] ?_
  refine At.seq ?_
  refine At.sR [0, 1, 4] [0, 1] [] ?_
  refine At.block ?_
  refine At.nK (st' := ⟨[(0, .ptr 0 0), (1, .ptr 1 0), (4, i64 0)], [.dblk 141 (encL (eInt .u32) (List.replicate 256 (0 : Int))), .dblk 141 (encL (eInt .u32) (List.replicate 256 (0 : Int)))]⟩) [0, 1, 4] [0, 1] ?_
  refine At.lp (fun s : (Int × (List Int)) => ⟨[(0, .ptr 0 0), (1, .ptr 1 0), (4, i64 s.1)], [.dblk 141 (encL (eInt .u32) (List.replicate 256 (0 : Int))), .dblk 141 (encL (eInt .u32) s.2)]⟩) h ?_
  rintro ⟨x43, x44⟩ oo45 h f46
  replace h : F_crc_table_L2 x43 x44 = some oo45 := h
  refine At.sR [0, 1, 4, 5] [0, 1] [] ?_
  refine At.seq ?_
  refine At.cd h (fun b48 h => ?_) (fun b48 h => ?_)
  · refine At.nR [0, 1, 4] [0, 1] ?_
    refine At.skip (norm ?_)
    refine At.seq ?_
    refine At.block ?_
    refine At.sR [0, 1, 2, 4] [0, 1] [] ?_
    refine At.sR [0, 1, 2, 3, 4] [0, 1] [] ?_
    refine At.seq ?_
    refine At.sR [0, 1, 2, 3, 4, 9] [0, 1] [] ?_
    refine At.block ?_
    refine At.nK (st' := ⟨[(0, .ptr 0 0), (1, .ptr 1 0), (2, i64 x43), (3, u32 (wu32 x43)), (4, i64 x43), (9, i64 0)], [.dblk 141 (encL (eInt .u32) (List.replicate 256 (0 : Int))), .dblk 141 (encL (eInt .u32) x44)]⟩) [0, 1, 2, 3, 4, 9] [0, 1] ?_
    refine At.lp (fun s : (Int × Int) => ⟨[(0, .ptr 0 0), (1, .ptr 1 0), (2, i64 x43), (3, u32 s.1), (4, i64 x43), (9, i64 s.2)], [.dblk 141 (encL (eInt .u32) (List.replicate 256 (0 : Int))), .dblk 141 (encL (eInt .u32) x44)]⟩) h ?_
    rintro ⟨x74, x75⟩ oo76 h f77
    replace h : F_crc_table_L1 x43 x44 x74 x75 = some oo76 := h
    refine At.sR [0, 1, 2, 3, 4, 9, 10] [0, 1] [] ?_
    refine At.seq ?_
    refine At.cd h (fun b79 h => ?_) (fun b79 h => ?_)
    · refine At.nR [0, 1, 2, 3, 4, 9] [0, 1] ?_
      refine At.skip (norm ?_)
      refine At.seq ?_
      refine At.block ?_
      refine At.rG [0, 1, 2, 3, 4, 9] [0, 1] [oT 1 (by decide : (0:Int) ≤ 1)] (norm ?_)
      exact At.rK [0, 1, 2, 3, 4, 9] [0, 1] [] fun _ _ i => ⟨_, li h, i⟩
    · refine At.nR [0, 1, 2, 3, 4] [0, 1] ?_
      obtain ⟨r80, h, e81⟩ := mr h
      rw [f77 _ e81] at h
      refine At.exit (norm ?_)
      obtain ⟨g82, h⟩ := gs h
      refine At.rG [0, 1, 4] [0, 1] [oT 2 (⟨g82.1, g82.2.1⟩ : Within _ _), tT 3 ({ form := some (0, encL (eInt .u32) (List.set x44 (Int.toNat x43) x74)), obj := 1 }) (allc ((aSet_ok (he_int .u32) x74 g82).1) (allc ((aSet_ok (he_int .u32) x74 g82).2) all0))] (norm ?_)
      exact At.rK [0, 1, 4] [0, 1] [] fun _ _ i => ⟨_, li h, i⟩
  · refine At.nR [0, 1] [0, 1] ?_
    obtain ⟨r83, h, e84⟩ := mr h
    rw [f46 _ e84] at h
    refine At.exit (norm ?_)
    obtain ⟨g87, h⟩ := gs h
    obtain ⟨g88, h⟩ := gs h
    refine At.sR [0] [0] [oT 0 (lenN (he_int .u32) x44 g87), oN 1 (allc (lenN (he_int .u32) x44 g88.1) (allc (lenN (he_int .u32) (List.replicate 256 (0 : Int)) g88.2) all0))] ?_
    obtain ⟨g89, h⟩ := gs h
    obtain rfl := sq h
    exact At.ret (At.rQ hR [] (allc (lenN (he_int .u32) x44 g89) all0))
theorem C_crc_More (p0 : Int) (p1 : ByteArray) (r : Int) (h : F_crc_More p0 p1 = some r) : FnOK Try.prog 70 [u32 p0, sv p1] [] (u32 r) [] [] := by
  refine fI Try.func70 rfl fun E gv R hR => ?_
  refine At.sR [0, 1] [] [] ?_
  obtain ⟨y3, hy3, h⟩ := bs h
  obtain ⟨g4, h⟩ := gs h
  refine At.sR [0, 1, 5] [0] [c0 0 (C_crc_table y3 hy3), oN 2 (allc (lenN (he_int .u32) y3 g4.1) (allc (lenN (he_int .u32) (List.replicate 256 (0 : Int)) g4.2) all0))] ?_
  refine At.sR [0, 1, 5] [0] [] ?_
  refine At.seq ?_
  obtain ⟨g22, h⟩ := gs h
  refine At.sR [0, 5, 12, 13, 14] [0, 1] [tT 1 ({ form := some ((sB p1).length, encL (eInt .u8) (sB p1)) }) (allc (len_sB p1) (allc (encL_sB p1) (allc g22 all0)))] ?_
  refine At.block ?_
  refine At.nK (st' := ⟨[(0, u32 (bits .xor .u32 4294967295 p0)), (5, .ptr 0 0), (12, .row 1 ((sB p1)).length), (13, i64 (((sB p1)).length : Int)), (14, i64 0)], [.dblk 141 (encL (eInt .u32) y3), .row 5 1 (encL (eInt .u8) (sB p1))]⟩) [0, 5, 12, 13, 14] [0, 1] ?_
  refine At.lp (fun s : (Int × Int) => ⟨[(0, u32 s.1), (5, .ptr 0 0), (12, .row 1 ((sB p1)).length), (13, i64 (((sB p1)).length : Int)), (14, i64 s.2)], [.dblk 141 (encL (eInt .u32) y3), .row 5 1 (encL (eInt .u8) (sB p1))]⟩) h ?_
  rintro ⟨x23, x24⟩ oo25 h f26
  replace h : F_crc_More_L1 p1 y3 x23 x24 = some oo25 := h
  refine At.sR [0, 5, 12, 13, 14, 15] [0, 1] [] ?_
  refine At.seq ?_
  refine At.cd h (fun b28 h => ?_) (fun b28 h => ?_)
  · refine At.nR [0, 5, 12, 13, 14] [0, 1] ?_
    refine At.skip (norm ?_)
    refine At.seq ?_
    refine At.block ?_
    obtain ⟨y33, hy33, h⟩ := bs h
    refine At.sR [0, 5, 7, 12, 13, 14] [0, 1] [oT 0 ((rAt_of (he_int .u8) (d := .int .u8 y33) hy33 rfl).1), vT 1 (.int .u8 y33) ((rAt_of (he_int .u8) (d := .int .u8 y33) hy33 rfl).2)] ?_
    obtain ⟨y34, hy34, h⟩ := bs h
    refine At.rG [0, 5, 12, 13, 14] [0, 1] [oT 4 ((aAt_of (he_int .u32) (d := .int .u32 y34) hy34 rfl).1), vT 5 (.int .u32 y34) ((aAt_of (he_int .u32) (d := .int .u32 y34) hy34 rfl).2), oT 7 (by decide : (0:Int) ≤ 8)] (norm ?_)
    exact At.rK [0, 5, 12, 13, 14] [0, 1] [] fun _ _ i => ⟨_, li h, i⟩
  · refine At.nR [0] [] ?_
    obtain ⟨r35, h, e36⟩ := mr h
    rw [f26 _ e36] at h
    refine At.exit (norm ?_)
    refine At.sR [4] [] [] ?_
    obtain rfl := sq h
    exact At.ret (At.rR hR [])
theorem C_crc_Sum (p0 : ByteArray) (r : Int) (h : F_crc_Sum p0 = some r) : FnOK Try.prog 50 [sv p0] [] (u32 r) [] [] := by
  refine fI Try.func50 rfl fun E gv R hR => ?_
  refine At.sR [0] [] [] ?_
  obtain ⟨y2, hy2, h⟩ := bs h
  refine At.sR [2] [] [c0 1 (C_crc_More 0 p0 y2 hy2)] ?_
  obtain rfl := sq h
  exact At.ret (At.rR hR [])
theorem C_crc_Bytes (p0 : Int) (r : ByteArray) (h : F_crc_Bytes p0 = some r) : FnOK Try.prog 49 [u32 p0] [] (sv r) [] [] := by
  refine fI Try.func49 rfl fun E gv R hR => ?_
  refine At.sR [0] [] [] ?_
  refine At.sR [2] [] [oT 3 (by decide : (0:Int) ≤ 8), oT 6 (by decide : (0:Int) ≤ 16), oT 9 (by decide : (0:Int) ≤ 24), tT 12 ({ orc := .nums ([(wu8 p0), (wu8 (Int.fdiv p0 256)), (wu8 (Int.fdiv p0 65536)), (wu8 (Int.fdiv p0 16777216))]) }) (allc (encL_map .u8 ([(wu8 p0), (wu8 (Int.fdiv p0 256)), (wu8 (Int.fdiv p0 65536)), (wu8 (Int.fdiv p0 16777216))])) (allc (rfl : (([(wu8 p0), (wu8 (Int.fdiv p0 256)), (wu8 (Int.fdiv p0 65536)), (wu8 (Int.fdiv p0 16777216))])).length = (([(wu8 p0), (wu8 (Int.fdiv p0 256)), (wu8 (Int.fdiv p0 65536)), (wu8 (Int.fdiv p0 16777216))])).length) all0))] ?_
  obtain rfl := sq h
  exact At.ret (At.rR hR [])
theorem C_crc_Open (p0 : ByteArray) (r : ByteArray × Int) (h : F_crc_Open p0 = some r) : FnOK Try.prog 28 [sv p0] [] (.tup [sv r.1, i64 r.2]) [] [] := by
  refine fI Try.func28 rfl fun E gv R hR => ?_
  refine At.sR [0] [] [] ?_
  refine At.sR [0, 4] [] [] ?_
  refine At.seq ?_
  refine At.sR [0, 4, 9] [] [] ?_
  refine At.cd h (fun b2 h => ?_) (fun b2 h => ?_)
  · refine At.sR [2, 3] [] [] ?_
    obtain rfl := sq h
    exact At.ret (At.rR hR [])
  · refine At.nR [0, 4] [] ?_
    refine At.skip (norm ?_)
    refine At.seq ?_
    obtain ⟨g16, h⟩ := gs h
    obtain ⟨y17, hy17, h⟩ := bs h
    obtain ⟨y18, hy18, h⟩ := bs h
    obtain ⟨g19, h⟩ := gs h
    refine At.sD 0 [0, 4, 18] [] [oT 2 g16, c0 3 (C_crc_Sum (p0.extract (Int.toNat 0) (Int.toNat (w64 ((p0.size : Int) - 4)))) y17 hy17), c0 4 (C_crc_Bytes y17 y18 hy18), oT 7 g19] ?_
    refine At.cd h (fun b20 h => ?_) (fun b20 h => ?_)
    · refine At.seq ?_
      refine At.rK (st' := ⟨[(2, sv (⟨#[]⟩ : ByteArray)), (3, i64 4)], []⟩) [2, 3] [] [] (norm ?_)
      obtain rfl := sq h
      exact At.ret (At.rR hR [])
    · refine At.nK (st' := ⟨[(0, sv p0), (4, i64 (w64 ((p0.size : Int) - 4)))], []⟩) [0, 4] [] ?_
      refine At.skip (norm ?_)
      obtain ⟨g22, h⟩ := gs h
      refine At.sR [2, 3] [] [oT 2 g22] ?_
      obtain rfl := sq h
      exact At.ret (At.rR hR [])
theorem C_frame_Next (p0 : ByteArray) (p1 : Int) (r : T_api_Frame × Int × Int) (h : F_frame_Next p0 p1 = some r) : FnOK Try.prog 14 [sv p0, i64 p1] [] (.tup [.agg (T_api_Frame.pvs r.1), i64 r.2.1, i64 r.2.2]) [] [] := by
  refine fI Try.func14 rfl fun E gv R hR => ?_
  refine At.sR [0, 1, 4] [0] [] ?_
  refine At.seq ?_
  refine At.seqJ (S := Bool) (fun s => ⟨[(0, sv p0), (1, i64 p1), (4, .ptr 0 0), (20, bo s)], [.blk 39 [i64 0, sv (⟨#[]⟩ : ByteArray)]]⟩) (fun s => F_frame_Next_J1 p0 p1 s = some r) ?_ ?_
  · rcases cs h with ⟨b32, h⟩ | ⟨b32, h⟩
    · exact At.rK [0, 1, 4, 20] [0] [bT 2 b32] fun _ _ i => ⟨true, h, i⟩
    · exact At.rK [0, 1, 4, 20] [0] [bT 2 b32] fun _ _ i => ⟨(decide ((p0.size : Int) < p1)), h, i⟩
  · intro x6 h
    refine At.cd h (fun b7 h => ?_) (fun b7 h => ?_)
    · refine At.sR [4, 5, 6] [0] [] ?_
      obtain rfl := sq h
      exact At.ret (At.rR hR [])
    · refine At.nR [0, 1, 4] [0] ?_
      refine At.skip (norm ?_)
      refine At.seq ?_
      refine At.sR [0, 1, 4, 25] [0] [] ?_
      refine At.cd h (fun b9 h => ?_) (fun b9 h => ?_)
      · refine At.sR [4, 5, 6] [0] [] ?_
        obtain rfl := sq h
        exact At.ret (At.rR hR [])
      · refine At.nR [0, 1, 4] [0] ?_
        refine At.skip (norm ?_)
        obtain ⟨y11, hy11, h⟩ := bs h
        refine At.sR [0, 1, 4, 7, 8, 9] [0] [c0 3 (C_vint_Get p0 (w64 (p1 + 1)) y11 hy11)] ?_
        refine At.seq ?_
        refine At.block ?_
        refine At.sR [0, 1, 4, 7, 8, 9, 35] [0] [] ?_
        refine At.cd h (fun b15 h => ?_) (fun b15 h => ?_)
        · refine At.seq ?_
          refine At.rK (st' := ⟨[(4, .ptr 0 0), (5, i64 0), (6, i64 y11.2.2)], [.blk 39 [i64 0, sv (⟨#[]⟩ : ByteArray)]]⟩) [4, 5, 6] [0] [] (norm ?_)
          obtain rfl := sq h
          exact At.ret (At.rR hR [])
        · refine At.seq ?_
          refine At.rK (st' := ⟨[(0, sv p0), (1, i64 p1), (4, .ptr 0 0), (7, u64 y11.1), (8, i64 y11.2.1), (40, bo (decide (1048576 < y11.1)))], [.blk 39 [i64 0, sv (⟨#[]⟩ : ByteArray)]]⟩) [0, 1, 4, 7, 8, 40] [0] [] (norm ?_)
          refine At.cd h (fun b16 h => ?_) (fun b16 h => ?_)
          · refine At.sR [4, 5, 6] [0] [] ?_
            obtain rfl := sq h
            exact At.ret (At.rR hR [])
          · refine At.sR [0, 1, 4, 7, 8, 44] [0] [] ?_
            refine At.cd h (fun b17 h => ?_) (fun b17 h => ?_)
            · refine At.sR [4, 5, 6] [0] [] ?_
              obtain rfl := sq h
              exact At.ret (At.rR hR [])
            · refine At.nR [0, 1, 4, 7, 8] [0] ?_
              refine At.skip (norm ?_)
              refine At.sR [0, 1, 4, 8, 10] [0] [] ?_
              refine At.seq ?_
              obtain ⟨g25, h⟩ := gs h
              obtain ⟨y26, hy26, h⟩ := bs h
              refine At.sR [0, 1, 4, 8, 10, 12] [0] [oT 4 g25, c0 5 (C_crc_Open (p0.extract (Int.toNat p1) (Int.toNat (w64 ((w64 (y11.2.1 + (w64 y11.1))) + 4)))) y26 hy26)] ?_
              refine At.sR [0, 1, 4, 8, 10, 12, 68] [0] [] ?_
              refine At.cd h (fun b27 h => ?_) (fun b27 h => ?_)
              · refine At.seq ?_
                refine At.rK (st' := ⟨[(4, .ptr 0 0), (5, i64 0), (6, i64 y26.2)], [.blk 39 [i64 0, sv (⟨#[]⟩ : ByteArray)]]⟩) [4, 5, 6] [0] [] (norm ?_)
                obtain rfl := sq h
                exact At.ret (At.rR hR [])
              · refine At.nK (st' := ⟨[(0, sv p0), (1, i64 p1), (4, .ptr 0 0), (8, i64 y11.2.1), (10, i64 (w64 (y11.2.1 + (w64 y11.1))))], [.blk 39 [i64 0, sv (⟨#[]⟩ : ByteArray)]]⟩) [0, 1, 4, 8, 10] [0] ?_
                refine At.skip (norm ?_)
                obtain ⟨y30, hy30, h⟩ := bs h
                obtain ⟨g31, h⟩ := gs h
                refine At.sD 0 [4, 5, 6] [0] [sT 2 hy30, oT 7 g31] ?_
                obtain rfl := sq h
                exact At.ret (At.rR hR [])
theorem C_slices_Clip_retrace_api_Event_retrace_api_Event (p0 : (List T_api_Event)) (r : (List T_api_Event)) (h : F_slices_Clip_retrace_api_Event_retrace_api_Event p0 = some r) : FnOK Try.prog 58 [lv T_api_Event.enc p0] [] (.d (.list true (r).length (encL T_api_Event.enc r))) [] [] := by
  refine fI Try.func58 rfl fun E gv R hR => ?_
  refine At.sR [0] [] [] ?_
  obtain ⟨g2, h⟩ := gs h
  refine At.sR [2] [] [tT 5 ({ form := some ((lCut p0 0 ((p0).length : Int)).length, encL T_api_Event.enc (lCut p0 0 ((p0).length : Int))) }) (allc ((cut_ok3 T_api_Event.enc_len g2).1) (allc ((cut_ok3 T_api_Event.enc_len g2).2) (allc g2 all0)))] ?_
  obtain rfl := sq h
  exact At.ret (At.rR hR [])
theorem C_slices_Clip_retrace_api_Mark_retrace_api_Mark (p0 : (List T_api_Mark)) (r : (List T_api_Mark)) (h : F_slices_Clip_retrace_api_Mark_retrace_api_Mark p0 = some r) : FnOK Try.prog 59 [lv T_api_Mark.enc p0] [] (.d (.list true (r).length (encL T_api_Mark.enc r))) [] [] := by
  refine fI Try.func59 rfl fun E gv R hR => ?_
  refine At.sR [0] [] [] ?_
  obtain ⟨g2, h⟩ := gs h
  refine At.sR [2] [] [tT 5 ({ form := some ((lCut p0 0 ((p0).length : Int)).length, encL T_api_Mark.enc (lCut p0 0 ((p0).length : Int))) }) (allc ((cut_ok3 T_api_Mark.enc_len g2).1) (allc ((cut_ok3 T_api_Mark.enc_len g2).2) (allc g2 all0)))] ?_
  obtain rfl := sq h
  exact At.ret (At.rR hR [])
theorem C_trace_copied (p0 : T_api_Trace) (r : T_api_Trace) (h : F_trace_copied p0 = some r) : FnOK Try.prog 33 [.agg (T_api_Trace.pvs p0)] [] (.agg [u32 r.Sum, i64 r.Fuel, i64 r.Every, .d (.list true (r.Events).length (encL T_api_Event.enc r.Events)), .d (.list true (r.Marks).length (encL T_api_Mark.enc r.Marks))]) [] [] := by
  refine fI Try.func33 rfl fun E gv R hR => ?_
  refine At.sR [1, 2] [0, 1] [] ?_
  obtain ⟨y3, hy3, h⟩ := bs h
  obtain ⟨y4, hy4, h⟩ := bs h
  refine At.sD 0 [1, 2] [0, 1] [c0 2 (C_slices_Clip_retrace_api_Event_retrace_api_Event p0.Events y3 hy3), c0 5 (C_slices_Clip_retrace_api_Mark_retrace_api_Mark p0.Marks y4 hy4)] ?_
  refine At.sR [2] [1] [] ?_
  obtain rfl := sq h
  exact At.ret (At.rR hR [])
theorem C_wire_Open (p0 : ByteArray) (r : T_wire_Reader) (h : F_wire_Open p0 = some r) : FnOK Try.prog 51 [sv p0] [] (.ptr 0 0) [.blk 130 (T_wire_Reader.pvs r)] [] := by
  refine fI Try.func51 rfl fun E gv R hR => ?_
  refine At.sR [0] [] [] ?_
  refine At.sR [2] [0] [] ?_
  obtain rfl := sq h
  exact At.ret (At.rR hR [0])
theorem C_wire_Reader_Num_1 (p0 : ByteArray) (o0_0 : Int) (r : Int × Int × Int) (h : F_wire_Reader_Num_1 p0 o0_0 = some r) : FnOK Try.prog 72 [sv p0, .ptr 0 0] [.blk 74 [u64 o0_0]] (.tup [i64 r.1, i64 r.2.1]) [.blk 74 [u64 r.2.2]] [1] := by
  refine fI Try.func72 rfl fun E gv R hR => ?_
  refine At.sR [0, 1] [0, 1] [] ?_
  obtain ⟨y2, hy2, h⟩ := bs h
  refine At.sR [3, 4] [0, 1] [c0 1 (C_vint_Get p0 0 y2 hy2)] ?_
  refine At.sR [3, 4] [0, 1] [] ?_
  obtain rfl := sq h
  exact At.ret (At.rR hR [0])
theorem C_wire_Reader_step (o0 : T_wire_Reader) (o1_0 : Int) (r : Bool × T_wire_Reader × Int) (h : F_wire_Reader_step o0 o1_0 = some r) : FnOK Try.prog 71 [.ptr 0 0, .fn (.func 72) [] [.ptr 1 0]] [.blk 130 (T_wire_Reader.pvs o0), .blk 74 [u64 o1_0]] (bo r.1) [.blk 130 (T_wire_Reader.pvs r.2.1), .blk 74 [u64 r.2.2]] [1, 3] := by
  refine fI Try.func71 rfl fun E gv R hR => ?_
  refine At.sR [0, 1] [0, 1, 2, 3] [] ?_
  refine At.seq ?_
  refine At.sR [0, 1, 15] [0, 1, 2, 3] [] ?_
  refine At.cd h (fun b2 h => ?_) (fun b2 h => ?_)
  · refine At.sR [4] [0, 1, 2, 3] [] ?_
    obtain rfl := sq h
    exact At.ret (At.rR hR [0, 1])
  · refine At.nR [0, 1] [0, 1, 2, 3] ?_
    refine At.skip (norm ?_)
    obtain ⟨y4, hy4, h⟩ := bs h
    refine At.sR [0, 5, 6] [0, 1, 2, 3] [cT 5 1 [1] (C_wire_Reader_Num_1 o0.s o1_0 y4 hy4)] ?_
    refine At.seq ?_
    refine At.sR [0, 5, 6, 26] [0, 1, 2, 3] [] ?_
    refine At.cd h (fun b6 h => ?_) (fun b6 h => ?_)
    · refine At.seq ?_
      refine At.rK (st' := ⟨[], [.blk 130 [sv o0.s, i64 y4.2.1], .blk 74 [u64 y4.2.2], .ghost (gv 0) (.ptr 0 0), .ghost (gv 1) (.ptr 1 0)]⟩) [] [0, 1, 2, 3] [] (norm ?_)
      refine At.sR [4] [0, 1, 2, 3] [] ?_
      obtain rfl := sq h
      exact At.ret (At.rR hR [0, 1])
    · refine At.nK (st' := ⟨[(0, .ptr 0 0), (5, i64 y4.1)], [.blk 130 (T_wire_Reader.pvs o0), .blk 74 [u64 y4.2.2], .ghost (gv 0) (.ptr 0 0), .ghost (gv 1) (.ptr 1 0)]⟩) [0, 5] [0, 1, 2, 3] ?_
      refine At.skip (norm ?_)
      obtain ⟨g8, h⟩ := gs h
      refine At.sR [] [0, 1, 2, 3] [oT 6 g8] ?_
      refine At.sR [4] [0, 1, 2, 3] [] ?_
      obtain rfl := sq h
      exact At.ret (At.rR hR [0, 1])
theorem C_wire_Reader_Num (o0 : T_wire_Reader) (r : Int × T_wire_Reader) (h : F_wire_Reader_Num o0 = some r) : FnOK Try.prog 52 [.ptr 0 0] [.blk 130 (T_wire_Reader.pvs o0)] (u64 r.1) [.blk 130 (T_wire_Reader.pvs r.2)] [1] := by
  refine fI Try.func52 rfl fun E gv R hR => ?_
  refine At.sR [0] [0, 1] [] ?_
  refine At.sR [0, 3] [0, 1, 2] [] ?_
  obtain ⟨y2, hy2, h⟩ := bs h
  refine At.sR [3] [0, 1, 2] [cT 2 2 [0, 2] (C_wire_Reader_step o0 0 y2 hy2)] ?_
  refine At.sR [2] [0, 1] [] ?_
  obtain rfl := sq h
  exact At.ret (At.rR hR [0])
theorem C_wire_Reader_Upto_1 (p0 : ByteArray) (o0_0 : Int) (o1_0 : Int) (r : Int × Int × Int) (h : F_wire_Reader_Upto_1 p0 o0_0 o1_0 = some r) : FnOK Try.prog 73 [sv p0, .ptr 0 0, .ptr 1 0] [.blk 74 [u64 o0_0], .blk 3 [i64 o1_0]] (.tup [i64 r.1, i64 r.2.1]) [.blk 74 [u64 r.2.2], .blk 3 [i64 o1_0]] [1, 3] := by
  refine fI Try.func73 rfl fun E gv R hR => ?_
  refine At.sR [0, 1, 2] [0, 1, 2, 3] [] ?_
  obtain ⟨y2, hy2, h⟩ := bs h
  refine At.sR [1, 2, 4, 5] [0, 1, 2, 3] [c0 1 (C_vint_Get p0 0 y2 hy2)] ?_
  refine At.seq ?_
  refine At.seqJ (S := Bool) (fun s => ⟨[(4, i64 y2.2.1), (5, i64 y2.2.2), (23, bo s)], [.blk 74 [u64 y2.1], .blk 3 [i64 o1_0], .ghost (gv 0) (.ptr 0 0), .ghost (gv 1) (.ptr 1 0)]⟩) (fun s => F_wire_Reader_Upto_1_J1 y2 s = some r) ?_ ?_
  · rcases cs h with ⟨b13, h⟩ | ⟨b13, h⟩
    · rcases cs h with ⟨b14, h⟩ | ⟨b14, h⟩
      · exact At.rK [4, 5, 23] [0, 1, 2, 3] [bT 2 b13, bT 5 b14] fun _ _ i => ⟨true, h, i⟩
      · exact At.rK [4, 5, 23] [0, 1, 2, 3] [bT 2 b13, bT 5 b14] fun _ _ i => ⟨(decide ((wu64 o1_0) < y2.1)), h, i⟩
    · exact At.rK [4, 5, 23] [0, 1, 2, 3] [bT 2 b13] fun _ _ i => ⟨false, h, i⟩
  · intro x11 h
    refine At.cd h (fun b12 h => ?_) (fun b12 h => ?_)
    · refine At.sR [4, 5] [0, 1, 2, 3] [] ?_
      obtain rfl := sq h
      exact At.ret (At.rR hR [0, 1])
    · refine At.nR [4, 5] [0, 1, 2, 3] ?_
      refine At.skip (norm ?_)
      refine At.sR [4, 5] [0, 1, 2, 3] [] ?_
      obtain rfl := sq h
      exact At.ret (At.rR hR [0, 1])
theorem C_wire_Reader_step_v2 (o0 : T_wire_Reader) (o1_0 : Int) (o2_0 : Int) (r : Bool × T_wire_Reader × Int) (h : F_wire_Reader_step_v2 o0 o1_0 o2_0 = some r) : FnOK Try.prog 71 [.ptr 0 0, .fn (.func 73) [] [.ptr 1 0, .ptr 2 0]] [.blk 130 (T_wire_Reader.pvs o0), .blk 74 [u64 o1_0], .blk 3 [i64 o2_0]] (bo r.1) [.blk 130 (T_wire_Reader.pvs r.2.1), .blk 74 [u64 r.2.2], .blk 3 [i64 o2_0]] [1, 3, 5] := by
  refine fI Try.func71 rfl fun E gv R hR => ?_
  refine At.sR [0, 1] [0, 1, 2, 3, 4, 5] [] ?_
  refine At.seq ?_
  refine At.sR [0, 1, 15] [0, 1, 2, 3, 4, 5] [] ?_
  refine At.cd h (fun b2 h => ?_) (fun b2 h => ?_)
  · refine At.sR [4] [0, 1, 2, 3, 4, 5] [] ?_
    obtain rfl := sq h
    exact At.ret (At.rR hR [0, 1, 2])
  · refine At.nR [0, 1] [0, 1, 2, 3, 4, 5] ?_
    refine At.skip (norm ?_)
    obtain ⟨y4, hy4, h⟩ := bs h
    refine At.sR [0, 5, 6] [0, 1, 2, 3, 4, 5] [cT 5 2 [1, 2] (C_wire_Reader_Upto_1 o0.s o1_0 o2_0 y4 hy4)] ?_
    refine At.seq ?_
    refine At.sR [0, 5, 6, 26] [0, 1, 2, 3, 4, 5] [] ?_
    refine At.cd h (fun b6 h => ?_) (fun b6 h => ?_)
    · refine At.seq ?_
      refine At.rK (st' := ⟨[], [.blk 130 [sv o0.s, i64 y4.2.1], .blk 74 [u64 y4.2.2], .blk 3 [i64 o2_0], .ghost (gv 0) (.ptr 0 0), .ghost (gv 1) (.ptr 1 0), .ghost (gv 2) (.ptr 2 0)]⟩) [] [0, 1, 2, 3, 4, 5] [] (norm ?_)
      refine At.sR [4] [0, 1, 2, 3, 4, 5] [] ?_
      obtain rfl := sq h
      exact At.ret (At.rR hR [0, 1, 2])
    · refine At.nK (st' := ⟨[(0, .ptr 0 0), (5, i64 y4.1)], [.blk 130 (T_wire_Reader.pvs o0), .blk 74 [u64 y4.2.2], .blk 3 [i64 o2_0], .ghost (gv 0) (.ptr 0 0), .ghost (gv 1) (.ptr 1 0), .ghost (gv 2) (.ptr 2 0)]⟩) [0, 5] [0, 1, 2, 3, 4, 5] ?_
      refine At.skip (norm ?_)
      obtain ⟨g8, h⟩ := gs h
      refine At.sR [] [0, 1, 2, 3, 4, 5] [oT 6 g8] ?_
      refine At.sR [4] [0, 1, 2, 3, 4, 5] [] ?_
      obtain rfl := sq h
      exact At.ret (At.rR hR [0, 1, 2])
theorem C_wire_Reader_Upto (p1 : Int) (o0 : T_wire_Reader) (r : Int × T_wire_Reader) (h : F_wire_Reader_Upto p1 o0 = some r) : FnOK Try.prog 53 [.ptr 0 0, i64 p1] [.blk 130 (T_wire_Reader.pvs o0)] (i64 r.1) [.blk 130 (T_wire_Reader.pvs r.2)] [1] := by
  refine fI Try.func53 rfl fun E gv R hR => ?_
  refine At.sR [0, 3] [0, 1, 2] [] ?_
  refine At.sR [0, 3, 5] [0, 1, 2, 3] [] ?_
  obtain ⟨y2, hy2, h⟩ := bs h
  refine At.sR [5, 6] [0, 1, 3] [cT 2 3 [0, 3, 2] (C_wire_Reader_step_v2 o0 0 p1 y2 hy2)] ?_
  refine At.seq ?_
  refine At.sR [5, 11] [0, 1, 2] [] ?_
  refine At.cd h (fun b4 h => ?_) (fun b4 h => ?_)
  · refine At.sR [4] [0, 1] [] ?_
    obtain rfl := sq h
    exact At.ret (At.rR hR [0])
  · refine At.nR [5] [0, 1, 2] ?_
    refine At.skip (norm ?_)
    refine At.seq ?_
    refine At.rK (st' := ⟨[(4, i64 (w64 y2.2.2))], [.blk 130 (T_wire_Reader.pvs y2.2.1), .ghost (gv 0) (.ptr 0 0)]⟩) [4] [0, 1] [] (norm ?_)
    obtain rfl := sq h
    exact At.ret (At.rR hR [0])
theorem C_wire_Reader_Err (o0 : T_wire_Reader) (r : Int) (h : F_wire_Reader_Err o0 = some r) : FnOK Try.prog 74 [.ptr 0 0] [.blk 130 (T_wire_Reader.pvs o0)] (i64 r) [.blk 130 (T_wire_Reader.pvs o0)] [1] := by
  refine fI Try.func74 rfl fun E gv R hR => ?_
  refine At.sR [0] [0, 1] [] ?_
  refine At.seq ?_
  refine At.sR [0, 4] [0, 1] [] ?_
  refine At.cn ?_
  refine At.nR [0] [0, 1] ?_
  refine At.skip (norm ?_)
  refine At.sR [2] [0, 1] [] ?_
  obtain rfl := sq h
  exact At.ret (At.rR hR [0])
theorem C_wire_Reader_Left (o0 : T_wire_Reader) (r : Int) (h : F_wire_Reader_Left o0 = some r) : FnOK Try.prog 75 [.ptr 0 0] [.blk 130 (T_wire_Reader.pvs o0)] (i64 r) [.blk 130 (T_wire_Reader.pvs o0)] [1] := by
  refine fI Try.func75 rfl fun E gv R hR => ?_
  refine At.sR [0] [0, 1] [] ?_
  refine At.seq ?_
  refine At.sR [0, 4] [0, 1] [] ?_
  refine At.cn ?_
  refine At.nR [0] [0, 1] ?_
  refine At.skip (norm ?_)
  refine At.sR [2] [0, 1] [] ?_
  obtain rfl := sq h
  exact At.ret (At.rR hR [0])
theorem C_wire_Reader_End (o0 : T_wire_Reader) (r : Int) (h : F_wire_Reader_End o0 = some r) : FnOK Try.prog 54 [.ptr 0 0] [.blk 130 (T_wire_Reader.pvs o0)] (i64 r) [.blk 130 (T_wire_Reader.pvs o0)] [1] := by
  refine fI Try.func54 rfl fun E gv R hR => ?_
  refine At.sR [0] [0, 1] [] ?_
  refine At.seq ?_
  obtain ⟨y10, hy10, h⟩ := bs h
  refine At.sR [0, 3] [0, 1] [cT 1 1 [0] (C_wire_Reader_Err o0 y10 hy10)] ?_
  refine At.seqJ (S := Bool) (fun s => ⟨[(3, i64 y10), (12, bo s)], [.blk 130 (T_wire_Reader.pvs o0), .ghost (gv 0) (.ptr 0 0)]⟩) (fun s => F_wire_Reader_End_J1 y10 s = some r) ?_ ?_
  · rcases cs h with ⟨b15, h⟩ | ⟨b15, h⟩
    · exact At.rK [3, 12] [0, 1] [bT 2 b15] fun _ _ i => ⟨true, h, i⟩
    · obtain ⟨y16, hy16, h⟩ := bs h
      exact At.rK [3, 12] [0, 1] [bT 2 b15, cT 4 1 [0] (C_wire_Reader_Left o0 y16 hy16)] fun _ _ i => ⟨(y16 == 0), h, i⟩
  · intro x13 h
    refine At.cd h (fun b14 h => ?_) (fun b14 h => ?_)
    · refine At.sR [2] [0, 1] [] ?_
      obtain rfl := sq h
      exact At.ret (At.rR hR [0])
    · refine At.nR [] [0, 1] ?_
      refine At.skip (norm ?_)
      refine At.sR [2] [0, 1] [] ?_
      obtain rfl := sq h
      exact At.ret (At.rR hR [0])
theorem C_slices_Equal_retrace_api_Event_retrace_api_Event (p0 : (List T_api_Event)) (p1 : (List T_api_Event)) (r : Bool) (h : F_slices_Equal_retrace_api_Event_retrace_api_Event p0 p1 = some r) : FnOK Try.prog 88 [lv T_api_Event.enc p0, lv T_api_Event.enc p1] [] (bo r) [] [] := by
  refine fI Try.func88 rfl fun E gv R hR => ?_
  refine At.sR [0, 1] [] [] ?_
  refine At.seq ?_
  refine At.sR [0, 1, 10] [] [] ?_
  refine At.cd h (fun b2 h => ?_) (fun b2 h => ?_)
  · refine At.sR [4] [] [] ?_
    obtain rfl := sq h
    exact At.ret (At.rR hR [])
  · refine At.nR [0, 1] [] ?_
    refine At.skip (norm ?_)
    refine At.seq ?_
    refine At.sR [0, 1, 12, 13] [] [] ?_
    refine At.block ?_
    refine At.nK (st' := ⟨[(0, lv T_api_Event.enc p0), (1, lv T_api_Event.enc p1), (12, i64 ((p0).length : Int)), (13, i64 0)], []⟩) [0, 1, 12, 13] [] ?_
    refine At.lp (fun s : (Int) => ⟨[(0, lv T_api_Event.enc p0), (1, lv T_api_Event.enc p1), (12, i64 ((p0).length : Int)), (13, i64 s)], []⟩) h ?_
    intro x22 oo23 h f24
    replace h : F_slices_Equal_retrace_api_Event_retrace_api_Event_L1 p0 p1 x22 = some oo23 := h
    refine At.sR [0, 1, 12, 13, 14] [] [] ?_
    refine At.seq ?_
    refine At.cd h (fun b26 h => ?_) (fun b26 h => ?_)
    · refine At.nR [0, 1, 12, 13] [] ?_
      refine At.skip (norm ?_)
      refine At.seq ?_
      refine At.block ?_
      refine At.sR [0, 1, 5, 12, 13] [] [] ?_
      obtain ⟨y34, hy34, h⟩ := bs h
      obtain ⟨y35, hy35, h⟩ := bs h
      refine At.sD 0 [0, 1, 12, 13, 24] [] [eT T_api_Event.enc_len 2 hy34, eT T_api_Event.enc_len 6 hy35] ?_
      refine At.cd h (fun b36 h => ?_) (fun b36 h => ?_)
      · refine At.sR [4] [] [] ?_
        obtain ⟨r37, h, e38⟩ := mr h
        rw [f24 _ e38] at h
        obtain rfl := sq h
        exact At.ret (At.rR hR [])
      · refine At.nR [0, 1, 12, 13] [] ?_
        refine At.skip (norm ?_)
        exact At.rK [0, 1, 12, 13] [] [] fun _ _ i => ⟨_, li h, i⟩
    · refine At.nR [] [] ?_
      obtain ⟨r39, h, e40⟩ := mr h
      rw [f24 _ e40] at h
      refine At.exit (norm ?_)
      refine At.sR [4] [] [] ?_
      obtain rfl := sq h
      exact At.ret (At.rR hR [])
theorem C_slices_Equal_int_int (p0 : (List Int)) (p1 : (List Int)) (r : Bool) (h : F_slices_Equal_int_int p0 p1 = some r) : FnOK Try.prog 93 [lv (eInt .i64) p0, lv (eInt .i64) p1] [] (bo r) [] [] := by
  refine fI Try.func93 rfl fun E gv R hR => ?_
  refine At.sR [0, 1] [] [] ?_
  refine At.seq ?_
  refine At.sR [0, 1, 10] [] [] ?_
  refine At.cd h (fun b2 h => ?_) (fun b2 h => ?_)
  · refine At.sR [4] [] [] ?_
    obtain rfl := sq h
    exact At.ret (At.rR hR [])
  · refine At.nR [0, 1] [] ?_
    refine At.skip (norm ?_)
    refine At.seq ?_
    refine At.sR [0, 1, 12, 13] [] [] ?_
    refine At.block ?_
    refine At.nK (st' := ⟨[(0, lv (eInt .i64) p0), (1, lv (eInt .i64) p1), (12, i64 ((p0).length : Int)), (13, i64 0)], []⟩) [0, 1, 12, 13] [] ?_
    refine At.lp (fun s : (Int) => ⟨[(0, lv (eInt .i64) p0), (1, lv (eInt .i64) p1), (12, i64 ((p0).length : Int)), (13, i64 s)], []⟩) h ?_
    intro x22 oo23 h f24
    replace h : F_slices_Equal_int_int_L1 p0 p1 x22 = some oo23 := h
    refine At.sR [0, 1, 12, 13, 14] [] [] ?_
    refine At.seq ?_
    refine At.cd h (fun b26 h => ?_) (fun b26 h => ?_)
    · refine At.nR [0, 1, 12, 13] [] ?_
      refine At.skip (norm ?_)
      refine At.seq ?_
      refine At.block ?_
      refine At.sR [0, 1, 5, 12, 13] [] [] ?_
      obtain ⟨y34, hy34, h⟩ := bs h
      obtain ⟨y35, hy35, h⟩ := bs h
      refine At.sD 0 [0, 1, 12, 13, 24] [] [eT (he_int .i64) 2 hy34, eT (he_int .i64) 6 hy35] ?_
      refine At.cd h (fun b36 h => ?_) (fun b36 h => ?_)
      · refine At.sR [4] [] [] ?_
        obtain ⟨r37, h, e38⟩ := mr h
        rw [f24 _ e38] at h
        obtain rfl := sq h
        exact At.ret (At.rR hR [])
      · refine At.nR [0, 1, 12, 13] [] ?_
        refine At.skip (norm ?_)
        exact At.rK [0, 1, 12, 13] [] [] fun _ _ i => ⟨_, li h, i⟩
    · refine At.nR [] [] ?_
      obtain ⟨r39, h, e40⟩ := mr h
      rw [f24 _ e40] at h
      refine At.exit (norm ?_)
      refine At.sR [4] [] [] ?_
      obtain rfl := sq h
      exact At.ret (At.rR hR [])
theorem C_slices_Equal_retrace_api_Alt_retrace_api_Alt (p0 : (List T_api_Alt)) (p1 : (List T_api_Alt)) (r : Bool) (h : F_slices_Equal_retrace_api_Alt_retrace_api_Alt p0 p1 = some r) : FnOK Try.prog 97 [lv T_api_Alt.enc p0, lv T_api_Alt.enc p1] [] (bo r) [] [] := by
  refine fI Try.func97 rfl fun E gv R hR => ?_
  refine At.sR [0, 1] [] [] ?_
  refine At.seq ?_
  refine At.sR [0, 1, 10] [] [] ?_
  refine At.cd h (fun b2 h => ?_) (fun b2 h => ?_)
  · refine At.sR [4] [] [] ?_
    obtain rfl := sq h
    exact At.ret (At.rR hR [])
  · refine At.nR [0, 1] [] ?_
    refine At.skip (norm ?_)
    refine At.seq ?_
    refine At.sR [0, 1, 12, 13] [] [] ?_
    refine At.block ?_
    refine At.nK (st' := ⟨[(0, lv T_api_Alt.enc p0), (1, lv T_api_Alt.enc p1), (12, i64 ((p0).length : Int)), (13, i64 0)], []⟩) [0, 1, 12, 13] [] ?_
    refine At.lp (fun s : (Int) => ⟨[(0, lv T_api_Alt.enc p0), (1, lv T_api_Alt.enc p1), (12, i64 ((p0).length : Int)), (13, i64 s)], []⟩) h ?_
    intro x22 oo23 h f24
    replace h : F_slices_Equal_retrace_api_Alt_retrace_api_Alt_L1 p0 p1 x22 = some oo23 := h
    refine At.sR [0, 1, 12, 13, 14] [] [] ?_
    refine At.seq ?_
    refine At.cd h (fun b26 h => ?_) (fun b26 h => ?_)
    · refine At.nR [0, 1, 12, 13] [] ?_
      refine At.skip (norm ?_)
      refine At.seq ?_
      refine At.block ?_
      refine At.sR [0, 1, 5, 12, 13] [] [] ?_
      obtain ⟨y34, hy34, h⟩ := bs h
      obtain ⟨y35, hy35, h⟩ := bs h
      refine At.sD 0 [0, 1, 12, 13, 24] [] [eT T_api_Alt.enc_len 2 hy34, eT T_api_Alt.enc_len 6 hy35] ?_
      refine At.cd h (fun b36 h => ?_) (fun b36 h => ?_)
      · refine At.sR [4] [] [] ?_
        obtain ⟨r37, h, e38⟩ := mr h
        rw [f24 _ e38] at h
        obtain rfl := sq h
        exact At.ret (At.rR hR [])
      · refine At.nR [0, 1, 12, 13] [] ?_
        refine At.skip (norm ?_)
        exact At.rK [0, 1, 12, 13] [] [] fun _ _ i => ⟨_, li h, i⟩
    · refine At.nR [] [] ?_
      obtain ⟨r39, h, e40⟩ := mr h
      rw [f24 _ e40] at h
      refine At.exit (norm ?_)
      refine At.sR [4] [] [] ?_
      obtain rfl := sq h
      exact At.ret (At.rR hR [])
theorem C_proc_Same (p0 : T_api_Proc) (p1 : T_api_Proc) (r : Bool) (h : F_proc_Same p0 p1 = some r) : FnOK Try.prog 95 [.agg (T_api_Proc.pvs p0), .agg (T_api_Proc.pvs p1)] [] (bo r) [] [] := by
  refine fI Try.func95 rfl fun E gv R hR => ?_
  refine At.sR [2, 3] [0, 1] [] ?_
  refine At.seqJ (S := Bool) (fun s => ⟨[(4, bo s)], []⟩) (fun s => F_proc_Same_J1 s = some r) ?_ ?_
  · rcases cs h with ⟨b14, h⟩ | ⟨b14, h⟩
    · rcases cs h with ⟨b15, h⟩ | ⟨b15, h⟩
      · obtain ⟨y16, hy16, h⟩ := bs h
        rcases cs h with ⟨b17, h⟩ | ⟨b17, h⟩
        · rcases cs h with ⟨b18, h⟩ | ⟨b18, h⟩
          · rcases cs h with ⟨b19, h⟩ | ⟨b19, h⟩
            · rcases cs h with ⟨b20, h⟩ | ⟨b20, h⟩
              · rcases cs h with ⟨b21, h⟩ | ⟨b21, h⟩
                · rcases cs h with ⟨b22, h⟩ | ⟨b22, h⟩
                  · rcases cs h with ⟨b23, h⟩ | ⟨b23, h⟩
                    · rcases cs h with ⟨b24, h⟩ | ⟨b24, h⟩
                      · obtain ⟨y25, hy25, h⟩ := bs h
                        exact At.rK [4] [] [bT 5 b14, bT 12 b15, c0 17 (C_slices_Equal_int_int p0.Vars p1.Vars y16 hy16), bT 19 b17, bT 26 b18, bT 33 b19, bT 40 b20, bT 47 b21, bT 54 b22, bT 61 b23, bT 68 b24, c0 73 (C_slices_Equal_retrace_api_Alt_retrace_api_Alt p0.Alts p1.Alts y25 hy25)] fun _ _ i => ⟨y25, h, i⟩
                      · exact At.rK [4] [] [bT 5 b14, bT 12 b15, c0 17 (C_slices_Equal_int_int p0.Vars p1.Vars y16 hy16), bT 19 b17, bT 26 b18, bT 33 b19, bT 40 b20, bT 47 b21, bT 54 b22, bT 61 b23, bT 68 b24] fun _ _ i => ⟨false, h, i⟩
                    · exact At.rK [4] [] [bT 5 b14, bT 12 b15, c0 17 (C_slices_Equal_int_int p0.Vars p1.Vars y16 hy16), bT 19 b17, bT 26 b18, bT 33 b19, bT 40 b20, bT 47 b21, bT 54 b22, bT 61 b23] fun _ _ i => ⟨false, h, i⟩
                  · exact At.rK [4] [] [bT 5 b14, bT 12 b15, c0 17 (C_slices_Equal_int_int p0.Vars p1.Vars y16 hy16), bT 19 b17, bT 26 b18, bT 33 b19, bT 40 b20, bT 47 b21, bT 54 b22] fun _ _ i => ⟨false, h, i⟩
                · exact At.rK [4] [] [bT 5 b14, bT 12 b15, c0 17 (C_slices_Equal_int_int p0.Vars p1.Vars y16 hy16), bT 19 b17, bT 26 b18, bT 33 b19, bT 40 b20, bT 47 b21] fun _ _ i => ⟨false, h, i⟩
              · exact At.rK [4] [] [bT 5 b14, bT 12 b15, c0 17 (C_slices_Equal_int_int p0.Vars p1.Vars y16 hy16), bT 19 b17, bT 26 b18, bT 33 b19, bT 40 b20] fun _ _ i => ⟨false, h, i⟩
            · exact At.rK [4] [] [bT 5 b14, bT 12 b15, c0 17 (C_slices_Equal_int_int p0.Vars p1.Vars y16 hy16), bT 19 b17, bT 26 b18, bT 33 b19] fun _ _ i => ⟨false, h, i⟩
          · exact At.rK [4] [] [bT 5 b14, bT 12 b15, c0 17 (C_slices_Equal_int_int p0.Vars p1.Vars y16 hy16), bT 19 b17, bT 26 b18] fun _ _ i => ⟨false, h, i⟩
        · exact At.rK [4] [] [bT 5 b14, bT 12 b15, c0 17 (C_slices_Equal_int_int p0.Vars p1.Vars y16 hy16), bT 19 b17] fun _ _ i => ⟨false, h, i⟩
      · exact At.rK [4] [] [bT 5 b14, bT 12 b15] fun _ _ i => ⟨false, h, i⟩
    · exact At.rK [4] [] [bT 5 b14] fun _ _ i => ⟨false, h, i⟩
  · intro x13 h
    obtain rfl := sq h
    exact At.ret (At.rR hR [])
theorem C_slices_EqualFunc_retrace_api_Proc_retrace_api_Proc_retrace_api_Proc_retrace_api_Proc (p0 : (List T_api_Proc)) (p1 : (List T_api_Proc)) (r : Bool) (h : F_slices_EqualFunc_retrace_api_Proc_retrace_api_Proc_retrace_api_Proc_retrace_api_Proc p0 p1 = some r) : FnOK Try.prog 94 [lv T_api_Proc.enc p0, lv T_api_Proc.enc p1, .fn (.func 95) [] []] [] (bo r) [] [] := by
  refine fI Try.func94 rfl fun E gv R hR => ?_
  refine At.sR [0, 1, 2] [] [] ?_
  refine At.seq ?_
  refine At.sR [0, 1, 2, 14] [] [] ?_
  refine At.cd h (fun b2 h => ?_) (fun b2 h => ?_)
  · refine At.sR [6] [] [] ?_
    obtain rfl := sq h
    exact At.ret (At.rR hR [])
  · refine At.nR [0, 1, 2] [] ?_
    refine At.skip (norm ?_)
    refine At.seq ?_
    refine At.sR [1, 2, 15, 16, 17] [] [] ?_
    refine At.block ?_
    refine At.nK (st' := ⟨[(1, lv T_api_Proc.enc p1), (2, .fn (.func 95) [] []), (15, lv T_api_Proc.enc p0), (16, i64 ((p0).length : Int)), (17, i64 0)], []⟩) [1, 2, 15, 16, 17] [] ?_
    refine At.lp (fun s : (Int) => ⟨[(1, lv T_api_Proc.enc p1), (2, .fn (.func 95) [] []), (15, lv T_api_Proc.enc p0), (16, i64 ((p0).length : Int)), (17, i64 s)], []⟩) h ?_
    intro x26 oo27 h f28
    replace h : F_slices_EqualFunc_retrace_api_Proc_retrace_api_Proc_retrace_api_Proc_retrace_api_Proc_L1 p0 p1 x26 = some oo27 := h
    refine At.sR [1, 2, 15, 16, 17, 18] [] [] ?_
    refine At.seq ?_
    refine At.cd h (fun b30 h => ?_) (fun b30 h => ?_)
    · refine At.nR [1, 2, 15, 16, 17] [] ?_
      refine At.skip (norm ?_)
      refine At.seq ?_
      refine At.block ?_
      obtain ⟨y39, hy39, h⟩ := bs h
      refine At.sR [1, 2, 7, 8, 15, 16, 17] [0] [eT T_api_Proc.enc_len 1 hy39] ?_
      obtain ⟨y41, hy41, h⟩ := bs h
      refine At.sR [1, 2, 8, 9, 15, 16, 17] [0, 1] [eT T_api_Proc.enc_len 2 hy41] ?_
      obtain ⟨y43, hy43, h⟩ := bs h
      refine At.sR [1, 2, 15, 16, 17, 30] [] [c0 3 (C_proc_Same y39 y41 y43 hy43)] ?_
      refine At.cd h (fun b44 h => ?_) (fun b44 h => ?_)
      · refine At.seq ?_
        refine At.rK (st' := ⟨[(6, bo false)], []⟩) [6] [] [] (norm ?_)
        obtain ⟨r45, h, e46⟩ := mr h
        rw [f28 _ e46] at h
        obtain rfl := sq h
        exact At.ret (At.rR hR [])
      · refine At.nK (st' := ⟨[(1, lv T_api_Proc.enc p1), (2, .fn (.func 95) [] []), (15, lv T_api_Proc.enc p0), (16, i64 ((p0).length : Int)), (17, i64 x26)], []⟩) [1, 2, 15, 16, 17] [] ?_
        refine At.skip (norm ?_)
        exact At.rK [1, 2, 15, 16, 17] [] [] fun _ _ i => ⟨_, li h, i⟩
    · refine At.nR [] [] ?_
      obtain ⟨r47, h, e48⟩ := mr h
      rw [f28 _ e48] at h
      refine At.exit (norm ?_)
      refine At.sR [6] [] [] ?_
      obtain rfl := sq h
      exact At.ret (At.rR hR [])
theorem C_machine_Same (p0 : T_api_State) (p1 : T_api_State) (r : Bool) (h : F_machine_Same p0 p1 = some r) : FnOK Try.prog 87 [.agg (T_api_State.pvs p0), .agg (T_api_State.pvs p1)] [] (bo r) [] [] := by
  refine fI Try.func87 rfl fun E gv R hR => ?_
  refine At.sR [2, 3] [0, 1] [] ?_
  refine At.seqJ (S := Bool) (fun s => ⟨[(4, bo s)], []⟩) (fun s => F_machine_Same_J1 s = some r) ?_ ?_
  · rcases cs h with ⟨b10, h⟩ | ⟨b10, h⟩
    · rcases cs h with ⟨b11, h⟩ | ⟨b11, h⟩
      · rcases cs h with ⟨b12, h⟩ | ⟨b12, h⟩
        · rcases cs h with ⟨b13, h⟩ | ⟨b13, h⟩
          · rcases cs h with ⟨b14, h⟩ | ⟨b14, h⟩
            · obtain ⟨y15, hy15, h⟩ := bs h
              rcases cs h with ⟨b16, h⟩ | ⟨b16, h⟩
              · obtain ⟨y17, hy17, h⟩ := bs h
                exact At.rK [4] [] [bT 5 b10, bT 12 b11, bT 19 b12, bT 26 b13, bT 33 b14, c0 38 (C_slices_Equal_int_int p0.Out p1.Out y15 hy15), bT 40 b16, c0 45 (C_slices_EqualFunc_retrace_api_Proc_retrace_api_Proc_retrace_api_Proc_retrace_api_Proc p0.Procs p1.Procs y17 hy17)] fun _ _ i => ⟨y17, h, i⟩
              · exact At.rK [4] [] [bT 5 b10, bT 12 b11, bT 19 b12, bT 26 b13, bT 33 b14, c0 38 (C_slices_Equal_int_int p0.Out p1.Out y15 hy15), bT 40 b16] fun _ _ i => ⟨false, h, i⟩
            · exact At.rK [4] [] [bT 5 b10, bT 12 b11, bT 19 b12, bT 26 b13, bT 33 b14] fun _ _ i => ⟨false, h, i⟩
          · exact At.rK [4] [] [bT 5 b10, bT 12 b11, bT 19 b12, bT 26 b13] fun _ _ i => ⟨false, h, i⟩
        · exact At.rK [4] [] [bT 5 b10, bT 12 b11, bT 19 b12] fun _ _ i => ⟨false, h, i⟩
      · exact At.rK [4] [] [bT 5 b10, bT 12 b11] fun _ _ i => ⟨false, h, i⟩
    · exact At.rK [4] [] [bT 5 b10] fun _ _ i => ⟨false, h, i⟩
  · intro x9 h
    obtain rfl := sq h
    exact At.ret (At.rR hR [])
theorem C_trace_Same_1 (p0 : T_api_Mark) (p1 : T_api_Mark) (r : Bool) (h : F_trace_Same_1 p0 p1 = some r) : FnOK Try.prog 86 [.agg (T_api_Mark.pvs p0), .agg (T_api_Mark.pvs p1)] [] (bo r) [] [] := by
  refine fI Try.func86 rfl fun E gv R hR => ?_
  refine At.sR [2, 3] [0, 1] [] ?_
  refine At.seqJ (S := Bool) (fun s => ⟨[(4, bo s)], []⟩) (fun s => F_trace_Same_1_J1 s = some r) ?_ ?_
  · rcases cs h with ⟨b5, h⟩ | ⟨b5, h⟩
    · rcases cs h with ⟨b6, h⟩ | ⟨b6, h⟩
      · obtain ⟨y7, hy7, h⟩ := bs h
        exact At.rK [4] [] [bT 5 b5, bT 12 b6, c0 17 (C_machine_Same p0.State p1.State y7 hy7)] fun _ _ i => ⟨y7, h, i⟩
      · exact At.rK [4] [] [bT 5 b5, bT 12 b6] fun _ _ i => ⟨false, h, i⟩
    · exact At.rK [4] [] [bT 5 b5] fun _ _ i => ⟨false, h, i⟩
  · intro x4 h
    obtain rfl := sq h
    exact At.ret (At.rR hR [])
theorem C_slices_EqualFunc_retrace_api_Mark_retrace_api_Mark_retrace_api_Mark_retrace_api_Mark (p0 : (List T_api_Mark)) (p1 : (List T_api_Mark)) (r : Bool) (h : F_slices_EqualFunc_retrace_api_Mark_retrace_api_Mark_retrace_api_Mark_retrace_api_Mark p0 p1 = some r) : FnOK Try.prog 89 [lv T_api_Mark.enc p0, lv T_api_Mark.enc p1, .fn (.func 86) [] []] [] (bo r) [] [] := by
  refine fI Try.func89 rfl fun E gv R hR => ?_
  refine At.sR [0, 1, 2] [] [] ?_
  refine At.seq ?_
  refine At.sR [0, 1, 2, 14] [] [] ?_
  refine At.cd h (fun b2 h => ?_) (fun b2 h => ?_)
  · refine At.sR [6] [] [] ?_
    obtain rfl := sq h
    exact At.ret (At.rR hR [])
  · refine At.nR [0, 1, 2] [] ?_
    refine At.skip (norm ?_)
    refine At.seq ?_
    refine At.sR [1, 2, 15, 16, 17] [] [] ?_
    refine At.block ?_
    refine At.nK (st' := ⟨[(1, lv T_api_Mark.enc p1), (2, .fn (.func 86) [] []), (15, lv T_api_Mark.enc p0), (16, i64 ((p0).length : Int)), (17, i64 0)], []⟩) [1, 2, 15, 16, 17] [] ?_
    refine At.lp (fun s : (Int) => ⟨[(1, lv T_api_Mark.enc p1), (2, .fn (.func 86) [] []), (15, lv T_api_Mark.enc p0), (16, i64 ((p0).length : Int)), (17, i64 s)], []⟩) h ?_
    intro x26 oo27 h f28
    replace h : F_slices_EqualFunc_retrace_api_Mark_retrace_api_Mark_retrace_api_Mark_retrace_api_Mark_L1 p0 p1 x26 = some oo27 := h
    refine At.sR [1, 2, 15, 16, 17, 18] [] [] ?_
    refine At.seq ?_
    refine At.cd h (fun b30 h => ?_) (fun b30 h => ?_)
    · refine At.nR [1, 2, 15, 16, 17] [] ?_
      refine At.skip (norm ?_)
      refine At.seq ?_
      refine At.block ?_
      obtain ⟨y39, hy39, h⟩ := bs h
      refine At.sR [1, 2, 7, 8, 15, 16, 17] [0] [eT T_api_Mark.enc_len 1 hy39] ?_
      obtain ⟨y41, hy41, h⟩ := bs h
      refine At.sR [1, 2, 8, 9, 15, 16, 17] [0, 1] [eT T_api_Mark.enc_len 2 hy41] ?_
      obtain ⟨y43, hy43, h⟩ := bs h
      refine At.sR [1, 2, 15, 16, 17, 30] [] [c0 3 (C_trace_Same_1 y39 y41 y43 hy43)] ?_
      refine At.cd h (fun b44 h => ?_) (fun b44 h => ?_)
      · refine At.seq ?_
        refine At.rK (st' := ⟨[(6, bo false)], []⟩) [6] [] [] (norm ?_)
        obtain ⟨r45, h, e46⟩ := mr h
        rw [f28 _ e46] at h
        obtain rfl := sq h
        exact At.ret (At.rR hR [])
      · refine At.nK (st' := ⟨[(1, lv T_api_Mark.enc p1), (2, .fn (.func 86) [] []), (15, lv T_api_Mark.enc p0), (16, i64 ((p0).length : Int)), (17, i64 x26)], []⟩) [1, 2, 15, 16, 17] [] ?_
        refine At.skip (norm ?_)
        exact At.rK [1, 2, 15, 16, 17] [] [] fun _ _ i => ⟨_, li h, i⟩
    · refine At.nR [] [] ?_
      obtain ⟨r47, h, e48⟩ := mr h
      rw [f28 _ e48] at h
      refine At.exit (norm ?_)
      refine At.sR [6] [] [] ?_
      obtain rfl := sq h
      exact At.ret (At.rR hR [])
theorem C_trace_Same (p0 : T_api_Trace) (p1 : T_api_Trace) (r : Bool) (h : F_trace_Same p0 p1 = some r) : FnOK Try.prog 76 [.agg (T_api_Trace.pvs p0), .agg (T_api_Trace.pvs p1)] [] (bo r) [] [] := by
  refine fI Try.func76 rfl fun E gv R hR => ?_
  refine At.sR [2, 3] [0, 1] [] ?_
  refine At.sR [2, 3, 5] [0, 1] [] ?_
  refine At.seqJ (S := Bool) (fun s => ⟨[(4, bo s)], []⟩) (fun s => F_trace_Same_J1 s = some r) ?_ ?_
  · rcases cs h with ⟨b8, h⟩ | ⟨b8, h⟩
    · rcases cs h with ⟨b9, h⟩ | ⟨b9, h⟩
      · rcases cs h with ⟨b10, h⟩ | ⟨b10, h⟩
        · obtain ⟨y11, hy11, h⟩ := bs h
          rcases cs h with ⟨b12, h⟩ | ⟨b12, h⟩
          · obtain ⟨y13, hy13, h⟩ := bs h
            exact At.rK [4] [] [bT 5 b8, bT 12 b9, bT 19 b10, c0 24 (C_slices_Equal_retrace_api_Event_retrace_api_Event p0.Events p1.Events y11 hy11), bT 26 b12, c0 32 (C_slices_EqualFunc_retrace_api_Mark_retrace_api_Mark_retrace_api_Mark_retrace_api_Mark p0.Marks p1.Marks y13 hy13)] fun _ _ i => ⟨y13, h, i⟩
          · exact At.rK [4] [] [bT 5 b8, bT 12 b9, bT 19 b10, c0 24 (C_slices_Equal_retrace_api_Event_retrace_api_Event p0.Events p1.Events y11 hy11), bT 26 b12] fun _ _ i => ⟨false, h, i⟩
        · exact At.rK [4] [] [bT 5 b8, bT 12 b9, bT 19 b10] fun _ _ i => ⟨false, h, i⟩
      · exact At.rK [4] [] [bT 5 b8, bT 12 b9] fun _ _ i => ⟨false, h, i⟩
    · exact At.rK [4] [] [bT 5 b8] fun _ _ i => ⟨false, h, i⟩
  · intro x7 h
    obtain rfl := sq h
    exact At.ret (At.rR hR [])
theorem C_trace_zero (p0 : T_api_Trace) (r : Bool) (h : F_trace_zero p0 = some r) : FnOK Try.prog 55 [.agg (T_api_Trace.pvs p0)] [] (bo r) [] [] := by
  refine fI Try.func55 rfl fun E gv R hR => ?_
  refine At.sR [1] [0] [] ?_
  obtain ⟨y2, hy2, h⟩ := bs h
  refine At.sR [2] [] [c0 2 (C_trace_Same p0 (⟨0, 0, 0, ([] : (List T_api_Event)), ([] : (List T_api_Mark))⟩ : T_api_Trace) y2 hy2)] ?_
  obtain rfl := sq h
  exact At.ret (At.rR hR [])
theorem C_trace_head (p0_0 : Int) (p0_1 : Int) (p0_2 : Int) (p0_3 : (List T_api_Event)) (p0_4 : (List T_api_Mark)) (p1 : ByteArray) (r : T_api_Trace × Int) (h : F_trace_head p0_0 p0_1 p0_2 p0_3 p0_4 p1 = some r) : FnOK Try.prog 29 [.agg [u32 p0_0, i64 p0_1, i64 p0_2, .d (.list true (p0_3).length (encL T_api_Event.enc p0_3)), .d (.list true (p0_4).length (encL T_api_Mark.enc p0_4))], sv p1] [] (.tup [.agg (T_api_Trace.pvs r.1), i64 r.2]) [] [] := by
  refine fI Try.func29 rfl fun E gv R hR => ?_
  refine At.sR [1, 2, 4] [0, 1] [] ?_
  obtain ⟨y2, hy2, h⟩ := bs h
  refine At.sR [2, 4, 6] [0, 1, 2] [cT 1 0 [2] (C_wire_Open p1 y2 hy2)] ?_
  obtain ⟨y4, hy4, h⟩ := bs h
  refine At.sR [2, 4, 6, 7] [0, 1, 2] [cT 1 1 [2] (C_wire_Reader_Num y2 y4 hy4)] ?_
  obtain ⟨y7, hy7, h⟩ := bs h
  obtain ⟨y8, hy8, h⟩ := bs h
  refine At.sR [2, 4, 6, 7, 8, 9] [0, 1, 2] [cT 1 1 [2] (C_wire_Reader_Upto 1048576 y4.2 y7 hy7), cT 3 1 [2] (C_wire_Reader_Upto 1048576 y7.2 y8 hy8)] ?_
  refine At.seq ?_
  obtain ⟨y13, hy13, h⟩ := bs h
  refine At.sR [2, 4, 7, 8, 9, 10] [0, 1] [cT 1 1 [2] (C_wire_Reader_End y8.2 y13 hy13)] ?_
  refine At.seq ?_
  refine At.rK (st' := ⟨[(2, .ptr 0 0), (4, .ptr 1 0), (7, u64 y4.1), (8, i64 y7.1), (9, i64 y8.1), (10, i64 y13), (22, bo (y13 != 0))], [.blk 27 [u32 p0_0, i64 p0_1, i64 p0_2, .d (.list true (p0_3).length (encL T_api_Event.enc p0_3)), .d (.list true (p0_4).length (encL T_api_Mark.enc p0_4))], .blk 27 [u32 0, i64 0, i64 0, .d (.list true 0 []), .d (.list true 0 [])]]⟩) [2, 4, 7, 8, 9, 10, 22] [0, 1] [] (norm ?_)
  refine At.cd h (fun b14 h => ?_) (fun b14 h => ?_)
  · refine At.sR [4, 5] [1] [] ?_
    refine At.eN [.loO 0] [4, 5] [0] ?_
    obtain rfl := sq h
    exact At.ret (At.rR hR [])
  · refine At.nR [2, 4, 7, 8, 9] [0, 1] ?_
    refine At.skip (norm ?_)
    refine At.seq ?_
    refine At.seqJ (S := Bool) (fun s => ⟨[(2, .ptr 0 0), (4, .ptr 1 0), (7, u64 y4.1), (8, i64 y7.1), (9, i64 y8.1), (31, bo s)], [.blk 27 [u32 p0_0, i64 p0_1, i64 p0_2, lv T_api_Event.enc p0_3, lv T_api_Mark.enc p0_4], .blk 27 [u32 0, i64 0, i64 0, .d (.list true 0 []), .d (.list true 0 [])]]⟩) (fun s => F_trace_head_J1 p0_0 p0_1 p0_2 p0_3 p0_4 y4 y7 y8 s = some r) ?_ ?_
    · obtain ⟨y25, hy25, h⟩ := bs h
      rcases cs h with ⟨b26, h⟩ | ⟨b26, h⟩
      · exact At.rG [2, 4, 7, 8, 9, 31] [0, 1] [c0 1 (C_trace_zero (⟨p0_0, p0_1, p0_2, p0_3, p0_4⟩ : T_api_Trace) y25 hy25), bT 3 b26] fun _ _ i => ⟨true, h, i.en [.loO 0] [2, 4, 7, 8, 9, 31] [0, 1]⟩
      · exact At.rG [2, 4, 7, 8, 9, 31] [0, 1] [c0 1 (C_trace_zero (⟨p0_0, p0_1, p0_2, p0_3, p0_4⟩ : T_api_Trace) y25 hy25), bT 3 b26] fun _ _ i => ⟨(decide (4294967295 < y4.1)), h, i.en [.loO 0] [2, 4, 7, 8, 9, 31] [0, 1]⟩
    · intro x23 h
      refine At.cd h (fun b24 h => ?_) (fun b24 h => ?_)
      · refine At.sR [4, 5] [1] [] ?_
        obtain rfl := sq h
        exact At.ret (At.rR hR [])
      · refine At.nR [4, 7, 8, 9] [1] ?_
        refine At.skip (norm ?_)
        refine At.sR [4, 5] [0] [] ?_
        refine At.eN [.loO 0] [4, 5] [0] ?_
        obtain rfl := sq h
        exact At.ret (At.rR hR [])
theorem C_event_Check (p0 : (List T_api_Event)) (r : Int × Int) (h : F_event_Check p0 = some r) : FnOK Try.prog 60 [lv T_api_Event.enc p0] [] (.tup [i64 r.1, i64 r.2]) [] [] := by
  refine fI Try.func60 rfl fun E gv R hR => ?_
  refine At.sR [0] [] [] ?_
  refine At.seq ?_
  refine At.sR [0, 8] [] [] ?_
  refine At.cd h (fun b2 h => ?_) (fun b2 h => ?_)
  · refine At.sR [2, 3] [] [] ?_
    obtain rfl := sq h
    exact At.ret (At.rR hR [])
  · refine At.nR [0] [] ?_
    refine At.skip (norm ?_)
    refine At.seq ?_
    refine At.sR [9, 10, 11] [] [] ?_
    refine At.block ?_
    refine At.nK (st' := ⟨[(9, lv T_api_Event.enc p0), (10, i64 ((p0).length : Int)), (11, i64 0)], []⟩) [9, 10, 11] [] ?_
    refine At.lp (fun s : (Int) => ⟨[(9, lv T_api_Event.enc p0), (10, i64 ((p0).length : Int)), (11, i64 s)], []⟩) h ?_
    intro x36 oo37 h f38
    replace h : F_event_Check_L2 p0 x36 = some oo37 := h
    refine At.sR [9, 10, 11, 12] [] [] ?_
    refine At.seq ?_
    refine At.cd h (fun b40 h => ?_) (fun b40 h => ?_)
    · refine At.nR [9, 10, 11] [] ?_
      refine At.skip (norm ?_)
      refine At.seq ?_
      refine At.block ?_
      obtain ⟨y54, hy54, h⟩ := bs h
      refine At.sR [4, 5, 9, 10, 11] [0] [eT T_api_Event.enc_len 1 hy54] ?_
      refine At.seqJ (S := Bool) (fun s => ⟨[(4, i64 x36), (9, lv T_api_Event.enc p0), (10, i64 ((p0).length : Int)), (11, i64 x36), (37, bo s)], []⟩) (fun s => F_event_Check_J1 x36 s = some oo37) ?_ ?_
      · rcases cs h with ⟨b63, h⟩ | ⟨b63, h⟩
        · exact At.rK [4, 9, 10, 11, 37] [] [bT 3 b63] fun _ _ i => ⟨true, h, i⟩
        · rcases cs h with ⟨b64, h⟩ | ⟨b64, h⟩
          · exact At.rK [4, 9, 10, 11, 37] [] [bT 3 b63, bT 8 b64] fun _ _ i => ⟨true, h, i⟩
          · rcases cs h with ⟨b65, h⟩ | ⟨b65, h⟩
            · exact At.rK [4, 9, 10, 11, 37] [] [bT 3 b63, bT 8 b64, bT 13 b65] fun _ _ i => ⟨true, h, i⟩
            · rcases cs h with ⟨b66, h⟩ | ⟨b66, h⟩
              · exact At.rK [4, 9, 10, 11, 37] [] [bT 3 b63, bT 8 b64, bT 13 b65, bT 16 b66] fun _ _ i => ⟨(y54.Kind != 1), h, i⟩
              · exact At.rK [4, 9, 10, 11, 37] [] [bT 3 b63, bT 8 b64, bT 13 b65, bT 16 b66] fun _ _ i => ⟨false, h, i⟩
      · intro x59 h
        refine At.cd h (fun b60 h => ?_) (fun b60 h => ?_)
        · refine At.sR [2, 3] [] [] ?_
          obtain ⟨r61, h, e62⟩ := mr h
          rw [f38 _ e62] at h
          obtain rfl := sq h
          exact At.ret (At.rR hR [])
        · refine At.nR [9, 10, 11] [] ?_
          refine At.skip (norm ?_)
          exact At.rK [9, 10, 11] [] [] fun _ _ i => ⟨_, li h, i⟩
    · refine At.nR [] [] ?_
      obtain ⟨r67, h, e68⟩ := mr h
      rw [f38 _ e68] at h
      refine At.exit (norm ?_)
      refine At.sR [2, 3] [] [] ?_
      obtain rfl := sq h
      exact At.ret (At.rR hR [])
theorem C_event_begins (p0 : (List T_api_Event)) (r : (List T_api_Event)) (h : F_event_begins p0 = some r) : FnOK Try.prog 47 [lv T_api_Event.enc p0] [] (.fn (.func 69) [] [.ptr 0 0]) [.blk 24 [lv T_api_Event.enc r]] [] := by
  refine fI Try.func47 rfl fun E gv R hR => ?_
  refine At.sR [1] [0] [] ?_
  refine At.sR [2] [0] [] ?_
  obtain rfl := sq h
  exact At.ret (At.rR hR [0])
theorem C_R_event_Begin_0 (p0 : Int) (o1_0 : Int) (o2_0 : Int) (r : (Int) ⊕ (Int)) (h : F_R_event_Begin_0 p0 o1_0 o2_0 = some r) : RdOK Try.prog 0 [i64 p0] [.loop #[10] as_event_Begin_0 bd_event_Begin_0 20 [3, 4] [.ptr 1 0, .ptr 2 0] .ready none, .blk 3 [i64 o1_0], .blk 3 [i64 o2_0]] ((Sum.elim (fun r => bo false) (fun r => bo true)) r) ((Sum.elim (fun r => [.loop #[10] as_event_Begin_0 bd_event_Begin_0 20 [3, 4] [.ptr 1 0, .ptr 2 0] .done (some .ret), .blk 3 [i64 o1_0], .blk 3 [i64 r]]) (fun r => [.loop #[10] as_event_Begin_0 bd_event_Begin_0 20 [3, 4] [.ptr 1 0, .ptr 2 0] .ready none, .blk 3 [i64 r], .blk 3 [i64 o2_0]])) r) [1, 3, 5] := by
  refine RdOK.intro (i := 0) rfl (by kernel_rfl) fun E gv l R hR => ?_
  refine At.eqv (st2 := ⟨[(10, i64 p0), (3, .ptr 1 0), (4, .ptr 2 0)], [.loop #[10] as_event_Begin_0 bd_event_Begin_0 20 [3, 4] [.ptr 1 0, .ptr 2 0] .ready none, .blk 3 [i64 o1_0], .blk 3 [i64 o2_0], .ghost (gv 0) (.ptr 0 0), .ghost (gv 1) (.ptr 1 0), .ghost (gv 2) (.ptr 2 0), .ghost (yieldV l) (.yld 0)]⟩) rfl ?_
  refine At.rK (st' := ⟨[(3, .ptr 1 0), (4, .ptr 2 0), (5, i64 p0)], [.loop #[10] as_event_Begin_0 bd_event_Begin_0 20 [3, 4] [.ptr 1 0, .ptr 2 0] .ready none, .blk 3 [i64 o1_0], .blk 3 [i64 o2_0], .ghost (gv 0) (.ptr 0 0), .ghost (gv 1) (.ptr 1 0), .ghost (gv 2) (.ptr 2 0), .ghost (yieldV l) (.yld 0)]⟩) [3, 4, 5] [0, 1, 2, 3, 4, 5, 6] [] (begin_ok (i := 0) (k := 6) (st' := ⟨[(3, .ptr 1 0), (4, .ptr 2 0), (5, i64 p0)], [.loop #[10] as_event_Begin_0 bd_event_Begin_0 20 [3, 4] [.ptr 1 0, .ptr 2 0] .busy none, .blk 3 [i64 o1_0], .blk 3 [i64 o2_0], .ghost (gv 0) (.ptr 0 0), .ghost (gv 1) (.ptr 1 0), .ghost (gv 2) (.ptr 2 0), .ghost (yieldV l) (.yld 0)]⟩) (by kernel_rfl) rfl ?_)
  refine At.block ?_
  refine At.seq ?_
  refine At.seq ?_
  refine At.rK (st' := ⟨[(3, .ptr 1 0), (4, .ptr 2 0), (5, i64 p0), (12, bo (o1_0 == 0))], [.loop #[10] as_event_Begin_0 bd_event_Begin_0 20 [3, 4] [.ptr 1 0, .ptr 2 0] .busy none, .blk 3 [i64 o1_0], .blk 3 [i64 o2_0], .ghost (gv 0) (.ptr 0 0), .ghost (gv 1) (.ptr 1 0), .ghost (gv 2) (.ptr 2 0), .ghost (yieldV l) (.yld 0)]⟩) [3, 4, 5, 12] [0, 1, 2, 3, 4, 5, 6] [] (norm ?_)
  refine At.cd h (fun b2 h => ?_) (fun b2 h => ?_)
  · refine At.seq ?_
    refine At.rK (st' := ⟨[], [.loop #[10] as_event_Begin_0 bd_event_Begin_0 20 [3, 4] [.ptr 1 0, .ptr 2 0] .busy none, .blk 3 [i64 o1_0], .blk 3 [i64 p0], .ghost (gv 0) (.ptr 0 0), .ghost (gv 1) (.ptr 1 0), .ghost (gv 2) (.ptr 2 0), .ghost (yieldV l) (.yld 0)]⟩) [] [0, 1, 2, 3, 4, 5, 6] [] (norm ?_)
    obtain rfl := sq h
    exact At.ret (round_fin hR (i := 0) (k := 6) (ρ := [0, 1, 2]) (jump := (some .ret)) (gs := [.ghost (gv 0) (.ptr 0 0), .ghost (gv 1) (.ptr 1 0), .ghost (gv 2) (.ptr 2 0)]) (by kernel_rfl) rfl (by kernel_rfl) rfl rfl rfl)
  · refine At.nK (st' := ⟨[(3, .ptr 1 0)], [.loop #[10] as_event_Begin_0 bd_event_Begin_0 20 [3, 4] [.ptr 1 0, .ptr 2 0] .busy none, .blk 3 [i64 o1_0], .blk 3 [i64 o2_0], .ghost (gv 0) (.ptr 0 0), .ghost (gv 1) (.ptr 1 0), .ghost (gv 2) (.ptr 2 0), .ghost (yieldV l) (.yld 0)]⟩) [3] [0, 1, 2, 3, 4, 5, 6] ?_
    refine At.skip (norm ?_)
    obtain rfl := sq h
    refine At.rK (st' := ⟨[], [.loop #[10] as_event_Begin_0 bd_event_Begin_0 20 [3, 4] [.ptr 1 0, .ptr 2 0] .busy none, .blk 3 [i64 (w64 (o1_0 - 1))], .blk 3 [i64 o2_0], .ghost (gv 0) (.ptr 0 0), .ghost (gv 1) (.ptr 1 0), .ghost (gv 2) (.ptr 2 0), .ghost (yieldV l) (.yld 0)]⟩) [] [0, 1, 2, 3, 4, 5, 6] [] (round_fin hR (i := 0) (k := 6) (ρ := [0, 1, 2]) (jump := none) (gs := [.ghost (gv 0) (.ptr 0 0), .ghost (gv 1) (.ptr 1 0), .ghost (gv 2) (.ptr 2 0)]) (by kernel_rfl) rfl (by kernel_rfl) rfl rfl rfl)
theorem C_event_begins_1 (o1_0 : Int) (o2_0 : Int) (o3_0 : (List T_api_Event)) (r : (Int × Int) ⊕ (Int)) (h : F_event_begins_1 o1_0 o2_0 o3_0 = some r) : FnOK Try.prog 69 [.yld 0, .ptr 3 0] [.loop #[10] as_event_Begin_0 bd_event_Begin_0 20 [3, 4] [.ptr 1 0, .ptr 2 0] .ready none, .blk 3 [i64 o1_0], .blk 3 [i64 o2_0], .blk 24 [lv T_api_Event.enc o3_0]] ((Sum.elim (fun r => .tup []) (fun r => .tup [])) r) ((Sum.elim (fun r => [.loop #[10] as_event_Begin_0 bd_event_Begin_0 20 [3, 4] [.ptr 1 0, .ptr 2 0] .done (some .ret), .blk 3 [i64 r.1], .blk 3 [i64 r.2], .blk 24 [lv T_api_Event.enc o3_0]]) (fun r => [.loop #[10] as_event_Begin_0 bd_event_Begin_0 20 [3, 4] [.ptr 1 0, .ptr 2 0] .ready none, .blk 3 [i64 r], .blk 3 [i64 o2_0], .blk 24 [lv T_api_Event.enc o3_0]])) r) [1, 3, 5, 7] := by
  refine fI Try.func69 rfl fun E gv R hR => ?_
  refine At.sR [0, 5, 6, 7] [0, 1, 2, 3, 4, 5, 6, 7] [] ?_
  refine At.block ?_
  refine At.nK (st' := ⟨[(0, .yld 0), (5, lv T_api_Event.enc o3_0), (6, i64 ((o3_0).length : Int)), (7, i64 0)], [.loop #[10] as_event_Begin_0 bd_event_Begin_0 20 [3, 4] [.ptr 1 0, .ptr 2 0] .ready none, .blk 3 [i64 o1_0], .blk 3 [i64 o2_0], .blk 24 [lv T_api_Event.enc o3_0], .ghost (gv 0) (.ptr 0 0), .ghost (gv 1) (.ptr 1 0), .ghost (gv 2) (.ptr 2 0), .ghost (gv 3) (.ptr 3 0)]⟩) [0, 5, 6, 7] [0, 1, 2, 3, 4, 5, 6, 7] ?_
  refine At.lp (fun s : (Int × Int) => ⟨[(0, .yld 0), (5, lv T_api_Event.enc o3_0), (6, i64 ((o3_0).length : Int)), (7, i64 s.1)], [.loop #[10] as_event_Begin_0 bd_event_Begin_0 20 [3, 4] [.ptr 1 0, .ptr 2 0] .ready none, .blk 3 [i64 s.2], .blk 3 [i64 o2_0], .blk 24 [lv T_api_Event.enc o3_0], .ghost (gv 0) (.ptr 0 0), .ghost (gv 1) (.ptr 1 0), .ghost (gv 2) (.ptr 2 0), .ghost (gv 3) (.ptr 3 0)]⟩) h ?_
  rintro ⟨x1, x2⟩ oo3 h f4
  replace h : F_event_begins_1_L3 o2_0 o3_0 x1 x2 = some oo3 := h
  refine At.sR [0, 5, 6, 7, 8] [0, 1, 2, 3, 4, 5, 6, 7] [] ?_
  refine At.seq ?_
  refine At.cd h (fun b6 h => ?_) (fun b6 h => ?_)
  · refine At.nR [0, 5, 6, 7] [0, 1, 2, 3, 4, 5, 6, 7] ?_
    refine At.skip (norm ?_)
    refine At.seq ?_
    refine At.block ?_
    obtain ⟨y20, hy20, h⟩ := bs h
    refine At.sR [0, 3, 4, 5, 6, 7] [0, 1, 2, 3, 4, 5, 6, 7, 8] [eT T_api_Event.enc_len 1 hy20] ?_
    refine At.seqJ (S := (Int) ⊕ (Int)) (Sum.elim (fun s => ⟨[(0, .yld 0), (5, lv T_api_Event.enc o3_0), (6, i64 ((o3_0).length : Int)), (7, i64 x1), (20, bo true)], [.loop #[10] as_event_Begin_0 bd_event_Begin_0 20 [3, 4] [.ptr 1 0, .ptr 2 0] .done (some .ret), .blk 3 [i64 x2], .blk 3 [i64 s], .blk 24 [lv T_api_Event.enc o3_0], .ghost (gv 0) (.ptr 0 0), .ghost (gv 1) (.ptr 1 0), .ghost (gv 2) (.ptr 2 0), .ghost (gv 3) (.ptr 3 0)]⟩) (fun s => ⟨[(0, .yld 0), (5, lv T_api_Event.enc o3_0), (6, i64 ((o3_0).length : Int)), (7, i64 x1), (20, bo false)], [.loop #[10] as_event_Begin_0 bd_event_Begin_0 20 [3, 4] [.ptr 1 0, .ptr 2 0] .ready none, .blk 3 [i64 s], .blk 3 [i64 o2_0], .blk 24 [lv T_api_Event.enc o3_0], .ghost (gv 0) (.ptr 0 0), .ghost (gv 1) (.ptr 1 0), .ghost (gv 2) (.ptr 2 0), .ghost (gv 3) (.ptr 3 0)]⟩)) (Sum.elim (fun s => F_event_begins_1_J1 x2 s = some oo3) (fun s => F_event_begins_1_J2 x1 s = some oo3)) ?_ ?_
    · rcases cs h with ⟨b29, h⟩ | ⟨b29, h⟩
      · obtain ⟨y30, hy30, h⟩ := bs h
        rcases y30 with y31 | y32
        · exact At.rK [0, 5, 6, 7, 20] [0, 1, 2, 3, 4, 5, 6, 7] [bT 3 b29, yX 6 3 [0, 1, 2] [] true (C_R_event_Begin_0 x1 x2 o2_0 (.inl y31) hy30)] fun _ _ i => ⟨.inl y31, h, i⟩
        · exact At.rK [0, 5, 6, 7, 20] [0, 1, 2, 3, 4, 5, 6, 7] [bT 3 b29, yX 6 3 [0, 1, 2] [] true (C_R_event_Begin_0 x1 x2 o2_0 (.inr y32) hy30)] fun _ _ i => ⟨.inr (y32), h, i⟩
      · exact At.rK [0, 5, 6, 7, 20] [0, 1, 2, 3, 4, 5, 6, 7] [bT 3 b29] fun _ _ i => ⟨.inr (x2), h, i⟩
    · rintro (x25 | x28) h
      · replace h : F_event_begins_1_J1 x2 x25 = some oo3 := h
        refine At.cy ?_
        obtain ⟨r26, h, e27⟩ := mr h
        rw [f4 _ e27] at h
        refine At.eN [] [] [0, 1, 2, 3, 4, 5, 6, 7] ?_
        obtain rfl := sq h
        exact At.ret (At.rR hR [0, 1, 2, 3])
      · replace h : F_event_begins_1_J2 x1 x28 = some oo3 := h
        refine At.cn ?_
        refine At.nR [0, 5, 6, 7] [0, 1, 2, 3, 4, 5, 6, 7] ?_
        refine At.skip (norm ?_)
        exact At.rK [0, 5, 6, 7] [0, 1, 2, 3, 4, 5, 6, 7] [] fun _ _ i => ⟨_, li h, i⟩
  · refine At.nR [] [0, 1, 2, 3, 4, 5, 6, 7] ?_
    obtain ⟨r33, h, e34⟩ := mr h
    rw [f4 _ e34] at h
    obtain rfl := sq h
    refine At.exit (edq (l := []) (ks := []) (ρ := [0, 1, 2, 3, 4, 5, 6, 7]) (st' := ⟨[], [.loop #[10] as_event_Begin_0 bd_event_Begin_0 20 [3, 4] [.ptr 1 0, .ptr 2 0] .ready none, .blk 3 [i64 x2], .blk 3 [i64 o2_0], .blk 24 [lv T_api_Event.enc o3_0], .ghost (gv 0) (.ptr 0 0), .ghost (gv 1) (.ptr 1 0), .ghost (gv 2) (.ptr 2 0), .ghost (gv 3) (.ptr 3 0)]⟩) (by kernel_rfl) (At.rN hR [0, 1, 2, 3]))
theorem C_event_Begin (p0 : (List T_api_Event)) (p1 : Int) (r : Int) (h : F_event_Begin p0 p1 = some r) : FnOK Try.prog 22 [lv T_api_Event.enc p0, i64 p1] [] (i64 r) [] [] := by
  refine fI Try.func22 rfl fun E gv R hR => ?_
  refine At.sR [0, 3, 4] [0, 1] [] ?_
  refine At.seq ?_
  refine At.sR [0, 3, 4, 7] [0, 1] [] ?_
  refine At.cd h (fun b2 h => ?_) (fun b2 h => ?_)
  · refine At.sR [4] [1] [] ?_
    obtain rfl := sq h
    exact At.ret (At.rR hR [])
  · refine At.nR [0, 3, 4] [0, 1] ?_
    refine At.skip (norm ?_)
    refine At.seq ?_
    obtain ⟨y9, hy9, h⟩ := bs h
    refine At.sR [0, 3, 4, 9] [0, 1, 2] [cT 1 0 [2] (C_event_begins p0 y9 hy9)] ?_
    refine At.block ?_
    obtain ⟨y10, hy10, h⟩ := bs h
    rcases y10 with y11 | y12
    · refine At.range (pc := { ρ := [4, 0, 1, 2], n0 := 4, res := .tup [], σ' := [.loop #[10] as_event_Begin_0 bd_event_Begin_0 20 [3, 4] [.ptr 1 0, .ptr 2 0] .done (some .ret), .blk 3 [i64 y11.1], .blk 3 [i64 y11.2], .blk 24 [lv T_api_Event.enc y9]], e := [1, 3, 5, 7] }) [3, 4] (st' := ⟨[(0, lv T_api_Event.enc p0), (3, .ptr 0 0), (4, .ptr 1 0), (9, .fn (.func 69) [] [.ptr 2 0])], [.blk 3 [i64 y11.1], .blk 3 [i64 y11.2], .blk 24 [lv T_api_Event.enc y9], .mark, .dead]⟩) (jump := (some .ret)) (by kernel_rfl) (allc (C_event_begins_1 p1 0 y9 (.inl y11) hy10) all0) ?_
      show At _ _ _ _ .ret _ _
      refine At.eN [] [4] [3, 1] ?_
      obtain rfl := sq h
      exact At.ret (At.rR hR [])
    · refine At.range (pc := { ρ := [4, 0, 1, 2], n0 := 4, res := .tup [], σ' := [.loop #[10] as_event_Begin_0 bd_event_Begin_0 20 [3, 4] [.ptr 1 0, .ptr 2 0] .ready none, .blk 3 [i64 y12], .blk 3 [i64 0], .blk 24 [lv T_api_Event.enc y9]], e := [1, 3, 5, 7] }) [3, 4] (st' := ⟨[(0, lv T_api_Event.enc p0), (3, .ptr 0 0), (4, .ptr 1 0), (9, .fn (.func 69) [] [.ptr 2 0])], [.blk 3 [i64 y12], .blk 3 [i64 0], .blk 24 [lv T_api_Event.enc y9], .mark, .dead]⟩) (jump := none) (by kernel_rfl) (allc (C_event_begins_1 p1 0 y9 (.inr y12) hy10) all0) (nark [0, 3, 4] [3, 0, 1] (st' := ⟨[(0, lv T_api_Event.enc p0), (3, .ptr 1 0), (4, .ptr 2 0)], [.mark, .blk 3 [i64 y12], .blk 3 [i64 0]]⟩) (by kernel_rfl) (norm ?_))
      refine At.seq ?_
      refine At.sR [0, 4, 17] [0, 2] [] ?_
      refine At.cd h (fun b14 h => ?_) (fun b14 h => ?_)
      · refine At.sR [4] [0, 1] [] ?_
        obtain rfl := sq h
        exact At.ret (At.rR hR [])
      · refine At.nR [4] [0, 1] ?_
        refine At.skip (norm ?_)
        refine At.sR [4] [0, 1] [] ?_
        obtain rfl := sq h
        exact At.ret (At.rR hR [])
theorem C_trace_Check (p0 : T_api_Trace) (r : Int) (h : F_trace_Check p0 = some r) : FnOK Try.prog 34 [.agg (T_api_Trace.pvs p0)] [] (i64 r) [] [] := by
  refine fI Try.func34 rfl fun E gv R hR => ?_
  refine At.sR [1] [0] [] ?_
  refine At.seq ?_
  obtain ⟨y14, hy14, h⟩ := bs h
  refine At.sR [1, 4] [0] [c0 2 (C_event_Check p0.Events y14 hy14)] ?_
  refine At.seqJ (S := Bool) (fun s => ⟨[(1, .ptr 0 0), (34, bo s)], [.blk 27 (T_api_Trace.pvs p0)]⟩) (fun s => F_trace_Check_J1 p0 s = some r) ?_ ?_
  · rcases cs h with ⟨b79, h⟩ | ⟨b79, h⟩
    · exact At.rK [1, 34] [0] [bT 2 b79] fun _ _ i => ⟨true, h, i⟩
    · rcases cs h with ⟨b80, h⟩ | ⟨b80, h⟩
      · exact At.rK [1, 34] [0] [bT 2 b79, bT 7 b80] fun _ _ i => ⟨true, h, i⟩
      · rcases cs h with ⟨b81, h⟩ | ⟨b81, h⟩
        · exact At.rK [1, 34] [0] [bT 2 b79, bT 7 b80, bT 12 b81] fun _ _ i => ⟨true, h, i⟩
        · rcases cs h with ⟨b82, h⟩ | ⟨b82, h⟩
          · exact At.rK [1, 34] [0] [bT 2 b79, bT 7 b80, bT 12 b81, bT 17 b82] fun _ _ i => ⟨true, h, i⟩
          · exact At.rK [1, 34] [0] [bT 2 b79, bT 7 b80, bT 12 b81, bT 17 b82] fun _ _ i => ⟨(decide (1048576 < p0.Every)), h, i⟩
  · intro x19 h
    refine At.cd h (fun b20 h => ?_) (fun b20 h => ?_)
    · refine At.sR [2] [] [] ?_
      obtain rfl := sq h
      exact At.ret (At.rR hR [])
    · refine At.nR [1] [0] ?_
      refine At.skip (norm ?_)
      refine At.seq ?_
      refine At.sR [1, 36, 37, 38] [0] [] ?_
      refine At.block ?_
      refine At.nK (st' := ⟨[(1, .ptr 0 0), (36, lv T_api_Mark.enc p0.Marks), (37, i64 ((p0.Marks).length : Int)), (38, i64 0)], [.blk 27 (T_api_Trace.pvs p0)]⟩) [1, 36, 37, 38] [0] ?_
      refine At.lp (fun s : (Int) => ⟨[(1, .ptr 0 0), (36, lv T_api_Mark.enc p0.Marks), (37, i64 ((p0.Marks).length : Int)), (38, i64 s)], [.blk 27 (T_api_Trace.pvs p0)]⟩) h ?_
      intro x50 oo51 h f52
      replace h : F_trace_Check_L3 p0 x50 = some oo51 := h
      refine At.sR [1, 36, 37, 38, 39] [0] [] ?_
      refine At.seq ?_
      refine At.cd h (fun b54 h => ?_) (fun b54 h => ?_)
      · refine At.nR [1, 36, 37, 38] [0] ?_
        refine At.skip (norm ?_)
        refine At.seq ?_
        refine At.block ?_
        obtain ⟨y66, hy66, h⟩ := bs h
        refine At.sR [1, 5, 6, 36, 37, 38] [0, 1] [eT T_api_Mark.enc_len 1 hy66] ?_
        refine At.seqJ (S := Bool) (fun s => ⟨[(1, .ptr 0 0), (36, lv T_api_Mark.enc p0.Marks), (37, i64 ((p0.Marks).length : Int)), (38, i64 x50), (64, bo s)], [.blk 27 (T_api_Trace.pvs p0)]⟩) (fun s => F_trace_Check_J2 x50 s = some oo51) ?_ ?_
        · rcases cs h with ⟨b74, h⟩ | ⟨b74, h⟩
          · exact At.dK 0 [1, 36, 37, 38, 64] [0] [bT 7 b74] fun _ _ i => ⟨true, h, i⟩
          · obtain ⟨y75, hy75, h⟩ := bs h
            rcases cs h with ⟨b76, h⟩ | ⟨b76, h⟩
            · exact At.dK 0 [1, 36, 37, 38, 64] [0] [bT 7 b74, c0 12 (C_event_Begin p0.Events y66.Step y75 hy75), bT 17 b76] fun _ _ i => ⟨true, h, i⟩
            · exact At.dK 0 [1, 36, 37, 38, 64] [0] [bT 7 b74, c0 12 (C_event_Begin p0.Events y66.Step y75 hy75), bT 17 b76] fun _ _ i => ⟨(decide (y66.Events < 0)), h, i⟩
        · intro x70 h
          refine At.cd h (fun b71 h => ?_) (fun b71 h => ?_)
          · refine At.sR [2] [] [] ?_
            obtain ⟨r72, h, e73⟩ := mr h
            rw [f52 _ e73] at h
            obtain rfl := sq h
            exact At.ret (At.rR hR [])
          · refine At.nR [1, 36, 37, 38] [0] ?_
            refine At.skip (norm ?_)
            exact At.rK [1, 36, 37, 38] [0] [] fun _ _ i => ⟨_, li h, i⟩
      · refine At.nR [] [] ?_
        obtain ⟨r77, h, e78⟩ := mr h
        rw [f52 _ e78] at h
        refine At.exit (norm ?_)
        refine At.sR [2] [] [] ?_
        obtain rfl := sq h
        exact At.ret (At.rR hR [])
theorem C_vint_Zag (p0 : Int) (r : Int) (h : F_vint_Zag p0 = some r) : FnOK Try.prog 96 [u64 p0] [] (i64 r) [] [] := by
  refine fI Try.func96 rfl fun E gv R hR => ?_
  refine At.sR [0] [] [] ?_
  refine At.sR [2] [] [oT 1 (by decide : (0:Int) ≤ 1)] ?_
  obtain rfl := sq h
  exact At.ret (At.rR hR [])
theorem C_vint_GetInt (p0 : ByteArray) (p1 : Int) (r : Int × Int × Int) (h : F_vint_GetInt p0 p1 = some r) : FnOK Try.prog 91 [sv p0, i64 p1] [] (.tup [i64 r.1, i64 r.2.1, i64 r.2.2]) [] [] := by
  refine fI Try.func91 rfl fun E gv R hR => ?_
  refine At.sR [0, 1] [] [] ?_
  obtain ⟨y2, hy2, h⟩ := bs h
  refine At.sR [7, 8, 9] [] [c0 2 (C_vint_Get p0 p1 y2 hy2)] ?_
  obtain ⟨y4, hy4, h⟩ := bs h
  refine At.sR [4, 5, 6] [] [c0 1 (C_vint_Zag y2.1 y4 hy4)] ?_
  obtain rfl := sq h
  exact At.ret (At.rR hR [])
theorem C_wire_Reader_Int_1 (p0 : ByteArray) (o0_0 : Int) (r : Int × Int × Int) (h : F_wire_Reader_Int_1 p0 o0_0 = some r) : FnOK Try.prog 90 [sv p0, .ptr 0 0] [.blk 2 [i64 o0_0]] (.tup [i64 r.1, i64 r.2.1]) [.blk 2 [i64 r.2.2]] [1] := by
  refine fI Try.func90 rfl fun E gv R hR => ?_
  refine At.sR [0, 1] [0, 1] [] ?_
  obtain ⟨y2, hy2, h⟩ := bs h
  refine At.sR [3, 4] [0, 1] [c0 1 (C_vint_GetInt p0 0 y2 hy2)] ?_
  refine At.sR [3, 4] [0, 1] [] ?_
  obtain rfl := sq h
  exact At.ret (At.rR hR [0])
theorem C_wire_Reader_step_v3 (o0 : T_wire_Reader) (o1_0 : Int) (r : Bool × T_wire_Reader × Int) (h : F_wire_Reader_step_v3 o0 o1_0 = some r) : FnOK Try.prog 71 [.ptr 0 0, .fn (.func 90) [] [.ptr 1 0]] [.blk 130 (T_wire_Reader.pvs o0), .blk 2 [i64 o1_0]] (bo r.1) [.blk 130 (T_wire_Reader.pvs r.2.1), .blk 2 [i64 r.2.2]] [1, 3] := by
  refine fI Try.func71 rfl fun E gv R hR => ?_
  refine At.sR [0, 1] [0, 1, 2, 3] [] ?_
  refine At.seq ?_
  refine At.sR [0, 1, 15] [0, 1, 2, 3] [] ?_
  refine At.cd h (fun b2 h => ?_) (fun b2 h => ?_)
  · refine At.sR [4] [0, 1, 2, 3] [] ?_
    obtain rfl := sq h
    exact At.ret (At.rR hR [0, 1])
  · refine At.nR [0, 1] [0, 1, 2, 3] ?_
    refine At.skip (norm ?_)
    obtain ⟨y4, hy4, h⟩ := bs h
    refine At.sR [0, 5, 6] [0, 1, 2, 3] [cT 5 1 [1] (C_wire_Reader_Int_1 o0.s o1_0 y4 hy4)] ?_
    refine At.seq ?_
    refine At.sR [0, 5, 6, 26] [0, 1, 2, 3] [] ?_
    refine At.cd h (fun b6 h => ?_) (fun b6 h => ?_)
    · refine At.seq ?_
      refine At.rK (st' := ⟨[], [.blk 130 [sv o0.s, i64 y4.2.1], .blk 2 [i64 y4.2.2], .ghost (gv 0) (.ptr 0 0), .ghost (gv 1) (.ptr 1 0)]⟩) [] [0, 1, 2, 3] [] (norm ?_)
      refine At.sR [4] [0, 1, 2, 3] [] ?_
      obtain rfl := sq h
      exact At.ret (At.rR hR [0, 1])
    · refine At.nK (st' := ⟨[(0, .ptr 0 0), (5, i64 y4.1)], [.blk 130 (T_wire_Reader.pvs o0), .blk 2 [i64 y4.2.2], .ghost (gv 0) (.ptr 0 0), .ghost (gv 1) (.ptr 1 0)]⟩) [0, 5] [0, 1, 2, 3] ?_
      refine At.skip (norm ?_)
      obtain ⟨g8, h⟩ := gs h
      refine At.sR [] [0, 1, 2, 3] [oT 6 g8] ?_
      refine At.sR [4] [0, 1, 2, 3] [] ?_
      obtain rfl := sq h
      exact At.ret (At.rR hR [0, 1])
theorem C_wire_Reader_Int (o0 : T_wire_Reader) (r : Int × T_wire_Reader) (h : F_wire_Reader_Int o0 = some r) : FnOK Try.prog 77 [.ptr 0 0] [.blk 130 (T_wire_Reader.pvs o0)] (i64 r.1) [.blk 130 (T_wire_Reader.pvs r.2)] [1] := by
  refine fI Try.func77 rfl fun E gv R hR => ?_
  refine At.sR [0] [0, 1] [] ?_
  refine At.sR [0, 3] [0, 1, 2] [] ?_
  obtain ⟨y2, hy2, h⟩ := bs h
  refine At.sR [3] [0, 1, 2] [cT 2 2 [0, 2] (C_wire_Reader_step_v3 o0 0 y2 hy2)] ?_
  refine At.sR [2] [0, 1] [] ?_
  obtain rfl := sq h
  exact At.ret (At.rR hR [0])
theorem C_event_Get (p0 : ByteArray) (r : (List T_api_Event) × Int) (h : F_event_Get p0 = some r) : FnOK Try.prog 56 [sv p0] [] (.tup [lv T_api_Event.enc r.1, i64 r.2]) [] [] := by
  refine fI Try.func56 rfl fun E gv R hR => ?_
  refine At.sR [0] [] [] ?_
  obtain ⟨y2, hy2, h⟩ := bs h
  refine At.sR [4] [0] [cT 1 0 [0] (C_wire_Open p0 y2 hy2)] ?_
  obtain ⟨y4, hy4, h⟩ := bs h
  refine At.sR [4, 5] [0] [cT 1 1 [0] (C_wire_Reader_Upto 65536 y2 y4 hy4)] ?_
  refine At.sR [4, 5, 6] [0] [] ?_
  refine At.seq ?_
  refine At.block ?_
  refine At.nK (st' := ⟨[(4, .ptr 0 0), (5, i64 y4.1), (6, .d (.list true 0 []))], [.blk 130 (T_wire_Reader.pvs y4.2)]⟩) [4, 5, 6] [0] ?_
  refine At.edNar [.ownS 6 45 2] [4, 5, 6] [0, 1] (st' := ⟨[(4, .ptr 0 0), (5, i64 y4.1), (6, .row 1 ([] : List T_api_Event).length)], [.blk 130 (T_wire_Reader.pvs y4.2), .row 45 2 (encL T_api_Event.enc ([]))]⟩) (by kernel_rfl) ?_
  refine At.lp (fun s : (ByteArray × Int × (List T_api_Event)) => ⟨[(4, .ptr 0 0), (5, i64 y4.1), (6, .row 1 (s.2.2).length)], [.blk 130 [sv s.1, i64 s.2.1], .row 45 2 (encL T_api_Event.enc s.2.2)]⟩) h ?_
  rintro ⟨x29, x30, x31⟩ oo32 h f33
  replace h : F_event_Get_L2 y4 x29 x30 x31 = some oo32 := h
  refine At.seq ?_
  refine At.seqJ (S := Bool) (fun s => ⟨[(4, .ptr 0 0), (5, i64 y4.1), (6, .row 1 (x31).length), (23, bo s)], [.blk 130 [sv x29, i64 x30], .row 45 2 (encL T_api_Event.enc x31)]⟩) (fun s => F_event_Get_J1 x29 x30 x31 s = some oo32) ?_ ?_
  · rcases cs h with ⟨b63, h⟩ | ⟨b63, h⟩
    · obtain ⟨y64, hy64, h⟩ := bs h
      exact At.rK [4, 5, 6, 23] [0, 1] [bT 4 b63, cT 6 1 [0] (C_wire_Reader_Err (⟨x29, x30⟩ : T_wire_Reader) y64 hy64)] fun _ _ i => ⟨(y64 == 0), h, i⟩
    · exact At.rK [4, 5, 6, 23] [0, 1] [bT 4 b63] fun _ _ i => ⟨false, h, i⟩
  · intro x42 h
    refine At.cd h (fun b43 h => ?_) (fun b43 h => ?_)
    · refine At.nR [4, 5, 6] [0, 1] ?_
      refine At.skip (norm ?_)
      refine At.block ?_
      obtain ⟨y45, hy45, h⟩ := bs h
      refine At.sR [4, 5, 6, 7] [0, 1, 2] [cT 1 1 [0] (C_wire_Reader_Int (⟨x29, x30⟩ : T_wire_Reader) y45 hy45)] ?_
      obtain ⟨y47, hy47, h⟩ := bs h
      refine At.sR [4, 5, 6, 7] [0, 1, 2] [cT 1 1 [0] (C_wire_Reader_Int y45.2 y47 hy47)] ?_
      obtain ⟨g48, h⟩ := gs h
      exact At.rK [4, 5, 6] [0, 1] [aT T_api_Event.enc_len 3 x31 ([(⟨y45.1, y47.1⟩ : T_api_Event)]) rfl g48] fun _ _ i => ⟨_, li h, i⟩
    · refine At.nR [4, 6] [0, 1] ?_
      obtain ⟨r49, h, e50⟩ := mr h
      rw [f33 _ e50] at h
      refine At.exit (norm ?_)
      refine At.seq ?_
      obtain ⟨y55, hy55, h⟩ := bs h
      refine At.sR [6, 8] [1] [cT 1 1 [0] (C_wire_Reader_End (⟨x29, x30⟩ : T_wire_Reader) y55 hy55)] ?_
      refine At.sR [6, 8, 37] [0] [] ?_
      refine At.cd h (fun b56 h => ?_) (fun b56 h => ?_)
      · refine At.sR [2, 3] [] [] ?_
        refine At.eN [.loS 2] [2, 3] [] ?_
        obtain rfl := sq h
        exact At.ret (At.rR hR [])
      · refine At.nR [6] [0] ?_
        refine At.skip (norm ?_)
        refine At.seq ?_
        obtain ⟨y61, hy61, h⟩ := bs h
        refine At.sR [6, 10] [] [cX 1 0 [] [0] true (C_event_Check x31 y61 hy61)] ?_
        refine At.seq ?_
        refine At.rK (st' := ⟨[(6, lv T_api_Event.enc x31), (10, i64 y61.2), (45, bo (y61.2 != 0))], []⟩) [6, 10, 45] [] [] (norm ?_)
        refine At.cd h (fun b62 h => ?_) (fun b62 h => ?_)
        · refine At.sR [2, 3] [] [] ?_
          refine At.eN [.loS 2] [2, 3] [] ?_
          obtain rfl := sq h
          exact At.ret (At.rR hR [])
        · refine At.nR [6] [] ?_
          refine At.skip (norm ?_)
          refine At.sR [2, 3] [] [] ?_
          obtain rfl := sq h
          exact At.ret (At.rR hR [])
theorem C_trace_events (p0_0 : Int) (p0_1 : Int) (p0_2 : Int) (p0_3 : (List T_api_Event)) (p0_4 : (List T_api_Mark)) (p1 : ByteArray) (r : T_api_Trace × Int) (h : F_trace_events p0_0 p0_1 p0_2 p0_3 p0_4 p1 = some r) : FnOK Try.prog 30 [.agg [u32 p0_0, i64 p0_1, i64 p0_2, .d (.list true (p0_3).length (encL T_api_Event.enc p0_3)), .d (.list true (p0_4).length (encL T_api_Mark.enc p0_4))], sv p1] [] (.tup [.agg (T_api_Trace.pvs r.1), i64 r.2]) [] [] := by
  refine fI Try.func30 rfl fun E gv R hR => ?_
  refine At.sR [1, 2, 4] [0, 1] [] ?_
  obtain ⟨y2, hy2, h⟩ := bs h
  refine At.sR [2, 4, 6, 7] [0, 1] [c0 1 (C_event_Get p1 y2 hy2)] ?_
  refine At.seq ?_
  refine At.sR [2, 4, 6, 7, 14] [0, 1] [] ?_
  refine At.cd h (fun b4 h => ?_) (fun b4 h => ?_)
  · refine At.sR [4, 5] [1] [] ?_
    refine At.eN [.loO 0] [4, 5] [0] ?_
    obtain rfl := sq h
    exact At.ret (At.rR hR [])
  · refine At.nR [2, 4, 6] [0, 1] ?_
    refine At.skip (norm ?_)
    obtain ⟨g6, h⟩ := gs h
    refine At.sR [2, 4] [0, 1] [tT 3 ({ orc := .val .nilP, form := some ((p0_3 ++ y2.1).length, encL T_api_Event.enc (p0_3 ++ y2.1)) }) (allc (len_app p0_3 y2.1) (allc (encL_app T_api_Event.enc p0_3 y2.1) (allc (app_ok T_api_Event.enc_len (by decide) g6) (allc (encL_len T_api_Event.enc_len y2.1) all0))))] ?_
    refine At.seq ?_
    refine At.rK (st' := ⟨[(4, .ptr 0 0), (5, i64 0)], [.blk 27 [u32 p0_0, i64 p0_1, i64 p0_2, lv T_api_Event.enc (p0_3 ++ y2.1), .d (.list true (p0_4).length (encL T_api_Mark.enc p0_4))]]⟩) [4, 5] [1] [] (norm ?_)
    refine At.eN [.loO 0] [4, 5] [0] ?_
    obtain rfl := sq h
    exact At.ret (At.rR hR [])
theorem C_dump_reader_into (o0 : T_wire_Reader) (o2 : T_api_State) (r : T_wire_Reader × T_api_State) (h : F_dump_reader_into o0 o2 = some r) : FnOK Try.prog 78 [.agg [.ptr 0 0], .view 1 0 5] [.blk 130 (T_wire_Reader.pvs o0), .blk 136 [.ptr 2 0, .ptr 2 1, .ptr 2 2, .ptr 2 3, .ptr 2 4], .blk 62 [i64 o2.Now, i64 o2.Since, i64 o2.Halt, i64 o2.Fault, i64 o2.Who, .row 3 (o2.Procs).length, .row 4 (o2.Out).length], .row 104 11 (encL T_api_Proc.enc o2.Procs), .row 3 1 (encL (eInt .i64) o2.Out)] (.tup []) [.blk 130 (T_wire_Reader.pvs r.1), .blk 136 [.ptr 2 0, .ptr 2 1, .ptr 2 2, .ptr 2 3, .ptr 2 4], .blk 62 [i64 r.2.Now, i64 r.2.Since, i64 r.2.Halt, i64 r.2.Fault, i64 r.2.Who, .row 3 (r.2.Procs).length, .row 4 (r.2.Out).length], .row 104 11 (encL T_api_Proc.enc r.2.Procs), .row 3 1 (encL (eInt .i64) r.2.Out)] [1, 3, 5, 6, 8] := by
  refine fI Try.func78 rfl fun E gv R hR => ?_
  refine At.sR [1, 2] [0, 1, 2, 3, 4, 5, 6, 7, 8, 9, 10] [] ?_
  refine At.sR [2, 6, 7, 8] [0, 1, 2, 3, 4, 5, 6, 7, 8, 9, 10] [] ?_
  refine At.block ?_
  refine At.loopN 6 ?_
  refine At.roundN ?_
  refine At.sR [2, 6, 7, 8, 9] [0, 1, 2, 3, 4, 5, 6, 7, 8, 9, 10] [] ?_
  refine At.seq ?_
  refine At.cy ?_
  refine At.nR [2, 6, 7, 8] [0, 1, 2, 3, 4, 5, 6, 7, 8, 9, 10] ?_
  refine At.skip (norm ?_)
  refine At.seq ?_
  refine At.block ?_
  refine At.sR [2, 5, 6, 7, 8] [0, 1, 2, 3, 4, 5, 6, 7, 8, 9, 10] [oT 0 (⟨by decide, by decide⟩ : Within 0 5)] ?_
  obtain ⟨y2, hy2, h⟩ := bs h
  refine At.rK (st' := ⟨[(2, .ptr 10 0), (6, .view 1 0 5), (7, i64 5), (8, i64 0)], [.blk 130 (T_wire_Reader.pvs y2.2), .blk 136 [.ptr 2 0, .ptr 2 1, .ptr 2 2, .ptr 2 3, .ptr 2 4], .blk 62 [i64 y2.1, i64 o2.Since, i64 o2.Halt, i64 o2.Fault, i64 o2.Who, .row 3 (o2.Procs).length, .row 4 (o2.Out).length], .row 104 11 (encL T_api_Proc.enc o2.Procs), .row 3 1 (encL (eInt .i64) o2.Out), .ghost (gv 0) (.ptr 0 0), .ghost (gv 1) (.ptr 1 0), .ghost (gv 2) (.ptr 2 0), .ghost (gv 3) (.row 3 0), .ghost (gv 4) (.row 4 0), .blk 134 [.ptr 0 0]]⟩) [2, 6, 7, 8] [0, 1, 2, 3, 4, 5, 6, 7, 8, 9, 10] [cT 3 1 [0] (C_wire_Reader_Int o0 y2 hy2)] (norm ?_)
  refine At.rG [2, 6, 7, 8] [0, 1, 2, 3, 4, 5, 6, 7, 8, 9, 10] [] ?_
  refine At.roundN ?_
  refine At.sR [2, 6, 7, 8, 9] [0, 1, 2, 3, 4, 5, 6, 7, 8, 9, 10] [] ?_
  refine At.seq ?_
  refine At.cy ?_
  refine At.nR [2, 6, 7, 8] [0, 1, 2, 3, 4, 5, 6, 7, 8, 9, 10] ?_
  refine At.skip (norm ?_)
  refine At.seq ?_
  refine At.block ?_
  refine At.sR [2, 5, 6, 7, 8] [0, 1, 2, 3, 4, 5, 6, 7, 8, 9, 10] [oT 0 (⟨by decide, by decide⟩ : Within 1 5)] ?_
  obtain ⟨y4, hy4, h⟩ := bs h
  refine At.rG [2, 6, 7, 8] [0, 1, 2, 3, 4, 5, 6, 7, 8, 9, 10] [cT 3 1 [0] (C_wire_Reader_Int y2.2 y4 hy4)] (norm ?_)
  refine At.rK (st' := ⟨[(2, .ptr 10 0), (6, .view 1 0 5), (7, i64 5), (8, i64 2)], [.blk 130 (T_wire_Reader.pvs y4.2), .blk 136 [.ptr 2 0, .ptr 2 1, .ptr 2 2, .ptr 2 3, .ptr 2 4], .blk 62 [i64 y2.1, i64 y4.1, i64 o2.Halt, i64 o2.Fault, i64 o2.Who, .row 3 (o2.Procs).length, .row 4 (o2.Out).length], .row 104 11 (encL T_api_Proc.enc o2.Procs), .row 3 1 (encL (eInt .i64) o2.Out), .ghost (gv 0) (.ptr 0 0), .ghost (gv 1) (.ptr 1 0), .ghost (gv 2) (.ptr 2 0), .ghost (gv 3) (.row 3 0), .ghost (gv 4) (.row 4 0), .blk 134 [.ptr 0 0]]⟩) [2, 6, 7, 8] [0, 1, 2, 3, 4, 5, 6, 7, 8, 9, 10] [] ?_
  refine At.roundN ?_
  refine At.sR [2, 6, 7, 8, 9] [0, 1, 2, 3, 4, 5, 6, 7, 8, 9, 10] [] ?_
  refine At.seq ?_
  refine At.cy ?_
  refine At.nR [2, 6, 7, 8] [0, 1, 2, 3, 4, 5, 6, 7, 8, 9, 10] ?_
  refine At.skip (norm ?_)
  refine At.seq ?_
  refine At.block ?_
  refine At.sR [2, 5, 6, 7, 8] [0, 1, 2, 3, 4, 5, 6, 7, 8, 9, 10] [oT 0 (⟨by decide, by decide⟩ : Within 2 5)] ?_
  obtain ⟨y6, hy6, h⟩ := bs h
  refine At.rG [2, 6, 7, 8] [0, 1, 2, 3, 4, 5, 6, 7, 8, 9, 10] [cT 3 1 [0] (C_wire_Reader_Int y4.2 y6 hy6)] (norm ?_)
  refine At.rG [2, 6, 7, 8] [0, 1, 2, 3, 4, 5, 6, 7, 8, 9, 10] [] ?_
  refine At.roundN ?_
  refine At.seq ?_
  refine At.rK (st' := ⟨[(2, .ptr 10 0), (6, .view 1 0 5), (7, i64 5), (8, i64 3), (9, bo true)], [.blk 130 (T_wire_Reader.pvs y6.2), .blk 136 [.ptr 2 0, .ptr 2 1, .ptr 2 2, .ptr 2 3, .ptr 2 4], .blk 62 [i64 y2.1, i64 y4.1, i64 y6.1, i64 o2.Fault, i64 o2.Who, .row 3 (o2.Procs).length, .row 4 (o2.Out).length], .row 104 11 (encL T_api_Proc.enc o2.Procs), .row 3 1 (encL (eInt .i64) o2.Out), .ghost (gv 0) (.ptr 0 0), .ghost (gv 1) (.ptr 1 0), .ghost (gv 2) (.ptr 2 0), .ghost (gv 3) (.row 3 0), .ghost (gv 4) (.row 4 0), .blk 134 [.ptr 0 0]]⟩) [2, 6, 7, 8, 9] [0, 1, 2, 3, 4, 5, 6, 7, 8, 9, 10] [] (norm ?_)
  refine At.seq ?_
  refine At.cy ?_
  refine At.nR [2, 6, 7, 8] [0, 1, 2, 3, 4, 5, 6, 7, 8, 9, 10] ?_
  refine At.skip (norm ?_)
  refine At.seq ?_
  refine At.block ?_
  refine At.sR [2, 5, 6, 7, 8] [0, 1, 2, 3, 4, 5, 6, 7, 8, 9, 10] [oT 0 (⟨by decide, by decide⟩ : Within 3 5)] ?_
  obtain ⟨y8, hy8, h⟩ := bs h
  refine At.rG [2, 6, 7, 8] [0, 1, 2, 3, 4, 5, 6, 7, 8, 9, 10] [cT 3 1 [0] (C_wire_Reader_Int y6.2 y8 hy8)] (norm ?_)
  refine At.rG [2, 6, 7, 8] [0, 1, 2, 3, 4, 5, 6, 7, 8, 9, 10] [] ?_
  refine At.roundN ?_
  refine At.sR [2, 6, 7, 8, 9] [0, 1, 2, 3, 4, 5, 6, 7, 8, 9, 10] [] ?_
  refine At.seq ?_
  refine At.cy ?_
  refine At.nK (st' := ⟨[(2, .ptr 10 0), (6, .view 1 0 5), (7, i64 5), (8, i64 4)], [.blk 130 (T_wire_Reader.pvs y8.2), .blk 136 [.ptr 2 0, .ptr 2 1, .ptr 2 2, .ptr 2 3, .ptr 2 4], .blk 62 [i64 y2.1, i64 y4.1, i64 y6.1, i64 y8.1, i64 o2.Who, .row 3 (o2.Procs).length, .row 4 (o2.Out).length], .row 104 11 (encL T_api_Proc.enc o2.Procs), .row 3 1 (encL (eInt .i64) o2.Out), .ghost (gv 0) (.ptr 0 0), .ghost (gv 1) (.ptr 1 0), .ghost (gv 2) (.ptr 2 0), .ghost (gv 3) (.row 3 0), .ghost (gv 4) (.row 4 0), .blk 134 [.ptr 0 0]]⟩) [2, 6, 7, 8] [0, 1, 2, 3, 4, 5, 6, 7, 8, 9, 10] ?_
  refine At.skip (norm ?_)
  refine At.seq ?_
  refine At.block ?_
  refine At.sR [2, 5, 6, 7, 8] [0, 1, 2, 3, 4, 5, 6, 7, 8, 9, 10] [oT 0 (⟨by decide, by decide⟩ : Within 4 5)] ?_
  obtain ⟨y10, hy10, h⟩ := bs h
  refine At.rG [2, 6, 7, 8] [0, 1, 2, 3, 4, 5, 6, 7, 8, 9, 10] [cT 3 1 [0] (C_wire_Reader_Int y8.2 y10 hy10)] (norm ?_)
  refine At.rG [2, 6, 7, 8] [0, 1, 2, 3, 4, 5, 6, 7, 8, 9, 10] [] ?_
  refine At.roundN ?_
  refine At.sR [2, 6, 7, 8, 9] [0, 1, 2, 3, 4, 5, 6, 7, 8, 9, 10] [] ?_
  refine At.seq ?_
  refine At.cn ?_
  refine At.nR [] [0, 1, 2, 3, 4, 5, 6, 7, 8, 9] ?_
  obtain rfl := sq h
  refine At.exit (edq (l := []) (ks := []) (ρ := [0, 1, 2, 3, 4, 5, 6, 7, 8, 9]) (st' := ⟨[], [.blk 130 (T_wire_Reader.pvs y10.2), .blk 136 [.ptr 2 0, .ptr 2 1, .ptr 2 2, .ptr 2 3, .ptr 2 4], .blk 62 [i64 y2.1, i64 y4.1, i64 y6.1, i64 y8.1, i64 y10.1, .row 3 (o2.Procs).length, .row 4 (o2.Out).length], .row 104 11 (encL T_api_Proc.enc o2.Procs), .row 3 1 (encL (eInt .i64) o2.Out), .ghost (gv 0) (.ptr 0 0), .ghost (gv 1) (.ptr 1 0), .ghost (gv 2) (.ptr 2 0), .ghost (gv 3) (.row 3 0), .ghost (gv 4) (.row 4 0)]⟩) (by kernel_rfl) (At.rN hR [0, 1, 2, 3, 4]))
theorem C_dump_reader_into_v2 (o0 : T_wire_Reader) (o2 : T_api_Proc) (r : T_wire_Reader × T_api_Proc) (h : F_dump_reader_into_v2 o0 o2 = some r) : FnOK Try.prog 78 [.agg [.ptr 0 0], .view 1 0 2] [.blk 130 (T_wire_Reader.pvs o0), .blk 136 [.ptr 2 0, .ptr 2 1], .blk 104 [i64 o2.Def, i64 o2.At, .row 3 (o2.Vars).length, i64 o2.Fuel, i64 o2.Mode, i64 o2.Chan, i64 o2.Val, i64 o2.Slot, i64 o2.Until, i64 o2.Since, .row 4 (o2.Alts).length], .row 3 1 (encL (eInt .i64) o2.Vars), .row 124 5 (encL T_api_Alt.enc o2.Alts)] (.tup []) [.blk 130 (T_wire_Reader.pvs r.1), .blk 136 [.ptr 2 0, .ptr 2 1], .blk 104 [i64 r.2.Def, i64 r.2.At, .row 3 (r.2.Vars).length, i64 r.2.Fuel, i64 r.2.Mode, i64 r.2.Chan, i64 r.2.Val, i64 r.2.Slot, i64 r.2.Until, i64 r.2.Since, .row 4 (r.2.Alts).length], .row 3 1 (encL (eInt .i64) r.2.Vars), .row 124 5 (encL T_api_Alt.enc r.2.Alts)] [1, 3, 5, 6, 8] := by
  refine fI Try.func78 rfl fun E gv R hR => ?_
  refine At.sR [1, 2] [0, 1, 2, 3, 4, 5, 6, 7, 8, 9, 10] [] ?_
  refine At.sR [2, 6, 7, 8] [0, 1, 2, 3, 4, 5, 6, 7, 8, 9, 10] [] ?_
  refine At.block ?_
  refine At.loopN 3 ?_
  refine At.roundN ?_
  refine At.sR [2, 6, 7, 8, 9] [0, 1, 2, 3, 4, 5, 6, 7, 8, 9, 10] [] ?_
  refine At.seq ?_
  refine At.cy ?_
  refine At.nR [2, 6, 7, 8] [0, 1, 2, 3, 4, 5, 6, 7, 8, 9, 10] ?_
  refine At.skip (norm ?_)
  refine At.seq ?_
  refine At.block ?_
  refine At.sR [2, 5, 6, 7, 8] [0, 1, 2, 3, 4, 5, 6, 7, 8, 9, 10] [oT 0 (⟨by decide, by decide⟩ : Within 0 2)] ?_
  obtain ⟨y2, hy2, h⟩ := bs h
  refine At.rK (st' := ⟨[(2, .ptr 10 0), (6, .view 1 0 2), (7, i64 2), (8, i64 0)], [.blk 130 (T_wire_Reader.pvs y2.2), .blk 136 [.ptr 2 0, .ptr 2 1], .blk 104 [i64 y2.1, i64 o2.At, .row 3 (o2.Vars).length, i64 o2.Fuel, i64 o2.Mode, i64 o2.Chan, i64 o2.Val, i64 o2.Slot, i64 o2.Until, i64 o2.Since, .row 4 (o2.Alts).length], .row 3 1 (encL (eInt .i64) o2.Vars), .row 124 5 (encL T_api_Alt.enc o2.Alts), .ghost (gv 0) (.ptr 0 0), .ghost (gv 1) (.ptr 1 0), .ghost (gv 2) (.ptr 2 0), .ghost (gv 3) (.row 3 0), .ghost (gv 4) (.row 4 0), .blk 134 [.ptr 0 0]]⟩) [2, 6, 7, 8] [0, 1, 2, 3, 4, 5, 6, 7, 8, 9, 10] [cT 3 1 [0] (C_wire_Reader_Int o0 y2 hy2)] (norm ?_)
  refine At.rG [2, 6, 7, 8] [0, 1, 2, 3, 4, 5, 6, 7, 8, 9, 10] [] ?_
  refine At.roundN ?_
  refine At.sR [2, 6, 7, 8, 9] [0, 1, 2, 3, 4, 5, 6, 7, 8, 9, 10] [] ?_
  refine At.seq ?_
  refine At.cy ?_
  refine At.nR [2, 6, 7, 8] [0, 1, 2, 3, 4, 5, 6, 7, 8, 9, 10] ?_
  refine At.skip (norm ?_)
  refine At.seq ?_
  refine At.block ?_
  refine At.sR [2, 5, 6, 7, 8] [0, 1, 2, 3, 4, 5, 6, 7, 8, 9, 10] [oT 0 (⟨by decide, by decide⟩ : Within 1 2)] ?_
  obtain ⟨y4, hy4, h⟩ := bs h
  refine At.rG [2, 6, 7, 8] [0, 1, 2, 3, 4, 5, 6, 7, 8, 9, 10] [cT 3 1 [0] (C_wire_Reader_Int y2.2 y4 hy4)] (norm ?_)
  refine At.rK (st' := ⟨[(2, .ptr 10 0), (6, .view 1 0 2), (7, i64 2), (8, i64 2)], [.blk 130 (T_wire_Reader.pvs y4.2), .blk 136 [.ptr 2 0, .ptr 2 1], .blk 104 [i64 y2.1, i64 y4.1, .row 3 (o2.Vars).length, i64 o2.Fuel, i64 o2.Mode, i64 o2.Chan, i64 o2.Val, i64 o2.Slot, i64 o2.Until, i64 o2.Since, .row 4 (o2.Alts).length], .row 3 1 (encL (eInt .i64) o2.Vars), .row 124 5 (encL T_api_Alt.enc o2.Alts), .ghost (gv 0) (.ptr 0 0), .ghost (gv 1) (.ptr 1 0), .ghost (gv 2) (.ptr 2 0), .ghost (gv 3) (.row 3 0), .ghost (gv 4) (.row 4 0), .blk 134 [.ptr 0 0]]⟩) [2, 6, 7, 8] [0, 1, 2, 3, 4, 5, 6, 7, 8, 9, 10] [] ?_
  refine At.roundN ?_
  refine At.sR [2, 6, 7, 8, 9] [0, 1, 2, 3, 4, 5, 6, 7, 8, 9, 10] [] ?_
  refine At.seq ?_
  refine At.cn ?_
  refine At.nR [] [0, 1, 2, 3, 4, 5, 6, 7, 8, 9] ?_
  obtain rfl := sq h
  refine At.exit (edq (l := []) (ks := []) (ρ := [0, 1, 2, 3, 4, 5, 6, 7, 8, 9]) (st' := ⟨[], [.blk 130 (T_wire_Reader.pvs y4.2), .blk 136 [.ptr 2 0, .ptr 2 1], .blk 104 [i64 y2.1, i64 y4.1, .row 3 (o2.Vars).length, i64 o2.Fuel, i64 o2.Mode, i64 o2.Chan, i64 o2.Val, i64 o2.Slot, i64 o2.Until, i64 o2.Since, .row 4 (o2.Alts).length], .row 3 1 (encL (eInt .i64) o2.Vars), .row 124 5 (encL T_api_Alt.enc o2.Alts), .ghost (gv 0) (.ptr 0 0), .ghost (gv 1) (.ptr 1 0), .ghost (gv 2) (.ptr 2 0), .ghost (gv 3) (.row 3 0), .ghost (gv 4) (.row 4 0)]⟩) (by kernel_rfl) (At.rN hR [0, 1, 2, 3, 4]))
theorem C_wire_Reader_Ints (p1 : Int) (o0 : T_wire_Reader) (r : (List Int) × T_wire_Reader) (h : F_wire_Reader_Ints p1 o0 = some r) : FnOK Try.prog 82 [.ptr 0 0, i64 p1] [.blk 130 (T_wire_Reader.pvs o0)] (.row 1 (r.1).length) [.blk 130 (T_wire_Reader.pvs r.2), .row 3 1 (encL (eInt .i64) r.1)] [1] := by
  refine fI Try.func82 rfl fun E gv R hR => ?_
  refine At.sR [0, 1] [0, 1] [] ?_
  obtain ⟨y2, hy2, h⟩ := bs h
  refine At.sR [0, 5] [0, 1] [cT 2 1 [0] (C_wire_Reader_Upto p1 o0 y2 hy2)] ?_
  refine At.sR [0, 5, 6] [0, 1] [] ?_
  refine At.seq ?_
  refine At.block ?_
  refine At.nK (st' := ⟨[(0, .ptr 0 0), (5, i64 y2.1), (6, .d (.list true 0 []))], [.blk 130 (T_wire_Reader.pvs y2.2), .ghost (gv 0) (.ptr 0 0)]⟩) [0, 5, 6] [0, 1] ?_
  refine At.edNar [.ownS 6 3 1] [0, 5, 6] [0, 1, 2] (st' := ⟨[(0, .ptr 0 0), (5, i64 y2.1), (6, .row 2 ([] : List Int).length)], [.blk 130 (T_wire_Reader.pvs y2.2), .ghost (gv 0) (.ptr 0 0), .row 3 1 (encL (eInt .i64) ([]))]⟩) (by kernel_rfl) ?_
  refine At.lp (fun s : (ByteArray × Int × (List Int)) => ⟨[(0, .ptr 0 0), (5, i64 y2.1), (6, .row 2 (s.2.2).length)], [.blk 130 [sv s.1, i64 s.2.1], .ghost (gv 0) (.ptr 0 0), .row 3 1 (encL (eInt .i64) s.2.2)]⟩) h ?_
  rintro ⟨x24, x25, x26⟩ oo27 h f28
  replace h : F_wire_Reader_Ints_L2 y2 x24 x25 x26 = some oo27 := h
  refine At.seq ?_
  refine At.seqJ (S := Bool) (fun s => ⟨[(0, .ptr 0 0), (5, i64 y2.1), (6, .row 2 (x26).length), (18, bo s)], [.blk 130 [sv x24, i64 x25], .ghost (gv 0) (.ptr 0 0), .row 3 1 (encL (eInt .i64) x26)]⟩) (fun s => F_wire_Reader_Ints_J1 x24 x25 x26 s = some oo27) ?_ ?_
  · rcases cs h with ⟨b49, h⟩ | ⟨b49, h⟩
    · obtain ⟨y50, hy50, h⟩ := bs h
      exact At.rK [0, 5, 6, 18] [0, 1, 2] [bT 4 b49, cT 6 1 [0] (C_wire_Reader_Err (⟨x24, x25⟩ : T_wire_Reader) y50 hy50)] fun _ _ i => ⟨(y50 == 0), h, i⟩
    · exact At.rK [0, 5, 6, 18] [0, 1, 2] [bT 4 b49] fun _ _ i => ⟨false, h, i⟩
  · intro x37 h
    refine At.cd h (fun b38 h => ?_) (fun b38 h => ?_)
    · refine At.nR [0, 5, 6] [0, 1, 2] ?_
      refine At.skip (norm ?_)
      refine At.block ?_
      obtain ⟨y39, hy39, h⟩ := bs h
      obtain ⟨g40, h⟩ := gs h
      exact At.rK [0, 5, 6] [0, 1, 2] [cT 2 1 [0] (C_wire_Reader_Int (⟨x24, x25⟩ : T_wire_Reader) y39 hy39), aT (he_int .i64) 4 x26 ([y39.1]) rfl g40] fun _ _ i => ⟨_, li h, i⟩
    · refine At.nR [0, 6] [0, 1, 2] ?_
      obtain ⟨r41, h, e42⟩ := mr h
      rw [f28 _ e42] at h
      refine At.exit (norm ?_)
      refine At.seq ?_
      obtain ⟨y47, hy47, h⟩ := bs h
      refine At.sR [6, 26] [0, 1, 2] [cT 1 1 [0] (C_wire_Reader_Err (⟨x24, x25⟩ : T_wire_Reader) y47 hy47)] ?_
      refine At.cd h (fun b48 h => ?_) (fun b48 h => ?_)
      · refine At.sR [4] [0, 1] [] ?_
        refine At.eN [.ownS 4 3 1] [4] [0, 1, 2] ?_
        obtain rfl := sq h
        exact At.ret (At.rR hR [0, 2])
      · refine At.nR [6] [0, 1, 2] ?_
        refine At.skip (norm ?_)
        refine At.sR [4] [0, 1, 2] [] ?_
        obtain rfl := sq h
        exact At.ret (At.rR hR [0, 2])
theorem C_dump_reader_into_v3 (o0 : T_wire_Reader) (o2 : T_api_Proc) (r : T_wire_Reader × T_api_Proc) (h : F_dump_reader_into_v3 o0 o2 = some r) : FnOK Try.prog 78 [.agg [.ptr 0 0], .view 1 0 7] [.blk 130 (T_wire_Reader.pvs o0), .blk 136 [.ptr 2 3, .ptr 2 4, .ptr 2 5, .ptr 2 6, .ptr 2 7, .ptr 2 8, .ptr 2 9], .blk 104 [i64 o2.Def, i64 o2.At, .row 3 (o2.Vars).length, i64 o2.Fuel, i64 o2.Mode, i64 o2.Chan, i64 o2.Val, i64 o2.Slot, i64 o2.Until, i64 o2.Since, .row 4 (o2.Alts).length], .row 3 1 (encL (eInt .i64) o2.Vars), .row 124 5 (encL T_api_Alt.enc o2.Alts)] (.tup []) [.blk 130 (T_wire_Reader.pvs r.1), .blk 136 [.ptr 2 3, .ptr 2 4, .ptr 2 5, .ptr 2 6, .ptr 2 7, .ptr 2 8, .ptr 2 9], .blk 104 [i64 r.2.Def, i64 r.2.At, .row 3 (r.2.Vars).length, i64 r.2.Fuel, i64 r.2.Mode, i64 r.2.Chan, i64 r.2.Val, i64 r.2.Slot, i64 r.2.Until, i64 r.2.Since, .row 4 (r.2.Alts).length], .row 3 1 (encL (eInt .i64) r.2.Vars), .row 124 5 (encL T_api_Alt.enc r.2.Alts)] [1, 3, 5, 6, 8] := by
  refine fI Try.func78 rfl fun E gv R hR => ?_
  refine At.sR [1, 2] [0, 1, 2, 3, 4, 5, 6, 7, 8, 9, 10] [] ?_
  refine At.sR [2, 6, 7, 8] [0, 1, 2, 3, 4, 5, 6, 7, 8, 9, 10] [] ?_
  refine At.block ?_
  refine At.loopN 8 ?_
  refine At.roundN ?_
  refine At.sR [2, 6, 7, 8, 9] [0, 1, 2, 3, 4, 5, 6, 7, 8, 9, 10] [] ?_
  refine At.seq ?_
  refine At.cy ?_
  refine At.nR [2, 6, 7, 8] [0, 1, 2, 3, 4, 5, 6, 7, 8, 9, 10] ?_
  refine At.skip (norm ?_)
  refine At.seq ?_
  refine At.block ?_
  refine At.sR [2, 5, 6, 7, 8] [0, 1, 2, 3, 4, 5, 6, 7, 8, 9, 10] [oT 0 (⟨by decide, by decide⟩ : Within 0 7)] ?_
  obtain ⟨y2, hy2, h⟩ := bs h
  refine At.rK (st' := ⟨[(2, .ptr 10 0), (6, .view 1 0 7), (7, i64 7), (8, i64 0)], [.blk 130 (T_wire_Reader.pvs y2.2), .blk 136 [.ptr 2 3, .ptr 2 4, .ptr 2 5, .ptr 2 6, .ptr 2 7, .ptr 2 8, .ptr 2 9], .blk 104 [i64 o2.Def, i64 o2.At, .row 3 (o2.Vars).length, i64 y2.1, i64 o2.Mode, i64 o2.Chan, i64 o2.Val, i64 o2.Slot, i64 o2.Until, i64 o2.Since, .row 4 (o2.Alts).length], .row 3 1 (encL (eInt .i64) o2.Vars), .row 124 5 (encL T_api_Alt.enc o2.Alts), .ghost (gv 0) (.ptr 0 0), .ghost (gv 1) (.ptr 1 0), .ghost (gv 2) (.ptr 2 0), .ghost (gv 3) (.row 3 0), .ghost (gv 4) (.row 4 0), .blk 134 [.ptr 0 0]]⟩) [2, 6, 7, 8] [0, 1, 2, 3, 4, 5, 6, 7, 8, 9, 10] [cT 3 1 [0] (C_wire_Reader_Int o0 y2 hy2)] (norm ?_)
  refine At.rG [2, 6, 7, 8] [0, 1, 2, 3, 4, 5, 6, 7, 8, 9, 10] [] ?_
  refine At.roundN ?_
  refine At.sR [2, 6, 7, 8, 9] [0, 1, 2, 3, 4, 5, 6, 7, 8, 9, 10] [] ?_
  refine At.seq ?_
  refine At.cy ?_
  refine At.nR [2, 6, 7, 8] [0, 1, 2, 3, 4, 5, 6, 7, 8, 9, 10] ?_
  refine At.skip (norm ?_)
  refine At.seq ?_
  refine At.block ?_
  refine At.sR [2, 5, 6, 7, 8] [0, 1, 2, 3, 4, 5, 6, 7, 8, 9, 10] [oT 0 (⟨by decide, by decide⟩ : Within 1 7)] ?_
  obtain ⟨y4, hy4, h⟩ := bs h
  refine At.rG [2, 6, 7, 8] [0, 1, 2, 3, 4, 5, 6, 7, 8, 9, 10] [cT 3 1 [0] (C_wire_Reader_Int y2.2 y4 hy4)] (norm ?_)
  refine At.rK (st' := ⟨[(2, .ptr 10 0), (6, .view 1 0 7), (7, i64 7), (8, i64 2)], [.blk 130 (T_wire_Reader.pvs y4.2), .blk 136 [.ptr 2 3, .ptr 2 4, .ptr 2 5, .ptr 2 6, .ptr 2 7, .ptr 2 8, .ptr 2 9], .blk 104 [i64 o2.Def, i64 o2.At, .row 3 (o2.Vars).length, i64 y2.1, i64 y4.1, i64 o2.Chan, i64 o2.Val, i64 o2.Slot, i64 o2.Until, i64 o2.Since, .row 4 (o2.Alts).length], .row 3 1 (encL (eInt .i64) o2.Vars), .row 124 5 (encL T_api_Alt.enc o2.Alts), .ghost (gv 0) (.ptr 0 0), .ghost (gv 1) (.ptr 1 0), .ghost (gv 2) (.ptr 2 0), .ghost (gv 3) (.row 3 0), .ghost (gv 4) (.row 4 0), .blk 134 [.ptr 0 0]]⟩) [2, 6, 7, 8] [0, 1, 2, 3, 4, 5, 6, 7, 8, 9, 10] [] ?_
  refine At.roundN ?_
  refine At.sR [2, 6, 7, 8, 9] [0, 1, 2, 3, 4, 5, 6, 7, 8, 9, 10] [] ?_
  refine At.seq ?_
  refine At.cy ?_
  refine At.nR [2, 6, 7, 8] [0, 1, 2, 3, 4, 5, 6, 7, 8, 9, 10] ?_
  refine At.skip (norm ?_)
  refine At.seq ?_
  refine At.block ?_
  refine At.sR [2, 5, 6, 7, 8] [0, 1, 2, 3, 4, 5, 6, 7, 8, 9, 10] [oT 0 (⟨by decide, by decide⟩ : Within 2 7)] ?_
  obtain ⟨y6, hy6, h⟩ := bs h
  refine At.rG [2, 6, 7, 8] [0, 1, 2, 3, 4, 5, 6, 7, 8, 9, 10] [cT 3 1 [0] (C_wire_Reader_Int y4.2 y6 hy6)] (norm ?_)
  refine At.rG [2, 6, 7, 8] [0, 1, 2, 3, 4, 5, 6, 7, 8, 9, 10] [] ?_
  refine At.roundN ?_
  refine At.seq ?_
  refine At.rK (st' := ⟨[(2, .ptr 10 0), (6, .view 1 0 7), (7, i64 7), (8, i64 3), (9, bo true)], [.blk 130 (T_wire_Reader.pvs y6.2), .blk 136 [.ptr 2 3, .ptr 2 4, .ptr 2 5, .ptr 2 6, .ptr 2 7, .ptr 2 8, .ptr 2 9], .blk 104 [i64 o2.Def, i64 o2.At, .row 3 (o2.Vars).length, i64 y2.1, i64 y4.1, i64 y6.1, i64 o2.Val, i64 o2.Slot, i64 o2.Until, i64 o2.Since, .row 4 (o2.Alts).length], .row 3 1 (encL (eInt .i64) o2.Vars), .row 124 5 (encL T_api_Alt.enc o2.Alts), .ghost (gv 0) (.ptr 0 0), .ghost (gv 1) (.ptr 1 0), .ghost (gv 2) (.ptr 2 0), .ghost (gv 3) (.row 3 0), .ghost (gv 4) (.row 4 0), .blk 134 [.ptr 0 0]]⟩) [2, 6, 7, 8, 9] [0, 1, 2, 3, 4, 5, 6, 7, 8, 9, 10] [] (norm ?_)
  refine At.seq ?_
  refine At.cy ?_
  refine At.nR [2, 6, 7, 8] [0, 1, 2, 3, 4, 5, 6, 7, 8, 9, 10] ?_
  refine At.skip (norm ?_)
  refine At.seq ?_
  refine At.block ?_
  refine At.sR [2, 5, 6, 7, 8] [0, 1, 2, 3, 4, 5, 6, 7, 8, 9, 10] [oT 0 (⟨by decide, by decide⟩ : Within 3 7)] ?_
  obtain ⟨y8, hy8, h⟩ := bs h
  refine At.rG [2, 6, 7, 8] [0, 1, 2, 3, 4, 5, 6, 7, 8, 9, 10] [cT 3 1 [0] (C_wire_Reader_Int y6.2 y8 hy8)] (norm ?_)
  refine At.rG [2, 6, 7, 8] [0, 1, 2, 3, 4, 5, 6, 7, 8, 9, 10] [] ?_
  refine At.roundN ?_
  refine At.sR [2, 6, 7, 8, 9] [0, 1, 2, 3, 4, 5, 6, 7, 8, 9, 10] [] ?_
  refine At.seq ?_
  refine At.cy ?_
  refine At.nK (st' := ⟨[(2, .ptr 10 0), (6, .view 1 0 7), (7, i64 7), (8, i64 4)], [.blk 130 (T_wire_Reader.pvs y8.2), .blk 136 [.ptr 2 3, .ptr 2 4, .ptr 2 5, .ptr 2 6, .ptr 2 7, .ptr 2 8, .ptr 2 9], .blk 104 [i64 o2.Def, i64 o2.At, .row 3 (o2.Vars).length, i64 y2.1, i64 y4.1, i64 y6.1, i64 y8.1, i64 o2.Slot, i64 o2.Until, i64 o2.Since, .row 4 (o2.Alts).length], .row 3 1 (encL (eInt .i64) o2.Vars), .row 124 5 (encL T_api_Alt.enc o2.Alts), .ghost (gv 0) (.ptr 0 0), .ghost (gv 1) (.ptr 1 0), .ghost (gv 2) (.ptr 2 0), .ghost (gv 3) (.row 3 0), .ghost (gv 4) (.row 4 0), .blk 134 [.ptr 0 0]]⟩) [2, 6, 7, 8] [0, 1, 2, 3, 4, 5, 6, 7, 8, 9, 10] ?_
  refine At.skip (norm ?_)
  refine At.seq ?_
  refine At.block ?_
  refine At.sR [2, 5, 6, 7, 8] [0, 1, 2, 3, 4, 5, 6, 7, 8, 9, 10] [oT 0 (⟨by decide, by decide⟩ : Within 4 7)] ?_
  obtain ⟨y10, hy10, h⟩ := bs h
  refine At.rG [2, 6, 7, 8] [0, 1, 2, 3, 4, 5, 6, 7, 8, 9, 10] [cT 3 1 [0] (C_wire_Reader_Int y8.2 y10 hy10)] (norm ?_)
  refine At.rG [2, 6, 7, 8] [0, 1, 2, 3, 4, 5, 6, 7, 8, 9, 10] [] ?_
  refine At.roundN ?_
  refine At.sR [2, 6, 7, 8, 9] [0, 1, 2, 3, 4, 5, 6, 7, 8, 9, 10] [] ?_
  refine At.seq ?_
  refine At.cy ?_
  refine At.nR [2, 6, 7, 8] [0, 1, 2, 3, 4, 5, 6, 7, 8, 9, 10] ?_
  refine At.skip (norm ?_)
  refine At.seq ?_
  refine At.block ?_
  refine At.seq ?_
  refine At.rK (st' := ⟨[(2, .ptr 10 0), (5, .ptr 2 8), (6, .view 1 0 7), (7, i64 7), (8, i64 5)], [.blk 130 (T_wire_Reader.pvs y10.2), .blk 136 [.ptr 2 3, .ptr 2 4, .ptr 2 5, .ptr 2 6, .ptr 2 7, .ptr 2 8, .ptr 2 9], .blk 104 [i64 o2.Def, i64 o2.At, .row 3 (o2.Vars).length, i64 y2.1, i64 y4.1, i64 y6.1, i64 y8.1, i64 y10.1, i64 o2.Until, i64 o2.Since, .row 4 (o2.Alts).length], .row 3 1 (encL (eInt .i64) o2.Vars), .row 124 5 (encL T_api_Alt.enc o2.Alts), .ghost (gv 0) (.ptr 0 0), .ghost (gv 1) (.ptr 1 0), .ghost (gv 2) (.ptr 2 0), .ghost (gv 3) (.row 3 0), .ghost (gv 4) (.row 4 0), .blk 134 [.ptr 0 0]]⟩) [2, 5, 6, 7, 8] [0, 1, 2, 3, 4, 5, 6, 7, 8, 9, 10] [oT 0 (⟨by decide, by decide⟩ : Within 5 7)] (norm ?_)
  obtain ⟨y12, hy12, h⟩ := bs h
  refine At.rG [2, 6, 7, 8] [0, 1, 2, 3, 4, 5, 6, 7, 8, 9, 10] [cT 3 1 [0] (C_wire_Reader_Int y10.2 y12 hy12)] (norm ?_)
  refine At.rG [2, 6, 7, 8] [0, 1, 2, 3, 4, 5, 6, 7, 8, 9, 10] [] ?_
  refine At.roundN ?_
  refine At.sR [2, 6, 7, 8, 9] [0, 1, 2, 3, 4, 5, 6, 7, 8, 9, 10] [] ?_
  refine At.seq ?_
  refine At.cy ?_
  refine At.nR [2, 6, 7, 8] [0, 1, 2, 3, 4, 5, 6, 7, 8, 9, 10] ?_
  refine At.skip (norm ?_)
  refine At.seq ?_
  refine At.block ?_
  refine At.sR [2, 5, 6, 7, 8] [0, 1, 2, 3, 4, 5, 6, 7, 8, 9, 10] [oT 0 (⟨by decide, by decide⟩ : Within 6 7)] ?_
  obtain ⟨y14, hy14, h⟩ := bs h
  refine At.rK (st' := ⟨[(2, .ptr 10 0), (6, .view 1 0 7), (7, i64 7), (8, i64 6)], [.blk 130 (T_wire_Reader.pvs y14.2), .blk 136 [.ptr 2 3, .ptr 2 4, .ptr 2 5, .ptr 2 6, .ptr 2 7, .ptr 2 8, .ptr 2 9], .blk 104 [i64 o2.Def, i64 o2.At, .row 3 (o2.Vars).length, i64 y2.1, i64 y4.1, i64 y6.1, i64 y8.1, i64 y10.1, i64 y12.1, i64 y14.1, .row 4 (o2.Alts).length], .row 3 1 (encL (eInt .i64) o2.Vars), .row 124 5 (encL T_api_Alt.enc o2.Alts), .ghost (gv 0) (.ptr 0 0), .ghost (gv 1) (.ptr 1 0), .ghost (gv 2) (.ptr 2 0), .ghost (gv 3) (.row 3 0), .ghost (gv 4) (.row 4 0), .blk 134 [.ptr 0 0]]⟩) [2, 6, 7, 8] [0, 1, 2, 3, 4, 5, 6, 7, 8, 9, 10] [cT 3 1 [0] (C_wire_Reader_Int y12.2 y14 hy14)] (norm ?_)
  refine At.rG [2, 6, 7, 8] [0, 1, 2, 3, 4, 5, 6, 7, 8, 9, 10] [] ?_
  refine At.roundN ?_
  refine At.sR [2, 6, 7, 8, 9] [0, 1, 2, 3, 4, 5, 6, 7, 8, 9, 10] [] ?_
  refine At.seq ?_
  refine At.cn ?_
  refine At.nR [] [0, 1, 2, 3, 4, 5, 6, 7, 8, 9] ?_
  obtain rfl := sq h
  refine At.exit (edq (l := []) (ks := []) (ρ := [0, 1, 2, 3, 4, 5, 6, 7, 8, 9]) (st' := ⟨[], [.blk 130 (T_wire_Reader.pvs y14.2), .blk 136 [.ptr 2 3, .ptr 2 4, .ptr 2 5, .ptr 2 6, .ptr 2 7, .ptr 2 8, .ptr 2 9], .blk 104 [i64 o2.Def, i64 o2.At, .row 3 (o2.Vars).length, i64 y2.1, i64 y4.1, i64 y6.1, i64 y8.1, i64 y10.1, i64 y12.1, i64 y14.1, .row 4 (o2.Alts).length], .row 3 1 (encL (eInt .i64) o2.Vars), .row 124 5 (encL T_api_Alt.enc o2.Alts), .ghost (gv 0) (.ptr 0 0), .ghost (gv 1) (.ptr 1 0), .ghost (gv 2) (.ptr 2 0), .ghost (gv 3) (.row 3 0), .ghost (gv 4) (.row 4 0)]⟩) (by kernel_rfl) (At.rN hR [0, 1, 2, 3, 4]))
theorem C_dump_reader_into_v4 (o0 : T_wire_Reader) (o2 : T_api_Alt) (r : T_wire_Reader × T_api_Alt) (h : F_dump_reader_into_v4 o0 o2 = some r) : FnOK Try.prog 78 [.agg [.ptr 0 0], .view 1 0 5] [.blk 130 (T_wire_Reader.pvs o0), .blk 136 [.ptr 2 0, .ptr 2 1, .ptr 2 2, .ptr 2 3, .ptr 2 4], .blk 124 (T_api_Alt.pvs o2)] (.tup []) [.blk 130 (T_wire_Reader.pvs r.1), .blk 136 [.ptr 2 0, .ptr 2 1, .ptr 2 2, .ptr 2 3, .ptr 2 4], .blk 124 (T_api_Alt.pvs r.2)] [1, 3, 5] := by
  refine fI Try.func78 rfl fun E gv R hR => ?_
  refine At.sR [1, 2] [0, 1, 2, 3, 4, 5, 6] [] ?_
  refine At.sR [2, 6, 7, 8] [0, 1, 2, 3, 4, 5, 6] [] ?_
  refine At.block ?_
  refine At.loopN 6 ?_
  refine At.roundN ?_
  refine At.sR [2, 6, 7, 8, 9] [0, 1, 2, 3, 4, 5, 6] [] ?_
  refine At.seq ?_
  refine At.cy ?_
  refine At.nR [2, 6, 7, 8] [0, 1, 2, 3, 4, 5, 6] ?_
  refine At.skip (norm ?_)
  refine At.seq ?_
  refine At.block ?_
  refine At.sR [2, 5, 6, 7, 8] [0, 1, 2, 3, 4, 5, 6] [oT 0 (⟨by decide, by decide⟩ : Within 0 5)] ?_
  obtain ⟨y2, hy2, h⟩ := bs h
  refine At.rK (st' := ⟨[(2, .ptr 6 0), (6, .view 1 0 5), (7, i64 5), (8, i64 0)], [.blk 130 (T_wire_Reader.pvs y2.2), .blk 136 [.ptr 2 0, .ptr 2 1, .ptr 2 2, .ptr 2 3, .ptr 2 4], .blk 124 [i64 y2.1, i64 o2.Chan, i64 o2.Val, i64 o2.Slot, i64 o2.Goto], .ghost (gv 0) (.ptr 0 0), .ghost (gv 1) (.ptr 1 0), .ghost (gv 2) (.ptr 2 0), .blk 134 [.ptr 0 0]]⟩) [2, 6, 7, 8] [0, 1, 2, 3, 4, 5, 6] [cT 3 1 [0] (C_wire_Reader_Int o0 y2 hy2)] (norm ?_)
  refine At.rG [2, 6, 7, 8] [0, 1, 2, 3, 4, 5, 6] [] ?_
  refine At.roundN ?_
  refine At.sR [2, 6, 7, 8, 9] [0, 1, 2, 3, 4, 5, 6] [] ?_
  refine At.seq ?_
  refine At.cy ?_
  refine At.nR [2, 6, 7, 8] [0, 1, 2, 3, 4, 5, 6] ?_
  refine At.skip (norm ?_)
  refine At.seq ?_
  refine At.block ?_
  refine At.sR [2, 5, 6, 7, 8] [0, 1, 2, 3, 4, 5, 6] [oT 0 (⟨by decide, by decide⟩ : Within 1 5)] ?_
  obtain ⟨y4, hy4, h⟩ := bs h
  refine At.rG [2, 6, 7, 8] [0, 1, 2, 3, 4, 5, 6] [cT 3 1 [0] (C_wire_Reader_Int y2.2 y4 hy4)] (norm ?_)
  refine At.rK (st' := ⟨[(2, .ptr 6 0), (6, .view 1 0 5), (7, i64 5), (8, i64 2)], [.blk 130 (T_wire_Reader.pvs y4.2), .blk 136 [.ptr 2 0, .ptr 2 1, .ptr 2 2, .ptr 2 3, .ptr 2 4], .blk 124 [i64 y2.1, i64 y4.1, i64 o2.Val, i64 o2.Slot, i64 o2.Goto], .ghost (gv 0) (.ptr 0 0), .ghost (gv 1) (.ptr 1 0), .ghost (gv 2) (.ptr 2 0), .blk 134 [.ptr 0 0]]⟩) [2, 6, 7, 8] [0, 1, 2, 3, 4, 5, 6] [] ?_
  refine At.roundN ?_
  refine At.sR [2, 6, 7, 8, 9] [0, 1, 2, 3, 4, 5, 6] [] ?_
  refine At.seq ?_
  refine At.cy ?_
  refine At.nR [2, 6, 7, 8] [0, 1, 2, 3, 4, 5, 6] ?_
  refine At.skip (norm ?_)
  refine At.seq ?_
  refine At.block ?_
  refine At.sR [2, 5, 6, 7, 8] [0, 1, 2, 3, 4, 5, 6] [oT 0 (⟨by decide, by decide⟩ : Within 2 5)] ?_
  obtain ⟨y6, hy6, h⟩ := bs h
  refine At.rG [2, 6, 7, 8] [0, 1, 2, 3, 4, 5, 6] [cT 3 1 [0] (C_wire_Reader_Int y4.2 y6 hy6)] (norm ?_)
  refine At.rG [2, 6, 7, 8] [0, 1, 2, 3, 4, 5, 6] [] ?_
  refine At.roundN ?_
  refine At.seq ?_
  refine At.rK (st' := ⟨[(2, .ptr 6 0), (6, .view 1 0 5), (7, i64 5), (8, i64 3), (9, bo true)], [.blk 130 (T_wire_Reader.pvs y6.2), .blk 136 [.ptr 2 0, .ptr 2 1, .ptr 2 2, .ptr 2 3, .ptr 2 4], .blk 124 [i64 y2.1, i64 y4.1, i64 y6.1, i64 o2.Slot, i64 o2.Goto], .ghost (gv 0) (.ptr 0 0), .ghost (gv 1) (.ptr 1 0), .ghost (gv 2) (.ptr 2 0), .blk 134 [.ptr 0 0]]⟩) [2, 6, 7, 8, 9] [0, 1, 2, 3, 4, 5, 6] [] (norm ?_)
  refine At.seq ?_
  refine At.cy ?_
  refine At.nR [2, 6, 7, 8] [0, 1, 2, 3, 4, 5, 6] ?_
  refine At.skip (norm ?_)
  refine At.seq ?_
  refine At.block ?_
  refine At.sR [2, 5, 6, 7, 8] [0, 1, 2, 3, 4, 5, 6] [oT 0 (⟨by decide, by decide⟩ : Within 3 5)] ?_
  obtain ⟨y8, hy8, h⟩ := bs h
  refine At.rG [2, 6, 7, 8] [0, 1, 2, 3, 4, 5, 6] [cT 3 1 [0] (C_wire_Reader_Int y6.2 y8 hy8)] (norm ?_)
  refine At.rG [2, 6, 7, 8] [0, 1, 2, 3, 4, 5, 6] [] ?_
  refine At.roundN ?_
  refine At.sR [2, 6, 7, 8, 9] [0, 1, 2, 3, 4, 5, 6] [] ?_
  refine At.seq ?_
  refine At.cy ?_
  refine At.nK (st' := ⟨[(2, .ptr 6 0), (6, .view 1 0 5), (7, i64 5), (8, i64 4)], [.blk 130 (T_wire_Reader.pvs y8.2), .blk 136 [.ptr 2 0, .ptr 2 1, .ptr 2 2, .ptr 2 3, .ptr 2 4], .blk 124 [i64 y2.1, i64 y4.1, i64 y6.1, i64 y8.1, i64 o2.Goto], .ghost (gv 0) (.ptr 0 0), .ghost (gv 1) (.ptr 1 0), .ghost (gv 2) (.ptr 2 0), .blk 134 [.ptr 0 0]]⟩) [2, 6, 7, 8] [0, 1, 2, 3, 4, 5, 6] ?_
  refine At.skip (norm ?_)
  refine At.seq ?_
  refine At.block ?_
  refine At.sR [2, 5, 6, 7, 8] [0, 1, 2, 3, 4, 5, 6] [oT 0 (⟨by decide, by decide⟩ : Within 4 5)] ?_
  obtain ⟨y10, hy10, h⟩ := bs h
  refine At.rG [2, 6, 7, 8] [0, 1, 2, 3, 4, 5, 6] [cT 3 1 [0] (C_wire_Reader_Int y8.2 y10 hy10)] (norm ?_)
  refine At.rG [2, 6, 7, 8] [0, 1, 2, 3, 4, 5, 6] [] ?_
  refine At.roundN ?_
  refine At.sR [2, 6, 7, 8, 9] [0, 1, 2, 3, 4, 5, 6] [] ?_
  refine At.seq ?_
  refine At.cn ?_
  refine At.nR [] [0, 1, 2, 3, 4, 5] ?_
  obtain rfl := sq h
  refine At.exit (edq (l := []) (ks := []) (ρ := [0, 1, 2, 3, 4, 5]) (st' := ⟨[], [.blk 130 (T_wire_Reader.pvs y10.2), .blk 136 [.ptr 2 0, .ptr 2 1, .ptr 2 2, .ptr 2 3, .ptr 2 4], .blk 124 [i64 y2.1, i64 y4.1, i64 y6.1, i64 y8.1, i64 y10.1], .ghost (gv 0) (.ptr 0 0), .ghost (gv 1) (.ptr 1 0), .ghost (gv 2) (.ptr 2 0)]⟩) (by kernel_rfl) (At.rN hR [0, 1, 2]))
theorem C_dump_reader_proc_1 (o1 : T_wire_Reader) (o2 : T_api_Proc) (r : T_wire_Reader × T_api_Proc) (h : F_dump_reader_proc_1 o1 o2 = some r) : FnOK Try.prog 92 [.ptr 0 0, .ptr 2 0] [.blk 134 [.ptr 1 0], .blk 130 (T_wire_Reader.pvs o1), .blk 104 [i64 o2.Def, i64 o2.At, .row 3 (o2.Vars).length, i64 o2.Fuel, i64 o2.Mode, i64 o2.Chan, i64 o2.Val, i64 o2.Slot, i64 o2.Until, i64 o2.Since, .row 4 (o2.Alts).length], .row 3 1 (encL (eInt .i64) o2.Vars), .row 124 5 (encL T_api_Alt.enc o2.Alts)] (.tup []) [.blk 134 [.ptr 1 0], .blk 130 (T_wire_Reader.pvs r.1), .blk 104 [i64 r.2.Def, i64 r.2.At, .row 3 (r.2.Vars).length, i64 r.2.Fuel, i64 r.2.Mode, i64 r.2.Chan, i64 r.2.Val, i64 r.2.Slot, i64 r.2.Until, i64 r.2.Since, .row 4 (r.2.Alts).length], .row 3 1 (encL (eInt .i64) r.2.Vars), .row 124 5 (encL T_api_Alt.enc r.2.Alts)] [1, 3, 5, 6, 8, 9] := by
  refine fI Try.func92 rfl fun E gv R hR => ?_
  refine At.sR [0, 1, 2] [0, 1, 2, 3, 4, 5, 6, 7, 8, 9, 10] [] ?_
  obtain ⟨y2, hy2, h⟩ := bs h
  refine At.sR [1, 2] [0, 1, 2, 3, 4, 5, 6, 7, 8, 9, 10] [cT 7 3 [1, 11, 10] (C_dump_reader_into_v4 o1 (⟨0, 0, 0, 0, 0⟩ : T_api_Alt) y2 hy2)] ?_
  obtain ⟨g3, h⟩ := gs h
  obtain rfl := sq h
  refine At.rG [] [0, 1, 2, 3, 4, 5, 6, 7, 8, 9] [aT T_api_Alt.enc_len 4 o2.Alts ([y2.2]) rfl g3] (edq (l := []) (ks := []) (ρ := [0, 1, 2, 3, 4, 5, 6, 7, 8, 9]) (st' := ⟨[], [.blk 134 [.ptr 1 0], .blk 130 (T_wire_Reader.pvs y2.1), .blk 104 [i64 o2.Def, i64 o2.At, .row 3 (o2.Vars).length, i64 o2.Fuel, i64 o2.Mode, i64 o2.Chan, i64 o2.Val, i64 o2.Slot, i64 o2.Until, i64 o2.Since, .row 4 ((o2.Alts ++ [y2.2])).length], .row 3 1 (encL (eInt .i64) o2.Vars), .row 124 5 (encL T_api_Alt.enc (o2.Alts ++ [y2.2])), .ghost (gv 0) (.ptr 0 0), .ghost (gv 1) (.ptr 1 0), .ghost (gv 2) (.ptr 2 0), .ghost (gv 3) (.row 3 0), .ghost (gv 4) (.undef)]⟩) (by kernel_rfl) (At.rN hR [0, 1, 2, 3, 4]))
theorem C_dump_reader_each_v2 (o0 : T_wire_Reader) (o2 : T_api_Proc) (r : T_wire_Reader × T_api_Proc) (h : F_dump_reader_each_v2 o0 o2 = some r) : FnOK Try.prog 79 [.agg [.ptr 0 0], .fn (.func 92) [] [.ptr 1 0, .ptr 2 0]] [.blk 130 (T_wire_Reader.pvs o0), .blk 134 [.ptr 0 0], .blk 104 [i64 o2.Def, i64 o2.At, .row 3 (o2.Vars).length, i64 o2.Fuel, i64 o2.Mode, i64 o2.Chan, i64 o2.Val, i64 o2.Slot, i64 o2.Until, i64 o2.Since, .row 4 (o2.Alts).length], .row 3 1 (encL (eInt .i64) o2.Vars), .row 124 5 (encL T_api_Alt.enc o2.Alts)] (.tup []) [.blk 130 (T_wire_Reader.pvs r.1), .blk 134 [.ptr 0 0], .blk 104 [i64 r.2.Def, i64 r.2.At, .row 3 (r.2.Vars).length, i64 r.2.Fuel, i64 r.2.Mode, i64 r.2.Chan, i64 r.2.Val, i64 r.2.Slot, i64 r.2.Until, i64 r.2.Since, .row 4 (r.2.Alts).length], .row 3 1 (encL (eInt .i64) r.2.Vars), .row 124 5 (encL T_api_Alt.enc r.2.Alts)] [1, 3, 5, 6, 8, 9] := by
  refine fI Try.func79 rfl fun E gv R hR => ?_
  refine At.sR [1, 2] [0, 1, 2, 3, 4, 5, 6, 7, 8, 9, 10] [] ?_
  obtain ⟨y2, hy2, h⟩ := bs h
  refine At.sR [1, 2, 4] [0, 1, 2, 3, 4, 5, 6, 7, 8, 9, 10] [cT 2 1 [0] (C_wire_Reader_Upto 4096 o0 y2 hy2)] ?_
  refine At.sR [1, 2, 4, 5] [0, 1, 2, 3, 4, 5, 6, 7, 8, 9, 10] [] ?_
  refine At.block ?_
  refine At.nK (st' := ⟨[(1, .fn (.func 92) [] [.ptr 1 0, .ptr 2 0]), (2, .ptr 10 0), (4, i64 y2.1), (5, i64 0)], [.blk 130 (T_wire_Reader.pvs y2.2), .blk 134 [.ptr 0 0], .blk 104 [i64 o2.Def, i64 o2.At, .row 3 (o2.Vars).length, i64 o2.Fuel, i64 o2.Mode, i64 o2.Chan, i64 o2.Val, i64 o2.Slot, i64 o2.Until, i64 o2.Since, .row 4 (o2.Alts).length], .row 3 1 (encL (eInt .i64) o2.Vars), .row 124 5 (encL T_api_Alt.enc o2.Alts), .ghost (gv 0) (.ptr 0 0), .ghost (gv 1) (.ptr 1 0), .ghost (gv 2) (.ptr 2 0), .ghost (gv 3) (.row 3 0), .ghost (gv 4) (.row 4 0), .blk 134 [.ptr 0 0]]⟩) [1, 2, 4, 5] [0, 1, 2, 3, 4, 5, 6, 7, 8, 9, 10] ?_
  refine At.edNar [.hideG 9] [1, 2, 4, 5] [0, 1, 2, 3, 4, 5, 6, 7, 8, 9, 10] (st' := ⟨[(1, .fn (.func 92) [] [.ptr 1 0, .ptr 2 0]), (2, .ptr 10 0), (4, i64 y2.1), (5, i64 0)], [.blk 130 (T_wire_Reader.pvs y2.2), .blk 134 [.ptr 0 0], .blk 104 [i64 o2.Def, i64 o2.At, .row 3 (o2.Vars).length, i64 o2.Fuel, i64 o2.Mode, i64 o2.Chan, i64 o2.Val, i64 o2.Slot, i64 o2.Until, i64 o2.Since, .row 4 (o2.Alts).length], .row 3 1 (encL (eInt .i64) o2.Vars), .row 124 5 (encL T_api_Alt.enc o2.Alts), .ghost (gv 0) (.ptr 0 0), .ghost (gv 1) (.ptr 1 0), .ghost (gv 2) (.ptr 2 0), .ghost (gv 3) (.row 3 0), .ghost (gv 4) (.undef), .blk 134 [.ptr 0 0]]⟩) (by kernel_rfl) ?_
  refine At.lp (fun s : (Int × ByteArray × Int × Int × Int × Int × Int × Int × Int × Int × Int × Int × (List Int) × (List T_api_Alt)) => ⟨[(1, .fn (.func 92) [] [.ptr 1 0, .ptr 2 0]), (2, .ptr 10 0), (4, i64 y2.1), (5, i64 s.1)], [.blk 130 [sv s.2.1, i64 s.2.2.1], .blk 134 [.ptr 0 0], .blk 104 [i64 s.2.2.2.1, i64 s.2.2.2.2.1, .row 3 (s.2.2.2.2.2.2.2.2.2.2.2.2.1).length, i64 s.2.2.2.2.2.1, i64 s.2.2.2.2.2.2.1, i64 s.2.2.2.2.2.2.2.1, i64 s.2.2.2.2.2.2.2.2.1, i64 s.2.2.2.2.2.2.2.2.2.1, i64 s.2.2.2.2.2.2.2.2.2.2.1, i64 s.2.2.2.2.2.2.2.2.2.2.2.1, .row 4 (s.2.2.2.2.2.2.2.2.2.2.2.2.2).length], .row 3 1 (encL (eInt .i64) s.2.2.2.2.2.2.2.2.2.2.2.2.1), .row 124 5 (encL T_api_Alt.enc s.2.2.2.2.2.2.2.2.2.2.2.2.2), .ghost (gv 0) (.ptr 0 0), .ghost (gv 1) (.ptr 1 0), .ghost (gv 2) (.ptr 2 0), .ghost (gv 3) (.row 3 0), .ghost (gv 4) (.undef), .blk 134 [.ptr 0 0]]⟩) h ?_
  rintro ⟨x3, x4, x5, x6, x7, x8, x9, x10, x11, x12, x13, x14, x15, x16⟩ oo17 h f18
  replace h : F_dump_reader_each_v2_L2 y2 x3 x4 x5 x6 x7 x8 x9 x10 x11 x12 x13 x14 x15 x16 = some oo17 := h
  refine At.seq ?_
  refine At.seqJ (S := Bool) (fun s => ⟨[(1, .fn (.func 92) [] [.ptr 1 0, .ptr 2 0]), (2, .ptr 10 0), (4, i64 y2.1), (5, i64 x3), (17, bo s)], [.blk 130 [sv x4, i64 x5], .blk 134 [.ptr 0 0], .blk 104 [i64 x6, i64 x7, .row 3 (x15).length, i64 x8, i64 x9, i64 x10, i64 x11, i64 x12, i64 x13, i64 x14, .row 4 (x16).length], .row 3 1 (encL (eInt .i64) x15), .row 124 5 (encL T_api_Alt.enc x16), .ghost (gv 0) (.ptr 0 0), .ghost (gv 1) (.ptr 1 0), .ghost (gv 2) (.ptr 2 0), .ghost (gv 3) (.row 3 0), .ghost (gv 4) (.undef), .blk 134 [.ptr 0 0]]⟩) (fun s => F_dump_reader_each_v2_J1 x3 x4 x5 x6 x7 x8 x9 x10 x11 x12 x13 x14 x15 x16 s = some oo17) ?_ ?_
  · rcases cs h with ⟨b33, h⟩ | ⟨b33, h⟩
    · obtain ⟨y34, hy34, h⟩ := bs h
      exact At.rK [1, 2, 4, 5, 17] [0, 1, 2, 3, 4, 5, 6, 7, 8, 9, 10] [bT 3 b33, cT 6 1 [0] (C_wire_Reader_Err (⟨x4, x5⟩ : T_wire_Reader) y34 hy34)] fun _ _ i => ⟨(y34 == 0), h, i⟩
    · exact At.rK [1, 2, 4, 5, 17] [0, 1, 2, 3, 4, 5, 6, 7, 8, 9, 10] [bT 3 b33] fun _ _ i => ⟨false, h, i⟩
  · intro x27 h
    refine At.cd h (fun b28 h => ?_) (fun b28 h => ?_)
    · refine At.nR [1, 2, 4, 5] [0, 1, 2, 3, 4, 5, 6, 7, 8, 9, 10] ?_
      refine At.skip (norm ?_)
      refine At.seq ?_
      refine At.block ?_
      obtain ⟨y30, hy30, h⟩ := bs h
      refine At.rG [1, 2, 4, 5] [0, 1, 2, 3, 4, 5, 6, 7, 8, 9, 10] [cT 1 5 [1, 0, 2, 3, 4] (C_dump_reader_proc_1 (⟨x4, x5⟩ : T_wire_Reader) (⟨x6, x7, x15, x8, x9, x10, x11, x12, x13, x14, x16⟩ : T_api_Proc) y30 hy30)] (norm ?_)
      exact At.rK [1, 2, 4, 5] [0, 1, 2, 3, 4, 5, 6, 7, 8, 9, 10] [] fun _ _ i => ⟨_, li h, i⟩
    · refine At.nR [] [0, 1, 2, 3, 4, 5, 6, 7, 8, 9] ?_
      obtain ⟨r31, h, e32⟩ := mr h
      rw [f18 _ e32] at h
      obtain rfl := sq h
      refine At.exit (edq (l := []) (ks := []) (ρ := [0, 1, 2, 3, 4, 5, 6, 7, 8, 9]) (st' := ⟨[], [.blk 130 [sv x4, i64 x5], .blk 134 [.ptr 0 0], .blk 104 [i64 x6, i64 x7, .row 3 (x15).length, i64 x8, i64 x9, i64 x10, i64 x11, i64 x12, i64 x13, i64 x14, .row 4 (x16).length], .row 3 1 (encL (eInt .i64) x15), .row 124 5 (encL T_api_Alt.enc x16), .ghost (gv 0) (.ptr 0 0), .ghost (gv 1) (.ptr 1 0), .ghost (gv 2) (.ptr 2 0), .ghost (gv 3) (.row 3 0), .ghost (gv 4) (.undef)]⟩) (by kernel_rfl) (At.rN hR [0, 1, 2, 3, 4]))
theorem C_dump_reader_proc (o0 : T_wire_Reader) (r : T_api_Proc × T_wire_Reader) (h : F_dump_reader_proc o0 = some r) : FnOK Try.prog 81 [.agg [.ptr 0 0]] [.blk 130 (T_wire_Reader.pvs o0)] (.agg (T_api_Proc.pvs r.1)) [.blk 130 (T_wire_Reader.pvs r.2)] [1] := by
  refine fI Try.func81 rfl fun E gv R hR => ?_
  refine At.sR [1, 2] [0, 1, 2, 3] [] ?_
  refine At.sR [1, 2, 3] [0, 1, 2, 3, 4] [] ?_
  refine At.seq ?_
  refine At.eds [.ownO 4 2 3 1] (st' := ⟨[(1, .ptr 2 0), (2, .ptr 3 0), (3, .ptr 4 0)], [.blk 130 (T_wire_Reader.pvs o0), .ghost (gv 0) (.ptr 0 0), .blk 134 [.ptr 0 0], .blk 104 [i64 0, i64 0, .d (.list true 0 []), i64 0, i64 0, i64 0, i64 0, i64 0, i64 0, i64 0, .d (.list true 0 [])], .blk 104 [i64 0, i64 0, .row 5 ([] : List Int).length, i64 0, i64 0, i64 0, i64 0, i64 0, i64 0, i64 0, .d (.list true 0 [])], .row 3 1 (encL (eInt .i64) ([]))]⟩) (by kernel_rfl) ?_
  refine At.eds [.ownO 4 10 124 5] (st' := ⟨[(1, .ptr 2 0), (2, .ptr 3 0), (3, .ptr 4 0)], [.blk 130 (T_wire_Reader.pvs o0), .ghost (gv 0) (.ptr 0 0), .blk 134 [.ptr 0 0], .blk 104 [i64 0, i64 0, .d (.list true 0 []), i64 0, i64 0, i64 0, i64 0, i64 0, i64 0, i64 0, .d (.list true 0 [])], .blk 104 [i64 0, i64 0, .row 5 ([] : List Int).length, i64 0, i64 0, i64 0, i64 0, i64 0, i64 0, i64 0, .row 6 ([] : List T_api_Alt).length], .row 3 1 (encL (eInt .i64) ([])), .row 124 5 (encL T_api_Alt.enc ([]))]⟩) (by kernel_rfl) ?_
  obtain ⟨y2, hy2, h⟩ := bs h
  refine At.rG [1, 2, 3] [0, 1, 2, 3, 4, 5, 6] [cT 4 5 [0, 7, 4, 5, 6] (C_dump_reader_into_v2 o0 (⟨0, 0, ([] : List Int), 0, 0, 0, 0, 0, 0, 0, ([] : List T_api_Alt)⟩ : T_api_Proc) y2 hy2)] (norm ?_)
  obtain ⟨y4, hy4, h⟩ := bs h
  refine At.sR [1, 2, 3] [0, 1, 2, 3, 4, 7, 6] [cT 2 1 [0, 7] (C_wire_Reader_Ints 4096 y2.1 y4 hy4)] ?_
  obtain ⟨y6, hy6, h⟩ := bs h
  refine At.sR [1, 2, 3] [0, 1, 2, 3, 4, 5, 6] [cT 9 5 [0, 7, 4, 5, 6] (C_dump_reader_into_v3 y4.2 (⟨y2.2.Def, y2.2.At, y4.1, y2.2.Fuel, y2.2.Mode, y2.2.Chan, y2.2.Val, y2.2.Slot, y2.2.Until, y2.2.Since, y2.2.Alts⟩ : T_api_Proc) y6 hy6)] ?_
  obtain ⟨y8, hy8, h⟩ := bs h
  refine At.sR [2, 3] [0, 1, 3, 4, 5, 6] [cT 2 5 [0, 2, 4, 5, 6] (C_dump_reader_each_v2 y6.1 y6.2 y8 hy8)] ?_
  refine At.sR [2] [0, 1, 2, 4, 5] [] ?_
  refine At.eN [.settle 3, .settle 4] [2] [0, 1, 2] ?_
  obtain rfl := sq h
  exact At.ret (At.rR hR [0])
theorem C_dump_Read_1 (o0 : T_api_State) (o4 : T_wire_Reader) (r : T_api_State × T_wire_Reader) (h : F_dump_Read_1 o0 o4 = some r) : FnOK Try.prog 80 [.ptr 0 0, .ptr 3 0] [.blk 62 [i64 o0.Now, i64 o0.Since, i64 o0.Halt, i64 o0.Fault, i64 o0.Who, .row 1 (o0.Procs).length, .row 2 (o0.Out).length], .row 104 11 (encL T_api_Proc.enc o0.Procs), .row 3 1 (encL (eInt .i64) o0.Out), .blk 134 [.ptr 4 0], .blk 130 (T_wire_Reader.pvs o4)] (.tup []) [.blk 62 [i64 r.1.Now, i64 r.1.Since, i64 r.1.Halt, i64 r.1.Fault, i64 r.1.Who, .row 1 (r.1.Procs).length, .row 2 (r.1.Out).length], .row 104 11 (encL T_api_Proc.enc r.1.Procs), .row 3 1 (encL (eInt .i64) r.1.Out), .blk 134 [.ptr 4 0], .blk 130 (T_wire_Reader.pvs r.2)] [1, 2, 3, 4, 7, 9] := by
  refine fI Try.func80 rfl fun E gv R hR => ?_
  obtain ⟨y1, hy1, h⟩ := bs h
  obtain ⟨g2, h⟩ := gs h
  obtain rfl := sq h
  refine At.dG 1 [] [0, 1, 2, 3, 4, 5, 6, 7, 8, 9] [cT 3 1 [4] (C_dump_reader_proc o4 y1 hy1), aT T_api_Proc.enc_len 5 o0.Procs ([y1.1]) rfl g2] (edq (l := []) (ks := []) (ρ := [0, 1, 2, 3, 4, 5, 6, 7, 8, 9]) (st' := ⟨[], [.blk 62 [i64 o0.Now, i64 o0.Since, i64 o0.Halt, i64 o0.Fault, i64 o0.Who, .row 1 ((o0.Procs ++ [y1.1])).length, .row 2 (o0.Out).length], .row 104 11 (encL T_api_Proc.enc (o0.Procs ++ [y1.1])), .row 3 1 (encL (eInt .i64) o0.Out), .blk 134 [.ptr 4 0], .blk 130 (T_wire_Reader.pvs y1.2), .ghost (gv 0) (.ptr 0 0), .ghost (gv 1) (.undef), .ghost (gv 2) (.row 2 0), .ghost (gv 3) (.ptr 3 0), .ghost (gv 4) (.ptr 4 0)]⟩) (by kernel_rfl) (At.rN hR [0, 1, 2, 3, 4]))
theorem C_dump_reader_each (o0 : T_wire_Reader) (o1 : T_api_State) (r : T_wire_Reader × T_api_State) (h : F_dump_reader_each o0 o1 = some r) : FnOK Try.prog 79 [.agg [.ptr 0 0], .fn (.func 80) [] [.ptr 1 0, .ptr 4 0]] [.blk 130 (T_wire_Reader.pvs o0), .blk 62 [i64 o1.Now, i64 o1.Since, i64 o1.Halt, i64 o1.Fault, i64 o1.Who, .row 2 (o1.Procs).length, .row 3 (o1.Out).length], .row 104 11 (encL T_api_Proc.enc o1.Procs), .row 3 1 (encL (eInt .i64) o1.Out), .blk 134 [.ptr 0 0]] (.tup []) [.blk 130 (T_wire_Reader.pvs r.1), .blk 62 [i64 r.2.Now, i64 r.2.Since, i64 r.2.Halt, i64 r.2.Fault, i64 r.2.Who, .row 2 (r.2.Procs).length, .row 3 (r.2.Out).length], .row 104 11 (encL T_api_Proc.enc r.2.Procs), .row 3 1 (encL (eInt .i64) r.2.Out), .blk 134 [.ptr 0 0]] [1, 3, 4, 5, 6, 9] := by
  refine fI Try.func79 rfl fun E gv R hR => ?_
  refine At.sR [1, 2] [0, 1, 2, 3, 4, 5, 6, 7, 8, 9, 10] [] ?_
  obtain ⟨y2, hy2, h⟩ := bs h
  refine At.sR [1, 2, 4] [0, 1, 2, 3, 4, 5, 6, 7, 8, 9, 10] [cT 2 1 [0] (C_wire_Reader_Upto 4096 o0 y2 hy2)] ?_
  refine At.sR [1, 2, 4, 5] [0, 1, 2, 3, 4, 5, 6, 7, 8, 9, 10] [] ?_
  refine At.block ?_
  refine At.nK (st' := ⟨[(1, .fn (.func 80) [] [.ptr 1 0, .ptr 4 0]), (2, .ptr 10 0), (4, i64 y2.1), (5, i64 0)], [.blk 130 (T_wire_Reader.pvs y2.2), .blk 62 [i64 o1.Now, i64 o1.Since, i64 o1.Halt, i64 o1.Fault, i64 o1.Who, .row 2 (o1.Procs).length, .row 3 (o1.Out).length], .row 104 11 (encL T_api_Proc.enc o1.Procs), .row 3 1 (encL (eInt .i64) o1.Out), .blk 134 [.ptr 0 0], .ghost (gv 0) (.ptr 0 0), .ghost (gv 1) (.ptr 1 0), .ghost (gv 2) (.row 2 0), .ghost (gv 3) (.row 3 0), .ghost (gv 4) (.ptr 4 0), .blk 134 [.ptr 0 0]]⟩) [1, 2, 4, 5] [0, 1, 2, 3, 4, 5, 6, 7, 8, 9, 10] ?_
  refine At.edNar [.hideG 7] [1, 2, 4, 5] [0, 1, 2, 3, 4, 5, 6, 7, 8, 9, 10] (st' := ⟨[(1, .fn (.func 80) [] [.ptr 1 0, .ptr 4 0]), (2, .ptr 10 0), (4, i64 y2.1), (5, i64 0)], [.blk 130 (T_wire_Reader.pvs y2.2), .blk 62 [i64 o1.Now, i64 o1.Since, i64 o1.Halt, i64 o1.Fault, i64 o1.Who, .row 2 (o1.Procs).length, .row 3 (o1.Out).length], .row 104 11 (encL T_api_Proc.enc o1.Procs), .row 3 1 (encL (eInt .i64) o1.Out), .blk 134 [.ptr 0 0], .ghost (gv 0) (.ptr 0 0), .ghost (gv 1) (.ptr 1 0), .ghost (gv 2) (.undef), .ghost (gv 3) (.row 3 0), .ghost (gv 4) (.ptr 4 0), .blk 134 [.ptr 0 0]]⟩) (by kernel_rfl) ?_
  refine At.lp (fun s : (Int × ByteArray × Int × Int × Int × Int × Int × Int × (List T_api_Proc) × (List Int)) => ⟨[(1, .fn (.func 80) [] [.ptr 1 0, .ptr 4 0]), (2, .ptr 10 0), (4, i64 y2.1), (5, i64 s.1)], [.blk 130 [sv s.2.1, i64 s.2.2.1], .blk 62 [i64 s.2.2.2.1, i64 s.2.2.2.2.1, i64 s.2.2.2.2.2.1, i64 s.2.2.2.2.2.2.1, i64 s.2.2.2.2.2.2.2.1, .row 2 (s.2.2.2.2.2.2.2.2.1).length, .row 3 (s.2.2.2.2.2.2.2.2.2).length], .row 104 11 (encL T_api_Proc.enc s.2.2.2.2.2.2.2.2.1), .row 3 1 (encL (eInt .i64) s.2.2.2.2.2.2.2.2.2), .blk 134 [.ptr 0 0], .ghost (gv 0) (.ptr 0 0), .ghost (gv 1) (.ptr 1 0), .ghost (gv 2) (.undef), .ghost (gv 3) (.row 3 0), .ghost (gv 4) (.ptr 4 0), .blk 134 [.ptr 0 0]]⟩) h ?_
  rintro ⟨x3, x4, x5, x6, x7, x8, x9, x10, x11, x12⟩ oo13 h f14
  replace h : F_dump_reader_each_L2 y2 x3 x4 x5 x6 x7 x8 x9 x10 x11 x12 = some oo13 := h
  refine At.seq ?_
  refine At.seqJ (S := Bool) (fun s => ⟨[(1, .fn (.func 80) [] [.ptr 1 0, .ptr 4 0]), (2, .ptr 10 0), (4, i64 y2.1), (5, i64 x3), (17, bo s)], [.blk 130 [sv x4, i64 x5], .blk 62 [i64 x6, i64 x7, i64 x8, i64 x9, i64 x10, .row 2 (x11).length, .row 3 (x12).length], .row 104 11 (encL T_api_Proc.enc x11), .row 3 1 (encL (eInt .i64) x12), .blk 134 [.ptr 0 0], .ghost (gv 0) (.ptr 0 0), .ghost (gv 1) (.ptr 1 0), .ghost (gv 2) (.undef), .ghost (gv 3) (.row 3 0), .ghost (gv 4) (.ptr 4 0), .blk 134 [.ptr 0 0]]⟩) (fun s => F_dump_reader_each_J1 x3 x4 x5 x6 x7 x8 x9 x10 x11 x12 s = some oo13) ?_ ?_
  · rcases cs h with ⟨b29, h⟩ | ⟨b29, h⟩
    · obtain ⟨y30, hy30, h⟩ := bs h
      exact At.rK [1, 2, 4, 5, 17] [0, 1, 2, 3, 4, 5, 6, 7, 8, 9, 10] [bT 3 b29, cT 6 1 [0] (C_wire_Reader_Err (⟨x4, x5⟩ : T_wire_Reader) y30 hy30)] fun _ _ i => ⟨(y30 == 0), h, i⟩
    · exact At.rK [1, 2, 4, 5, 17] [0, 1, 2, 3, 4, 5, 6, 7, 8, 9, 10] [bT 3 b29] fun _ _ i => ⟨false, h, i⟩
  · intro x23 h
    refine At.cd h (fun b24 h => ?_) (fun b24 h => ?_)
    · refine At.nR [1, 2, 4, 5] [0, 1, 2, 3, 4, 5, 6, 7, 8, 9, 10] ?_
      refine At.skip (norm ?_)
      refine At.seq ?_
      refine At.block ?_
      obtain ⟨y26, hy26, h⟩ := bs h
      refine At.rG [1, 2, 4, 5] [0, 1, 2, 3, 4, 5, 6, 7, 8, 9, 10] [cT 1 5 [1, 2, 3, 4, 0] (C_dump_Read_1 (⟨x6, x7, x8, x9, x10, x11, x12⟩ : T_api_State) (⟨x4, x5⟩ : T_wire_Reader) y26 hy26)] (norm ?_)
      exact At.rK [1, 2, 4, 5] [0, 1, 2, 3, 4, 5, 6, 7, 8, 9, 10] [] fun _ _ i => ⟨_, li h, i⟩
    · refine At.nR [] [0, 1, 2, 3, 4, 5, 6, 7, 8, 9] ?_
      obtain ⟨r27, h, e28⟩ := mr h
      rw [f14 _ e28] at h
      obtain rfl := sq h
      refine At.exit (edq (l := []) (ks := []) (ρ := [0, 1, 2, 3, 4, 5, 6, 7, 8, 9]) (st' := ⟨[], [.blk 130 [sv x4, i64 x5], .blk 62 [i64 x6, i64 x7, i64 x8, i64 x9, i64 x10, .row 2 (x11).length, .row 3 (x12).length], .row 104 11 (encL T_api_Proc.enc x11), .row 3 1 (encL (eInt .i64) x12), .blk 134 [.ptr 0 0], .ghost (gv 0) (.ptr 0 0), .ghost (gv 1) (.ptr 1 0), .ghost (gv 2) (.undef), .ghost (gv 3) (.row 3 0), .ghost (gv 4) (.ptr 4 0)]⟩) (by kernel_rfl) (At.rN hR [0, 1, 2, 3, 4]))
theorem C_dump_Read (o0 : T_wire_Reader) (r : T_api_State × T_wire_Reader) (h : F_dump_Read o0 = some r) : FnOK Try.prog 57 [.ptr 0 0] [.blk 130 (T_wire_Reader.pvs o0)] (.agg (T_api_State.pvs r.1)) [.blk 130 (T_wire_Reader.pvs r.2)] [1] := by
  refine fI Try.func57 rfl fun E gv R hR => ?_
  refine At.sR [0, 2] [0, 1, 2] [] ?_
  refine At.sR [2, 3] [0, 1, 2, 3] [] ?_
  refine At.sR [2, 3, 4] [0, 1, 2, 3, 4] [] ?_
  refine At.seq ?_
  refine At.eds [.ownO 4 5 104 11] (st' := ⟨[(2, .ptr 2 0), (3, .ptr 3 0), (4, .ptr 4 0)], [.blk 130 (T_wire_Reader.pvs o0), .ghost (gv 0) (.ptr 0 0), .blk 62 [i64 0, i64 0, i64 0, i64 0, i64 0, .d (.list true 0 []), .d (.list true 0 [])], .blk 134 [.ptr 0 0], .blk 62 [i64 0, i64 0, i64 0, i64 0, i64 0, .row 5 ([] : List T_api_Proc).length, .d (.list true 0 [])], .row 104 11 (encL T_api_Proc.enc ([]))]⟩) (by kernel_rfl) ?_
  refine At.eds [.ownO 4 6 3 1] (st' := ⟨[(2, .ptr 2 0), (3, .ptr 3 0), (4, .ptr 4 0)], [.blk 130 (T_wire_Reader.pvs o0), .ghost (gv 0) (.ptr 0 0), .blk 62 [i64 0, i64 0, i64 0, i64 0, i64 0, .d (.list true 0 []), .d (.list true 0 [])], .blk 134 [.ptr 0 0], .blk 62 [i64 0, i64 0, i64 0, i64 0, i64 0, .row 5 ([] : List T_api_Proc).length, .row 6 ([] : List Int).length], .row 104 11 (encL T_api_Proc.enc ([])), .row 3 1 (encL (eInt .i64) ([]))]⟩) (by kernel_rfl) ?_
  obtain ⟨y2, hy2, h⟩ := bs h
  refine At.rG [2, 3, 4] [0, 1, 2, 3, 4, 5, 6] [cT 7 5 [0, 7, 4, 5, 6] (C_dump_reader_into o0 (⟨0, 0, 0, 0, 0, ([] : List T_api_Proc), ([] : List Int)⟩ : T_api_State) y2 hy2)] (norm ?_)
  obtain ⟨y4, hy4, h⟩ := bs h
  refine At.sR [2, 3, 4] [0, 1, 2, 3, 4, 5, 6] [cT 2 5 [0, 4, 5, 6, 3] (C_dump_reader_each y2.1 y2.2 y4 hy4)] ?_
  obtain ⟨y6, hy6, h⟩ := bs h
  refine At.sR [2, 3, 4] [0, 1, 2, 3, 4, 5, 7] [cT 2 1 [0, 7] (C_wire_Reader_Ints 1048576 y4.1 y6 hy6)] ?_
  refine At.seq ?_
  obtain ⟨y11, hy11, h⟩ := bs h
  refine At.sR [2, 4, 25] [0, 1, 2, 4, 5, 6] [cT 2 1 [0] (C_wire_Reader_Err y6.2 y11 hy11)] ?_
  refine At.cd h (fun b12 h => ?_) (fun b12 h => ?_)
  · refine At.sR [2] [0, 1, 2] [] ?_
    refine At.eN [.loO 2] [2] [0, 1, 2] ?_
    obtain rfl := sq h
    exact At.ret (At.rR hR [0])
  · refine At.nR [2, 4] [0, 1, 2, 3, 4, 5] ?_
    refine At.skip (norm ?_)
    refine At.seq ?_
    refine At.rK (st' := ⟨[(2, .ptr 2 0)], [.blk 130 (T_wire_Reader.pvs y6.2), .ghost (gv 0) (.ptr 0 0), .blk 62 [i64 y4.2.Now, i64 y4.2.Since, i64 y4.2.Halt, i64 y4.2.Fault, i64 y4.2.Who, .row 3 (y4.2.Procs).length, .row 4 (y6.1).length], .row 104 11 (encL T_api_Proc.enc y4.2.Procs), .row 3 1 (encL (eInt .i64) y6.1)]⟩) [2] [0, 1, 2, 4, 5] [] (norm ?_)
    refine At.eN [.settle 3, .settle 4] [2] [0, 1, 2] ?_
    obtain rfl := sq h
    exact At.ret (At.rR hR [0])
theorem C_trace_mark (p0_0 : Int) (p0_1 : Int) (p0_2 : Int) (p0_3 : (List T_api_Event)) (p0_4 : (List T_api_Mark)) (p1 : ByteArray) (r : T_api_Trace × Int) (h : F_trace_mark p0_0 p0_1 p0_2 p0_3 p0_4 p1 = some r) : FnOK Try.prog 31 [.agg [u32 p0_0, i64 p0_1, i64 p0_2, .d (.list true (p0_3).length (encL T_api_Event.enc p0_3)), .d (.list true (p0_4).length (encL T_api_Mark.enc p0_4))], sv p1] [] (.tup [.agg (T_api_Trace.pvs r.1), i64 r.2]) [] [] := by
  refine fI Try.func31 rfl fun E gv R hR => ?_
  refine At.sR [1, 2, 4] [0, 1] [] ?_
  obtain ⟨y2, hy2, h⟩ := bs h
  refine At.sR [2, 4, 6] [0, 1, 2] [cT 1 0 [2] (C_wire_Open p1 y2 hy2)] ?_
  obtain ⟨y5, hy5, h⟩ := bs h
  obtain ⟨y6, hy6, h⟩ := bs h
  refine At.sR [2, 4, 6, 7] [0, 1, 2, 3] [cT 1 1 [2] (C_wire_Reader_Upto 1048576 y2 y5 hy5), cT 3 1 [2] (C_wire_Reader_Upto 1048576 y5.2 y6 hy6)] ?_
  obtain ⟨y8, hy8, h⟩ := bs h
  refine At.sR [2, 4, 6, 7] [0, 1, 2, 3] [cT 1 1 [2] (C_dump_Read y6.2 y8 hy8)] ?_
  refine At.seq ?_
  obtain ⟨y13, hy13, h⟩ := bs h
  refine At.sR [2, 4, 7, 8] [0, 1, 3] [cT 1 1 [2] (C_wire_Reader_End y8.2 y13 hy13)] ?_
  refine At.seq ?_
  refine At.rK (st' := ⟨[(2, .ptr 0 0), (4, .ptr 1 0), (7, .ptr 2 0), (8, i64 y13), (22, bo (y13 != 0))], [.blk 27 [u32 p0_0, i64 p0_1, i64 p0_2, .d (.list true (p0_3).length (encL T_api_Event.enc p0_3)), .d (.list true (p0_4).length (encL T_api_Mark.enc p0_4))], .blk 27 [u32 0, i64 0, i64 0, .d (.list true 0 []), .d (.list true 0 [])], .blk 64 ([i64 y5.1, i64 y6.1] ++ T_api_State.pvs y8.1)]⟩) [2, 4, 7, 8, 22] [0, 1, 2] [] (norm ?_)
  refine At.cd h (fun b14 h => ?_) (fun b14 h => ?_)
  · refine At.sR [4, 5] [1] [] ?_
    refine At.eN [.loO 0] [4, 5] [0] ?_
    obtain rfl := sq h
    exact At.ret (At.rR hR [])
  · refine At.nR [2, 4, 7] [0, 1, 2] ?_
    refine At.skip (norm ?_)
    obtain ⟨g16, h⟩ := gs h
    refine At.sR [2, 4] [0, 1] [tT 4 ({ orc := .val .nilP, form := some ((p0_4 ++ [(⟨y5.1, y6.1, y8.1⟩ : T_api_Mark)]).length, encL T_api_Mark.enc (p0_4 ++ [(⟨y5.1, y6.1, y8.1⟩ : T_api_Mark)])) }) (allc (len_app p0_4 ([(⟨y5.1, y6.1, y8.1⟩ : T_api_Mark)])) (allc (encL_app T_api_Mark.enc p0_4 ([(⟨y5.1, y6.1, y8.1⟩ : T_api_Mark)])) (allc (app_ok T_api_Mark.enc_len (by decide) g16) (allc (encL_len T_api_Mark.enc_len ([(⟨y5.1, y6.1, y8.1⟩ : T_api_Mark)])) all0))))] ?_
    refine At.sR [4, 5] [1] [] ?_
    refine At.eN [.loO 0] [4, 5] [0] ?_
    obtain rfl := sq h
    exact At.ret (At.rR hR [])
theorem C_trace_end (p0_0 : Int) (p0_1 : Int) (p0_2 : Int) (p0_3 : (List T_api_Event)) (p0_4 : (List T_api_Mark)) (p1 : ByteArray) (r : T_api_Trace × Int) (h : F_trace_end p0_0 p0_1 p0_2 p0_3 p0_4 p1 = some r) : FnOK Try.prog 32 [.agg [u32 p0_0, i64 p0_1, i64 p0_2, .d (.list true (p0_3).length (encL T_api_Event.enc p0_3)), .d (.list true (p0_4).length (encL T_api_Mark.enc p0_4))], sv p1] [] (.tup [.agg (T_api_Trace.pvs r.1), i64 r.2]) [] [] := by
  refine fI Try.func32 rfl fun E gv R hR => ?_
  refine At.sR [1, 2, 4] [0, 1] [] ?_
  obtain ⟨y2, hy2, h⟩ := bs h
  refine At.sR [2, 4, 6] [0, 1, 2] [cT 1 0 [2] (C_wire_Open p1 y2 hy2)] ?_
  obtain ⟨y5, hy5, h⟩ := bs h
  obtain ⟨y6, hy6, h⟩ := bs h
  refine At.sR [2, 4, 6, 7, 8] [0, 1, 2] [cT 1 1 [2] (C_wire_Reader_Num y2 y5 hy5), cT 3 1 [2] (C_wire_Reader_Num y5.2 y6 hy6)] ?_
  refine At.seq ?_
  obtain ⟨y11, hy11, h⟩ := bs h
  refine At.sR [2, 4, 7, 8, 9] [0, 1] [cT 1 1 [2] (C_wire_Reader_End y6.2 y11 hy11)] ?_
  refine At.sR [2, 4, 7, 8, 9, 19] [0, 1] [] ?_
  refine At.cd h (fun b12 h => ?_) (fun b12 h => ?_)
  · refine At.seq ?_
    refine At.rK (st' := ⟨[(4, .ptr 0 0), (5, i64 y11)], [.blk 27 [u32 p0_0, i64 p0_1, i64 p0_2, .d (.list true (p0_3).length (encL T_api_Event.enc p0_3)), .d (.list true (p0_4).length (encL T_api_Mark.enc p0_4))]]⟩) [4, 5] [1] [] (norm ?_)
    refine At.eN [.loO 0] [4, 5] [0] ?_
    obtain rfl := sq h
    exact At.ret (At.rR hR [])
  · refine At.nK (st' := ⟨[(2, .ptr 0 0), (4, .ptr 1 0), (7, u64 y5.1), (8, u64 y6.1)], [.blk 27 [u32 p0_0, i64 p0_1, i64 p0_2, .d (.list true (p0_3).length (encL T_api_Event.enc p0_3)), .d (.list true (p0_4).length (encL T_api_Mark.enc p0_4))], .blk 27 [u32 0, i64 0, i64 0, .d (.list true 0 []), .d (.list true 0 [])]]⟩) [2, 4, 7, 8] [0, 1] ?_
    refine At.skip (norm ?_)
    refine At.seq ?_
    refine At.seqJ (S := Bool) (fun s => ⟨[(2, .ptr 0 0), (4, .ptr 1 0), (35, bo s)], [.blk 27 [u32 p0_0, i64 p0_1, i64 p0_2, lv T_api_Event.enc p0_3, lv T_api_Mark.enc p0_4], .blk 27 [u32 0, i64 0, i64 0, .d (.list true 0 []), .d (.list true 0 [])]]⟩) (fun s => F_trace_end_J1 p0_0 p0_1 p0_2 p0_3 p0_4 s = some r) ?_ ?_
    · rcases cs h with ⟨b20, h⟩ | ⟨b20, h⟩
      · exact At.rG [2, 4, 35] [0, 1] [bT 6 b20] fun _ _ i => ⟨true, h, i.en [.loO 0] [2, 4, 35] [0, 1]⟩
      · exact At.rG [2, 4, 35] [0, 1] [bT 6 b20] fun _ _ i => ⟨(y6.1 != (wu64 ((p0_4).length : Int))), h, i.en [.loO 0] [2, 4, 35] [0, 1]⟩
    · intro x18 h
      refine At.cd h (fun b19 h => ?_) (fun b19 h => ?_)
      · refine At.sR [4, 5] [1] [] ?_
        obtain rfl := sq h
        exact At.ret (At.rR hR [])
      · refine At.nR [2, 4] [0, 1] ?_
        refine At.skip (norm ?_)
        refine At.sR [4, 5] [1] [] ?_
        obtain rfl := sq h
        exact At.ret (At.rR hR [])
theorem C_trace_Next (p0 : T_api_Trace) (p1 : T_api_Frame) (r : T_api_Trace × Int) (h : F_trace_Next p0 p1 = some r) : FnOK Try.prog 15 [.agg (T_api_Trace.pvs p0), .agg (T_api_Frame.pvs p1)] [] (.tup [.agg (T_api_Trace.pvs r.1), i64 r.2]) [] [] := by
  refine fI Try.func15 rfl fun E gv R hR => ?_
  refine At.sR [2, 3, 4] [0, 1, 2] [] ?_
  refine At.sR [2, 3, 4, 6] [0, 1, 2, 3] [] ?_
  refine At.seqJ (S := (Unit) ⊕ (Unit) ⊕ (Unit) ⊕ (Unit) ⊕ (Unit)) (Sum.elim (fun s => ⟨[(2, .ptr 0 0), (3, .ptr 1 0), (4, .ptr 2 0), (7, .fn (.func 29) [] []), (8, bo true)], [.blk 27 (T_api_Trace.pvs p0), .blk 39 (T_api_Frame.pvs p1), .blk 27 [u32 0, i64 0, i64 0, .d (.list true 0 []), .d (.list true 0 [])]]⟩) (Sum.elim (fun s => ⟨[(2, .ptr 0 0), (3, .ptr 1 0), (4, .ptr 2 0), (7, .fn (.func 30) [] []), (8, bo true)], [.blk 27 (T_api_Trace.pvs p0), .blk 39 (T_api_Frame.pvs p1), .blk 27 [u32 0, i64 0, i64 0, .d (.list true 0 []), .d (.list true 0 [])]]⟩) (Sum.elim (fun s => ⟨[(2, .ptr 0 0), (3, .ptr 1 0), (4, .ptr 2 0), (7, .fn (.func 31) [] []), (8, bo true)], [.blk 27 (T_api_Trace.pvs p0), .blk 39 (T_api_Frame.pvs p1), .blk 27 [u32 0, i64 0, i64 0, .d (.list true 0 []), .d (.list true 0 [])]]⟩) (Sum.elim (fun s => ⟨[(2, .ptr 0 0), (3, .ptr 1 0), (4, .ptr 2 0), (7, .fn (.func 32) [] []), (8, bo true)], [.blk 27 (T_api_Trace.pvs p0), .blk 39 (T_api_Frame.pvs p1), .blk 27 [u32 0, i64 0, i64 0, .d (.list true 0 []), .d (.list true 0 [])]]⟩) (fun s => ⟨[(2, .ptr 0 0), (3, .ptr 1 0), (4, .ptr 2 0), (7, .d .nilF), (8, bo false)], [.blk 27 (T_api_Trace.pvs p0), .blk 39 (T_api_Frame.pvs p1), .blk 27 [u32 0, i64 0, i64 0, .d (.list true 0 []), .d (.list true 0 [])]]⟩))))) (Sum.elim (fun s => F_trace_Next_J1 p0 p1 = some r) (Sum.elim (fun s => F_trace_Next_J4 p0 p1 = some r) (Sum.elim (fun s => F_trace_Next_J7 p0 p1 = some r) (Sum.elim (fun s => F_trace_Next_J10 p0 p1 = some r) (fun s => F_trace_Next_J13 = some r))))) ?_ ?_
  · rcases cs h with ⟨b125, h⟩ | ⟨b125, h⟩
    · exact At.rK [2, 3, 4, 7, 8] [0, 1, 2] [vT 3 (.int .i64 0) (eq_of_beq b125)] fun _ _ i => ⟨.inl (), h, i⟩
    · rcases cs h with ⟨b126, h⟩ | ⟨b126, h⟩
      · exact At.rK [2, 3, 4, 7, 8] [0, 1, 2] [vT 3 (.int .i64 1) (eq_of_beq b126)] fun _ _ i => ⟨.inr (.inl ()), h, i⟩
      · rcases cs h with ⟨b127, h⟩ | ⟨b127, h⟩
        · exact At.rK [2, 3, 4, 7, 8] [0, 1, 2] [vT 3 (.int .i64 2) (eq_of_beq b127)] fun _ _ i => ⟨.inr (.inr (.inl ())), h, i⟩
        · rcases cs h with ⟨b128, h⟩ | ⟨b128, h⟩
          · exact At.rK [2, 3, 4, 7, 8] [0, 1, 2] [vT 3 (.int .i64 3) (eq_of_beq b128)] fun _ _ i => ⟨.inr (.inr (.inr (.inl ()))), h, i⟩
          · exact At.rK [2, 3, 4, 7, 8] [0, 1, 2] [tT 3 ({ orc := .val .nilF }) (allc (lk_f (k := .i64) b125 (lk_f (k := .i64) b126 (lk_f (k := .i64) b127 (lk_f (k := .i64) b128 (rfl : lkB p1.Kind [] = false))))) all0)] fun _ _ i => ⟨.inr (.inr (.inr (.inr (())))), h, i⟩
  · rintro (_ | (_ | (_ | (_ | _)))) h
    · replace h : F_trace_Next_J1 p0 p1 = some r := h
      refine At.seq ?_
      refine At.sR [2, 3, 4, 7, 21] [0, 1, 2] [] ?_
      refine At.cn ?_
      refine At.nR [2, 3, 4, 7] [0, 1, 2] ?_
      refine At.skip (norm ?_)
      obtain ⟨y7, hy7, h⟩ := bs h
      obtain ⟨y8, hy8, h⟩ := bs h
      refine At.sD 1 [2, 3, 4, 9, 10] [0, 1, 2, 3] [c0 2 (C_trace_copied p0 y7 hy7), cX 5 0 [] [] false (C_trace_head y7.Sum y7.Fuel y7.Every y7.Events y7.Marks p1.Data y8 hy8)] ?_
      refine At.seq ?_
      refine At.block ?_
      refine At.sR [2, 3, 4, 9, 10, 32] [0, 1, 2, 3] [] ?_
      refine At.cd h (fun b22 h => ?_) (fun b22 h => ?_)
      · refine At.sR [4, 5] [2] [] ?_
        refine At.eN [.loO 0] [4, 5] [0] ?_
        obtain rfl := sq h
        exact At.ret (At.rR hR [])
      · refine At.seqJ (S := Bool) (fun s => ⟨[(4, .ptr 0 0), (9, .ptr 1 0), (37, bo s)], [.blk 27 [u32 0, i64 0, i64 0, .d (.list true 0 []), .d (.list true 0 [])], .blk 27 (T_api_Trace.pvs y8.1)]⟩) (fun s => F_trace_Next_J2 y8 s = some r) ?_ ?_
        · refine At.seqJ (S := Bool) (fun s => ⟨[(4, .ptr 0 0), (9, .ptr 1 0), (37, bo s)], [.blk 27 [u32 0, i64 0, i64 0, .d (.list true 0 []), .d (.list true 0 [])], .blk 27 (T_api_Trace.pvs y8.1)]⟩) (fun s => F_trace_Next_J3 y8 s = some r) ?_ ?_
          · rcases cs h with ⟨b34, h⟩ | ⟨b34, h⟩
            · exact At.rK [4, 9, 37] [2, 3] [bT 3 b34] fun _ _ i => ⟨(p0.Every == 0), h, i⟩
            · exact At.rK [4, 9, 37] [2, 3] [bT 3 b34] fun _ _ i => ⟨false, h, i⟩
          · intro x31 h
            refine At.cd h (fun b32 h => ?_) (fun b32 h => ?_)
            · refine At.skip (fun _ _ i => ⟨x31, h, i⟩)
            · obtain ⟨y33, hy33, h⟩ := bs h
              exact At.rK [4, 9, 37] [0, 1] [c0 1 (C_trace_Check y8.1 y33 hy33)] fun _ _ i => ⟨(y33 != 0), h, i⟩
        · intro x28 h
          refine At.cd h (fun b29 h => ?_) (fun b29 h => ?_)
          · refine At.sR [4, 5] [0] [] ?_
            refine At.eN [.loO 0] [4, 5] [0] ?_
            obtain rfl := sq h
            exact At.ret (At.rR hR [])
          · refine At.nR [4, 9] [0, 1] ?_
            refine At.skip (norm ?_)
            refine At.sR [4, 5] [0] [] ?_
            obtain rfl := sq h
            exact At.ret (At.rR hR [])
    · replace h : F_trace_Next_J4 p0 p1 = some r := h
      refine At.seq ?_
      refine At.sR [2, 3, 4, 7, 21] [0, 1, 2] [] ?_
      refine At.cn ?_
      refine At.nR [2, 3, 4, 7] [0, 1, 2] ?_
      refine At.skip (norm ?_)
      obtain ⟨y37, hy37, h⟩ := bs h
      obtain ⟨y38, hy38, h⟩ := bs h
      refine At.sD 1 [2, 3, 4, 9, 10] [0, 1, 2, 3] [c0 2 (C_trace_copied p0 y37 hy37), cX 5 0 [] [] false (C_trace_events y37.Sum y37.Fuel y37.Every y37.Events y37.Marks p1.Data y38 hy38)] ?_
      refine At.seq ?_
      refine At.block ?_
      refine At.sR [2, 3, 4, 9, 10, 32] [0, 1, 2, 3] [] ?_
      refine At.cd h (fun b52 h => ?_) (fun b52 h => ?_)
      · refine At.sR [4, 5] [2] [] ?_
        refine At.eN [.loO 0] [4, 5] [0] ?_
        obtain rfl := sq h
        exact At.ret (At.rR hR [])
      · refine At.seqJ (S := Bool) (fun s => ⟨[(4, .ptr 0 0), (9, .ptr 1 0), (37, bo s)], [.blk 27 [u32 0, i64 0, i64 0, .d (.list true 0 []), .d (.list true 0 [])], .blk 27 (T_api_Trace.pvs y38.1)]⟩) (fun s => F_trace_Next_J5 y38 s = some r) ?_ ?_
        · refine At.seqJ (S := Bool) (fun s => ⟨[(4, .ptr 0 0), (9, .ptr 1 0), (37, bo s)], [.blk 27 [u32 0, i64 0, i64 0, .d (.list true 0 []), .d (.list true 0 [])], .blk 27 (T_api_Trace.pvs y38.1)]⟩) (fun s => F_trace_Next_J6 y38 s = some r) ?_ ?_
          · rcases cs h with ⟨b64, h⟩ | ⟨b64, h⟩
            · exact At.rK [4, 9, 37] [2, 3] [bT 3 b64] fun _ _ i => ⟨(p0.Every == 0), h, i⟩
            · exact At.rK [4, 9, 37] [2, 3] [bT 3 b64] fun _ _ i => ⟨false, h, i⟩
          · intro x61 h
            refine At.cd h (fun b62 h => ?_) (fun b62 h => ?_)
            · refine At.skip (fun _ _ i => ⟨x61, h, i⟩)
            · obtain ⟨y63, hy63, h⟩ := bs h
              exact At.rK [4, 9, 37] [0, 1] [c0 1 (C_trace_Check y38.1 y63 hy63)] fun _ _ i => ⟨(y63 != 0), h, i⟩
        · intro x58 h
          refine At.cd h (fun b59 h => ?_) (fun b59 h => ?_)
          · refine At.sR [4, 5] [0] [] ?_
            refine At.eN [.loO 0] [4, 5] [0] ?_
            obtain rfl := sq h
            exact At.ret (At.rR hR [])
          · refine At.nR [4, 9] [0, 1] ?_
            refine At.skip (norm ?_)
            refine At.sR [4, 5] [0] [] ?_
            obtain rfl := sq h
            exact At.ret (At.rR hR [])
    · replace h : F_trace_Next_J7 p0 p1 = some r := h
      refine At.seq ?_
      refine At.sR [2, 3, 4, 7, 21] [0, 1, 2] [] ?_
      refine At.cn ?_
      refine At.nR [2, 3, 4, 7] [0, 1, 2] ?_
      refine At.skip (norm ?_)
      obtain ⟨y67, hy67, h⟩ := bs h
      obtain ⟨y68, hy68, h⟩ := bs h
      refine At.sD 1 [2, 3, 4, 9, 10] [0, 1, 2, 3] [c0 2 (C_trace_copied p0 y67 hy67), cX 5 0 [] [] false (C_trace_mark y67.Sum y67.Fuel y67.Every y67.Events y67.Marks p1.Data y68 hy68)] ?_
      refine At.seq ?_
      refine At.block ?_
      refine At.sR [2, 3, 4, 9, 10, 32] [0, 1, 2, 3] [] ?_
      refine At.cd h (fun b82 h => ?_) (fun b82 h => ?_)
      · refine At.sR [4, 5] [2] [] ?_
        refine At.eN [.loO 0] [4, 5] [0] ?_
        obtain rfl := sq h
        exact At.ret (At.rR hR [])
      · refine At.seqJ (S := Bool) (fun s => ⟨[(4, .ptr 0 0), (9, .ptr 1 0), (37, bo s)], [.blk 27 [u32 0, i64 0, i64 0, .d (.list true 0 []), .d (.list true 0 [])], .blk 27 (T_api_Trace.pvs y68.1)]⟩) (fun s => F_trace_Next_J8 y68 s = some r) ?_ ?_
        · refine At.seqJ (S := Bool) (fun s => ⟨[(4, .ptr 0 0), (9, .ptr 1 0), (37, bo s)], [.blk 27 [u32 0, i64 0, i64 0, .d (.list true 0 []), .d (.list true 0 [])], .blk 27 (T_api_Trace.pvs y68.1)]⟩) (fun s => F_trace_Next_J9 y68 s = some r) ?_ ?_
          · rcases cs h with ⟨b94, h⟩ | ⟨b94, h⟩
            · exact At.rK [4, 9, 37] [2, 3] [bT 3 b94] fun _ _ i => ⟨(p0.Every == 0), h, i⟩
            · exact At.rK [4, 9, 37] [2, 3] [bT 3 b94] fun _ _ i => ⟨false, h, i⟩
          · intro x91 h
            refine At.cd h (fun b92 h => ?_) (fun b92 h => ?_)
            · refine At.skip (fun _ _ i => ⟨x91, h, i⟩)
            · obtain ⟨y93, hy93, h⟩ := bs h
              exact At.rK [4, 9, 37] [0, 1] [c0 1 (C_trace_Check y68.1 y93 hy93)] fun _ _ i => ⟨(y93 != 0), h, i⟩
        · intro x88 h
          refine At.cd h (fun b89 h => ?_) (fun b89 h => ?_)
          · refine At.sR [4, 5] [0] [] ?_
            refine At.eN [.loO 0] [4, 5] [0] ?_
            obtain rfl := sq h
            exact At.ret (At.rR hR [])
          · refine At.nR [4, 9] [0, 1] ?_
            refine At.skip (norm ?_)
            refine At.sR [4, 5] [0] [] ?_
            obtain rfl := sq h
            exact At.ret (At.rR hR [])
    · replace h : F_trace_Next_J10 p0 p1 = some r := h
      refine At.seq ?_
      refine At.sR [2, 3, 4, 7, 21] [0, 1, 2] [] ?_
      refine At.cn ?_
      refine At.nR [2, 3, 4, 7] [0, 1, 2] ?_
      refine At.skip (norm ?_)
      obtain ⟨y97, hy97, h⟩ := bs h
      obtain ⟨y98, hy98, h⟩ := bs h
      refine At.sD 1 [2, 3, 4, 9, 10] [0, 1, 2, 3] [c0 2 (C_trace_copied p0 y97 hy97), cX 5 0 [] [] false (C_trace_end y97.Sum y97.Fuel y97.Every y97.Events y97.Marks p1.Data y98 hy98)] ?_
      refine At.seq ?_
      refine At.block ?_
      refine At.sR [2, 3, 4, 9, 10, 32] [0, 1, 2, 3] [] ?_
      refine At.cd h (fun b112 h => ?_) (fun b112 h => ?_)
      · refine At.sR [4, 5] [2] [] ?_
        refine At.eN [.loO 0] [4, 5] [0] ?_
        obtain rfl := sq h
        exact At.ret (At.rR hR [])
      · refine At.seqJ (S := Bool) (fun s => ⟨[(4, .ptr 0 0), (9, .ptr 1 0), (37, bo s)], [.blk 27 [u32 0, i64 0, i64 0, .d (.list true 0 []), .d (.list true 0 [])], .blk 27 (T_api_Trace.pvs y98.1)]⟩) (fun s => F_trace_Next_J11 y98 s = some r) ?_ ?_
        · refine At.seqJ (S := Bool) (fun s => ⟨[(4, .ptr 0 0), (9, .ptr 1 0), (37, bo s)], [.blk 27 [u32 0, i64 0, i64 0, .d (.list true 0 []), .d (.list true 0 [])], .blk 27 (T_api_Trace.pvs y98.1)]⟩) (fun s => F_trace_Next_J12 y98 s = some r) ?_ ?_
          · rcases cs h with ⟨b124, h⟩ | ⟨b124, h⟩
            · exact At.rK [4, 9, 37] [2, 3] [bT 3 b124] fun _ _ i => ⟨(p0.Every == 0), h, i⟩
            · exact At.rK [4, 9, 37] [2, 3] [bT 3 b124] fun _ _ i => ⟨false, h, i⟩
          · intro x121 h
            refine At.cd h (fun b122 h => ?_) (fun b122 h => ?_)
            · refine At.skip (fun _ _ i => ⟨x121, h, i⟩)
            · obtain ⟨y123, hy123, h⟩ := bs h
              exact At.rK [4, 9, 37] [0, 1] [c0 1 (C_trace_Check y98.1 y123 hy123)] fun _ _ i => ⟨(y123 != 0), h, i⟩
        · intro x118 h
          refine At.cd h (fun b119 h => ?_) (fun b119 h => ?_)
          · refine At.sR [4, 5] [0] [] ?_
            refine At.eN [.loO 0] [4, 5] [0] ?_
            obtain rfl := sq h
            exact At.ret (At.rR hR [])
          · refine At.nR [4, 9] [0, 1] ?_
            refine At.skip (norm ?_)
            refine At.sR [4, 5] [0] [] ?_
            obtain rfl := sq h
            exact At.ret (At.rR hR [])
    · replace h : F_trace_Next_J13 = some r := h
      refine At.seq ?_
      refine At.sR [2, 3, 4, 7, 21] [0, 1, 2] [] ?_
      refine At.cy ?_
      refine At.sR [4, 5] [2] [] ?_
      refine At.eN [.loO 0] [4, 5] [0] ?_
      obtain rfl := sq h
      exact At.ret (At.rR hR [])
theorem C_salvage_Of_1_v2 (o0_0 : ByteArray) (o1_0 : Int) (o2 : T_api_Trace) (o3_0 : Int) (r : Int × Int × T_api_Trace × Int) (h : F_salvage_Of_1_v2 o0_0 o1_0 o2 o3_0 = some r) : FnOK Try.prog 13 [.ptr 0 0, .ptr 1 0, .ptr 2 0, .ptr 3 0] [.blk 9 [sv o0_0], .blk 3 [i64 o1_0], .blk 27 (T_api_Trace.pvs o2), .blk 3 [i64 o3_0]] (i64 r.1) [.blk 9 [sv o0_0], .blk 3 [i64 r.2.1], .blk 27 (T_api_Trace.pvs r.2.2.1), .blk 3 [i64 r.2.2.2]] [1, 3, 5, 7] := by
  refine fI Try.func13 rfl fun E gv R hR => ?_
  refine At.sR [0, 1, 2, 3] [0, 1, 2, 3, 4, 5, 6, 7] [] ?_
  obtain ⟨y2, hy2, h⟩ := bs h
  refine At.sR [1, 2, 3, 5, 6, 7] [0, 1, 2, 3, 4, 5, 6, 7, 8] [c0 2 (C_frame_Next o0_0 o1_0 y2 hy2)] ?_
  refine At.seq ?_
  refine At.sR [1, 2, 3, 5, 6, 7, 17] [0, 1, 2, 3, 4, 5, 6, 7, 8] [] ?_
  refine At.cd h (fun b4 h => ?_) (fun b4 h => ?_)
  · refine At.sR [4] [0, 1, 2, 3, 4, 5, 6, 7] [] ?_
    obtain rfl := sq h
    exact At.ret (At.rR hR [0, 1, 2, 3])
  · refine At.nR [1, 2, 3, 5, 6] [0, 1, 2, 3, 4, 5, 6, 7, 8] ?_
    refine At.skip (norm ?_)
    obtain ⟨y6, hy6, h⟩ := bs h
    refine At.sR [1, 2, 3, 5, 6, 7, 8] [0, 1, 2, 3, 4, 5, 6, 7, 8, 9] [c0 2 (C_trace_Next o2 y2.1 y6 hy6)] ?_
    refine At.seqJ (S := Int × Int × Int × Int × (List T_api_Event) × (List T_api_Mark) × Int) (fun s => ⟨[(7, i64 y6.2)], [.blk 9 [sv o0_0], .blk 3 [i64 s.1], .blk 27 [u32 s.2.1, i64 s.2.2.1, i64 s.2.2.2.1, lv T_api_Event.enc s.2.2.2.2.1, lv T_api_Mark.enc s.2.2.2.2.2.1], .blk 3 [i64 s.2.2.2.2.2.2], .ghost (gv 0) (.ptr 0 0), .ghost (gv 1) (.ptr 1 0), .ghost (gv 2) (.ptr 2 0), .ghost (gv 3) (.ptr 3 0)]⟩) (fun s => F_salvage_Of_1_v2_J1 y6 s.1 s.2.1 s.2.2.1 s.2.2.2.1 s.2.2.2.2.1 s.2.2.2.2.2.1 s.2.2.2.2.2.2 = some r) ?_ ?_
    · refine At.seq ?_
      refine At.rK (st' := ⟨[(1, .ptr 1 0), (2, .ptr 2 0), (3, .ptr 3 0), (5, .ptr 8 0), (6, i64 y2.2.1), (7, i64 y6.2), (8, .ptr 9 0), (26, bo (y6.2 == 0))], [.blk 9 [sv o0_0], .blk 3 [i64 o1_0], .blk 27 (T_api_Trace.pvs o2), .blk 3 [i64 o3_0], .ghost (gv 0) (.ptr 0 0), .ghost (gv 1) (.ptr 1 0), .ghost (gv 2) (.ptr 2 0), .ghost (gv 3) (.ptr 3 0), .blk 39 (T_api_Frame.pvs y2.1), .blk 27 (T_api_Trace.pvs y6.1)]⟩) [1, 2, 3, 5, 6, 7, 8, 26] [0, 1, 2, 3, 4, 5, 6, 7, 8, 9] [] (norm ?_)
      refine At.cd h (fun b15 h => ?_) (fun b15 h => ?_)
      · exact At.dK 0 [7] [0, 1, 2, 3, 4, 5, 6, 7] [] fun _ _ i => ⟨(y2.2.1, y6.1.Sum, y6.1.Fuel, y6.1.Every, y6.1.Events, y6.1.Marks, y2.1.Kind), h, i⟩
      · refine At.nR [7] [0, 1, 2, 3, 4, 5, 6, 7] ?_
        refine At.skip (fun _ _ i => ⟨(o1_0, o2.Sum, o2.Fuel, o2.Every, o2.Events, o2.Marks, o3_0), h, i.en [] [7] [0, 1, 2, 3, 4, 5, 6, 7]⟩)
    · rintro ⟨x8, x9, x10, x11, x12, x13, x14⟩ h
      replace h : F_salvage_Of_1_v2_J1 y6 x8 x9 x10 x11 x12 x13 x14 = some r := h
      refine At.sR [4] [0, 1, 2, 3, 4, 5, 6, 7] [] ?_
      obtain rfl := sq h
      exact At.ret (At.rR hR [0, 1, 2, 3])
theorem C_salvage_Of (p0 : ByteArray) (r : T_api_Trace × Int × Int) (h : F_salvage_Of p0 = some r) : FnOK Try.prog 6 [sv p0] [] (.tup [.agg (T_api_Trace.pvs r.1), i64 r.2.1, i64 r.2.2]) [] [] := by
  refine fI Try.func6 rfl fun E gv R hR => ?_
  refine At.sR [1, 2] [0, 1] [] ?_
  refine At.scope ?_
  refine At.sR [1, 2, 5] [0, 1, 2] [] ?_
  refine At.sR [1, 2, 5, 6, 7] [0, 1, 2, 3, 4] [] ?_
  refine At.sR [1, 2, 5, 6, 7, 8] [0, 1, 2, 3, 4] [] ?_
  refine At.seq ?_
  refine At.label (norm ?_)
  refine At.seq ?_
  refine At.block ?_
  refine At.nK (st' := ⟨[(1, .ptr 0 0), (2, .ptr 1 0), (5, .ptr 2 0), (6, .ptr 3 0), (7, .ptr 4 0), (8, .fn (.func 13) [] [.ptr 0 0, .ptr 3 0, .ptr 2 0, .ptr 4 0])], [.blk 9 [sv p0], .blk 27 [u32 0, i64 0, i64 0, .d (.list true 0 []), .d (.list true 0 [])], .blk 27 [u32 0, i64 0, i64 0, .d (.list true 0 []), .d (.list true 0 [])], .blk 3 [i64 0], .blk 3 [i64 0]]⟩) [1, 2, 5, 6, 7, 8] [0, 1, 2, 3, 4] ?_
  refine At.edNar [.loO 2] [1, 2, 5, 6, 7, 8] [0, 1, 2, 3, 4] (st' := ⟨[(1, .ptr 0 0), (2, .ptr 1 0), (5, .ptr 2 0), (6, .ptr 3 0), (7, .ptr 4 0), (8, .fn (.func 13) [] [.ptr 0 0, .ptr 3 0, .ptr 2 0, .ptr 4 0])], [.blk 9 [sv p0], .blk 27 [u32 0, i64 0, i64 0, .d (.list true 0 []), .d (.list true 0 [])], .blk 27 [u32 0, i64 0, i64 0, lv T_api_Event.enc ([] : List T_api_Event), lv T_api_Mark.enc ([] : List T_api_Mark)], .blk 3 [i64 0], .blk 3 [i64 0]]⟩) (by kernel_rfl) ?_
  refine At.lp (fun s : (Int × Int × Int × (List T_api_Event) × (List T_api_Mark) × Int × Int) => ⟨[(1, .ptr 0 0), (2, .ptr 1 0), (5, .ptr 2 0), (6, .ptr 3 0), (7, .ptr 4 0), (8, .fn (.func 13) [] [.ptr 0 0, .ptr 3 0, .ptr 2 0, .ptr 4 0])], [.blk 9 [sv p0], .blk 27 [u32 0, i64 0, i64 0, .d (.list true 0 []), .d (.list true 0 [])], .blk 27 [u32 s.1, i64 s.2.1, i64 s.2.2.1, lv T_api_Event.enc s.2.2.2.1, lv T_api_Mark.enc s.2.2.2.2.1], .blk 3 [i64 s.2.2.2.2.2.1], .blk 3 [i64 s.2.2.2.2.2.2]]⟩) h ?_
  rintro ⟨x18, x19, x20, x21, x22, x23, x24⟩ oo25 h f26
  replace h : F_salvage_Of_L1 p0 x18 x19 x20 x21 x22 x23 x24 = some oo25 := h
  refine At.block ?_
  obtain ⟨y28, hy28, h⟩ := bs h
  refine At.sR [1, 2, 5, 6, 7, 8, 9] [0, 1, 2, 3, 4] [cT 1 4 [0, 3, 2, 4] (C_salvage_Of_1_v2 p0 x23 (⟨x18, x19, x20, x21, x22⟩ : T_api_Trace) x24 y28 hy28)] ?_
  refine At.block ?_
  refine At.sR [1, 2, 5, 6, 7, 8, 9, 13] [0, 1, 2, 3, 4] [] ?_
  refine At.cd h (fun b29 h => ?_) (fun b29 h => ?_)
  · refine At.sD 0 [2, 3, 4] [1] [] ?_
    obtain ⟨r30, h, e31⟩ := mr h
    rw [f26 _ e31] at h
    obtain rfl := sq h
    exact At.ret (At.rR hR [])
  · refine At.sR [1, 2, 5, 6, 7, 8, 19] [0, 1, 2, 3, 4] [] ?_
    refine At.cd h (fun b32 h => ?_) (fun b32 h => ?_)
    · refine At.nR [1, 2, 5, 6] [0, 1, 2, 3] ?_
      obtain ⟨r33, h, e34⟩ := mr h
      rw [f26 _ e34] at h
      refine At.exit (norm ?_)
      refine At.seq ?_
      refine At.sR [2, 5, 6, 25] [1, 2, 3] [] ?_
      refine At.cd h (fun b36 h => ?_) (fun b36 h => ?_)
      · refine At.seq ?_
        refine At.dK (st' := ⟨[(2, .ptr 0 0), (3, i64 y28.2.1), (4, i64 3)], [.blk 27 (T_api_Trace.pvs y28.2.2.1)]⟩) 0 [2, 3, 4] [0] [] (norm ?_)
        obtain rfl := sq h
        exact At.ret (At.rR hR [])
      · refine At.nK (st' := ⟨[(2, .ptr 0 0), (5, .ptr 1 0), (6, .ptr 2 0)], [.blk 27 [u32 0, i64 0, i64 0, .d (.list true 0 []), .d (.list true 0 [])], .blk 27 (T_api_Trace.pvs y28.2.2.1), .blk 3 [i64 y28.2.1]]⟩) [2, 5, 6] [0, 1, 2] ?_
        refine At.skip (norm ?_)
        refine At.sD 0 [2, 3, 4] [0] [] ?_
        obtain rfl := sq h
        exact At.ret (At.rR hR [])
    · refine At.nR [1, 2, 5, 6, 7, 8] [0, 1, 2, 3, 4] ?_
      refine At.skip (fun _ _ i => ⟨_, li h, i.en [] [1, 2, 5, 6, 7, 8] [0, 1, 2, 3, 4]⟩)
theorem C_retraceref27_Same (p0 : (List T_api_Event)) (p1 : (List T_api_Event)) (r : Bool) (h : F_retraceref27_Same p0 p1 = some r) : FnOK Try.prog 18 [lv T_api_Event.enc p0, lv T_api_Event.enc p1] [] (bo r) [] [] := by
  refine fI Try.func18 rfl fun E gv R hR => ?_
  refine At.sR [0, 1] [] [] ?_
  refine At.seq ?_
  refine At.sR [0, 1, 10] [] [] ?_
  refine At.cd h (fun b2 h => ?_) (fun b2 h => ?_)
  · refine At.sR [4] [] [] ?_
    obtain rfl := sq h
    exact At.ret (At.rR hR [])
  · refine At.nR [0, 1] [] ?_
    refine At.skip (norm ?_)
    refine At.seq ?_
    refine At.sR [0, 1, 5] [] [] ?_
    refine At.block ?_
    refine At.nK (st' := ⟨[(0, lv T_api_Event.enc p0), (1, lv T_api_Event.enc p1), (5, i64 0)], []⟩) [0, 1, 5] [] ?_
    refine At.lp (fun s : (Int) => ⟨[(0, lv T_api_Event.enc p0), (1, lv T_api_Event.enc p1), (5, i64 s)], []⟩) h ?_
    intro x22 oo23 h f24
    replace h : F_retraceref27_Same_L1 p0 p1 x22 = some oo23 := h
    refine At.seq ?_
    refine At.sR [0, 1, 5, 14] [] [] ?_
    refine At.cd h (fun b26 h => ?_) (fun b26 h => ?_)
    · refine At.nR [0, 1, 5] [] ?_
      refine At.skip (norm ?_)
      refine At.seq ?_
      refine At.block ?_
      obtain ⟨y34, hy34, h⟩ := bs h
      obtain ⟨y35, hy35, h⟩ := bs h
      refine At.sD 0 [0, 1, 5, 25] [] [eT T_api_Event.enc_len 2 hy34, eT T_api_Event.enc_len 6 hy35] ?_
      refine At.cd h (fun b36 h => ?_) (fun b36 h => ?_)
      · refine At.sR [4] [] [] ?_
        obtain ⟨r37, h, e38⟩ := mr h
        rw [f24 _ e38] at h
        obtain rfl := sq h
        exact At.ret (At.rR hR [])
      · refine At.nR [0, 1, 5] [] ?_
        refine At.skip (norm ?_)
        exact At.rK [0, 1, 5] [] [] fun _ _ i => ⟨_, li h, i⟩
    · refine At.nR [] [] ?_
      obtain ⟨r39, h, e40⟩ := mr h
      rw [f24 _ e40] at h
      refine At.exit (norm ?_)
      refine At.sR [4] [] [] ?_
      obtain rfl := sq h
      exact At.ret (At.rR hR [])
theorem C_retraceref03_Same (p0 : (List Int)) (p1 : (List Int)) (r : Bool) (h : F_retraceref03_Same p0 p1 = some r) : FnOK Try.prog 44 [lv (eInt .i64) p0, lv (eInt .i64) p1] [] (bo r) [] [] := by
  refine fI Try.func44 rfl fun E gv R hR => ?_
  refine At.sR [0, 1] [] [] ?_
  refine At.seq ?_
  refine At.sR [0, 1, 10] [] [] ?_
  refine At.cd h (fun b2 h => ?_) (fun b2 h => ?_)
  · refine At.sR [4] [] [] ?_
    obtain rfl := sq h
    exact At.ret (At.rR hR [])
  · refine At.nR [0, 1] [] ?_
    refine At.skip (norm ?_)
    refine At.seq ?_
    refine At.sR [0, 1, 5] [] [] ?_
    refine At.block ?_
    refine At.nK (st' := ⟨[(0, lv (eInt .i64) p0), (1, lv (eInt .i64) p1), (5, i64 0)], []⟩) [0, 1, 5] [] ?_
    refine At.lp (fun s : (Int) => ⟨[(0, lv (eInt .i64) p0), (1, lv (eInt .i64) p1), (5, i64 s)], []⟩) h ?_
    intro x22 oo23 h f24
    replace h : F_retraceref03_Same_L1 p0 p1 x22 = some oo23 := h
    refine At.seq ?_
    refine At.sR [0, 1, 5, 14] [] [] ?_
    refine At.cd h (fun b26 h => ?_) (fun b26 h => ?_)
    · refine At.nR [0, 1, 5] [] ?_
      refine At.skip (norm ?_)
      refine At.seq ?_
      refine At.block ?_
      obtain ⟨y34, hy34, h⟩ := bs h
      obtain ⟨y35, hy35, h⟩ := bs h
      refine At.sD 0 [0, 1, 5, 25] [] [eT (he_int .i64) 2 hy34, eT (he_int .i64) 6 hy35] ?_
      refine At.cd h (fun b36 h => ?_) (fun b36 h => ?_)
      · refine At.sR [4] [] [] ?_
        obtain ⟨r37, h, e38⟩ := mr h
        rw [f24 _ e38] at h
        obtain rfl := sq h
        exact At.ret (At.rR hR [])
      · refine At.nR [0, 1, 5] [] ?_
        refine At.skip (norm ?_)
        exact At.rK [0, 1, 5] [] [] fun _ _ i => ⟨_, li h, i⟩
    · refine At.nR [] [] ?_
      obtain ⟨r39, h, e40⟩ := mr h
      rw [f24 _ e40] at h
      refine At.exit (norm ?_)
      refine At.sR [4] [] [] ?_
      obtain rfl := sq h
      exact At.ret (At.rR hR [])
theorem C_retraceref22_Alts (p0 : (List T_api_Alt)) (p1 : (List T_api_Alt)) (r : Bool) (h : F_retraceref22_Alts p0 p1 = some r) : FnOK Try.prog 68 [lv T_api_Alt.enc p0, lv T_api_Alt.enc p1] [] (bo r) [] [] := by
  refine fI Try.func68 rfl fun E gv R hR => ?_
  refine At.sR [0, 1] [] [] ?_
  refine At.seq ?_
  refine At.sR [0, 1, 10] [] [] ?_
  refine At.cd h (fun b2 h => ?_) (fun b2 h => ?_)
  · refine At.sR [4] [] [] ?_
    obtain rfl := sq h
    exact At.ret (At.rR hR [])
  · refine At.nR [0, 1] [] ?_
    refine At.skip (norm ?_)
    refine At.seq ?_
    refine At.sR [0, 1, 5] [] [] ?_
    refine At.block ?_
    refine At.nK (st' := ⟨[(0, lv T_api_Alt.enc p0), (1, lv T_api_Alt.enc p1), (5, i64 0)], []⟩) [0, 1, 5] [] ?_
    refine At.lp (fun s : (Int) => ⟨[(0, lv T_api_Alt.enc p0), (1, lv T_api_Alt.enc p1), (5, i64 s)], []⟩) h ?_
    intro x22 oo23 h f24
    replace h : F_retraceref22_Alts_L1 p0 p1 x22 = some oo23 := h
    refine At.seq ?_
    refine At.sR [0, 1, 5, 14] [] [] ?_
    refine At.cd h (fun b26 h => ?_) (fun b26 h => ?_)
    · refine At.nR [0, 1, 5] [] ?_
      refine At.skip (norm ?_)
      refine At.seq ?_
      refine At.block ?_
      obtain ⟨y34, hy34, h⟩ := bs h
      obtain ⟨y35, hy35, h⟩ := bs h
      refine At.sD 0 [0, 1, 5, 25] [] [eT T_api_Alt.enc_len 2 hy34, eT T_api_Alt.enc_len 6 hy35] ?_
      refine At.cd h (fun b36 h => ?_) (fun b36 h => ?_)
      · refine At.sR [4] [] [] ?_
        obtain ⟨r37, h, e38⟩ := mr h
        rw [f24 _ e38] at h
        obtain rfl := sq h
        exact At.ret (At.rR hR [])
      · refine At.nR [0, 1, 5] [] ?_
        refine At.skip (norm ?_)
        exact At.rK [0, 1, 5] [] [] fun _ _ i => ⟨_, li h, i⟩
    · refine At.nR [] [] ?_
      obtain ⟨r39, h, e40⟩ := mr h
      rw [f24 _ e40] at h
      refine At.exit (norm ?_)
      refine At.sR [4] [] [] ?_
      obtain rfl := sq h
      exact At.ret (At.rR hR [])
theorem C_retraceref22_Same (p0 : T_api_Proc) (p1 : T_api_Proc) (r : Bool) (h : F_retraceref22_Same p0 p1 = some r) : FnOK Try.prog 45 [.agg (T_api_Proc.pvs p0), .agg (T_api_Proc.pvs p1)] [] (bo r) [] [] := by
  refine fI Try.func45 rfl fun E gv R hR => ?_
  refine At.sR [2, 3] [0, 1] [] ?_
  refine At.seq ?_
  refine At.seqJ (S := Bool) (fun s => ⟨[(2, .ptr 0 0), (3, .ptr 1 0), (44, bo s)], [.blk 104 (T_api_Proc.pvs p0), .blk 104 (T_api_Proc.pvs p1)]⟩) (fun s => F_retraceref22_Same_J1 p0 p1 s = some r) ?_ ?_
  · rcases cs h with ⟨b33, h⟩ | ⟨b33, h⟩
    · exact At.rK [2, 3, 44] [0, 1] [bT 5 b33] fun _ _ i => ⟨true, h, i⟩
    · rcases cs h with ⟨b34, h⟩ | ⟨b34, h⟩
      · exact At.rK [2, 3, 44] [0, 1] [bT 5 b33, bT 12 b34] fun _ _ i => ⟨true, h, i⟩
      · rcases cs h with ⟨b35, h⟩ | ⟨b35, h⟩
        · exact At.rK [2, 3, 44] [0, 1] [bT 5 b33, bT 12 b34, bT 19 b35] fun _ _ i => ⟨true, h, i⟩
        · rcases cs h with ⟨b36, h⟩ | ⟨b36, h⟩
          · exact At.rK [2, 3, 44] [0, 1] [bT 5 b33, bT 12 b34, bT 19 b35, bT 26 b36] fun _ _ i => ⟨true, h, i⟩
          · rcases cs h with ⟨b37, h⟩ | ⟨b37, h⟩
            · exact At.rK [2, 3, 44] [0, 1] [bT 5 b33, bT 12 b34, bT 19 b35, bT 26 b36, bT 33 b37] fun _ _ i => ⟨true, h, i⟩
            · exact At.rK [2, 3, 44] [0, 1] [bT 5 b33, bT 12 b34, bT 19 b35, bT 26 b36, bT 33 b37] fun _ _ i => ⟨(p0.Val != p1.Val), h, i⟩
  · intro x18 h
    refine At.cd h (fun b19 h => ?_) (fun b19 h => ?_)
    · refine At.sR [4] [] [] ?_
      obtain rfl := sq h
      exact At.ret (At.rR hR [])
    · refine At.nR [2, 3] [0, 1] ?_
      refine At.skip (norm ?_)
      refine At.seqJ (S := Bool) (fun s => ⟨[(4, bo s)], []⟩) (fun s => F_retraceref22_Same_J2 s = some r) ?_ ?_
      · rcases cs h with ⟨b27, h⟩ | ⟨b27, h⟩
        · rcases cs h with ⟨b28, h⟩ | ⟨b28, h⟩
          · rcases cs h with ⟨b29, h⟩ | ⟨b29, h⟩
            · obtain ⟨y30, hy30, h⟩ := bs h
              rcases cs h with ⟨b31, h⟩ | ⟨b31, h⟩
              · obtain ⟨y32, hy32, h⟩ := bs h
                exact At.rK [4] [] [bT 5 b27, bT 12 b28, bT 19 b29, c0 24 (C_retraceref03_Same p0.Vars p1.Vars y30 hy30), bT 26 b31, c0 31 (C_retraceref22_Alts p0.Alts p1.Alts y32 hy32)] fun _ _ i => ⟨y32, h, i⟩
              · exact At.rK [4] [] [bT 5 b27, bT 12 b28, bT 19 b29, c0 24 (C_retraceref03_Same p0.Vars p1.Vars y30 hy30), bT 26 b31] fun _ _ i => ⟨false, h, i⟩
            · exact At.rK [4] [] [bT 5 b27, bT 12 b28, bT 19 b29] fun _ _ i => ⟨false, h, i⟩
          · exact At.rK [4] [] [bT 5 b27, bT 12 b28] fun _ _ i => ⟨false, h, i⟩
        · exact At.rK [4] [] [bT 5 b27] fun _ _ i => ⟨false, h, i⟩
      · intro x26 h
        obtain rfl := sq h
        exact At.ret (At.rR hR [])
theorem C_retraceref28_Same (p0 : T_api_State) (p1 : T_api_State) (r : Bool) (h : F_retraceref28_Same p0 p1 = some r) : FnOK Try.prog 19 [.agg (T_api_State.pvs p0), .agg (T_api_State.pvs p1)] [] (bo r) [] [] := by
  refine fI Try.func19 rfl fun E gv R hR => ?_
  refine At.sR [2, 3] [0, 1] [] ?_
  refine At.seq ?_
  refine At.seqJ (S := Bool) (fun s => ⟨[(2, .ptr 0 0), (3, .ptr 1 0), (55, bo s)], [.blk 62 (T_api_State.pvs p0), .blk 62 (T_api_State.pvs p1)]⟩) (fun s => F_retraceref28_Same_J1 p0 p1 s = some r) ?_ ?_
  · rcases cs h with ⟨b72, h⟩ | ⟨b72, h⟩
    · exact At.rK [2, 3, 55] [0, 1] [bT 5 b72] fun _ _ i => ⟨true, h, i⟩
    · rcases cs h with ⟨b73, h⟩ | ⟨b73, h⟩
      · exact At.rK [2, 3, 55] [0, 1] [bT 5 b72, bT 12 b73] fun _ _ i => ⟨true, h, i⟩
      · rcases cs h with ⟨b74, h⟩ | ⟨b74, h⟩
        · exact At.rK [2, 3, 55] [0, 1] [bT 5 b72, bT 12 b73, bT 19 b74] fun _ _ i => ⟨true, h, i⟩
        · rcases cs h with ⟨b75, h⟩ | ⟨b75, h⟩
          · exact At.rK [2, 3, 55] [0, 1] [bT 5 b72, bT 12 b73, bT 19 b74, bT 26 b75] fun _ _ i => ⟨true, h, i⟩
          · rcases cs h with ⟨b76, h⟩ | ⟨b76, h⟩
            · exact At.rK [2, 3, 55] [0, 1] [bT 5 b72, bT 12 b73, bT 19 b74, bT 26 b75, bT 33 b76] fun _ _ i => ⟨true, h, i⟩
            · obtain ⟨y77, hy77, h⟩ := bs h
              rcases cs h with ⟨b78, h⟩ | ⟨b78, h⟩
              · exact At.rK [2, 3, 55] [0, 1] [bT 5 b72, bT 12 b73, bT 19 b74, bT 26 b75, bT 33 b76, c0 38 (C_retraceref03_Same p0.Out p1.Out y77 hy77), bT 41 b78] fun _ _ i => ⟨true, h, i⟩
              · exact At.rK [2, 3, 55] [0, 1] [bT 5 b72, bT 12 b73, bT 19 b74, bT 26 b75, bT 33 b76, c0 38 (C_retraceref03_Same p0.Out p1.Out y77 hy77), bT 41 b78] fun _ _ i => ⟨(((p0.Procs).length : Int) != ((p1.Procs).length : Int)), h, i⟩
  · intro x24 h
    refine At.cd h (fun b25 h => ?_) (fun b25 h => ?_)
    · refine At.sR [4] [] [] ?_
      obtain rfl := sq h
      exact At.ret (At.rR hR [])
    · refine At.nR [2, 3] [0, 1] ?_
      refine At.skip (norm ?_)
      refine At.seq ?_
      refine At.sR [2, 3, 5] [0, 1] [] ?_
      refine At.block ?_
      refine At.nK (st' := ⟨[(2, .ptr 0 0), (3, .ptr 1 0), (5, i64 0)], [.blk 62 (T_api_State.pvs p0), .blk 62 (T_api_State.pvs p1)]⟩) [2, 3, 5] [0, 1] ?_
      refine At.lp (fun s : (Int) => ⟨[(2, .ptr 0 0), (3, .ptr 1 0), (5, i64 s)], [.blk 62 (T_api_State.pvs p0), .blk 62 (T_api_State.pvs p1)]⟩) h ?_
      intro x49 oo50 h f51
      replace h : F_retraceref28_Same_L2 p0 p1 x49 = some oo50 := h
      refine At.seq ?_
      refine At.sR [2, 3, 5, 60] [0, 1] [] ?_
      refine At.cd h (fun b53 h => ?_) (fun b53 h => ?_)
      · refine At.nR [2, 3, 5] [0, 1] ?_
        refine At.skip (norm ?_)
        refine At.seq ?_
        refine At.block ?_
        obtain ⟨y64, hy64, h⟩ := bs h
        obtain ⟨y65, hy65, h⟩ := bs h
        obtain ⟨y66, hy66, h⟩ := bs h
        refine At.sD 0 [2, 3, 5, 74] [0, 1] [eT T_api_Proc.enc_len 3 hy64, eT T_api_Proc.enc_len 8 hy65, c0 10 (C_retraceref22_Same y64 y65 y66 hy66)] ?_
        refine At.cd h (fun b67 h => ?_) (fun b67 h => ?_)
        · refine At.sR [4] [] [] ?_
          obtain ⟨r68, h, e69⟩ := mr h
          rw [f51 _ e69] at h
          obtain rfl := sq h
          exact At.ret (At.rR hR [])
        · refine At.nR [2, 3, 5] [0, 1] ?_
          refine At.skip (norm ?_)
          exact At.rK [2, 3, 5] [0, 1] [] fun _ _ i => ⟨_, li h, i⟩
      · refine At.nR [] [] ?_
        obtain ⟨r70, h, e71⟩ := mr h
        rw [f51 _ e71] at h
        refine At.exit (norm ?_)
        refine At.sR [4] [] [] ?_
        obtain rfl := sq h
        exact At.ret (At.rR hR [])
theorem C_retraceref32_Same (p0 : T_api_Trace) (p1 : T_api_Trace) (r : Bool) (h : F_retraceref32_Same p0 p1 = some r) : FnOK Try.prog 8 [.agg (T_api_Trace.pvs p0), .agg (T_api_Trace.pvs p1)] [] (bo r) [] [] := by
  refine fI Try.func8 rfl fun E gv R hR => ?_
  refine At.sR [2, 3] [0, 1] [] ?_
  refine At.seq ?_
  refine At.seqJ (S := Bool) (fun s => ⟨[(2, .ptr 0 0), (3, .ptr 1 0), (43, bo s)], [.blk 27 (T_api_Trace.pvs p0), .blk 27 (T_api_Trace.pvs p1)]⟩) (fun s => F_retraceref32_Same_J1 p0 p1 s = some r) ?_ ?_
  · rcases cs h with ⟨b86, h⟩ | ⟨b86, h⟩
    · exact At.rK [2, 3, 43] [0, 1] [bT 5 b86] fun _ _ i => ⟨true, h, i⟩
    · rcases cs h with ⟨b87, h⟩ | ⟨b87, h⟩
      · exact At.rK [2, 3, 43] [0, 1] [bT 5 b86, bT 12 b87] fun _ _ i => ⟨true, h, i⟩
      · rcases cs h with ⟨b88, h⟩ | ⟨b88, h⟩
        · exact At.rK [2, 3, 43] [0, 1] [bT 5 b86, bT 12 b87, bT 19 b88] fun _ _ i => ⟨true, h, i⟩
        · obtain ⟨y89, hy89, h⟩ := bs h
          rcases cs h with ⟨b90, h⟩ | ⟨b90, h⟩
          · exact At.rK [2, 3, 43] [0, 1] [bT 5 b86, bT 12 b87, bT 19 b88, c0 24 (C_retraceref27_Same p0.Events p1.Events y89 hy89), bT 27 b90] fun _ _ i => ⟨true, h, i⟩
          · exact At.rK [2, 3, 43] [0, 1] [bT 5 b86, bT 12 b87, bT 19 b88, c0 24 (C_retraceref27_Same p0.Events p1.Events y89 hy89), bT 27 b90] fun _ _ i => ⟨(((p0.Marks).length : Int) != ((p1.Marks).length : Int)), h, i⟩
  · intro x18 h
    refine At.cd h (fun b19 h => ?_) (fun b19 h => ?_)
    · refine At.sR [4] [] [] ?_
      obtain rfl := sq h
      exact At.ret (At.rR hR [])
    · refine At.nR [2, 3] [0, 1] ?_
      refine At.skip (norm ?_)
      refine At.seq ?_
      refine At.sR [2, 3, 5] [0, 1] [] ?_
      refine At.block ?_
      refine At.nK (st' := ⟨[(2, .ptr 0 0), (3, .ptr 1 0), (5, i64 0)], [.blk 27 (T_api_Trace.pvs p0), .blk 27 (T_api_Trace.pvs p1)]⟩) [2, 3, 5] [0, 1] ?_
      refine At.lp (fun s : (Int) => ⟨[(2, .ptr 0 0), (3, .ptr 1 0), (5, i64 s)], [.blk 27 (T_api_Trace.pvs p0), .blk 27 (T_api_Trace.pvs p1)]⟩) h ?_
      intro x53 oo54 h f55
      replace h : F_retraceref32_Same_L3 p0 p1 x53 = some oo54 := h
      refine At.seq ?_
      refine At.sR [2, 3, 5, 48] [0, 1] [] ?_
      refine At.cd h (fun b57 h => ?_) (fun b57 h => ?_)
      · refine At.nR [2, 3, 5] [0, 1] ?_
        refine At.skip (norm ?_)
        refine At.seq ?_
        refine At.block ?_
        obtain ⟨y72, hy72, h⟩ := bs h
        obtain ⟨y73, hy73, h⟩ := bs h
        refine At.sD 2 [2, 3, 5, 6, 7] [0, 1, 2, 3] [eT T_api_Mark.enc_len 3 hy72, eT T_api_Mark.enc_len 8 hy73] ?_
        refine At.seqJ (S := Bool) (fun s => ⟨[(2, .ptr 0 0), (3, .ptr 1 0), (5, i64 x53), (80, bo s)], [.blk 27 (T_api_Trace.pvs p0), .blk 27 (T_api_Trace.pvs p1)]⟩) (fun s => F_retraceref32_Same_J2 x53 s = some oo54) ?_ ?_
        · rcases cs h with ⟨b81, h⟩ | ⟨b81, h⟩
          · exact At.rK [2, 3, 5, 80] [0, 1] [bT 5 b81] fun _ _ i => ⟨true, h, i⟩
          · rcases cs h with ⟨b82, h⟩ | ⟨b82, h⟩
            · exact At.rK [2, 3, 5, 80] [0, 1] [bT 5 b81, bT 12 b82] fun _ _ i => ⟨true, h, i⟩
            · obtain ⟨y83, hy83, h⟩ := bs h
              exact At.rK [2, 3, 5, 80] [0, 1] [bT 5 b81, bT 12 b82, c0 17 (C_retraceref28_Same y72.State y73.State y83 hy83)] fun _ _ i => ⟨(!y83), h, i⟩
        · intro x77 h
          refine At.cd h (fun b78 h => ?_) (fun b78 h => ?_)
          · refine At.sR [4] [] [] ?_
            obtain ⟨r79, h, e80⟩ := mr h
            rw [f55 _ e80] at h
            obtain rfl := sq h
            exact At.ret (At.rR hR [])
          · refine At.nR [2, 3, 5] [0, 1] ?_
            refine At.skip (norm ?_)
            exact At.rK [2, 3, 5] [0, 1] [] fun _ _ i => ⟨_, li h, i⟩
      · refine At.nR [] [] ?_
        obtain ⟨r84, h, e85⟩ := mr h
        rw [f55 _ e85] at h
        refine At.exit (norm ?_)
        refine At.sR [4] [] [] ?_
        obtain rfl := sq h
        exact At.ret (At.rR hR [])
theorem C_R_event_Steps_0 (p0 : Int) (o1_0 : Int) (r : Int) (h : F_R_event_Steps_0 p0 o1_0 = some r) : RdOK Try.prog 0 [i64 p0] [.loop #[6] as_event_Steps_0 bd_event_Steps_0 10 [3] [.ptr 1 0] .ready none, .blk 3 [i64 o1_0]] (bo true) [.loop #[6] as_event_Steps_0 bd_event_Steps_0 10 [3] [.ptr 1 0] .ready none, .blk 3 [i64 r]] [1, 3] := by
  refine RdOK.intro (i := 0) rfl (by kernel_rfl) fun E gv l R hR => ?_
  refine At.eqv (st2 := ⟨[(6, i64 p0), (3, .ptr 1 0)], [.loop #[6] as_event_Steps_0 bd_event_Steps_0 10 [3] [.ptr 1 0] .ready none, .blk 3 [i64 o1_0], .ghost (gv 0) (.ptr 0 0), .ghost (gv 1) (.ptr 1 0), .ghost (yieldV l) (.yld 0)]⟩) rfl ?_
  refine At.nK (st' := ⟨[(3, .ptr 1 0)], [.loop #[6] as_event_Steps_0 bd_event_Steps_0 10 [3] [.ptr 1 0] .ready none, .blk 3 [i64 o1_0], .ghost (gv 0) (.ptr 0 0), .ghost (gv 1) (.ptr 1 0), .ghost (yieldV l) (.yld 0)]⟩) [3] [0, 1, 2, 3, 4] ?_
  refine At.skip (begin_ok (i := 0) (k := 4) (st' := ⟨[(3, .ptr 1 0)], [.loop #[6] as_event_Steps_0 bd_event_Steps_0 10 [3] [.ptr 1 0] .busy none, .blk 3 [i64 o1_0], .ghost (gv 0) (.ptr 0 0), .ghost (gv 1) (.ptr 1 0), .ghost (yieldV l) (.yld 0)]⟩) (by kernel_rfl) rfl ?_)
  refine At.block ?_
  obtain rfl := sq h
  refine At.rK (st' := ⟨[], [.loop #[6] as_event_Steps_0 bd_event_Steps_0 10 [3] [.ptr 1 0] .busy none, .blk 3 [i64 (w64 (o1_0 + 1))], .ghost (gv 0) (.ptr 0 0), .ghost (gv 1) (.ptr 1 0), .ghost (yieldV l) (.yld 0)]⟩) [] [0, 1, 2, 3, 4] [] (round_fin hR (i := 0) (k := 4) (ρ := [0, 1]) (jump := none) (gs := [.ghost (gv 0) (.ptr 0 0), .ghost (gv 1) (.ptr 1 0)]) (by kernel_rfl) rfl (by kernel_rfl) rfl rfl rfl)
theorem C_event_begins_1_v2 (o1_0 : Int) (o2_0 : (List T_api_Event)) (r : Int) (h : F_event_begins_1_v2 o1_0 o2_0 = some r) : FnOK Try.prog 69 [.yld 0, .ptr 2 0] [.loop #[6] as_event_Steps_0 bd_event_Steps_0 10 [3] [.ptr 1 0] .ready none, .blk 3 [i64 o1_0], .blk 24 [lv T_api_Event.enc o2_0]] (.tup []) [.loop #[6] as_event_Steps_0 bd_event_Steps_0 10 [3] [.ptr 1 0] .ready none, .blk 3 [i64 r], .blk 24 [lv T_api_Event.enc o2_0]] [1, 3, 5] := by
  refine fI Try.func69 rfl fun E gv R hR => ?_
  refine At.sR [0, 5, 6, 7] [0, 1, 2, 3, 4, 5] [] ?_
  refine At.block ?_
  refine At.nK (st' := ⟨[(0, .yld 0), (5, lv T_api_Event.enc o2_0), (6, i64 ((o2_0).length : Int)), (7, i64 0)], [.loop #[6] as_event_Steps_0 bd_event_Steps_0 10 [3] [.ptr 1 0] .ready none, .blk 3 [i64 o1_0], .blk 24 [lv T_api_Event.enc o2_0], .ghost (gv 0) (.ptr 0 0), .ghost (gv 1) (.ptr 1 0), .ghost (gv 2) (.ptr 2 0)]⟩) [0, 5, 6, 7] [0, 1, 2, 3, 4, 5] ?_
  refine At.lp (fun s : (Int × Int) => ⟨[(0, .yld 0), (5, lv T_api_Event.enc o2_0), (6, i64 ((o2_0).length : Int)), (7, i64 s.1)], [.loop #[6] as_event_Steps_0 bd_event_Steps_0 10 [3] [.ptr 1 0] .ready none, .blk 3 [i64 s.2], .blk 24 [lv T_api_Event.enc o2_0], .ghost (gv 0) (.ptr 0 0), .ghost (gv 1) (.ptr 1 0), .ghost (gv 2) (.ptr 2 0)]⟩) h ?_
  rintro ⟨x1, x2⟩ oo3 h f4
  replace h : F_event_begins_1_v2_L2 o2_0 x1 x2 = some oo3 := h
  refine At.sR [0, 5, 6, 7, 8] [0, 1, 2, 3, 4, 5] [] ?_
  refine At.seq ?_
  refine At.cd h (fun b6 h => ?_) (fun b6 h => ?_)
  · refine At.nR [0, 5, 6, 7] [0, 1, 2, 3, 4, 5] ?_
    refine At.skip (norm ?_)
    refine At.seq ?_
    refine At.block ?_
    obtain ⟨y15, hy15, h⟩ := bs h
    refine At.sR [0, 3, 4, 5, 6, 7] [0, 1, 2, 3, 4, 5, 6] [eT T_api_Event.enc_len 1 hy15] ?_
    refine At.seqJ (S := Int) (fun s => ⟨[(0, .yld 0), (5, lv T_api_Event.enc o2_0), (6, i64 ((o2_0).length : Int)), (7, i64 x1), (20, bo false)], [.loop #[6] as_event_Steps_0 bd_event_Steps_0 10 [3] [.ptr 1 0] .ready none, .blk 3 [i64 s], .blk 24 [lv T_api_Event.enc o2_0], .ghost (gv 0) (.ptr 0 0), .ghost (gv 1) (.ptr 1 0), .ghost (gv 2) (.ptr 2 0)]⟩) (fun s => F_event_begins_1_v2_J1 x1 s = some oo3) ?_ ?_
    · rcases cs h with ⟨b19, h⟩ | ⟨b19, h⟩
      · obtain ⟨y20, hy20, h⟩ := bs h
        exact At.rK [0, 5, 6, 7, 20] [0, 1, 2, 3, 4, 5] [bT 3 b19, yX 6 2 [0, 1] [] true (C_R_event_Steps_0 x1 x2 y20 hy20)] fun _ _ i => ⟨y20, h, i⟩
      · exact At.rK [0, 5, 6, 7, 20] [0, 1, 2, 3, 4, 5] [bT 3 b19] fun _ _ i => ⟨x2, h, i⟩
    · intro x18 h
      refine At.cn ?_
      refine At.nR [0, 5, 6, 7] [0, 1, 2, 3, 4, 5] ?_
      refine At.skip (norm ?_)
      exact At.rK [0, 5, 6, 7] [0, 1, 2, 3, 4, 5] [] fun _ _ i => ⟨_, li h, i⟩
  · refine At.nR [] [0, 1, 2, 3, 4, 5] ?_
    obtain ⟨r21, h, e22⟩ := mr h
    rw [f4 _ e22] at h
    obtain rfl := sq h
    refine At.exit (edq (l := []) (ks := []) (ρ := [0, 1, 2, 3, 4, 5]) (st' := ⟨[], [.loop #[6] as_event_Steps_0 bd_event_Steps_0 10 [3] [.ptr 1 0] .ready none, .blk 3 [i64 x2], .blk 24 [lv T_api_Event.enc o2_0], .ghost (gv 0) (.ptr 0 0), .ghost (gv 1) (.ptr 1 0), .ghost (gv 2) (.ptr 2 0)]⟩) (by kernel_rfl) (At.rN hR [0, 1, 2]))
theorem C_event_Steps (p0 : (List T_api_Event)) (r : Int) (h : F_event_Steps p0 = some r) : FnOK Try.prog 21 [lv T_api_Event.enc p0] [] (i64 r) [] [] := by
  refine fI Try.func21 rfl fun E gv R hR => ?_
  refine At.sR [0, 2] [] [] ?_
  refine At.sR [0, 2, 3] [0] [] ?_
  refine At.seq ?_
  obtain ⟨y5, hy5, h⟩ := bs h
  refine At.sR [2, 3, 5] [0, 1] [cT 1 0 [1] (C_event_begins p0 y5 hy5)] ?_
  refine At.block ?_
  obtain ⟨y6, hy6, h⟩ := bs h
  refine At.range (pc := { ρ := [3, 0, 1], n0 := 3, res := .tup [], σ' := [.loop #[6] as_event_Steps_0 bd_event_Steps_0 10 [3] [.ptr 1 0] .ready none, .blk 3 [i64 y6], .blk 24 [lv T_api_Event.enc y5]], e := [1, 3, 5] }) [3] (st' := ⟨[(2, i64 0), (3, .ptr 0 0), (5, .fn (.func 69) [] [.ptr 1 0])], [.blk 3 [i64 y6], .blk 24 [lv T_api_Event.enc y5], .mark, .dead]⟩) (jump := none) (by kernel_rfl) (allc (C_event_begins_1_v2 0 y5 y6 hy6) all0) (nark [3] [2, 0] (st' := ⟨[(3, .ptr 1 0)], [.mark, .blk 3 [i64 y6]]⟩) (by kernel_rfl) (norm ?_))
  refine At.sR [2] [0] [] ?_
  obtain rfl := sq h
  exact At.ret (At.rR hR [])
theorem C_salvage_Steps (p0 : T_api_Trace) (r : Int) (h : F_salvage_Steps p0 = some r) : FnOK Try.prog 11 [.agg (T_api_Trace.pvs p0)] [] (i64 r) [] [] := by
  refine fI Try.func11 rfl fun E gv R hR => ?_
  refine At.sR [1] [0] [] ?_
  obtain ⟨y2, hy2, h⟩ := bs h
  refine At.sR [2] [] [c0 2 (C_event_Steps p0.Events y2 hy2)] ?_
  obtain rfl := sq h
  exact At.ret (At.rR hR [])
theorem C_slices_Clone_retrace_api_Event_retrace_api_Event (p0 : (List T_api_Event)) (r : (List T_api_Event)) (h : F_slices_Clone_retrace_api_Event_retrace_api_Event p0 = some r) : FnOK Try.prog 23 [lv T_api_Event.enc p0] [] (.row 0 (r).length) [.row 45 2 (encL T_api_Event.enc r)] [] := by
  refine fI Try.func23 rfl fun E gv R hR => ?_
  refine At.sR [0] [] [] ?_
  refine At.seq ?_
  refine At.seq ?_
  refine At.nilEq (t0 := 0) (t3 := 3) (t4 := 4) (e := 45) (tt := false) (k := (p0).length) (xs := encL T_api_Event.enc p0) rfl rfl rfl rfl rfl rfl (by decide) (by decide) (by kernel_rfl) (by kernel_rfl) ?_
  rintro (_ | _) hk
  · refine norm ?_
    refine At.nar [0, 4] [] (st' := ⟨[(0, lv T_api_Event.enc p0), (4, bo false)], []⟩) (by kernel_rfl) ?_
    refine At.cn ?_
    refine At.nR [0] [] ?_
    refine At.skip (norm ?_)
    obtain ⟨g2, h⟩ := gs h
    refine At.sR [2] [0] [aT T_api_Event.enc_len 2 ([] : List T_api_Event) p0 rfl g2] ?_
    obtain rfl := sq h
    exact At.ret (At.rR hR [0])
  · obtain rfl := List.length_eq_zero_iff.1 (hk rfl)
    obtain ⟨_, h⟩ := grd_some h
    refine norm ?_
    refine At.nar [0, 4] [] (st' := ⟨[(0, lv T_api_Event.enc ([] : List T_api_Event)), (4, bo true)], []⟩) (by kernel_rfl) ?_
    refine At.cy ?_
    refine At.sR [2] [] [] ?_
    refine At.eN [.ownS 2 45 2] [2] [0] ?_
    obtain rfl := sq h
    exact At.ret (At.rR hR [0])
theorem C_slices_Clone_retrace_api_Mark_retrace_api_Mark (p0 : (List T_api_Mark)) (r : (List T_api_Mark)) (h : F_slices_Clone_retrace_api_Mark_retrace_api_Mark p0 = some r) : FnOK Try.prog 25 [lv T_api_Mark.enc p0] [] (.row 0 (r).length) [.row 64 9 (encL T_api_Mark.enc r)] [] := by
  refine fI Try.func25 rfl fun E gv R hR => ?_
  refine At.sR [0] [] [] ?_
  refine At.seq ?_
  refine At.seq ?_
  refine At.nilEq (t0 := 0) (t3 := 3) (t4 := 4) (e := 64) (tt := false) (k := (p0).length) (xs := encL T_api_Mark.enc p0) rfl rfl rfl rfl rfl rfl (by decide) (by decide) (by kernel_rfl) (by kernel_rfl) ?_
  rintro (_ | _) hk
  · refine norm ?_
    refine At.nar [0, 4] [] (st' := ⟨[(0, lv T_api_Mark.enc p0), (4, bo false)], []⟩) (by kernel_rfl) ?_
    refine At.cn ?_
    refine At.nR [0] [] ?_
    refine At.skip (norm ?_)
    obtain ⟨g2, h⟩ := gs h
    refine At.sR [2] [0] [aT T_api_Mark.enc_len 2 ([] : List T_api_Mark) p0 rfl g2] ?_
    obtain rfl := sq h
    exact At.ret (At.rR hR [0])
  · obtain rfl := List.length_eq_zero_iff.1 (hk rfl)
    obtain ⟨_, h⟩ := grd_some h
    refine norm ?_
    refine At.nar [0, 4] [] (st' := ⟨[(0, lv T_api_Mark.enc ([] : List T_api_Mark)), (4, bo true)], []⟩) (by kernel_rfl) ?_
    refine At.cy ?_
    refine At.sR [2] [] [] ?_
    refine At.eN [.ownS 2 64 9] [2] [0] ?_
    obtain rfl := sq h
    exact At.ret (At.rR hR [0])
theorem C_salvage_Cut_1 (p0 : T_api_Mark) (o0_0 : Int) (r : Bool) (h : F_salvage_Cut_1 p0 o0_0 = some r) : FnOK Try.prog 26 [.agg (T_api_Mark.pvs p0), .ptr 0 0] [.blk 3 [i64 o0_0]] (bo r) [.blk 3 [i64 o0_0]] [1] := by
  refine fI Try.func26 rfl fun E gv R hR => ?_
  refine At.sR [1, 2] [0, 1, 2] [] ?_
  refine At.sR [3] [0, 1] [] ?_
  obtain rfl := sq h
  exact At.ret (At.rR hR [0])
theorem C_slices_IndexFunc_retrace_api_Mark_retrace_api_Mark (p0 : (List T_api_Mark)) (o0_0 : Int) (r : Int) (h : F_slices_IndexFunc_retrace_api_Mark_retrace_api_Mark p0 o0_0 = some r) : FnOK Try.prog 48 [lv T_api_Mark.enc p0, .fn (.func 26) [] [.ptr 0 0]] [.blk 3 [i64 o0_0]] (i64 r) [.blk 3 [i64 o0_0]] [1] := by
  refine fI Try.func48 rfl fun E gv R hR => ?_
  refine At.sR [0, 1] [0, 1] [] ?_
  refine At.seq ?_
  refine At.sR [0, 1, 7, 8] [0, 1] [] ?_
  refine At.block ?_
  refine At.nK (st' := ⟨[(0, lv T_api_Mark.enc p0), (1, .fn (.func 26) [] [.ptr 0 0]), (7, i64 ((p0).length : Int)), (8, i64 0)], [.blk 3 [i64 o0_0], .ghost (gv 0) (.ptr 0 0)]⟩) [0, 1, 7, 8] [0, 1] ?_
  refine At.lp (fun s : (Int) => ⟨[(0, lv T_api_Mark.enc p0), (1, .fn (.func 26) [] [.ptr 0 0]), (7, i64 ((p0).length : Int)), (8, i64 s)], [.blk 3 [i64 o0_0], .ghost (gv 0) (.ptr 0 0)]⟩) h ?_
  intro x20 oo21 h f22
  replace h : F_slices_IndexFunc_retrace_api_Mark_retrace_api_Mark_L1 p0 o0_0 x20 = some oo21 := h
  refine At.sR [0, 1, 7, 8, 9] [0, 1] [] ?_
  refine At.seq ?_
  refine At.cd h (fun b24 h => ?_) (fun b24 h => ?_)
  · refine At.nR [0, 1, 7, 8] [0, 1] ?_
    refine At.skip (norm ?_)
    refine At.seq ?_
    refine At.block ?_
    refine At.sR [0, 1, 5, 7, 8] [0, 1] [] ?_
    obtain ⟨y32, hy32, h⟩ := bs h
    obtain ⟨y33, hy33, h⟩ := bs h
    refine At.sR [0, 1, 5, 7, 8, 16] [0, 1] [eT T_api_Mark.enc_len 3 hy32, cT 5 1 [0] (C_salvage_Cut_1 y32 o0_0 y33 hy33)] ?_
    refine At.cd h (fun b34 h => ?_) (fun b34 h => ?_)
    · refine At.sR [4] [0, 1] [] ?_
      obtain ⟨r35, h, e36⟩ := mr h
      rw [f22 _ e36] at h
      obtain rfl := sq h
      exact At.ret (At.rR hR [0])
    · refine At.nR [0, 1, 7, 8] [0, 1] ?_
      refine At.skip (norm ?_)
      exact At.rK [0, 1, 7, 8] [0, 1] [] fun _ _ i => ⟨_, li h, i⟩
  · refine At.nR [] [0, 1] ?_
    obtain ⟨r37, h, e38⟩ := mr h
    rw [f22 _ e38] at h
    refine At.exit (norm ?_)
    refine At.sR [4] [0, 1] [] ?_
    obtain rfl := sq h
    exact At.ret (At.rR hR [0])
theorem C_slices_DeleteFunc_retrace_api_Mark_retrace_api_Mark (o1_0 : Int) (o0 : (List T_api_Mark)) (r : (List T_api_Mark)) (h : F_slices_DeleteFunc_retrace_api_Mark_retrace_api_Mark o1_0 o0 = some r) : FnOK Try.prog 24 [.row 0 (o0).length, .fn (.func 26) [] [.ptr 1 0]] [.row 64 9 (encL T_api_Mark.enc o0), .blk 3 [i64 o1_0]] (lv T_api_Mark.enc r) [.dead, .blk 3 [i64 o1_0]] [0, 1, 3] := by
  refine fI Try.func24 rfl fun E gv R hR => ?_
  refine At.sR [0, 1] [0, 1, 2, 3] [] ?_
  obtain ⟨y2, hy2, h⟩ := bs h
  refine At.sR [0, 1, 5] [0, 1, 2, 3] [cX 2 1 [1] [0] true (C_slices_IndexFunc_retrace_api_Mark_retrace_api_Mark o0 o1_0 y2 hy2)] ?_
  refine At.seq ?_
  refine At.sR [0, 1, 5, 12] [0, 1, 2, 3] [] ?_
  refine At.cd h (fun b4 h => ?_) (fun b4 h => ?_)
  · refine At.sR [4] [0, 1, 2, 3] [] ?_
    refine At.eN [.hideG 2] [4] [0, 1, 2, 3] ?_
    obtain rfl := sq h
    exact At.ret (At.rR hR [0, 1])
  · refine At.nR [0, 1, 5] [0, 1, 2, 3] ?_
    refine At.skip (norm ?_)
    cases h
theorem C_salvage_Cut (p0 : T_api_Trace) (p1 : Int) (r : T_api_Trace) (h : F_salvage_Cut p0 p1 = some r) : FnOK Try.prog 12 [.agg (T_api_Trace.pvs p0), i64 p1] [] (.agg (T_api_Trace.pvs r)) [] [] := by
  refine fI Try.func12 rfl fun E gv R hR => ?_
  refine At.sR [2, 3, 4] [0, 1, 2] [] ?_
  obtain ⟨y2, hy2, h⟩ := bs h
  refine At.sR [2, 3, 4, 5] [0, 1, 2] [c0 3 (C_event_Begin p0.Events p1 y2 hy2)] ?_
  refine At.seq ?_
  refine At.sR [2, 3, 4, 5, 11] [0, 1, 2] [] ?_
  refine At.cd h (fun b4 h => ?_) (fun b4 h => ?_)
  · refine At.sR [4] [2] [] ?_
    obtain rfl := sq h
    exact At.ret (At.rR hR [])
  · refine At.nR [2, 3, 4, 5] [0, 1, 2] ?_
    refine At.skip (norm ?_)
    obtain ⟨g7, h⟩ := gs h
    obtain ⟨y8, hy8, h⟩ := bs h
    refine At.sR [2, 3, 4] [0, 3, 1, 2] [tT 3 ({ form := some ((lCut p0.Events 0 y2).length, encL T_api_Event.enc (lCut p0.Events 0 y2)) }) (allc ((cut_ok T_api_Event.enc_len g7).1) (allc ((cut_ok T_api_Event.enc_len g7).2) (allc g7 all0))), cT 4 0 [3] (C_slices_Clone_retrace_api_Event_retrace_api_Event (lCut p0.Events 0 y2) y8 hy8)] ?_
    refine At.seq ?_
    obtain ⟨y11, hy11, h⟩ := bs h
    obtain ⟨y12, hy12, h⟩ := bs h
    refine At.rK (st' := ⟨[(2, .ptr 0 0), (4, .ptr 2 0)], [.blk 27 [u32 p0.Sum, i64 p0.Fuel, i64 p0.Every, .row 1 (y8).length, lv T_api_Mark.enc y12], .row 45 2 (encL T_api_Event.enc y8), .blk 27 [u32 0, i64 0, i64 0, .d (.list true 0 []), .d (.list true 0 [])]]⟩) [2, 4] [0, 1, 3] [cT 2 0 [4] (C_slices_Clone_retrace_api_Mark_retrace_api_Mark p0.Marks y11 hy11), cT 4 2 [4, 2] (C_slices_DeleteFunc_retrace_api_Mark_retrace_api_Mark p1 y11 y12 hy12)] (norm ?_)
    refine At.sR [4] [2, 1] [] ?_
    refine At.eN [.settle 1] [4] [0] ?_
    obtain rfl := sq h
    exact At.ret (At.rR hR [])
theorem C_retracelaw33_live  (r : Bool) (h : F_retracelaw33_live  = some r) : FnOK Try.prog 5 [] [] (bo r) [] [] := by
  refine fI Try.func5 rfl fun E gv R hR => ?_
  refine At.sR [] [] [] ?_
  obtain ⟨y2, hy2, h⟩ := bs h
  refine At.sR [1, 2, 3] [0] [c0 0 (C_salvage_Of (⟨#[]⟩ : ByteArray) y2 hy2)] ?_
  refine At.sR [1, 2, 3, 4] [0, 2, 1] [] ?_
  refine At.seqJ (S := Bool) (fun s => ⟨[(0, bo s)], []⟩) (fun s => F_retracelaw33_live_J1 s = some r) ?_ ?_
  · obtain ⟨y12, hy12, h⟩ := bs h
    rcases cs h with ⟨b13, h⟩ | ⟨b13, h⟩
    · rcases cs h with ⟨b14, h⟩ | ⟨b14, h⟩
      · rcases cs h with ⟨b15, h⟩ | ⟨b15, h⟩
        · obtain ⟨y16, hy16, h⟩ := bs h
          rcases cs h with ⟨b17, h⟩ | ⟨b17, h⟩
          · obtain ⟨y18, hy18, h⟩ := bs h
            obtain ⟨y19, hy19, h⟩ := bs h
            exact At.rK [0] [] [c0 2 (C_retraceref32_Same y2.1 (⟨0, 0, 0, ([] : (List T_api_Event)), ([] : (List T_api_Mark))⟩ : T_api_Trace) y12 hy12), bT 3 b13, bT 7 b14, bT 11 b15, cX 13 0 [] [2] true (C_salvage_Steps (⟨0, 0, 1, [(⟨1, 0⟩ : T_api_Event), (⟨1, 0⟩ : T_api_Event)], ([] : (List T_api_Mark))⟩ : T_api_Trace) y16 hy16), bT 16 b17, c0 18 (C_salvage_Cut (⟨0, 0, 1, [(⟨1, 0⟩ : T_api_Event), (⟨1, 0⟩ : T_api_Event)], ([] : (List T_api_Mark))⟩ : T_api_Trace) 1 y18 hy18), c0 19 (C_salvage_Steps y18 y19 hy19)] fun _ _ i => ⟨(y19 == 1), h, i⟩
          · exact At.rK [0] [] [c0 2 (C_retraceref32_Same y2.1 (⟨0, 0, 0, ([] : (List T_api_Event)), ([] : (List T_api_Mark))⟩ : T_api_Trace) y12 hy12), bT 3 b13, bT 7 b14, bT 11 b15, cX 13 0 [] [2] true (C_salvage_Steps (⟨0, 0, 1, [(⟨1, 0⟩ : T_api_Event), (⟨1, 0⟩ : T_api_Event)], ([] : (List T_api_Mark))⟩ : T_api_Trace) y16 hy16), bT 16 b17] fun _ _ i => ⟨false, h, i⟩
        · exact At.rK [0] [] [c0 2 (C_retraceref32_Same y2.1 (⟨0, 0, 0, ([] : (List T_api_Event)), ([] : (List T_api_Mark))⟩ : T_api_Trace) y12 hy12), bT 3 b13, bT 7 b14, bT 11 b15] fun _ _ i => ⟨false, h, i⟩
      · exact At.rK [0] [] [c0 2 (C_retraceref32_Same y2.1 (⟨0, 0, 0, ([] : (List T_api_Event)), ([] : (List T_api_Mark))⟩ : T_api_Trace) y12 hy12), bT 3 b13, bT 7 b14] fun _ _ i => ⟨false, h, i⟩
    · exact At.rK [0] [] [c0 2 (C_retraceref32_Same y2.1 (⟨0, 0, 0, ([] : (List T_api_Event)), ([] : (List T_api_Mark))⟩ : T_api_Trace) y12 hy12), bT 3 b13] fun _ _ i => ⟨false, h, i⟩
  · intro x11 h
    obtain rfl := sq h
    exact At.ret (At.rR hR [])
theorem C_retraceref01_Get (p0 : ByteArray) (p1 : Int) (r : T_retraceref01_Got) (h : F_retraceref01_Get p0 p1 = some r) : FnOK Try.prog 35 [sv p0, i64 p1] [] (.agg (T_retraceref01_Got.pvs r)) [] [] := by
  refine fI Try.func35 rfl fun E gv R hR => ?_
  refine At.sR [0, 1, 4] [0] [] ?_
  refine At.seq ?_
  refine At.seqJ (S := Bool) (fun s => ⟨[(0, sv p0), (1, i64 p1), (4, .ptr 0 0), (16, bo s)], [.blk 85 [u64 0, i64 0, i64 0]]⟩) (fun s => F_retraceref01_Get_J1 p0 p1 s = some r) ?_ ?_
  · rcases cs h with ⟨b142, h⟩ | ⟨b142, h⟩
    · exact At.rK [0, 1, 4, 16] [0] [bT 2 b142] fun _ _ i => ⟨true, h, i⟩
    · exact At.rK [0, 1, 4, 16] [0] [bT 2 b142] fun _ _ i => ⟨(decide ((p0.size : Int) < p1)), h, i⟩
  · intro x6 h
    refine At.cd h (fun b7 h => ?_) (fun b7 h => ?_)
    · refine At.sR [4] [0] [] ?_
      obtain rfl := sq h
      exact At.ret (At.rR hR [])
    · refine At.nR [0, 1, 4] [0] ?_
      refine At.skip (norm ?_)
      refine At.sR [0, 1, 4, 5, 6] [0] [] ?_
      refine At.seq ?_
      refine At.sR [0, 1, 4, 5, 6, 7] [0] [] ?_
      refine At.block ?_
      refine At.nK (st' := ⟨[(0, sv p0), (1, i64 p1), (4, .ptr 0 0), (5, u64 0), (6, u64 1), (7, i64 0)], [.blk 85 [u64 0, i64 0, i64 0]]⟩) [0, 1, 4, 5, 6, 7] [0] ?_
      refine At.lp (fun s : (Int × Int × Int) => ⟨[(0, sv p0), (1, i64 p1), (4, .ptr 0 0), (5, u64 s.1), (6, u64 s.2.1), (7, i64 s.2.2)], [.blk 85 [u64 0, i64 0, i64 0]]⟩) h ?_
      rintro ⟨x75, x76, x77⟩ oo78 h f79
      replace h : F_retraceref01_Get_L3 p0 p1 x75 x76 x77 = some oo78 := h
      refine At.seq ?_
      refine At.sR [0, 1, 4, 5, 6, 7, 19] [0] [] ?_
      refine At.cd h (fun b81 h => ?_) (fun b81 h => ?_)
      · refine At.nR [0, 1, 4, 5, 6, 7] [0] ?_
        refine At.skip (norm ?_)
        refine At.seq ?_
        refine At.block ?_
        refine At.seq ?_
        refine At.sR [0, 1, 4, 5, 6, 7, 27] [0] [] ?_
        refine At.cd h (fun b109 h => ?_) (fun b109 h => ?_)
        · refine At.sR [4] [0] [] ?_
          obtain ⟨r110, h, e111⟩ := mr h
          rw [f79 _ e111] at h
          obtain rfl := sq h
          exact At.ret (At.rR hR [])
        · refine At.nR [0, 1, 4, 5, 6, 7] [0] ?_
          refine At.skip (norm ?_)
          obtain ⟨y113, hy113, h⟩ := bs h
          refine At.sR [0, 1, 4, 5, 6, 7, 8] [0] [sT 4 hy113] ?_
          refine At.seq ?_
          refine At.seqJ (S := Bool) (fun s => ⟨[(0, sv p0), (1, i64 p1), (4, .ptr 0 0), (5, u64 x75), (6, u64 x76), (7, i64 x77), (8, u8 y113), (47, bo s)], [.blk 85 [u64 0, i64 0, i64 0]]⟩) (fun s => F_retraceref01_Get_J2 p1 x75 x76 x77 y113 s = some oo78) ?_ ?_
          · rcases cs h with ⟨b136, h⟩ | ⟨b136, h⟩
            · rcases cs h with ⟨b137, h⟩ | ⟨b137, h⟩
              · exact At.rK [0, 1, 4, 5, 6, 7, 8, 47] [0] [bT 2 b136, bT 6 b137] fun _ _ i => ⟨true, h, i⟩
              · rcases cs h with ⟨b138, h⟩ | ⟨b138, h⟩
                · exact At.rK [0, 1, 4, 5, 6, 7, 8, 47] [0] [bT 2 b136, bT 6 b137, bT 9 b138] fun _ _ i => ⟨(decide (0 < x77)), h, i⟩
                · exact At.rK [0, 1, 4, 5, 6, 7, 8, 47] [0] [bT 2 b136, bT 6 b137, bT 9 b138] fun _ _ i => ⟨false, h, i⟩
            · rcases cs h with ⟨b139, h⟩ | ⟨b139, h⟩
              · exact At.rK [0, 1, 4, 5, 6, 7, 8, 47] [0] [bT 2 b136, bT 9 b139] fun _ _ i => ⟨(decide (0 < x77)), h, i⟩
              · exact At.rK [0, 1, 4, 5, 6, 7, 8, 47] [0] [bT 2 b136, bT 9 b139] fun _ _ i => ⟨false, h, i⟩
          · intro x128 h
            refine At.cd h (fun b129 h => ?_) (fun b129 h => ?_)
            · refine At.sR [4] [0] [] ?_
              obtain ⟨r130, h, e131⟩ := mr h
              rw [f79 _ e131] at h
              obtain rfl := sq h
              exact At.ret (At.rR hR [])
            · refine At.nR [0, 1, 4, 5, 6, 7, 8] [0] ?_
              refine At.skip (norm ?_)
              refine At.sR [0, 1, 4, 5, 6, 7, 8] [0] [oT 2 (by decide : 128 ≠ (0:Int))] ?_
              refine At.seq ?_
              refine At.sR [0, 1, 4, 5, 6, 7, 57] [0] [] ?_
              refine At.cd h (fun b133 h => ?_) (fun b133 h => ?_)
              · refine At.sR [4] [0] [] ?_
                obtain ⟨r134, h, e135⟩ := mr h
                rw [f79 _ e135] at h
                obtain rfl := sq h
                exact At.ret (At.rR hR [])
              · refine At.nR [0, 1, 4, 5, 6, 7] [0] ?_
                refine At.skip (norm ?_)
                refine At.rG [0, 1, 4, 5, 6, 7] [0] [] (norm ?_)
                exact At.rK [0, 1, 4, 5, 6, 7] [0] [] fun _ _ i => ⟨_, li h, i⟩
      · refine At.nR [4] [0] ?_
        obtain ⟨r140, h, e141⟩ := mr h
        rw [f79 _ e141] at h
        refine At.exit (norm ?_)
        refine At.sR [4] [0] [] ?_
        obtain rfl := sq h
        exact At.ret (At.rR hR [])
theorem C_retraceref02_push (p0 : Int) (p1 : ByteArray) (r : Int) (h : F_retraceref02_push p0 p1 = some r) : FnOK Try.prog 61 [u32 p0, sv p1] [] (u32 r) [] [] := by
  refine fI Try.func61 rfl fun E gv R hR => ?_
  refine At.sR [0, 1] [] [] ?_
  refine At.seq ?_
  refine At.sR [0, 1, 5] [] [] ?_
  refine At.block ?_
  refine At.nK (st' := ⟨[(0, u32 p0), (1, sv p1), (5, i64 0)], []⟩) [0, 1, 5] [] ?_
  refine At.lp (fun s : (Int × Int) => ⟨[(0, u32 s.1), (1, sv p1), (5, i64 s.2)], []⟩) h ?_
  rintro ⟨x35, x36⟩ oo37 h f38
  replace h : F_retraceref02_push_L3 p1 x35 x36 = some oo37 := h
  refine At.seq ?_
  refine At.sR [0, 1, 5, 11] [] [] ?_
  refine At.cd h (fun b40 h => ?_) (fun b40 h => ?_)
  · refine At.nR [0, 1, 5] [] ?_
    refine At.skip (norm ?_)
    refine At.seq ?_
    refine At.block ?_
    obtain ⟨y55, hy55, h⟩ := bs h
    refine At.sR [0, 1, 5] [] [sT 3 hy55] ?_
    refine At.sR [0, 1, 5, 6] [] [] ?_
    refine At.block ?_
    refine At.nK (st' := ⟨[(0, u32 (bits .xor .u32 x35 (wu32 y55))), (1, sv p1), (5, i64 x36), (6, i64 0)], []⟩) [0, 1, 5, 6] [] ?_
    refine At.lp (fun s : (Int × Int) => ⟨[(0, u32 s.1), (1, sv p1), (5, i64 x36), (6, i64 s.2)], []⟩) h ?_
    rintro ⟨x56, x57⟩ oo58 h f59
    replace h : F_retraceref02_push_L2 x36 x56 x57 = some oo58 := h
    refine At.seq ?_
    refine At.sR [0, 1, 5, 6, 21] [] [] ?_
    refine At.cd h (fun b61 h => ?_) (fun b61 h => ?_)
    · refine At.nR [0, 1, 5, 6] [] ?_
      refine At.skip (norm ?_)
      refine At.seqJ (S := Int) (fun s => ⟨[(0, u32 s), (1, sv p1), (5, i64 x36), (6, i64 x57)], []⟩) (fun s => F_retraceref02_push_J1 x57 s = some oo58) ?_ ?_
      · refine At.block ?_
        refine At.sR [0, 1, 5, 6, 7] [] [oT 1 (by decide : 2 ≠ (0:Int))] ?_
        refine At.sR [0, 1, 5, 6, 7] [] [oT 1 (by decide : 2 ≠ (0:Int))] ?_
        refine At.sR [0, 1, 5, 6, 29] [] [] ?_
        refine At.cd h (fun b64 h => ?_) (fun b64 h => ?_)
        · exact At.rK [0, 1, 5, 6] [] [] fun _ _ i => ⟨(bits .xor .u32 (wu32 (Int.tdiv x56 2)) 3988292384), h, i⟩
        · refine At.nK (st' := ⟨[(0, u32 (wu32 (Int.tdiv x56 2))), (1, sv p1), (5, i64 x36), (6, i64 x57)], []⟩) [0, 1, 5, 6] [] ?_
          refine At.skip (fun _ _ i => ⟨(wu32 (Int.tdiv x56 2)), h, i⟩)
      · intro x63 h
        exact At.rK [0, 1, 5, 6] [] [] fun _ _ i => ⟨_, li h, i⟩
    · refine At.nR [0, 1, 5] [] ?_
      obtain ⟨r65, h, e66⟩ := mr h
      rw [f59 _ e66] at h
      refine At.exit (norm ?_)
      exact At.rK [0, 1, 5] [] [] fun _ _ i => ⟨_, li h, i⟩
  · refine At.nR [0] [] ?_
    obtain ⟨r67, h, e68⟩ := mr h
    rw [f38 _ e68] at h
    refine At.exit (norm ?_)
    refine At.sR [4] [] [] ?_
    obtain rfl := sq h
    exact At.ret (At.rR hR [])
theorem C_retraceref02_Sum (p0 : ByteArray) (r : Int) (h : F_retraceref02_Sum p0 = some r) : FnOK Try.prog 37 [sv p0] [] (u32 r) [] [] := by
  refine fI Try.func37 rfl fun E gv R hR => ?_
  refine At.sR [0] [] [] ?_
  obtain ⟨y2, hy2, h⟩ := bs h
  refine At.sR [2] [] [c0 1 (C_retraceref02_push 4294967295 p0 y2 hy2)] ?_
  obtain rfl := sq h
  exact At.ret (At.rR hR [])
theorem C_retraceref02_Bytes (p0 : Int) (r : ByteArray) (h : F_retraceref02_Bytes p0 = some r) : FnOK Try.prog 36 [u32 p0] [] (sv r) [] [] := by
  refine fI Try.func36 rfl fun E gv R hR => ?_
  refine At.sR [0] [] [] ?_
  refine At.sR [2] [] [oT 1 (by decide : 256 ≠ (0:Int)), oT 4 (by decide : 256 ≠ (0:Int)), oT 5 (by decide : 256 ≠ (0:Int)), oT 8 (by decide : 65536 ≠ (0:Int)), oT 9 (by decide : 256 ≠ (0:Int)), oT 12 (by decide : 16777216 ≠ (0:Int)), tT 15 ({ orc := .nums ([(wu8 (Int.tmod p0 256)), (wu8 (Int.tmod (wu32 (Int.tdiv p0 256)) 256)), (wu8 (Int.tmod (wu32 (Int.tdiv p0 65536)) 256)), (wu8 (wu32 (Int.tdiv p0 16777216)))]) }) (allc (encL_map .u8 ([(wu8 (Int.tmod p0 256)), (wu8 (Int.tmod (wu32 (Int.tdiv p0 256)) 256)), (wu8 (Int.tmod (wu32 (Int.tdiv p0 65536)) 256)), (wu8 (wu32 (Int.tdiv p0 16777216)))])) (allc (rfl : (([(wu8 (Int.tmod p0 256)), (wu8 (Int.tmod (wu32 (Int.tdiv p0 256)) 256)), (wu8 (Int.tmod (wu32 (Int.tdiv p0 65536)) 256)), (wu8 (wu32 (Int.tdiv p0 16777216)))])).length = (([(wu8 (Int.tmod p0 256)), (wu8 (Int.tmod (wu32 (Int.tdiv p0 256)) 256)), (wu8 (Int.tmod (wu32 (Int.tdiv p0 65536)) 256)), (wu8 (wu32 (Int.tdiv p0 16777216)))])).length) all0))] ?_
  obtain rfl := sq h
  exact At.ret (At.rR hR [])
theorem C_retraceref04_Next (p0 : ByteArray) (p1 : Int) (r : T_retraceref04_Got) (h : F_retraceref04_Next p0 p1 = some r) : FnOK Try.prog 16 [sv p0, i64 p1] [] (.agg (T_retraceref04_Got.pvs r)) [] [] := by
  refine fI Try.func16 rfl fun E gv R hR => ?_
  refine At.sR [0, 1, 4] [0] [] ?_
  refine At.seq ?_
  refine At.seqJ (S := Bool) (fun s => ⟨[(0, sv p0), (1, i64 p1), (4, .ptr 0 0), (15, bo s)], [.blk 54 [i64 0, sv (⟨#[]⟩ : ByteArray), i64 0, i64 0]]⟩) (fun s => F_retraceref04_Next_J1 p0 p1 s = some r) ?_ ?_
  · rcases cs h with ⟨b42, h⟩ | ⟨b42, h⟩
    · exact At.rK [0, 1, 4, 15] [0] [bT 2 b42] fun _ _ i => ⟨true, h, i⟩
    · exact At.rK [0, 1, 4, 15] [0] [bT 2 b42] fun _ _ i => ⟨(decide ((p0.size : Int) < p1)), h, i⟩
  · intro x6 h
    refine At.cd h (fun b7 h => ?_) (fun b7 h => ?_)
    · refine At.sR [4] [0] [] ?_
      obtain rfl := sq h
      exact At.ret (At.rR hR [])
    · refine At.nR [0, 1, 4] [0] ?_
      refine At.skip (norm ?_)
      refine At.seq ?_
      refine At.sR [0, 1, 4, 20] [0] [] ?_
      refine At.cd h (fun b9 h => ?_) (fun b9 h => ?_)
      · refine At.sR [4] [0] [] ?_
        obtain rfl := sq h
        exact At.ret (At.rR hR [])
      · refine At.nR [0, 1, 4] [0] ?_
        refine At.skip (norm ?_)
        obtain ⟨y11, hy11, h⟩ := bs h
        refine At.sR [0, 1, 4, 5] [0, 1] [c0 3 (C_retraceref01_Get p0 (w64 (p1 + 1)) y11 hy11)] ?_
        refine At.seq ?_
        refine At.sR [0, 1, 4, 5, 28] [0, 1] [] ?_
        refine At.cd h (fun b13 h => ?_) (fun b13 h => ?_)
        · refine At.seq ?_
          refine At.rK (st' := ⟨[(4, .ptr 0 0)], [.blk 54 [i64 0, sv (⟨#[]⟩ : ByteArray), i64 0, i64 y11.E]]⟩) [4] [0] [] (norm ?_)
          obtain rfl := sq h
          exact At.ret (At.rR hR [])
        · refine At.nK (st' := ⟨[(0, sv p0), (1, i64 p1), (4, .ptr 0 0), (5, .ptr 1 0)], [.blk 54 [i64 0, sv (⟨#[]⟩ : ByteArray), i64 0, i64 0], .blk 85 (T_retraceref01_Got.pvs y11)]⟩) [0, 1, 4, 5] [0, 1] ?_
          refine At.skip (norm ?_)
          refine At.seq ?_
          refine At.sR [0, 1, 4, 5, 34] [0, 1] [] ?_
          refine At.cd h (fun b15 h => ?_) (fun b15 h => ?_)
          · refine At.sR [4] [0] [] ?_
            obtain rfl := sq h
            exact At.ret (At.rR hR [])
          · refine At.nR [0, 1, 4, 5] [0, 1] ?_
            refine At.skip (norm ?_)
            obtain ⟨g17, h⟩ := gs h
            refine At.sR [0, 1, 4, 5, 6] [0, 1] [oT 3 g17] ?_
            refine At.sR [0, 1, 4, 5, 6, 7] [0, 1] [] ?_
            refine At.seq ?_
            refine At.sR [0, 1, 4, 5, 6, 7, 47] [0, 1] [] ?_
            refine At.cd h (fun b19 h => ?_) (fun b19 h => ?_)
            · refine At.seq ?_
              refine At.rK (st' := ⟨[(4, .ptr 0 0)], [.blk 54 [i64 0, sv (⟨#[]⟩ : ByteArray), i64 0, i64 2]]⟩) [4] [0] [] (norm ?_)
              obtain rfl := sq h
              exact At.ret (At.rR hR [])
            · refine At.nK (st' := ⟨[(0, sv p0), (1, i64 p1), (4, .ptr 0 0), (5, .ptr 1 0), (6, sv (p0.extract (Int.toNat y11.Next) (Int.toNat (p0.size : Int)))), (7, i64 (w64 y11.U))], [.blk 54 [i64 0, sv (⟨#[]⟩ : ByteArray), i64 0, i64 0], .blk 85 (T_retraceref01_Got.pvs y11)]⟩) [0, 1, 4, 5, 6, 7] [0, 1] ?_
              refine At.skip (norm ?_)
              refine At.seq ?_
              obtain ⟨g33, h⟩ := gs h
              obtain ⟨y34, hy34, h⟩ := bs h
              obtain ⟨y35, hy35, h⟩ := bs h
              obtain ⟨g36, h⟩ := gs h
              refine At.sD 0 [0, 1, 4, 5, 6, 7, 63] [0, 1] [oT 6 g33, c0 7 (C_retraceref02_Sum (p0.extract (Int.toNat p1) (Int.toNat (w64 (y11.Next + (w64 y11.U))))) y34 hy34), c0 8 (C_retraceref02_Bytes y34 y35 hy35), oT 13 g36] ?_
              refine At.cd h (fun b37 h => ?_) (fun b37 h => ?_)
              · refine At.sR [4] [0] [] ?_
                obtain rfl := sq h
                exact At.ret (At.rR hR [])
              · refine At.nR [0, 1, 4, 5, 6, 7] [0, 1] ?_
                refine At.skip (norm ?_)
                obtain ⟨y40, hy40, h⟩ := bs h
                obtain ⟨g41, h⟩ := gs h
                refine At.sD 0 [4] [0] [sT 2 hy40, oT 6 g41] ?_
                obtain rfl := sq h
                exact At.ret (At.rR hR [])
theorem C_retraceref03_Reader_fail (p1 : Int) (o0 : T_retraceref03_Reader) (r : T_retraceref03_Reader) (h : F_retraceref03_Reader_fail p1 o0 = some r) : FnOK Try.prog 62 [.ptr 0 0, i64 p1] [.blk 91 (T_retraceref03_Reader.pvs o0)] (.tup []) [.blk 91 (T_retraceref03_Reader.pvs r)] [1] := by
  refine fI Try.func62 rfl fun E gv R hR => ?_
  refine At.sR [0, 1, 8] [0, 1] [] ?_
  refine At.cd h (fun b1 h => ?_) (fun b1 h => ?_)
  · obtain rfl := sq h
    refine At.rG [] [0, 1] [] (edq (l := []) (ks := []) (ρ := [0, 1]) (st' := ⟨[], [.blk 91 [sv o0.S, i64 p1], .ghost (gv 0) (.ptr 0 0)]⟩) (by kernel_rfl) (At.rN hR [0]))
  · refine At.nR [] [0, 1] ?_
    obtain rfl := sq h
    refine At.skip (edq (l := []) (ks := []) (ρ := [0, 1]) (st' := ⟨[], [.blk 91 (T_retraceref03_Reader.pvs o0), .ghost (gv 0) (.ptr 0 0)]⟩) (by kernel_rfl) (At.rN hR [0]))
theorem C_retraceref03_Reader_Num (o0 : T_retraceref03_Reader) (r : Int × T_retraceref03_Reader) (h : F_retraceref03_Reader_Num o0 = some r) : FnOK Try.prog 38 [.ptr 0 0] [.blk 91 (T_retraceref03_Reader.pvs o0)] (u64 r.1) [.blk 91 (T_retraceref03_Reader.pvs r.2)] [1] := by
  refine fI Try.func38 rfl fun E gv R hR => ?_
  refine At.sR [0] [0, 1] [] ?_
  refine At.seq ?_
  refine At.sR [0, 8] [0, 1] [] ?_
  refine At.cd h (fun b2 h => ?_) (fun b2 h => ?_)
  · refine At.sR [2] [0, 1] [] ?_
    obtain rfl := sq h
    exact At.ret (At.rR hR [0])
  · refine At.nR [0] [0, 1] ?_
    refine At.skip (norm ?_)
    obtain ⟨y4, hy4, h⟩ := bs h
    refine At.sR [0, 3] [0, 1, 2] [c0 4 (C_retraceref01_Get o0.S 0 y4 hy4)] ?_
    refine At.seq ?_
    refine At.sR [0, 3, 16] [0, 1, 2] [] ?_
    refine At.cd h (fun b8 h => ?_) (fun b8 h => ?_)
    · refine At.seq ?_
      obtain ⟨y10, hy10, h⟩ := bs h
      refine At.rK (st' := ⟨[], [.blk 91 (T_retraceref03_Reader.pvs y10), .ghost (gv 0) (.ptr 0 0)]⟩) [] [0, 1] [cT 3 1 [0] (C_retraceref03_Reader_fail y4.E o0 y10 hy10)] (norm ?_)
      refine At.sR [2] [0, 1] [] ?_
      obtain rfl := sq h
      exact At.ret (At.rR hR [0])
    · refine At.nK (st' := ⟨[(0, .ptr 0 0), (3, .ptr 2 0)], [.blk 91 (T_retraceref03_Reader.pvs o0), .ghost (gv 0) (.ptr 0 0), .blk 85 (T_retraceref01_Got.pvs y4)]⟩) [0, 3] [0, 1, 2] ?_
      refine At.skip (norm ?_)
      obtain ⟨g12, h⟩ := gs h
      refine At.sD 0 [3] [0, 1, 2] [oT 7 g12] ?_
      refine At.sR [2] [0, 1] [] ?_
      obtain rfl := sq h
      exact At.ret (At.rR hR [0])
theorem C_retraceref03_Reader_Upto (p1 : Int) (o0 : T_retraceref03_Reader) (r : Int × T_retraceref03_Reader) (h : F_retraceref03_Reader_Upto p1 o0 = some r) : FnOK Try.prog 39 [.ptr 0 0, i64 p1] [.blk 91 (T_retraceref03_Reader.pvs o0)] (i64 r.1) [.blk 91 (T_retraceref03_Reader.pvs r.2)] [1] := by
  refine fI Try.func39 rfl fun E gv R hR => ?_
  refine At.sR [0, 1] [0, 1] [] ?_
  refine At.sR [0, 1, 5] [0, 1] [] ?_
  obtain ⟨y2, hy2, h⟩ := bs h
  refine At.sR [0, 1, 5, 6] [0, 1] [cT 1 1 [0] (C_retraceref03_Reader_Num o0 y2 hy2)] ?_
  refine At.seq ?_
  refine At.seqJ (S := Bool) (fun s => ⟨[(0, .ptr 0 0), (5, sv o0.S), (6, u64 y2.1), (27, bo s)], [.blk 91 (T_retraceref03_Reader.pvs y2.2), .ghost (gv 0) (.ptr 0 0)]⟩) (fun s => F_retraceref03_Reader_Upto_J1 o0 y2 s = some r) ?_ ?_
  · rcases cs h with ⟨b17, h⟩ | ⟨b17, h⟩
    · rcases cs h with ⟨b18, h⟩ | ⟨b18, h⟩
      · exact At.rK [0, 5, 6, 27] [0, 1] [bT 5 b17, bT 8 b18] fun _ _ i => ⟨true, h, i⟩
      · exact At.rK [0, 5, 6, 27] [0, 1] [bT 5 b17, bT 8 b18] fun _ _ i => ⟨(decide ((wu64 p1) < y2.1)), h, i⟩
    · exact At.rK [0, 5, 6, 27] [0, 1] [bT 5 b17] fun _ _ i => ⟨false, h, i⟩
  · intro x13 h
    refine At.cd h (fun b14 h => ?_) (fun b14 h => ?_)
    · refine At.sR [0] [0, 1] [] ?_
      obtain ⟨y16, hy16, h⟩ := bs h
      refine At.sR [] [0, 1] [cT 1 1 [0] (C_retraceref03_Reader_fail 6 (⟨o0.S, y2.2.Bad⟩ : T_retraceref03_Reader) y16 hy16)] ?_
      refine At.sR [4] [0, 1] [] ?_
      obtain rfl := sq h
      exact At.ret (At.rR hR [0])
    · refine At.nR [6] [0, 1] ?_
      refine At.skip (norm ?_)
      refine At.sR [4] [0, 1] [] ?_
      obtain rfl := sq h
      exact At.ret (At.rR hR [0])
theorem C_retraceref01_Zag (p0 : Int) (r : Int) (h : F_retraceref01_Zag p0 = some r) : FnOK Try.prog 83 [u64 p0] [] (i64 r) [] [] := by
  refine fI Try.func83 rfl fun E gv R hR => ?_
  refine At.sR [0] [] [] ?_
  refine At.seq ?_
  refine At.sR [0, 5] [] [oT 1 (by decide : 2 ≠ (0:Int))] ?_
  refine At.cd h (fun b2 h => ?_) (fun b2 h => ?_)
  · refine At.sR [2] [] [oT 1 (by decide : 2 ≠ (0:Int))] ?_
    obtain rfl := sq h
    exact At.ret (At.rR hR [])
  · refine At.nR [0] [] ?_
    refine At.skip (norm ?_)
    refine At.sR [2] [] [oT 1 (by decide : 2 ≠ (0:Int))] ?_
    obtain rfl := sq h
    exact At.ret (At.rR hR [])
theorem C_retraceref03_Reader_Int (o0 : T_retraceref03_Reader) (r : Int × T_retraceref03_Reader) (h : F_retraceref03_Reader_Int o0 = some r) : FnOK Try.prog 63 [.ptr 0 0] [.blk 91 (T_retraceref03_Reader.pvs o0)] (i64 r.1) [.blk 91 (T_retraceref03_Reader.pvs r.2)] [1] := by
  refine fI Try.func63 rfl fun E gv R hR => ?_
  refine At.sR [0] [0, 1] [] ?_
  obtain ⟨y3, hy3, h⟩ := bs h
  obtain ⟨y4, hy4, h⟩ := bs h
  refine At.sR [2] [0, 1] [cT 1 1 [0] (C_retraceref03_Reader_Num o0 y3 hy3), c0 2 (C_retraceref01_Zag y3.1 y4 hy4)] ?_
  obtain rfl := sq h
  exact At.ret (At.rR hR [0])
theorem C_retraceref03_Reader_End (o0 : T_retraceref03_Reader) (r : Int) (h : F_retraceref03_Reader_End o0 = some r) : FnOK Try.prog 42 [.ptr 0 0] [.blk 91 (T_retraceref03_Reader.pvs o0)] (i64 r) [.blk 91 (T_retraceref03_Reader.pvs o0)] [1] := by
  refine fI Try.func42 rfl fun E gv R hR => ?_
  refine At.sR [0] [0, 1] [] ?_
  refine At.seq ?_
  refine At.seqJ (S := Bool) (fun s => ⟨[(0, .ptr 0 0), (15, bo s)], [.blk 91 (T_retraceref03_Reader.pvs o0), .ghost (gv 0) (.ptr 0 0)]⟩) (fun s => F_retraceref03_Reader_End_J1 o0 s = some r) ?_ ?_
  · rcases cs h with ⟨b8, h⟩ | ⟨b8, h⟩
    · exact At.rK [0, 15] [0, 1] [bT 5 b8] fun _ _ i => ⟨(decide (0 < (o0.S.size : Int))), h, i⟩
    · exact At.rK [0, 15] [0, 1] [bT 5 b8] fun _ _ i => ⟨false, h, i⟩
  · intro x6 h
    refine At.cd h (fun b7 h => ?_) (fun b7 h => ?_)
    · refine At.sR [2] [0, 1] [] ?_
      obtain rfl := sq h
      exact At.ret (At.rR hR [0])
    · refine At.nR [0] [0, 1] ?_
      refine At.skip (norm ?_)
      refine At.sR [2] [0, 1] [] ?_
      obtain rfl := sq h
      exact At.ret (At.rR hR [0])
theorem C_retraceref31_Check (p0 : (List T_api_Event)) (r : (List Int)) (h : F_retraceref31_Check p0 = some r) : FnOK Try.prog 64 [lv T_api_Event.enc p0] [] (.dagg (encL (eInt .i64) r)) [] [] := by
  refine fI Try.func64 rfl fun E gv R hR => ?_
  refine At.sR [0, 2] [0] [] ?_
  refine At.seq ?_
  refine At.sR [0, 2, 6] [0] [] ?_
  refine At.cd h (fun b4 h => ?_) (fun b4 h => ?_)
  · obtain ⟨g6, h⟩ := gs h
    refine At.sR [2] [0] [oN 1 (allc (lenN (he_int .i64) ([65536, 13] : List Int) g6.1) (allc (lenN (he_int .i64) (List.replicate 2 (0 : Int)) g6.2) all0))] ?_
    obtain ⟨g7, h⟩ := gs h
    obtain rfl := sq h
    exact At.ret (At.rQ hR [] (allc (lenN (he_int .i64) ([65536, 13] : List Int) g7) all0))
  · refine At.nR [0, 2] [0] ?_
    refine At.skip (norm ?_)
    refine At.seq ?_
    refine At.sR [0, 2, 3] [0] [] ?_
    refine At.block ?_
    refine At.nK (st' := ⟨[(0, lv T_api_Event.enc p0), (2, .ptr 0 0), (3, i64 0)], [.dblk 120 (encL (eInt .i64) (List.replicate 2 (0 : Int)))]⟩) [0, 2, 3] [0] ?_
    refine At.lp (fun s : (Int) => ⟨[(0, lv T_api_Event.enc p0), (2, .ptr 0 0), (3, i64 s)], [.dblk 120 (encL (eInt .i64) (List.replicate 2 (0 : Int)))]⟩) h ?_
    intro x57 oo58 h f59
    replace h : F_retraceref31_Check_L2 p0 x57 = some oo58 := h
    refine At.seq ?_
    refine At.sR [0, 2, 3, 11] [0] [] ?_
    refine At.cd h (fun b61 h => ?_) (fun b61 h => ?_)
    · refine At.nR [0, 2, 3] [0] ?_
      refine At.skip (norm ?_)
      refine At.seq ?_
      refine At.block ?_
      refine At.seqJ (S := Bool) (fun s => ⟨[(0, lv T_api_Event.enc p0), (2, .ptr 0 0), (3, i64 x57), (47, bo s)], [.dblk 120 (encL (eInt .i64) (List.replicate 2 (0 : Int)))]⟩) (fun s => F_retraceref31_Check_J1 x57 s = some oo58) ?_ ?_
      · obtain ⟨y97, hy97, h⟩ := bs h
        rcases cs h with ⟨b98, h⟩ | ⟨b98, h⟩
        · exact At.rK [0, 2, 3, 47] [0] [eT T_api_Event.enc_len 2 hy97, bT 6 b98] fun _ _ i => ⟨true, h, i⟩
        · obtain ⟨y99, hy99, h⟩ := bs h
          rcases cs h with ⟨b100, h⟩ | ⟨b100, h⟩
          · exact At.rK [0, 2, 3, 47] [0] [eT T_api_Event.enc_len 2 hy97, bT 6 b98, eT T_api_Event.enc_len 9 hy99, bT 14 b100] fun _ _ i => ⟨true, h, i⟩
          · obtain ⟨y101, hy101, h⟩ := bs h
            rcases cs h with ⟨b102, h⟩ | ⟨b102, h⟩
            · exact At.rK [0, 2, 3, 47] [0] [eT T_api_Event.enc_len 2 hy97, bT 6 b98, eT T_api_Event.enc_len 9 hy99, bT 14 b100, eT T_api_Event.enc_len 17 hy101, bT 22 b102] fun _ _ i => ⟨true, h, i⟩
            · rcases cs h with ⟨b103, h⟩ | ⟨b103, h⟩
              · obtain ⟨y104, hy104, h⟩ := bs h
                exact At.rK [0, 2, 3, 47] [0] [eT T_api_Event.enc_len 2 hy97, bT 6 b98, eT T_api_Event.enc_len 9 hy99, bT 14 b100, eT T_api_Event.enc_len 17 hy101, bT 22 b102, bT 25 b103, eT T_api_Event.enc_len 28 hy104] fun _ _ i => ⟨(y104.Kind != 1), h, i⟩
              · exact At.rK [0, 2, 3, 47] [0] [eT T_api_Event.enc_len 2 hy97, bT 6 b98, eT T_api_Event.enc_len 9 hy99, bT 14 b100, eT T_api_Event.enc_len 17 hy101, bT 22 b102, bT 25 b103] fun _ _ i => ⟨false, h, i⟩
      · intro x90 h
        refine At.cd h (fun b91 h => ?_) (fun b91 h => ?_)
        · obtain ⟨g93, h⟩ := gs h
          refine At.sR [2] [0] [oN 2 (allc (lenN (he_int .i64) ([x57, 3] : List Int) g93.1) (allc (lenN (he_int .i64) (List.replicate 2 (0 : Int)) g93.2) all0))] ?_
          obtain ⟨r94, h, e95⟩ := mr h
          rw [f59 _ e95] at h
          obtain ⟨g96, h⟩ := gs h
          obtain rfl := sq h
          exact At.ret (At.rQ hR [] (allc (lenN (he_int .i64) ([x57, 3] : List Int) g96) all0))
        · refine At.nR [0, 2, 3] [0] ?_
          refine At.skip (norm ?_)
          exact At.rK [0, 2, 3] [0] [] fun _ _ i => ⟨_, li h, i⟩
    · refine At.nR [2] [0] ?_
      obtain ⟨r105, h, e106⟩ := mr h
      rw [f59 _ e106] at h
      refine At.exit (norm ?_)
      obtain ⟨g108, h⟩ := gs h
      refine At.sR [2] [0] [oN 1 (allc (lenN (he_int .i64) ([0, 0] : List Int) g108.1) (allc (lenN (he_int .i64) (List.replicate 2 (0 : Int)) g108.2) all0))] ?_
      obtain ⟨g109, h⟩ := gs h
      obtain rfl := sq h
      exact At.ret (At.rQ hR [] (allc (lenN (he_int .i64) ([0, 0] : List Int) g109) all0))
theorem C_retraceref31_Get (p0 : ByteArray) (r : T_retraceref31_Got) (h : F_retraceref31_Get p0 = some r) : FnOK Try.prog 40 [sv p0] [] (.agg (T_retraceref31_Got.pvs r)) [] [] := by
  refine fI Try.func40 rfl fun E gv R hR => ?_
  refine At.sR [0, 2] [0] [] ?_
  refine At.sR [2, 3] [0, 1] [] ?_
  obtain ⟨y2, hy2, h⟩ := bs h
  refine At.sR [2, 3, 4] [0, 1] [cT 1 1 [1] (C_retraceref03_Reader_Upto 65536 (⟨p0, 0⟩ : T_retraceref03_Reader) y2 hy2)] ?_
  refine At.sR [2, 3, 4, 5] [0, 1] [] ?_
  refine At.seq ?_
  refine At.sR [2, 3, 4, 5, 6] [0, 1] [] ?_
  refine At.block ?_
  refine At.nK (st' := ⟨[(2, .ptr 0 0), (3, .ptr 1 0), (4, i64 y2.1), (5, .d (.list true 0 [])), (6, i64 0)], [.blk 95 [.d (.list true 0 []), i64 0], .blk 91 (T_retraceref03_Reader.pvs y2.2)]⟩) [2, 3, 4, 5, 6] [0, 1] ?_
  refine At.edNar [.ownS 5 45 2] [2, 3, 4, 5, 6] [0, 1, 2] (st' := ⟨[(2, .ptr 0 0), (3, .ptr 1 0), (4, i64 y2.1), (5, .row 2 ([] : List T_api_Event).length), (6, i64 0)], [.blk 95 [.d (.list true 0 []), i64 0], .blk 91 (T_retraceref03_Reader.pvs y2.2), .row 45 2 (encL T_api_Event.enc ([]))]⟩) (by kernel_rfl) ?_
  refine At.lp (fun s : (Int × ByteArray × Int × (List T_api_Event)) => ⟨[(2, .ptr 0 0), (3, .ptr 1 0), (4, i64 y2.1), (5, .row 2 (s.2.2.2).length), (6, i64 s.1)], [.blk 95 [.d (.list true 0 []), i64 0], .blk 91 [sv s.2.1, i64 s.2.2.1], .row 45 2 (encL T_api_Event.enc s.2.2.2)]⟩) h ?_
  rintro ⟨x27, x28, x29, x30⟩ oo31 h f32
  replace h : F_retraceref31_Get_L2 y2 x27 x28 x29 x30 = some oo31 := h
  refine At.seq ?_
  refine At.seqJ (S := Bool) (fun s => ⟨[(2, .ptr 0 0), (3, .ptr 1 0), (4, i64 y2.1), (5, .row 2 (x30).length), (6, i64 x27), (24, bo s)], [.blk 95 [.d (.list true 0 []), i64 0], .blk 91 [sv x28, i64 x29], .row 45 2 (encL T_api_Event.enc x30)]⟩) (fun s => F_retraceref31_Get_J1 x27 x28 x29 x30 s = some oo31) ?_ ?_
  · rcases cs h with ⟨b74, h⟩ | ⟨b74, h⟩
    · exact At.rK [2, 3, 4, 5, 6, 24] [0, 1, 2] [bT 3 b74] fun _ _ i => ⟨(x29 == 0), h, i⟩
    · exact At.rK [2, 3, 4, 5, 6, 24] [0, 1, 2] [bT 3 b74] fun _ _ i => ⟨false, h, i⟩
  · intro x38 h
    refine At.cd h (fun b39 h => ?_) (fun b39 h => ?_)
    · refine At.nR [2, 3, 4, 5, 6] [0, 1, 2] ?_
      refine At.skip (norm ?_)
      refine At.seq ?_
      refine At.block ?_
      obtain ⟨y45, hy45, h⟩ := bs h
      refine At.sR [2, 3, 4, 5, 6, 7] [0, 1, 2] [cT 1 1 [1] (C_retraceref03_Reader_Int (⟨x28, x29⟩ : T_retraceref03_Reader) y45 hy45)] ?_
      obtain ⟨y46, hy46, h⟩ := bs h
      obtain ⟨g47, h⟩ := gs h
      refine At.rG [2, 3, 4, 5, 6] [0, 1, 2] [cT 3 1 [1] (C_retraceref03_Reader_Int y45.2 y46 hy46), aT T_api_Event.enc_len 6 x30 ([(⟨y45.1, y46.1⟩ : T_api_Event)]) rfl g47] (norm ?_)
      exact At.rK [2, 3, 4, 5, 6] [0, 1, 2] [] fun _ _ i => ⟨_, li h, i⟩
    · refine At.nR [2, 3, 5] [0, 1, 2] ?_
      obtain ⟨r48, h, e49⟩ := mr h
      rw [f32 _ e49] at h
      refine At.exit (norm ?_)
      refine At.seq ?_
      obtain ⟨y54, hy54, h⟩ := bs h
      refine At.sR [2, 5, 8] [0, 2] [cT 1 1 [1] (C_retraceref03_Reader_End (⟨x28, x29⟩ : T_retraceref03_Reader) y54 hy54)] ?_
      refine At.sR [2, 5, 8, 39] [0, 1] [] ?_
      refine At.cd h (fun b55 h => ?_) (fun b55 h => ?_)
      · refine At.sR [2] [0] [] ?_
        refine At.eN [.loO 0] [2] [0] ?_
        obtain rfl := sq h
        exact At.ret (At.rR hR [])
      · refine At.nR [2, 5] [0, 1] ?_
        refine At.skip (norm ?_)
        refine At.seq ?_
        obtain ⟨y67, hy67, h⟩ := bs h
        obtain ⟨g68, h⟩ := gs h
        refine At.sR [2, 5, 9] [0, 2] [cX 1 0 [] [1] true (C_retraceref31_Check x30 y67 hy67), oN 3 (allc (lenN (he_int .i64) y67 g68.1) (allc (lenN (he_int .i64) (List.replicate 2 (0 : Int)) g68.2) all0))] ?_
        refine At.seq ?_
        obtain ⟨y70, hy70, h⟩ := bs h
        refine At.rK (st' := ⟨[(2, .ptr 0 0), (5, lv T_api_Event.enc x30), (9, .ptr 1 0), (46, bo (y70 != 0))], [.blk 95 [.d (.list true 0 []), i64 0], .dblk 120 (encL (eInt .i64) y67)]⟩) [2, 5, 9, 46] [0, 1] [oT 0 ((aAt_of (he_int .i64) (d := .int .i64 y70) hy70 rfl).1), vT 1 (.int .i64 y70) ((aAt_of (he_int .i64) (d := .int .i64 y70) hy70 rfl).2)] (norm ?_)
        refine At.cd h (fun b71 h => ?_) (fun b71 h => ?_)
        · obtain ⟨y73, hy73, h⟩ := bs h
          refine At.sR [2] [0] [oT 0 ((aAt_of (he_int .i64) (d := .int .i64 y73) hy73 rfl).1), vT 1 (.int .i64 y73) ((aAt_of (he_int .i64) (d := .int .i64 y73) hy73 rfl).2)] ?_
          refine At.eN [.loO 0] [2] [0] ?_
          obtain rfl := sq h
          exact At.ret (At.rR hR [])
        · refine At.nR [2, 5] [0] ?_
          refine At.skip (norm ?_)
          refine At.sR [2] [0] [] ?_
          obtain rfl := sq h
          exact At.ret (At.rR hR [])
theorem C_retraceref03_Reader_Ints (p1 : Int) (o0 : T_retraceref03_Reader) (r : (List Int) × T_retraceref03_Reader) (h : F_retraceref03_Reader_Ints p1 o0 = some r) : FnOK Try.prog 65 [.ptr 0 0, i64 p1] [.blk 91 (T_retraceref03_Reader.pvs o0)] (.row 1 (r.1).length) [.blk 91 (T_retraceref03_Reader.pvs r.2), .row 3 1 (encL (eInt .i64) r.1)] [1] := by
  refine fI Try.func65 rfl fun E gv R hR => ?_
  refine At.sR [0, 1] [0, 1] [] ?_
  obtain ⟨y2, hy2, h⟩ := bs h
  refine At.sR [0, 5] [0, 1] [cT 2 1 [0] (C_retraceref03_Reader_Upto p1 o0 y2 hy2)] ?_
  refine At.sR [0, 5, 6] [0, 1] [] ?_
  refine At.seq ?_
  refine At.sR [0, 5, 6, 7] [0, 1] [] ?_
  refine At.block ?_
  refine At.nK (st' := ⟨[(0, .ptr 0 0), (5, i64 y2.1), (6, .d (.list true 0 [])), (7, i64 0)], [.blk 91 (T_retraceref03_Reader.pvs y2.2), .ghost (gv 0) (.ptr 0 0)]⟩) [0, 5, 6, 7] [0, 1] ?_
  refine At.edNar [.ownS 6 3 1] [0, 5, 6, 7] [0, 1, 2] (st' := ⟨[(0, .ptr 0 0), (5, i64 y2.1), (6, .row 2 ([] : List Int).length), (7, i64 0)], [.blk 91 (T_retraceref03_Reader.pvs y2.2), .ghost (gv 0) (.ptr 0 0), .row 3 1 (encL (eInt .i64) ([]))]⟩) (by kernel_rfl) ?_
  refine At.lp (fun s : (Int × ByteArray × Int × (List Int)) => ⟨[(0, .ptr 0 0), (5, i64 y2.1), (6, .row 2 (s.2.2.2).length), (7, i64 s.1)], [.blk 91 [sv s.2.1, i64 s.2.2.1], .ghost (gv 0) (.ptr 0 0), .row 3 1 (encL (eInt .i64) s.2.2.2)]⟩) h ?_
  rintro ⟨x23, x24, x25, x26⟩ oo27 h f28
  replace h : F_retraceref03_Reader_Ints_L2 y2 x23 x24 x25 x26 = some oo27 := h
  refine At.seq ?_
  refine At.seqJ (S := Bool) (fun s => ⟨[(0, .ptr 0 0), (5, i64 y2.1), (6, .row 2 (x26).length), (7, i64 x23), (20, bo s)], [.blk 91 [sv x24, i64 x25], .ghost (gv 0) (.ptr 0 0), .row 3 1 (encL (eInt .i64) x26)]⟩) (fun s => F_retraceref03_Reader_Ints_J1 x23 x24 x25 x26 s = some oo27) ?_ ?_
  · rcases cs h with ⟨b44, h⟩ | ⟨b44, h⟩
    · exact At.rK [0, 5, 6, 7, 20] [0, 1, 2] [bT 3 b44] fun _ _ i => ⟨(x25 == 0), h, i⟩
    · exact At.rK [0, 5, 6, 7, 20] [0, 1, 2] [bT 3 b44] fun _ _ i => ⟨false, h, i⟩
  · intro x34 h
    refine At.cd h (fun b35 h => ?_) (fun b35 h => ?_)
    · refine At.nR [0, 5, 6, 7] [0, 1, 2] ?_
      refine At.skip (norm ?_)
      refine At.seq ?_
      refine At.block ?_
      obtain ⟨y38, hy38, h⟩ := bs h
      obtain ⟨g39, h⟩ := gs h
      refine At.rG [0, 5, 6, 7] [0, 1, 2] [cT 2 1 [0] (C_retraceref03_Reader_Int (⟨x24, x25⟩ : T_retraceref03_Reader) y38 hy38), aT (he_int .i64) 4 x26 ([y38.1]) rfl g39] (norm ?_)
      exact At.rK [0, 5, 6, 7] [0, 1, 2] [] fun _ _ i => ⟨_, li h, i⟩
    · refine At.nR [0, 6] [0, 1, 2] ?_
      obtain ⟨r40, h, e41⟩ := mr h
      rw [f28 _ e41] at h
      refine At.exit (norm ?_)
      refine At.seq ?_
      refine At.sR [6, 32] [0, 1, 2] [] ?_
      refine At.cd h (fun b43 h => ?_) (fun b43 h => ?_)
      · refine At.sR [4] [0, 1] [] ?_
        refine At.eN [.ownS 4 3 1] [4] [0, 1, 2] ?_
        obtain rfl := sq h
        exact At.ret (At.rR hR [0, 2])
      · refine At.nR [6] [0, 1, 2] ?_
        refine At.skip (norm ?_)
        refine At.sR [4] [0, 1, 2] [] ?_
        obtain rfl := sq h
        exact At.ret (At.rR hR [0, 2])
end Go.Ab
