/- GPC -/
import Derived.Test.YtgldclhdieafkaaGreatGP1
namespace Go.Ab
open Go.Proofs
set_option linter.unusedVariables false
set_option maxRecDepth 100000
theorem K5 (p0 : (List Af)) (r : Ag) (h : GO p0 = some r) : FnOK Tryz.prog 23 [lv Af.enc p0] [] (.agg (Ag.pvs r)) [] [] := by
 refine fI Tryz.func23 rfl fun E gv R hR => ?_
 refine At.sR [0,2] [0] [] ?_
 obtain ⟨y2,hy2,h⟩ := bs h
 refine At.sR [0,2,3] [0,1] [c0 0 (BO 0 y2 hy2)] ?_
 refine At.seq ?_
 refine At.block ?_
 refine At.nK (st' := ⟨[(0,lv Af.enc p0),(2,.ptr 0 0),(3,.ptr 1 0)],[.blk 50 [.d (.list true 0 []),i64 0,i64 0],.blk 103 (Ad.pvs y2)]⟩) [0,2,3] [0,1] ?_
 refine At.lp (fun s : ((List Aa) × Int × Int × Int) => ⟨[(0,lv Af.enc p0),(2,.ptr 0 0),(3,.ptr 1 0)],[.blk 50 [.d (.list true 0 []),i64 0,i64 0],.blk 103 [lv Aa.enc s.1,i64 s.2.1,i64 s.2.2.1,i64 s.2.2.2]]⟩) h ?_
 rintro ⟨x25,x26,x27,x28⟩ oo29 h f30
 replace h : FQ p0 x25 x26 x27 x28 = some oo29 := h
 refine At.seq ?_
 refine At.seqJ (S := Bool) (fun s => ⟨[(0,lv Af.enc p0),(2,.ptr 0 0),(3,.ptr 1 0),(15,bo s)],[.blk 50 [.d (.list true 0 []),i64 0,i64 0],.blk 103 [lv Aa.enc x25,i64 x26,i64 x27,i64 x28]]⟩) (fun s => EL p0 x25 x26 x27 x28 s = some oo29) ?_ ?_
 · rcases cs h with ⟨b49,h⟩ | ⟨b49,h⟩
   · obtain ⟨y50,hy50,h⟩ := bs h
     exact At.rK [0,2,3,15] [0,1] [bT 3 b49,c0 7 (BB p0 x27 y50 hy50)] fun _ _ i => ⟨(y50.Kind != 0),h,i⟩
   · exact At.rK [0,2,3,15] [0,1] [bT 3 b49] fun _ _ i => ⟨false,h,i⟩
 · intro x39 h
   refine At.cd h (fun b40 h => ?_) (fun b40 h => ?_)
   · refine At.nR [0,2,3] [0,1] ?_
     refine At.skip (norm ?_)
     refine At.block ?_
     obtain ⟨y41,hy41,h⟩ := bs h
     obtain ⟨y42,hy42,h⟩ := bs h
     exact At.dK 0 [0,2,3] [0,1] [c0 4 (K4 p0 x27 y41 hy41),c0 5 (Cg (⟨x25,x26,x27,x28⟩ : Ad) y41 y42 hy42)] fun _ _ i => ⟨_,li h,i⟩
   · refine At.nR [2,3] [0,1] ?_
     obtain ⟨r43,h,e44⟩ := mr h
     rw [f30 _ e44] at h
     refine At.exit (norm ?_)
     refine At.seq ?_
     refine At.sR [2,3,24] [0,1] [] ?_
     refine At.cd h (fun b46 h => ?_) (fun b46 h => ?_)
     · refine At.sR [2] [0] [] ?_
       refine At.eN [.loO 0] [2] [0] ?_
       obtain rfl := sq h
       exact At.ret (At.rR hR [])
     · refine At.nR [2,3] [0,1] ?_
       refine At.skip (norm ?_)
       obtain ⟨y48,hy48,h⟩ := bs h
       refine At.sR [2] [0] [c0 2 (Az (⟨x25,x26,x27,x28⟩ : Ad) (⟨42,(⟨#[]⟩ : ByteArray),0,0,0⟩ : Aa) y48 hy48)] ?_
       obtain rfl := sq h
       exact At.ret (At.rR hR [])
theorem I7 (p0 : ByteArray) (r : Ag) (h : FF p0 = some r) : FnOK Tryz.prog 11 [sv p0] [] (.agg (Ag.pvs r)) [] [] := by
 refine fI Tryz.func11 rfl fun E gv R hR => ?_
 refine At.sR [0,2] [0] [] ?_
 obtain ⟨y2,hy2,h⟩ := bs h
 refine At.sR [2,3] [0,1] [c0 1 (Ls p0 y2 hy2)] ?_
 refine At.seq ?_
 refine At.sR [2,3,9] [0,1] [] ?_
 refine At.cd h (fun b4 h => ?_) (fun b4 h => ?_)
 · refine At.sR [2] [0] [] ?_
   refine At.eN [.loO 0] [2] [0] ?_
   obtain rfl := sq h
   exact At.ret (At.rR hR [])
 · refine At.nR [2,3] [0,1] ?_
   refine At.skip (norm ?_)
   obtain ⟨y6,hy6,h⟩ := bs h
   refine At.sR [2,3,4] [0,1,2] [c0 2 (K5 y2.L y6 hy6)] ?_
   refine At.seqJ (S := Int) (fun s => ⟨[(2,.ptr 0 0),(4,.ptr 1 0)],[.blk 50 [.d (.list true 0 []),i64 0,i64 0],.blk 50 [lv Aa.enc y6.L,i64 s,i64 y6.E]]⟩) (fun s => FR y6 s = some r) ?_ ?_
   · refine At.seq ?_
     refine At.rK (st' := ⟨[(2,.ptr 0 0),(3,.ptr 1 0),(4,.ptr 2 0),(20,bo (y6.E != 0))],[.blk 50 [.d (.list true 0 []),i64 0,i64 0],.blk 77 (A6.pvs y2),.blk 50 (Ag.pvs y6)]⟩) [2,3,4,20] [0,1,2] [] (norm ?_)
     refine At.cd h (fun b10 h => ?_) (fun b10 h => ?_)
     · obtain ⟨y11,hy11,h⟩ := bs h
       exact At.rK [2,4] [0,2] [eT Af.enc_len 9 hy11] fun _ _ i => ⟨y11.At,h,i⟩
     · refine At.nR [2,4] [0,2] ?_
       refine At.skip (fun _ _ i => ⟨y6.At,h,i.en [] [2,4] [0,1]⟩)
   · intro x9 h
     refine At.sR [2] [0] [] ?_
     obtain rfl := sq h
     exact At.ret (At.rR hR [])
theorem B4 (p0 : ByteArray) (r : Bool) (h : BN p0 = some r) : FnOK Tryz.prog 108 [sv p0] [] (bo r) [] [] := by
 refine fI Tryz.func108 rfl fun E gv R hR => ?_
 refine At.sR [0] [] [] ?_
 refine At.seq ?_
 refine At.sR [0,3] [] [] ?_
 refine At.block ?_
 refine At.nK (st' := ⟨[(0,sv p0),(3,i64 0)],[]⟩) [0,3] [] ?_
 refine At.lp (fun s : (Int) => ⟨[(0,sv p0),(3,i64 s)],[]⟩) h ?_
 intro x38 oo39 h f40
 replace h : EQ p0 x38 = some oo39 := h
 refine At.seq ?_
 refine At.sR [0,3,7] [] [] ?_
 refine At.cd h (fun b42 h => ?_) (fun b42 h => ?_)
 · refine At.nR [0,3] [] ?_
   refine At.skip (norm ?_)
   refine At.seq ?_
   refine At.block ?_
   refine At.seqJ (S := Bool) (fun s => ⟨[(0,sv p0),(3,i64 x38),(25,bo s)],[]⟩) (fun s => CX x38 s = some oo39) ?_ ?_
   · obtain ⟨y67,hy67,h⟩ := bs h
     obtain ⟨y68,hy68,h⟩ := bs h
     rcases cs h with ⟨b69,h⟩ | ⟨b69,h⟩
     · rcases cs h with ⟨b70,h⟩ | ⟨b70,h⟩
       · exact At.rK [0,3,25] [] [sT 2 hy67,c0 3 (C6 y67 y68 hy68),bT 5 b69,bT 8 b70] fun _ _ i => ⟨true,h,i⟩
       · obtain ⟨y71,hy71,h⟩ := bs h
         obtain ⟨y72,hy72,h⟩ := bs h
         exact At.rK [0,3,25] [] [sT 2 hy67,c0 3 (C6 y67 y68 hy68),bT 5 b69,bT 8 b70,sT 11 hy71,c0 12 (Gu y71 y72 hy72)] fun _ _ i => ⟨(!y72),h,i⟩
     · exact At.rK [0,3,25] [] [sT 2 hy67,c0 3 (C6 y67 y68 hy68),bT 5 b69] fun _ _ i => ⟨false,h,i⟩
   · intro x63 h
     refine At.cd h (fun b64 h => ?_) (fun b64 h => ?_)
     · refine At.sR [2] [] [] ?_
       obtain ⟨r65,h,e66⟩ := mr h
       rw [f40 _ e66] at h
       obtain rfl := sq h
       exact At.ret (At.rR hR [])
     · refine At.nR [0,3] [] ?_
       refine At.skip (norm ?_)
       exact At.rK [0,3] [] [] fun _ _ i => ⟨_,li h,i⟩
 · refine At.nR [0] [] ?_
   obtain ⟨r73,h,e74⟩ := mr h
   rw [f40 _ e74] at h
   refine At.exit (norm ?_)
   refine At.seqJ (S := Bool) (fun s => ⟨[(2,bo s)],[]⟩) (fun s => DD s = some r) ?_ ?_
   · rcases cs h with ⟨b80,h⟩ | ⟨b80,h⟩
     · rcases cs h with ⟨b81,h⟩ | ⟨b81,h⟩
       · obtain ⟨y82,hy82,h⟩ := bs h
         obtain ⟨y83,hy83,h⟩ := bs h
         exact At.rK [2] [] [bT 3 b80,bT 8 b81,cT 9 0 [0] (II y82 hy82),cT 11 1 [0] (Jx p0 y82 y83 hy83)] fun _ _ i => ⟨(!y83),h,i⟩
       · exact At.rK [2] [] [bT 3 b80,bT 8 b81] fun _ _ i => ⟨false,h,i⟩
     · exact At.rK [2] [] [bT 3 b80] fun _ _ i => ⟨false,h,i⟩
   · intro x79 h
     obtain rfl := sq h
     exact At.ret (At.rR hR [])
theorem CK (p0 : Aa) (p1 : Int) (r : Bool) (h : BM p0 p1 = some r) : FnOK Tryz.prog 105 [.agg (Aa.pvs p0),i64 p1] [] (bo r) [] [] := by
 refine fI Tryz.func105 rfl fun E gv R hR => ?_
 refine At.sR [1,2] [0] [] ?_
 refine At.seqJ (S := Bool) (fun s => ⟨[(4,bo s)],[]⟩) (fun s => FT s = some r) ?_ ?_
 · obtain ⟨y5,hy5,h⟩ := bs h
   rcases cs h with ⟨b6,h⟩ | ⟨b6,h⟩
   · rcases cs h with ⟨b7,h⟩ | ⟨b7,h⟩
     · exact At.rK [4] [] [c0 2 (B4 p0.Name y5 hy5),bT 3 b6,bT 8 b7] fun _ _ i => ⟨(p0.Kids == p1),h,i⟩
     · exact At.rK [4] [] [c0 2 (B4 p0.Name y5 hy5),bT 3 b6,bT 8 b7] fun _ _ i => ⟨false,h,i⟩
   · exact At.rK [4] [] [c0 2 (B4 p0.Name y5 hy5),bT 3 b6] fun _ _ i => ⟨false,h,i⟩
 · intro x4 h
   obtain rfl := sq h
   exact At.ret (At.rR hR [])
theorem Bg (p0 : Aa) (p1 : Int) (r : Bool) (h : AX p0 p1 = some r) : FnOK Tryz.prog 107 [.agg (Aa.pvs p0),i64 p1] [] (bo r) [] [] := by
 refine fI Tryz.func107 rfl fun E gv R hR => ?_
 refine At.sR [1,2] [0] [] ?_
 refine At.seqJ (S := Bool) (fun s => ⟨[(4,bo s)],[]⟩) (fun s => FU s = some r) ?_ ?_
 · rcases cs h with ⟨b4,h⟩ | ⟨b4,h⟩
   · rcases cs h with ⟨b5,h⟩ | ⟨b5,h⟩
     · exact At.rK [4] [] [bT 3 b4,bT 8 b5] fun _ _ i => ⟨(p0.Kids == p1),h,i⟩
     · exact At.rK [4] [] [bT 3 b4,bT 8 b5] fun _ _ i => ⟨false,h,i⟩
   · exact At.rK [4] [] [bT 3 b4] fun _ _ i => ⟨false,h,i⟩
 · intro x3 h
   obtain rfl := sq h
   exact At.ret (At.rR hR [])
theorem Bk (sf1 : (List Aa) → Int → ByteArray → Option (Ae)) (hf1 : ∀ (p0 : (List Aa)) (p1 : Int) (p2 : ByteArray) (r : Ae),sf1 p0 p1 p2 = some r → FnOK Tryz.prog 87 [lv Aa.enc p0,i64 p1,sv p2] [] (.agg (Ae.pvs r)) [] []) (p0 : (List Aa)) (p1 : Ae) (p2 : ByteArray) (r : Ae) (h : AH sf1 p0 p1 p2 = some r) : FnOK Tryz.prog 109 [lv Aa.enc p0,.agg (Ae.pvs p1),sv p2] [] (.agg (Ae.pvs r)) [] [] := by
 refine fI Tryz.func109 rfl fun E gv R hR => ?_
 refine At.sR [0,2,4,6] [0,1] [] ?_
 refine At.seq ?_
 refine At.sR [0,2,4,6,7] [0,1] [] ?_
 refine At.block ?_
 refine At.nK (st' := ⟨[(0,lv Aa.enc p0),(2,sv p2),(4,.ptr 0 0),(6,.ptr 1 0),(7,i64 0)],[.blk 138 (Ae.pvs p1),.blk 138 [i64 0,bo false]]⟩) [0,2,4,6,7] [0,1] ?_
 refine At.lp (fun s : (Int × Int × Bool) => ⟨[(0,lv Aa.enc p0),(2,sv p2),(4,.ptr 0 0),(6,.ptr 1 0),(7,i64 s.1)],[.blk 138 [i64 s.2.1,bo s.2.2],.blk 138 [i64 0,bo false]]⟩) h ?_
 rintro ⟨x20,x21,x22⟩ oo23 h f24
 replace h : D1 sf1 p0 p2 x20 x21 x22 = some oo23 := h
 refine At.seq ?_
 refine At.seqJ (S := Bool) (fun s => ⟨[(0,lv Aa.enc p0),(2,sv p2),(4,.ptr 0 0),(6,.ptr 1 0),(7,i64 x20),(15,bo s)],[.blk 138 [i64 x21,bo x22],.blk 138 [i64 0,bo false]]⟩) (fun s => E2 sf1 p0 p2 x20 x21 x22 s = some oo23) ?_ ?_
 · rcases cs h with ⟨b38,h⟩ | ⟨b38,h⟩
   · exact At.rK [0,2,4,6,7,15] [0,1] [bT 4 b38] fun _ _ i => ⟨x22,h,i⟩
   · exact At.rK [0,2,4,6,7,15] [0,1] [bT 4 b38] fun _ _ i => ⟨false,h,i⟩
 · intro x30 h
   refine At.cd h (fun b31 h => ?_) (fun b31 h => ?_)
   · refine At.nR [0,2,4,6,7] [0,1] ?_
     refine At.skip (norm ?_)
     refine At.seq ?_
     refine At.block ?_
     obtain ⟨g34,h⟩ := gs h
     obtain ⟨y35,hy35,h⟩ := bs h
     refine At.dG 0 [0,2,4,6,7] [0,1] [oT 7 g34,c0 8 (hf1 p0 x21 (p2.extract (Int.toNat x20) (Int.toNat (w64 (x20 + 1)))) y35 hy35)] (norm ?_)
     exact At.rK [0,2,4,6,7] [0,1] [] fun _ _ i => ⟨_,li h,i⟩
   · refine At.nR [4,6] [0,1] ?_
     obtain ⟨r36,h,e37⟩ := mr h
     rw [f24 _ e37] at h
     refine At.exit (norm ?_)
     refine At.sR [6] [1] [] ?_
     obtain rfl := sq h
     exact At.ret (At.rR hR [])
theorem Kj (sf1 : (List Aa) → Int → ByteArray → Option (Ae)) (hf1 : ∀ (p0 : (List Aa)) (p1 : Int) (p2 : ByteArray) (r : Ae),sf1 p0 p1 p2 = some r → FnOK Tryz.prog 87 [lv Aa.enc p0,i64 p1,sv p2] [] (.agg (Ae.pvs r)) [] []) (p0 : (List Aa)) (p1 : Aa) (p2 : Ae) (p3 : Ae) (r : Ae) (h : DZ sf1 p0 p1 p2 p3 = some r) : FnOK Tryz.prog 102 [lv Aa.enc p0,.agg (Aa.pvs p1),.agg (Ae.pvs p2),.agg (Ae.pvs p3)] [] (.agg (Ae.pvs r)) [] [] := by
 refine fI Tryz.func102 rfl fun E gv R hR => ?_
 refine At.sR [0,5,6,7,8] [0,1,2,3] [] ?_
 refine At.seq ?_
 refine At.block ?_
 refine At.seqJ (S := Bool) (fun s => ⟨[(0,lv Aa.enc p0),(5,.ptr 0 0),(6,.ptr 1 0),(7,.ptr 2 0),(8,.ptr 3 0),(9,bo s)],[.blk 67 (Aa.pvs p1),.blk 138 (Ae.pvs p2),.blk 138 (Ae.pvs p3),.blk 138 [i64 0,bo false]]⟩) (fun s => BC sf1 p0 p1 p2 p3 s = some r) ?_ ?_
 · rcases cs h with ⟨b73,h⟩ | ⟨b73,h⟩
   · rcases cs h with ⟨b74,h⟩ | ⟨b74,h⟩
     · rcases cs h with ⟨b75,h⟩ | ⟨b75,h⟩
       · rcases cs h with ⟨b76,h⟩ | ⟨b76,h⟩
         · exact At.rK [0,5,6,7,8,9] [0,1,2,3] [bT 3 b73,bT 8 b74,bT 13 b75,bT 18 b76] fun _ _ i => ⟨(decide (p1.N ≤ 999999999999999999)),h,i⟩
         · exact At.rK [0,5,6,7,8,9] [0,1,2,3] [bT 3 b73,bT 8 b74,bT 13 b75,bT 18 b76] fun _ _ i => ⟨false,h,i⟩
       · exact At.rK [0,5,6,7,8,9] [0,1,2,3] [bT 3 b73,bT 8 b74,bT 13 b75] fun _ _ i => ⟨false,h,i⟩
     · exact At.rK [0,5,6,7,8,9] [0,1,2,3] [bT 3 b73,bT 8 b74] fun _ _ i => ⟨false,h,i⟩
   · exact At.rK [0,5,6,7,8,9] [0,1,2,3] [bT 3 b73] fun _ _ i => ⟨false,h,i⟩
 · intro x43 h
   refine At.cd h (fun b44 h => ?_) (fun b44 h => ?_)
   · refine At.sR [8] [3] [] ?_
     obtain rfl := sq h
     exact At.ret (At.rR hR [])
   · refine At.seqJ (S := Bool) (fun s => ⟨[(0,lv Aa.enc p0),(5,.ptr 0 0),(6,.ptr 1 0),(7,.ptr 2 0),(8,.ptr 3 0),(34,bo s)],[.blk 67 (Aa.pvs p1),.blk 138 (Ae.pvs p2),.blk 138 (Ae.pvs p3),.blk 138 [i64 0,bo false]]⟩) (fun s => CT sf1 p0 p1 p2 p3 s = some r) ?_ ?_
     · rcases cs h with ⟨b71,h⟩ | ⟨b71,h⟩
       · obtain ⟨y72,hy72,h⟩ := bs h
         exact At.rK [0,5,6,7,8,34] [0,1,2,3] [bT 3 b71,c0 5 (CK p1 0 y72 hy72)] fun _ _ i => ⟨y72,h,i⟩
       · exact At.rK [0,5,6,7,8,34] [0,1,2,3] [bT 3 b71] fun _ _ i => ⟨false,h,i⟩
     · intro x47 h
       refine At.cd h (fun b48 h => ?_) (fun b48 h => ?_)
       · refine At.sR [8] [3] [] ?_
         obtain rfl := sq h
         exact At.ret (At.rR hR [])
       · refine At.seqJ (S := Bool) (fun s => ⟨[(0,lv Aa.enc p0),(5,.ptr 0 0),(6,.ptr 1 0),(7,.ptr 2 0),(8,.ptr 3 0),(43,bo s)],[.blk 67 (Aa.pvs p1),.blk 138 (Ae.pvs p2),.blk 138 (Ae.pvs p3),.blk 138 [i64 0,bo false]]⟩) (fun s => Ca sf1 p0 p1 p2 p3 s = some r) ?_ ?_
         · rcases cs h with ⟨b67,h⟩ | ⟨b67,h⟩
           · obtain ⟨y68,hy68,h⟩ := bs h
             exact At.rK [0,5,6,7,8,43] [0,1,2,3] [bT 3 b67,c0 10 (Bg p1 1 y68 hy68)] fun _ _ i => ⟨y68,h,i⟩
           · rcases cs h with ⟨b69,h⟩ | ⟨b69,h⟩
             · obtain ⟨y70,hy70,h⟩ := bs h
               exact At.rK [0,5,6,7,8,43] [0,1,2,3] [bT 3 b67,bT 8 b69,c0 10 (Bg p1 1 y70 hy70)] fun _ _ i => ⟨y70,h,i⟩
             · exact At.rK [0,5,6,7,8,43] [0,1,2,3] [bT 3 b67,bT 8 b69] fun _ _ i => ⟨false,h,i⟩
         · intro x53 h
           refine At.cd h (fun b54 h => ?_) (fun b54 h => ?_)
           · obtain ⟨y56,hy56,h⟩ := bs h
             refine At.sR [8] [3] [c0 2 (Bk sf1 hf1 p0 p3 (⟨#[69]⟩ : ByteArray) y56 hy56)] ?_
             obtain rfl := sq h
             exact At.ret (At.rR hR [])
           · refine At.seqJ (S := Bool) (fun s => ⟨[(0,lv Aa.enc p0),(6,.ptr 0 0),(7,.ptr 1 0),(8,.ptr 2 0),(59,bo s)],[.blk 138 (Ae.pvs p2),.blk 138 (Ae.pvs p3),.blk 138 [i64 0,bo false]]⟩) (fun s => B9 sf1 p0 p2 p3 s = some r) ?_ ?_
             · rcases cs h with ⟨b64,h⟩ | ⟨b64,h⟩
               · rcases cs h with ⟨b65,h⟩ | ⟨b65,h⟩
                 · obtain ⟨y66,hy66,h⟩ := bs h
                   exact At.rK [0,6,7,8,59] [1,2,3] [bT 3 b64,bT 8 b65,c0 10 (Bg p1 2 y66 hy66)] fun _ _ i => ⟨y66,h,i⟩
                 · exact At.rK [0,6,7,8,59] [1,2,3] [bT 3 b64,bT 8 b65] fun _ _ i => ⟨false,h,i⟩
               · exact At.rK [0,6,7,8,59] [1,2,3] [bT 3 b64] fun _ _ i => ⟨false,h,i⟩
             · intro x60 h
               refine At.cd h (fun b61 h => ?_) (fun b61 h => ?_)
               · obtain ⟨y63,hy63,h⟩ := bs h
                 refine At.sR [8] [2] [c0 2 (Bk sf1 hf1 p0 p3 (⟨#[69,69]⟩ : ByteArray) y63 hy63)] ?_
                 obtain rfl := sq h
                 exact At.ret (At.rR hR [])
               · refine At.nR [6,8] [0,2] ?_
                 refine At.skip (norm ?_)
                 refine At.sR [8] [1] [] ?_
                 obtain rfl := sq h
                 exact At.ret (At.rR hR [])
theorem Ew (sf1 : (List Aa) → Int → ByteArray → Option (Ae)) (hf1 : ∀ (p0 : (List Aa)) (p1 : Int) (p2 : ByteArray) (r : Ae),sf1 p0 p1 p2 = some r → FnOK Tryz.prog 87 [lv Aa.enc p0,i64 p1,sv p2] [] (.agg (Ae.pvs r)) [] []) (p0 : (List Aa)) (p1 : Ae) (p2 : ByteArray) (p3 : Int) (r : Ae) (h : Bh sf1 p0 p1 p2 p3 = some r) : FnOK Tryz.prog 106 [lv Aa.enc p0,.agg (Ae.pvs p1),sv p2,i64 p3] [] (.agg (Ae.pvs r)) [] [] := by
 refine fI Tryz.func106 rfl fun E gv R hR => ?_
 refine At.sR [0,2,3,5,8] [0,1] [] ?_
 refine At.seq ?_
 refine At.sR [0,2,3,5,8,9] [0,1] [] ?_
 refine At.block ?_
 refine At.nK (st' := ⟨[(0,lv Aa.enc p0),(2,sv p2),(3,i64 p3),(5,.ptr 0 0),(8,.ptr 1 0),(9,i64 0)],[.blk 138 (Ae.pvs p1),.blk 138 [i64 0,bo false]]⟩) [0,2,3,5,8,9] [0,1] ?_
 refine At.lp (fun s : (Int × Int × Bool) => ⟨[(0,lv Aa.enc p0),(2,sv p2),(3,i64 p3),(5,.ptr 0 0),(8,.ptr 1 0),(9,i64 s.1)],[.blk 138 [i64 s.2.1,bo s.2.2],.blk 138 [i64 0,bo false]]⟩) h ?_
 rintro ⟨x18,x19,x20⟩ oo21 h f22
 replace h : D2 sf1 p0 p2 p3 x18 x19 x20 = some oo21 := h
 refine At.seq ?_
 refine At.seqJ (S := Bool) (fun s => ⟨[(0,lv Aa.enc p0),(2,sv p2),(3,i64 p3),(5,.ptr 0 0),(8,.ptr 1 0),(9,i64 x18),(16,bo s)],[.blk 138 [i64 x19,bo x20],.blk 138 [i64 0,bo false]]⟩) (fun s => E3 sf1 p0 p2 x18 x19 x20 s = some oo21) ?_ ?_
 · rcases cs h with ⟨b34,h⟩ | ⟨b34,h⟩
   · exact At.rK [0,2,3,5,8,9,16] [0,1] [bT 3 b34] fun _ _ i => ⟨x20,h,i⟩
   · exact At.rK [0,2,3,5,8,9,16] [0,1] [bT 3 b34] fun _ _ i => ⟨false,h,i⟩
 · intro x28 h
   refine At.cd h (fun b29 h => ?_) (fun b29 h => ?_)
   · refine At.nR [0,2,3,5,8,9] [0,1] ?_
     refine At.skip (norm ?_)
     refine At.seq ?_
     refine At.block ?_
     obtain ⟨y31,hy31,h⟩ := bs h
     refine At.rG [0,2,3,5,8,9] [0,1] [c0 4 (hf1 p0 x19 p2 y31 hy31)] (norm ?_)
     exact At.rK [0,2,3,5,8,9] [0,1] [] fun _ _ i => ⟨_,li h,i⟩
   · refine At.nR [5,8] [0,1] ?_
     obtain ⟨r32,h,e33⟩ := mr h
     rw [f22 _ e33] at h
     refine At.exit (norm ?_)
     refine At.sR [8] [1] [] ?_
     obtain rfl := sq h
     exact At.ret (At.rR hR [])
theorem Kk (sf1 : (List Aa) → Int → ByteArray → Option (Ae)) (hf1 : ∀ (p0 : (List Aa)) (p1 : Int) (p2 : ByteArray) (r : Ae),sf1 p0 p1 p2 = some r → FnOK Tryz.prog 87 [lv Aa.enc p0,i64 p1,sv p2] [] (.agg (Ae.pvs r)) [] []) (p0 : (List Aa)) (p1 : Aa) (p2 : Ae) (p3 : Ae) (r : Ae) (h : D0 sf1 p0 p1 p2 p3 = some r) : FnOK Tryz.prog 103 [lv Aa.enc p0,.agg (Aa.pvs p1),.agg (Ae.pvs p2),.agg (Ae.pvs p3)] [] (.agg (Ae.pvs r)) [] [] := by
 refine fI Tryz.func103 rfl fun E gv R hR => ?_
 refine At.sR [0,5,6,7,8] [0,1,2,3] [] ?_
 refine At.seqJ (S := Unit) (fun s => ⟨[(6,.ptr 0 0),(8,.ptr 1 0)],[.blk 138 (Ae.pvs p2),.blk 138 [i64 0,bo false]]⟩) (fun s => A3 sf1 p2 = some r) ?_ ?_
 · refine At.sR [0,5,6,7,8,10] [0,1,2,3] [] ?_
   refine At.block ?_
   refine At.seqJ (S := Bool) (fun s => ⟨[(0,lv Aa.enc p0),(5,.ptr 0 0),(6,.ptr 1 0),(7,.ptr 2 0),(8,.ptr 3 0),(10,i64 p1.Op),(11,bo s)],[.blk 67 (Aa.pvs p1),.blk 138 (Ae.pvs p2),.blk 138 (Ae.pvs p3),.blk 138 [i64 0,bo false]]⟩) (fun s => Cc sf1 p0 p1 p2 p3 s = some r) ?_ ?_
   · refine At.sR [0,5,6,7,8,10,11] [0,1,2,3] [] ?_
     refine At.cd h (fun b161 h => ?_) (fun b161 h => ?_)
     · refine At.skip (fun _ _ i => ⟨(p1.Op == 18),h,i.en [] [0,5,6,7,8,10,11] [0,1,2,3]⟩)
     · refine At.sR [0,5,6,7,8,10,11] [0,1,2,3] [] ?_
       refine At.cd h (fun b162 h => ?_) (fun b162 h => ?_)
       · refine At.skip (fun _ _ i => ⟨(p1.Op == 19),h,i.en [] [0,5,6,7,8,10,11] [0,1,2,3]⟩)
       · exact At.rK [0,5,6,7,8,10,11] [0,1,2,3] [] fun _ _ i => ⟨(p1.Op == 20),h,i⟩
   · intro x84 h
     refine At.cd h (fun b85 h => ?_) (fun b85 h => ?_)
     · obtain ⟨y87,hy87,h⟩ := bs h
       refine At.sR [0,6,7,8,16] [1,2,3] [c0 1 (CK p1 1 y87 hy87)] ?_
       refine At.cd h (fun b88 h => ?_) (fun b88 h => ?_)
       · obtain ⟨y90,hy90,h⟩ := bs h
         refine At.sR [8] [2] [c0 2 (Bk sf1 hf1 p0 p3 (⟨#[69]⟩ : ByteArray) y90 hy90)] ?_
         obtain rfl := sq h
         exact At.ret (At.rR hR [])
       · refine At.nR [6,8] [0,2] ?_
         refine At.skip (fun _ _ i => ⟨(),h,i.en [] [6,8] [0,1]⟩)
     · refine At.sR [0,5,6,7,8,10,20] [0,1,2,3] [] ?_
       refine At.cd h (fun b91 h => ?_) (fun b91 h => ?_)
       · obtain ⟨y93,hy93,h⟩ := bs h
         refine At.sR [0,6,7,8,23] [1,2,3] [c0 1 (Bg p1 2 y93 hy93)] ?_
         refine At.cd h (fun b94 h => ?_) (fun b94 h => ?_)
         · obtain ⟨y96,hy96,h⟩ := bs h
           refine At.sR [8] [2] [c0 2 (Bk sf1 hf1 p0 p3 (⟨#[82,69]⟩ : ByteArray) y96 hy96)] ?_
           obtain rfl := sq h
           exact At.ret (At.rR hR [])
         · refine At.nR [6,8] [0,2] ?_
           refine At.skip (fun _ _ i => ⟨(),h,i.en [] [6,8] [0,1]⟩)
       · refine At.sR [0,5,6,7,8,10,27] [0,1,2,3] [] ?_
         refine At.cd h (fun b97 h => ?_) (fun b97 h => ?_)
         · obtain ⟨y99,hy99,h⟩ := bs h
           refine At.sR [0,6,7,8,30] [1,2,3] [c0 1 (CK p1 1 y99 hy99)] ?_
           refine At.cd h (fun b100 h => ?_) (fun b100 h => ?_)
           · obtain ⟨y102,hy102,h⟩ := bs h
             refine At.sR [8] [2] [c0 2 (Bk sf1 hf1 p0 p3 (⟨#[82]⟩ : ByteArray) y102 hy102)] ?_
             obtain rfl := sq h
             exact At.ret (At.rR hR [])
           · refine At.nR [6,8] [0,2] ?_
             refine At.skip (fun _ _ i => ⟨(),h,i.en [] [6,8] [0,1]⟩)
         · refine At.sR [0,5,6,7,8,10,34] [0,1,2,3] [] ?_
           refine At.cd h (fun b103 h => ?_) (fun b103 h => ?_)
           · refine At.seq ?_
             obtain ⟨y110,hy110,h⟩ := bs h
             refine At.sR [0,5,6,7,8,37] [0,1,2,3] [c0 1 (Bg p1 2 y110 hy110)] ?_
             refine At.cd h (fun b111 h => ?_) (fun b111 h => ?_)
             · obtain ⟨y113,hy113,h⟩ := bs h
               refine At.sR [8] [3] [c0 2 (Bk sf1 hf1 p0 p3 (⟨#[69,66]⟩ : ByteArray) y113 hy113)] ?_
               obtain rfl := sq h
               exact At.ret (At.rR hR [])
             · refine At.nR [0,5,6,7,8] [0,1,2,3] ?_
               refine At.skip (norm ?_)
               refine At.seq ?_
               obtain ⟨y115,hy115,h⟩ := bs h
               refine At.rK (st' := ⟨[(0,lv Aa.enc p0),(6,.ptr 0 0),(7,.ptr 1 0),(8,.ptr 2 0),(42,bo y115)],[.blk 138 (Ae.pvs p2),.blk 138 (Ae.pvs p3),.blk 138 [i64 0,bo false]]⟩) [0,6,7,8,42] [1,2,3] [c0 1 (Bg p1 3 y115 hy115)] (norm ?_)
               refine At.cd h (fun b116 h => ?_) (fun b116 h => ?_)
               · obtain ⟨y118,hy118,h⟩ := bs h
                 refine At.sR [8] [2] [c0 2 (Bk sf1 hf1 p0 p3 (⟨#[69,66,66]⟩ : ByteArray) y118 hy118)] ?_
                 obtain rfl := sq h
                 exact At.ret (At.rR hR [])
               · refine At.nR [6,8] [0,2] ?_
                 refine At.skip (fun _ _ i => ⟨(),h,i.en [] [6,8] [0,1]⟩)
           · refine At.sR [0,5,6,7,8,10,46] [0,1,2,3] [] ?_
             refine At.cd h (fun b119 h => ?_) (fun b119 h => ?_)
             · obtain ⟨y121,hy121,h⟩ := bs h
               refine At.sR [0,6,7,8,49] [1,2,3] [c0 1 (Bg p1 2 y121 hy121)] ?_
               refine At.cd h (fun b122 h => ?_) (fun b122 h => ?_)
               · refine At.seq ?_
                 obtain ⟨y124,hy124,h⟩ := bs h
                 refine At.rK (st' := ⟨[(8,.ptr 0 0)],[.blk 138 (Ae.pvs y124)]⟩) [8] [2] [c0 2 (Bk sf1 hf1 p0 p3 (⟨#[69,66]⟩ : ByteArray) y124 hy124)] (norm ?_)
                 obtain rfl := sq h
                 exact At.ret (At.rR hR [])
               · refine At.nK (st' := ⟨[(6,.ptr 0 0),(8,.ptr 1 0)],[.blk 138 (Ae.pvs p2),.blk 138 [i64 0,bo false]]⟩) [6,8] [0,2] ?_
                 refine At.skip (fun _ _ i => ⟨(),h,i⟩)
             · refine At.sR [0,5,6,7,8,10,53] [0,1,2,3] [] ?_
               refine At.cd h (fun b125 h => ?_) (fun b125 h => ?_)
               · refine At.seqJ (S := Bool) (fun s => ⟨[(0,lv Aa.enc p0),(5,.ptr 0 0),(6,.ptr 1 0),(7,.ptr 2 0),(8,.ptr 3 0),(63,bo s)],[.blk 67 (Aa.pvs p1),.blk 138 (Ae.pvs p2),.blk 138 (Ae.pvs p3),.blk 138 [i64 0,bo false]]⟩) (fun s => CW sf1 p0 p1 p2 p3 s = some r) ?_ ?_
                 · rcases cs h with ⟨b132,h⟩ | ⟨b132,h⟩
                   · obtain ⟨y133,hy133,h⟩ := bs h
                     exact At.rK [0,5,6,7,8,63] [0,1,2,3] [bT 3 b132,c0 7 (Bg p1 p1.Kids y133 hy133)] fun _ _ i => ⟨y133,h,i⟩
                   · exact At.rK [0,5,6,7,8,63] [0,1,2,3] [bT 3 b132] fun _ _ i => ⟨false,h,i⟩
                 · intro x128 h
                   refine At.cd h (fun b129 h => ?_) (fun b129 h => ?_)
                   · obtain ⟨y131,hy131,h⟩ := bs h
                     refine At.sR [8] [3] [c0 4 (Ew sf1 hf1 p0 p3 (⟨#[67]⟩ : ByteArray) p1.Kids y131 hy131)] ?_
                     obtain rfl := sq h
                     exact At.ret (At.rR hR [])
                   · refine At.nR [6,8] [1,3] ?_
                     refine At.skip (fun _ _ i => ⟨(),h,i.en [] [6,8] [0,1]⟩)
               · refine At.seq ?_
                 refine At.rK (st' := ⟨[(0,lv Aa.enc p0),(5,.ptr 0 0),(6,.ptr 1 0),(7,.ptr 2 0),(8,.ptr 3 0),(10,i64 p1.Op),(69,bo (p1.Op == 26))],[.blk 67 (Aa.pvs p1),.blk 138 (Ae.pvs p2),.blk 138 (Ae.pvs p3),.blk 138 [i64 0,bo false]]⟩) [0,5,6,7,8,10,69] [0,1,2,3] [] (norm ?_)
                 refine At.cd h (fun b134 h => ?_) (fun b134 h => ?_)
                 · refine At.seqJ (S := Bool) (fun s => ⟨[(0,lv Aa.enc p0),(5,.ptr 0 0),(6,.ptr 1 0),(7,.ptr 2 0),(8,.ptr 3 0),(79,bo s)],[.blk 67 (Aa.pvs p1),.blk 138 (Ae.pvs p2),.blk 138 (Ae.pvs p3),.blk 138 [i64 0,bo false]]⟩) (fun s => CV sf1 p0 p1 p2 p3 s = some r) ?_ ?_
                   · rcases cs h with ⟨b141,h⟩ | ⟨b141,h⟩
                     · obtain ⟨y142,hy142,h⟩ := bs h
                       exact At.rK [0,5,6,7,8,79] [0,1,2,3] [bT 3 b141,c0 7 (CK p1 p1.Kids y142 hy142)] fun _ _ i => ⟨y142,h,i⟩
                     · exact At.rK [0,5,6,7,8,79] [0,1,2,3] [bT 3 b141] fun _ _ i => ⟨false,h,i⟩
                   · intro x137 h
                     refine At.cd h (fun b138 h => ?_) (fun b138 h => ?_)
                     · obtain ⟨y140,hy140,h⟩ := bs h
                       refine At.sR [8] [3] [c0 4 (Ew sf1 hf1 p0 p3 (⟨#[69]⟩ : ByteArray) p1.Kids y140 hy140)] ?_
                       obtain rfl := sq h
                       exact At.ret (At.rR hR [])
                     · refine At.nR [6,8] [1,3] ?_
                       refine At.skip (fun _ _ i => ⟨(),h,i.en [] [6,8] [0,1]⟩)
                 · refine At.seqJ (S := Bool) (fun s => ⟨[(0,lv Aa.enc p0),(5,.ptr 0 0),(6,.ptr 1 0),(7,.ptr 2 0),(8,.ptr 3 0),(10,i64 p1.Op),(85,bo s)],[.blk 67 (Aa.pvs p1),.blk 138 (Ae.pvs p2),.blk 138 (Ae.pvs p3),.blk 138 [i64 0,bo false]]⟩) (fun s => Cb sf1 p0 p1 p2 p3 s = some r) ?_ ?_
                   · refine At.sR [0,5,6,7,8,10,85] [0,1,2,3] [] ?_
                     refine At.cd h (fun b159 h => ?_) (fun b159 h => ?_)
                     · refine At.skip (fun _ _ i => ⟨(p1.Op == 27),h,i.en [] [0,5,6,7,8,10,85] [0,1,2,3]⟩)
                     · refine At.sR [0,5,6,7,8,10,85] [0,1,2,3] [] ?_
                       refine At.cd h (fun b160 h => ?_) (fun b160 h => ?_)
                       · refine At.skip (fun _ _ i => ⟨(p1.Op == 28),h,i.en [] [0,5,6,7,8,10,85] [0,1,2,3]⟩)
                       · exact At.rK [0,5,6,7,8,10,85] [0,1,2,3] [] fun _ _ i => ⟨(p1.Op == 29),h,i⟩
                   · intro x145 h
                     refine At.cd h (fun b146 h => ?_) (fun b146 h => ?_)
                     · obtain ⟨y148,hy148,h⟩ := bs h
                       refine At.sR [0,6,7,8,90] [1,2,3] [c0 1 (Bg p1 1 y148 hy148)] ?_
                       refine At.cd h (fun b149 h => ?_) (fun b149 h => ?_)
                       · obtain ⟨y151,hy151,h⟩ := bs h
                         refine At.sR [8] [2] [c0 2 (Bk sf1 hf1 p0 p3 (⟨#[69]⟩ : ByteArray) y151 hy151)] ?_
                         obtain rfl := sq h
                         exact At.ret (At.rR hR [])
                       · refine At.nR [6,8] [0,2] ?_
                         refine At.skip (fun _ _ i => ⟨(),h,i.en [] [6,8] [0,1]⟩)
                     · refine At.seqJ (S := Bool) (fun s => ⟨[(5,.ptr 0 0),(6,.ptr 1 0),(7,.ptr 2 0),(8,.ptr 3 0),(94,bo s)],[.blk 67 (Aa.pvs p1),.blk 138 (Ae.pvs p2),.blk 138 (Ae.pvs p3),.blk 138 [i64 0,bo false]]⟩) (fun s => CU sf1 p1 p2 p3 s = some r) ?_ ?_
                       · refine At.sR [5,6,7,8,10,94] [0,1,2,3] [] ?_
                         refine At.cd h (fun b158 h => ?_) (fun b158 h => ?_)
                         · refine At.nR [5,6,7,8,94] [0,1,2,3] ?_
                           refine At.skip (fun _ _ i => ⟨(p1.Op == 30),h,i.en [] [5,6,7,8,94] [0,1,2,3]⟩)
                         · exact At.rK [5,6,7,8,94] [0,1,2,3] [] fun _ _ i => ⟨(p1.Op == 31),h,i⟩
                       · intro x153 h
                         refine At.cd h (fun b154 h => ?_) (fun b154 h => ?_)
                         · obtain ⟨y156,hy156,h⟩ := bs h
                           refine At.sR [6,7,8,98] [1,2,3] [c0 1 (Bg p1 0 y156 hy156)] ?_
                           refine At.cd h (fun b157 h => ?_) (fun b157 h => ?_)
                           · refine At.sR [8] [2] [] ?_
                             obtain rfl := sq h
                             exact At.ret (At.rR hR [])
                           · refine At.nR [6,8] [0,2] ?_
                             refine At.skip (fun _ _ i => ⟨(),h,i.en [] [6,8] [0,1]⟩)
                         · refine At.nR [6,8] [1,3] ?_
                           refine At.skip (fun _ _ i => ⟨(),h,i.en [] [6,8] [0,1]⟩)
 · intro _ h
   refine At.sR [8] [1] [] ?_
   obtain rfl := sq h
   exact At.ret (At.rR hR [])
theorem JR (sf1 : (List Aa) → Int → ByteArray → Option (Ae)) (hf1 : ∀ (p0 : (List Aa)) (p1 : Int) (p2 : ByteArray) (r : Ae),sf1 p0 p1 p2 = some r → FnOK Tryz.prog 87 [lv Aa.enc p0,i64 p1,sv p2] [] (.agg (Ae.pvs r)) [] []) (p0 : (List Aa)) (p1 : Aa) (p2 : Ae) (p3 : Ae) (r : Ae) (h : Dd sf1 p0 p1 p2 p3 = some r) : FnOK Tryz.prog 104 [lv Aa.enc p0,.agg (Aa.pvs p1),.agg (Ae.pvs p2),.agg (Ae.pvs p3)] [] (.agg (Ae.pvs r)) [] [] := by
 refine fI Tryz.func104 rfl fun E gv R hR => ?_
 refine At.sR [0,5,6,7,8] [0,1,2,3] [] ?_
 refine At.seq ?_
 refine At.sR [0,5,6,7,8,12] [0,1,2,3] [] ?_
 refine At.cd h (fun b12 h => ?_) (fun b12 h => ?_)
 · refine At.seq ?_
   obtain ⟨y19,hy19,h⟩ := bs h
   refine At.sR [0,6,7,8,14] [1,2,3] [c0 1 (Bg p1 1 y19 hy19)] ?_
   refine At.cd h (fun b20 h => ?_) (fun b20 h => ?_)
   · obtain ⟨y22,hy22,h⟩ := bs h
     refine At.sR [8] [2] [c0 2 (Bk sf1 hf1 p0 p3 (⟨#[66]⟩ : ByteArray) y22 hy22)] ?_
     obtain rfl := sq h
     exact At.ret (At.rR hR [])
   · refine At.nR [6,8] [0,2] ?_
     refine At.skip (norm ?_)
     refine At.sR [8] [1] [] ?_
     obtain rfl := sq h
     exact At.ret (At.rR hR [])
 · refine At.nR [0,5,6,7,8] [0,1,2,3] ?_
   refine At.skip (norm ?_)
   refine At.sR [0,5,6,7,8] [0,1,2,3] [] ?_
   refine At.seqJ (S := ByteArray) (fun s => ⟨[(0,lv Aa.enc p0),(5,.ptr 0 0),(6,.ptr 1 0),(7,.ptr 2 0),(8,.ptr 3 0),(9,sv s)],[.blk 67 (Aa.pvs p1),.blk 138 (Ae.pvs p2),.blk 138 (Ae.pvs p3),.blk 138 [i64 0,bo false]]⟩) (fun s => By sf1 p0 p1 p2 p3 s = some r) ?_ ?_
   · refine At.sR [0,5,6,7,8,20] [0,1,2,3] [] ?_
     refine At.block ?_
     refine At.seq ?_
     refine At.rK (st' := ⟨[(0,lv Aa.enc p0),(5,.ptr 0 0),(6,.ptr 1 0),(7,.ptr 2 0),(8,.ptr 3 0),(20,i64 p1.Op),(22,bo (p1.Op == 34))],[.blk 67 (Aa.pvs p1),.blk 138 (Ae.pvs p2),.blk 138 (Ae.pvs p3),.blk 138 [i64 0,bo false]]⟩) [0,5,6,7,8,20,22] [0,1,2,3] [] (norm ?_)
     refine At.cd h (fun b62 h => ?_) (fun b62 h => ?_)
     · exact At.rK [0,5,6,7,8,9] [0,1,2,3] [] fun _ _ i => ⟨(⟨#[82,66]⟩ : ByteArray),h,i⟩
     · refine At.sR [0,5,6,7,8,20,24] [0,1,2,3] [] ?_
       refine At.cd h (fun b63 h => ?_) (fun b63 h => ?_)
       · exact At.rK [0,5,6,7,8,9] [0,1,2,3] [] fun _ _ i => ⟨(⟨#[82,69,66]⟩ : ByteArray),h,i⟩
       · refine At.sR [0,5,6,7,8,26] [0,1,2,3] [] ?_
         refine At.cd h (fun b64 h => ?_) (fun b64 h => ?_)
         · exact At.rK [0,5,6,7,8,9] [0,1,2,3] [] fun _ _ i => ⟨(⟨#[69,66]⟩ : ByteArray),h,i⟩
         · refine At.sR [8] [3] [] ?_
           obtain rfl := sq h
           exact At.ret (At.rR hR [])
   · intro x26 h
     refine At.seqJ (S := ByteArray) (fun s => ⟨[(0,lv Aa.enc p0),(5,.ptr 0 0),(6,.ptr 1 0),(7,.ptr 2 0),(8,.ptr 3 0),(9,sv s)],[.blk 67 (Aa.pvs p1),.blk 138 (Ae.pvs p2),.blk 138 (Ae.pvs p3),.blk 138 [i64 0,bo false]]⟩) (fun s => Cm sf1 p0 p1 p2 p3 s = some r) ?_ ?_
     · refine At.sR [0,5,6,7,8,9,30] [0,1,2,3] [] ?_
       refine At.cd h (fun b60 h => ?_) (fun b60 h => ?_)
       · obtain ⟨g61,h⟩ := gs h
         exact At.rK [0,5,6,7,8,9] [0,1,2,3] [oT 1 g61] fun _ _ i => ⟨((⟨#[69]⟩ : ByteArray) ++ x26),h,i⟩
       · refine At.nR [0,5,6,7,8,9] [0,1,2,3] ?_
         refine At.skip (fun _ _ i => ⟨x26,h,i.en [] [0,5,6,7,8,9] [0,1,2,3]⟩)
     · intro x29 h
       refine At.seq ?_
       refine At.seqJ (S := Bool) (fun s => ⟨[(0,lv Aa.enc p0),(6,.ptr 0 0),(7,.ptr 1 0),(8,.ptr 2 0),(9,sv x29),(66,bo s)],[.blk 138 (Ae.pvs p2),.blk 138 (Ae.pvs p3),.blk 138 [i64 0,bo false]]⟩) (fun s => A9 sf1 p0 p2 p3 x29 s = some r) ?_ ?_
       · rcases cs h with ⟨b54,h⟩ | ⟨b54,h⟩
         · exact At.dK 0 [0,6,7,8,9,66] [1,2,3] [bT 3 b54] fun _ _ i => ⟨true,h,i⟩
         · rcases cs h with ⟨b55,h⟩ | ⟨b55,h⟩
           · exact At.dK 0 [0,6,7,8,9,66] [1,2,3] [bT 3 b54,bT 8 b55] fun _ _ i => ⟨true,h,i⟩
           · rcases cs h with ⟨b56,h⟩ | ⟨b56,h⟩
             · exact At.dK 0 [0,6,7,8,9,66] [1,2,3] [bT 3 b54,bT 8 b55,bT 15 b56] fun _ _ i => ⟨true,h,i⟩
             · obtain ⟨y57,hy57,h⟩ := bs h
               rcases cs h with ⟨b58,h⟩ | ⟨b58,h⟩
               · exact At.dK 0 [0,6,7,8,9,66] [1,2,3] [bT 3 b54,bT 8 b55,bT 15 b56,c0 21 (B4 p1.Name y57 hy57),bT 24 b58] fun _ _ i => ⟨true,h,i⟩
               · rcases cs h with ⟨b59,h⟩ | ⟨b59,h⟩
                 · exact At.dK 0 [0,6,7,8,9,66] [1,2,3] [bT 3 b54,bT 8 b55,bT 15 b56,c0 21 (B4 p1.Name y57 hy57),bT 24 b58,bT 28 b59] fun _ _ i => ⟨(!(p1.Name.toList == (⟨#[]⟩ : ByteArray).toList)),h,i⟩
                 · exact At.dK 0 [0,6,7,8,9,66] [1,2,3] [bT 3 b54,bT 8 b55,bT 15 b56,c0 21 (B4 p1.Name y57 hy57),bT 24 b58,bT 28 b59] fun _ _ i => ⟨false,h,i⟩
       · intro x50 h
         refine At.cd h (fun b51 h => ?_) (fun b51 h => ?_)
         · refine At.sR [8] [2] [] ?_
           obtain rfl := sq h
           exact At.ret (At.rR hR [])
         · refine At.nR [0,7,8,9] [1,2] ?_
           refine At.skip (norm ?_)
           obtain ⟨y53,hy53,h⟩ := bs h
           refine At.sR [8] [1] [c0 3 (Bk sf1 hf1 p0 p3 x29 y53 hy53)] ?_
           obtain rfl := sq h
           exact At.ret (At.rR hR [])
theorem JY (sf1 : (List Aa) → Int → ByteArray → Option (Ae)) (hf1 : ∀ (p0 : (List Aa)) (p1 : Int) (p2 : ByteArray) (r : Ae),sf1 p0 p1 p2 = some r → FnOK Tryz.prog 87 [lv Aa.enc p0,i64 p1,sv p2] [] (.agg (Ae.pvs r)) [] []) (p0 : (List Aa)) (p1 : Int) (p2 : ByteArray) (r : Ae) (h : Cd sf1 p0 p1 p2 = some r) : FnOK Tryz.prog 87 [lv Aa.enc p0,i64 p1,sv p2] [] (.agg (Ae.pvs r)) [] [] := by
 refine fI Tryz.func87 rfl fun E gv R hR => ?_
 refine At.sR [0,1,2,6] [0] [] ?_
 refine At.seq ?_
 refine At.sR [0,1,2,6,13] [0] [] ?_
 refine At.cd h (fun b2 h => ?_) (fun b2 h => ?_)
 · refine At.sR [6] [0] [] ?_
   obtain rfl := sq h
   exact At.ret (At.rR hR [])
 · refine At.nR [0,1,2,6] [0] ?_
   refine At.skip (norm ?_)
   obtain ⟨y4,hy4,h⟩ := bs h
   refine At.sR [0,2,6,7,8,9] [0,1,2,3] [eT Aa.enc_len 2 hy4] ?_
   refine At.seqJ (S := Unit) (fun s => ⟨[(6,.ptr 0 0),(8,.ptr 1 0)],[.blk 138 [i64 0,bo false],.blk 138 [i64 p1,bo false]]⟩) (fun s => A5 sf1 p1 = some r) ?_ ?_
   · refine At.sR [0,6,7,8,9,26] [0,1,2,3] [] ?_
     refine At.block ?_
     refine At.seq ?_
     refine At.rK (st' := ⟨[(0,lv Aa.enc p0),(6,.ptr 0 0),(7,.ptr 1 0),(8,.ptr 2 0),(9,.ptr 3 0),(26,sv p2),(27,bo (p2.toList == (⟨#[69]⟩ : ByteArray).toList))],[.blk 138 [i64 0,bo false],.blk 67 (Aa.pvs y4),.blk 138 [i64 p1,bo false],.blk 138 [i64 (w64 (p1 + 1)),bo true]]⟩) [0,6,7,8,9,26,27] [0,1,2,3] [] (norm ?_)
     refine At.cd h (fun b85 h => ?_) (fun b85 h => ?_)
     · obtain ⟨y87,hy87,h⟩ := bs h
       refine At.sR [6] [0] [c0 4 (Kj sf1 hf1 p0 y4 (⟨p1,false⟩ : Ae) (⟨(w64 (p1 + 1)),true⟩ : Ae) y87 hy87)] ?_
       obtain rfl := sq h
       exact At.ret (At.rR hR [])
     · refine At.sR [0,6,7,8,9,26,34] [0,1,2,3] [] ?_
       refine At.cd h (fun b88 h => ?_) (fun b88 h => ?_)
       · obtain ⟨y90,hy90,h⟩ := bs h
         refine At.sR [6] [0] [c0 4 (Kk sf1 hf1 p0 y4 (⟨p1,false⟩ : Ae) (⟨(w64 (p1 + 1)),true⟩ : Ae) y90 hy90)] ?_
         obtain rfl := sq h
         exact At.ret (At.rR hR [])
       · refine At.sR [0,6,7,8,9,26,41] [0,1,2,3] [] ?_
         refine At.cd h (fun b91 h => ?_) (fun b91 h => ?_)
         · obtain ⟨y93,hy93,h⟩ := bs h
           refine At.sR [6] [0] [c0 4 (JR sf1 hf1 p0 y4 (⟨p1,false⟩ : Ae) (⟨(w64 (p1 + 1)),true⟩ : Ae) y93 hy93)] ?_
           obtain rfl := sq h
           exact At.ret (At.rR hR [])
         · refine At.sR [0,6,7,8,9,26,48] [0,1,2,3] [] ?_
           refine At.cd h (fun b94 h => ?_) (fun b94 h => ?_)
           · refine At.seqJ (S := Bool) (fun s => ⟨[(0,lv Aa.enc p0),(6,.ptr 0 0),(7,.ptr 1 0),(8,.ptr 2 0),(9,.ptr 3 0),(60,bo s)],[.blk 138 [i64 0,bo false],.blk 67 (Aa.pvs y4),.blk 138 [i64 p1,bo false],.blk 138 [i64 (w64 (p1 + 1)),bo true]]⟩) (fun s => BY sf1 p0 p1 y4 s = some r) ?_ ?_
             · rcases cs h with ⟨b103,h⟩ | ⟨b103,h⟩
               · obtain ⟨y104,hy104,h⟩ := bs h
                 rcases cs h with ⟨b105,h⟩ | ⟨b105,h⟩
                 · exact At.rK [0,6,7,8,9,60] [0,1,2,3] [bT 3 b103,c0 5 (CK y4 0 y104 hy104),bT 6 b105] fun _ _ i => ⟨true,h,i⟩
                 · obtain ⟨y106,hy106,h⟩ := bs h
                   exact At.rK [0,6,7,8,9,60] [0,1,2,3] [bT 3 b103,c0 5 (CK y4 0 y104 hy104),bT 6 b105,c0 8 (CK y4 1 y106 hy106)] fun _ _ i => ⟨y106,h,i⟩
               · exact At.rK [0,6,7,8,9,60] [0,1,2,3] [bT 3 b103] fun _ _ i => ⟨false,h,i⟩
             · intro x99 h
               refine At.cd h (fun b100 h => ?_) (fun b100 h => ?_)
               · obtain ⟨y102,hy102,h⟩ := bs h
                 refine At.sR [6] [0] [c0 4 (Ew sf1 hf1 p0 (⟨(w64 (p1 + 1)),true⟩ : Ae) (⟨#[69]⟩ : ByteArray) y4.Kids y102 hy102)] ?_
                 obtain rfl := sq h
                 exact At.ret (At.rR hR [])
               · refine At.nR [6,8] [0,2] ?_
                 refine At.skip (fun _ _ i => ⟨(),h,i.en [] [6,8] [0,1]⟩)
           · refine At.sR [0,6,7,8,9,26,66] [0,1,2,3] [] ?_
             refine At.cd h (fun b107 h => ?_) (fun b107 h => ?_)
             · refine At.seqJ (S := Bool) (fun s => ⟨[(0,lv Aa.enc p0),(6,.ptr 0 0),(7,.ptr 1 0),(8,.ptr 2 0),(9,.ptr 3 0),(81,bo s)],[.blk 138 [i64 0,bo false],.blk 67 (Aa.pvs y4),.blk 138 [i64 p1,bo false],.blk 138 [i64 (w64 (p1 + 1)),bo true]]⟩) (fun s => BX sf1 p0 p1 y4 s = some r) ?_ ?_
               · rcases cs h with ⟨b115,h⟩ | ⟨b115,h⟩
                 · rcases cs h with ⟨b116,h⟩ | ⟨b116,h⟩
                   · obtain ⟨y117,hy117,h⟩ := bs h
                     exact At.rK [0,6,7,8,9,81] [0,1,2,3] [bT 3 b115,bT 8 b116,c0 12 (Bg y4 y4.Kids y117 hy117)] fun _ _ i => ⟨y117,h,i⟩
                   · exact At.rK [0,6,7,8,9,81] [0,1,2,3] [bT 3 b115,bT 8 b116] fun _ _ i => ⟨false,h,i⟩
                 · exact At.rK [0,6,7,8,9,81] [0,1,2,3] [bT 3 b115] fun _ _ i => ⟨false,h,i⟩
               · intro x111 h
                 refine At.cd h (fun b112 h => ?_) (fun b112 h => ?_)
                 · obtain ⟨y114,hy114,h⟩ := bs h
                   refine At.sR [6] [0] [c0 4 (Ew sf1 hf1 p0 (⟨(w64 (p1 + 1)),true⟩ : Ae) (⟨#[83]⟩ : ByteArray) y4.Kids y114 hy114)] ?_
                   obtain rfl := sq h
                   exact At.ret (At.rR hR [])
                 · refine At.nR [6,8] [0,2] ?_
                   refine At.skip (fun _ _ i => ⟨(),h,i.en [] [6,8] [0,1]⟩)
             · refine At.sR [0,6,7,8,9,26,87] [0,1,2,3] [] ?_
               refine At.cd h (fun b118 h => ?_) (fun b118 h => ?_)
               · refine At.seqJ (S := Bool) (fun s => ⟨[(6,.ptr 0 0),(8,.ptr 1 0),(9,.ptr 2 0),(95,bo s)],[.blk 138 [i64 0,bo false],.blk 138 [i64 p1,bo false],.blk 138 [i64 (w64 (p1 + 1)),bo true]]⟩) (fun s => CG sf1 p1 s = some r) ?_ ?_
                 · rcases cs h with ⟨b123,h⟩ | ⟨b123,h⟩
                   · obtain ⟨y124,hy124,h⟩ := bs h
                     exact At.rK [6,8,9,95] [0,2,3] [bT 3 b123,c0 5 (CK y4 0 y124 hy124)] fun _ _ i => ⟨y124,h,i⟩
                   · exact At.rK [6,8,9,95] [0,2,3] [bT 3 b123] fun _ _ i => ⟨false,h,i⟩
                 · intro x121 h
                   refine At.cd h (fun b122 h => ?_) (fun b122 h => ?_)
                   · refine At.sR [6] [0] [] ?_
                     obtain rfl := sq h
                     exact At.ret (At.rR hR [])
                   · refine At.nR [6,8] [0,1] ?_
                     refine At.skip (fun _ _ i => ⟨(),h,i.en [] [6,8] [0,1]⟩)
               · refine At.seq ?_
                 refine At.rK (st' := ⟨[(0,lv Aa.enc p0),(6,.ptr 0 0),(7,.ptr 1 0),(8,.ptr 2 0),(9,.ptr 3 0),(26,sv p2),(97,bo (p2.toList == (⟨#[85]⟩ : ByteArray).toList))],[.blk 138 [i64 0,bo false],.blk 67 (Aa.pvs y4),.blk 138 [i64 p1,bo false],.blk 138 [i64 (w64 (p1 + 1)),bo true]]⟩) [0,6,7,8,9,26,97] [0,1,2,3] [] (norm ?_)
                 refine At.cd h (fun b125 h => ?_) (fun b125 h => ?_)
                 · refine At.seqJ (S := Bool) (fun s => ⟨[(0,lv Aa.enc p0),(6,.ptr 0 0),(7,.ptr 1 0),(8,.ptr 2 0),(9,.ptr 3 0),(112,bo s)],[.blk 138 [i64 0,bo false],.blk 67 (Aa.pvs y4),.blk 138 [i64 p1,bo false],.blk 138 [i64 (w64 (p1 + 1)),bo true]]⟩) (fun s => BW sf1 p0 p1 y4 s = some r) ?_ ?_
                   · rcases cs h with ⟨b133,h⟩ | ⟨b133,h⟩
                     · rcases cs h with ⟨b134,h⟩ | ⟨b134,h⟩
                       · obtain ⟨y135,hy135,h⟩ := bs h
                         exact At.rK [0,6,7,8,9,112] [0,1,2,3] [bT 3 b133,bT 8 b134,c0 12 (Bg y4 y4.Kids y135 hy135)] fun _ _ i => ⟨y135,h,i⟩
                       · exact At.rK [0,6,7,8,9,112] [0,1,2,3] [bT 3 b133,bT 8 b134] fun _ _ i => ⟨false,h,i⟩
                     · exact At.rK [0,6,7,8,9,112] [0,1,2,3] [bT 3 b133] fun _ _ i => ⟨false,h,i⟩
                   · intro x129 h
                     refine At.cd h (fun b130 h => ?_) (fun b130 h => ?_)
                     · obtain ⟨y132,hy132,h⟩ := bs h
                       refine At.sR [6] [0] [c0 4 (Ew sf1 hf1 p0 (⟨(w64 (p1 + 1)),true⟩ : Ae) (⟨#[68]⟩ : ByteArray) y4.Kids y132 hy132)] ?_
                       obtain rfl := sq h
                       exact At.ret (At.rR hR [])
                     · refine At.nR [6,8] [0,2] ?_
                       refine At.skip (fun _ _ i => ⟨(),h,i.en [] [6,8] [0,1]⟩)
                 · refine At.sR [0,6,7,8,9,118] [0,1,2,3] [] ?_
                   refine At.cd h (fun b136 h => ?_) (fun b136 h => ?_)
                   · refine At.sR [0,6,7,8,9,121] [0,1,2,3] [] ?_
                     refine At.block ?_
                     refine At.sR [0,6,7,8,9,121,122] [0,1,2,3] [] ?_
                     refine At.cd h (fun b137 h => ?_) (fun b137 h => ?_)
                     · refine At.seqJ (S := Bool) (fun s => ⟨[(6,.ptr 0 0),(8,.ptr 1 0),(9,.ptr 2 0),(141,bo s)],[.blk 138 [i64 0,bo false],.blk 138 [i64 p1,bo false],.blk 138 [i64 (w64 (p1 + 1)),bo true]]⟩) (fun s => BH sf1 p1 s = some r) ?_ ?_
                       · obtain ⟨y144,hy144,h⟩ := bs h
                         rcases cs h with ⟨b145,h⟩ | ⟨b145,h⟩
                         · rcases cs h with ⟨b146,h⟩ | ⟨b146,h⟩
                           · rcases cs h with ⟨b147,h⟩ | ⟨b147,h⟩
                             · exact At.rK [6,8,9,141] [0,2,3] [c0 2 (B4 y4.Name y144 hy144),bT 3 b145,bT 8 b146,bT 13 b147] fun _ _ i => ⟨(decide (y4.N ≤ 16)),h,i⟩
                             · exact At.rK [6,8,9,141] [0,2,3] [c0 2 (B4 y4.Name y144 hy144),bT 3 b145,bT 8 b146,bT 13 b147] fun _ _ i => ⟨false,h,i⟩
                           · exact At.rK [6,8,9,141] [0,2,3] [c0 2 (B4 y4.Name y144 hy144),bT 3 b145,bT 8 b146] fun _ _ i => ⟨false,h,i⟩
                         · exact At.rK [6,8,9,141] [0,2,3] [c0 2 (B4 y4.Name y144 hy144),bT 3 b145] fun _ _ i => ⟨false,h,i⟩
                       · intro x142 h
                         refine At.cd h (fun b143 h => ?_) (fun b143 h => ?_)
                         · refine At.sR [6] [0] [] ?_
                           obtain rfl := sq h
                           exact At.ret (At.rR hR [])
                         · refine At.nR [6,8] [0,1] ?_
                           refine At.skip (fun _ _ i => ⟨(),h,i.en [] [6,8] [0,1]⟩)
                     · refine At.sR [0,6,7,8,9,121,143] [0,1,2,3] [] ?_
                       refine At.cd h (fun b148 h => ?_) (fun b148 h => ?_)
                       · obtain ⟨y150,hy150,h⟩ := bs h
                         refine At.sR [0,6,8,9,146] [0,2,3] [c0 1 (Bg y4 1 y150 hy150)] ?_
                         refine At.cd h (fun b151 h => ?_) (fun b151 h => ?_)
                         · refine At.seq ?_
                           obtain ⟨y153,hy153,h⟩ := bs h
                           refine At.rK (st' := ⟨[(6,.ptr 0 0)],[.blk 138 (Ae.pvs y153)]⟩) [6] [0] [c0 2 (Bk sf1 hf1 p0 (⟨(w64 (p1 + 1)),true⟩ : Ae) (⟨#[66]⟩ : ByteArray) y153 hy153)] (norm ?_)
                           obtain rfl := sq h
                           exact At.ret (At.rR hR [])
                         · refine At.nK (st' := ⟨[(6,.ptr 0 0),(8,.ptr 1 0)],[.blk 138 [i64 0,bo false],.blk 138 [i64 p1,bo false]]⟩) [6,8] [0,1] ?_
                           refine At.skip (fun _ _ i => ⟨(),h,i⟩)
                       · refine At.sR [0,6,7,8,9,150] [0,1,2,3] [] ?_
                         refine At.cd h (fun b154 h => ?_) (fun b154 h => ?_)
                         · refine At.seqJ (S := Bool) (fun s => ⟨[(0,lv Aa.enc p0),(6,.ptr 0 0),(7,.ptr 1 0),(8,.ptr 2 0),(9,.ptr 3 0),(160,bo s)],[.blk 138 [i64 0,bo false],.blk 67 (Aa.pvs y4),.blk 138 [i64 p1,bo false],.blk 138 [i64 (w64 (p1 + 1)),bo true]]⟩) (fun s => CF sf1 p0 p1 y4 s = some r) ?_ ?_
                           · rcases cs h with ⟨b163,h⟩ | ⟨b163,h⟩
                             · obtain ⟨y164,hy164,h⟩ := bs h
                               exact At.rK [0,6,7,8,9,160] [0,1,2,3] [bT 3 b163,c0 7 (CK y4 y4.Kids y164 hy164)] fun _ _ i => ⟨y164,h,i⟩
                             · exact At.rK [0,6,7,8,9,160] [0,1,2,3] [bT 3 b163] fun _ _ i => ⟨false,h,i⟩
                           · intro x157 h
                             refine At.cd h (fun b158 h => ?_) (fun b158 h => ?_)
                             · obtain ⟨y161,hy161,h⟩ := bs h
                               obtain ⟨y162,hy162,h⟩ := bs h
                               refine At.sR [6] [0] [c0 6 (Ew sf1 hf1 p0 (⟨(w64 (p1 + 1)),true⟩ : Ae) (⟨#[80]⟩ : ByteArray) (w64 (y4.Kids - 1)) y161 hy161),c0 7 (Bk sf1 hf1 p0 y161 (⟨#[66]⟩ : ByteArray) y162 hy162)] ?_
                               obtain rfl := sq h
                               exact At.ret (At.rR hR [])
                             · refine At.nR [6,8] [0,2] ?_
                               refine At.skip (fun _ _ i => ⟨(),h,i.en [] [6,8] [0,1]⟩)
                         · refine At.nK (st' := ⟨[(6,.ptr 0 0),(8,.ptr 1 0)],[.blk 138 [i64 0,bo false],.blk 138 [i64 p1,bo false]]⟩) [6,8] [0,2] ?_
                           refine At.skip (fun _ _ i => ⟨(),h,i⟩)
                   · refine At.nR [6,8] [0,2] ?_
                     refine At.skip (fun _ _ i => ⟨(),h,i.en [] [6,8] [0,1]⟩)
   · intro _ h
     refine At.sR [6] [0] [] ?_
     obtain rfl := sq h
     exact At.ret (At.rR hR [])
theorem Ib : ∀ n : Nat,(∀ (p0 : (List Aa)) (p1 : Int) (p2 : ByteArray) (r : Ae),(Ax n) p0 p1 p2 = some r → FnOK Tryz.prog 87 [lv Aa.enc p0,i64 p1,sv p2] [] (.agg (Ae.pvs r)) [] [])
 | 0 => fun _ _ _ _ h => by cases h
 | n + 1 => JY (Ax n) (Ib n)
theorem KG (p0 : (List Aa)) (p1 : Int) (p2 : ByteArray) (r : Ae) (h : HD p0 p1 p2 = some r) : FnOK Tryz.prog 87 [lv Aa.enc p0,i64 p1,sv p2] [] (.agg (Ae.pvs r)) [] [] :=
 (Ib 4000) p0 p1 p2 r h
theorem KI (p0 : (List Aa)) (r : (List Int)) (h : Eu p0 = some r) : FnOK Tryz.prog 57 [lv Aa.enc p0] [] (.dagg (encL (eInt .i64) r)) [] [] := by
 refine fI Tryz.func57 rfl fun E gv R hR => ?_
 refine At.sR [0,2] [0] [] ?_
 obtain ⟨y2,hy2,h⟩ := bs h
 refine At.sR [0,2,3] [0,1] [c0 1 (KG p0 0 (⟨#[85]⟩ : ByteArray) y2 hy2)] ?_
 refine At.seq ?_
 refine At.seqJ (S := Bool) (fun s => ⟨[(2,.ptr 0 0),(3,.ptr 1 0),(14,bo s)],[.dblk 118 (encL (eInt .i64) (List.replicate 2 (0 : Int))),.blk 138 (Ae.pvs y2)]⟩) (fun s => CH y2 s = some r) ?_ ?_
 · rcases cs h with ⟨b18,h⟩ | ⟨b18,h⟩
   · exact At.rK [2,3,14] [0,1] [bT 2 b18] fun _ _ i => ⟨(y2.At == ((p0).length : Int)),h,i⟩
   · exact At.rK [2,3,14] [0,1] [bT 2 b18] fun _ _ i => ⟨false,h,i⟩
 · intro x10 h
   refine At.cd h (fun b11 h => ?_) (fun b11 h => ?_)
   · obtain ⟨g13,h⟩ := gs h
     refine At.sR [2] [0] [oN 1 (allc (lenN (he_int .i64) ([0,0] : List Int) g13.1) (allc (lenN (he_int .i64) (List.replicate 2 (0 : Int)) g13.2) all0))] ?_
     obtain ⟨g14,h⟩ := gs h
     obtain rfl := sq h
     exact At.ret (At.rQ hR [] (allc (lenN (he_int .i64) ([0,0] : List Int) g14) all0))
   · refine At.nR [2,3] [0,1] ?_
     refine At.skip (norm ?_)
     obtain ⟨g16,h⟩ := gs h
     refine At.sR [2] [0] [oN 3 (allc (lenN (he_int .i64) ([y2.At,3] : List Int) g16.1) (allc (lenN (he_int .i64) (List.replicate 2 (0 : Int)) g16.2) all0))] ?_
     obtain ⟨g17,h⟩ := gs h
     obtain rfl := sq h
     exact At.ret (At.rQ hR [] (allc (lenN (he_int .i64) ([y2.At,3] : List Int) g17) all0))
theorem KH (sf1 : (List Aa) → Int → Option (Int)) (hf1 : ∀ (p0 : (List Aa)) (p1 : Int) (r : Int),sf1 p0 p1 = some r → FnOK Tryz.prog 64 [lv Aa.enc p0,i64 p1] [] (i64 r) [] []) (p0 : (List Aa)) (p1 : Int) (r : Int) (h : CO sf1 p0 p1 = some r) : FnOK Tryz.prog 64 [lv Aa.enc p0,i64 p1] [] (i64 r) [] [] := by
 refine fI Tryz.func64 rfl fun E gv R hR => ?_
 refine At.sR [0,1] [] [] ?_
 refine At.seq ?_
 refine At.seqJ (S := Bool) (fun s => ⟨[(0,lv Aa.enc p0),(1,i64 p1),(14,bo s)],[]⟩) (fun s => Hi sf1 p0 p1 s = some r) ?_ ?_
 · rcases cs h with ⟨b48,h⟩ | ⟨b48,h⟩
   · exact At.rK [0,1,14] [] [bT 2 b48] fun _ _ i => ⟨true,h,i⟩
   · exact At.rK [0,1,14] [] [bT 2 b48] fun _ _ i => ⟨(decide (((p0).length : Int) ≤ p1)),h,i⟩
 · intro x6 h
   refine At.cd h (fun b7 h => ?_) (fun b7 h => ?_)
   · refine At.sR [4] [] [] ?_
     obtain rfl := sq h
     exact At.ret (At.rR hR [])
   · refine At.nR [0,1] [] ?_
     refine At.skip (norm ?_)
     refine At.sR [0,1,5] [] [] ?_
     refine At.seq ?_
     refine At.sR [0,1,5,6] [] [] ?_
     refine At.block ?_
     refine At.nK (st' := ⟨[(0,lv Aa.enc p0),(1,i64 p1),(5,i64 (w64 (p1 + 1))),(6,i64 0)],[]⟩) [0,1,5,6] [] ?_
     refine At.lp (fun s : (Int × Int) => ⟨[(0,lv Aa.enc p0),(1,i64 p1),(5,i64 s.1),(6,i64 s.2)],[]⟩) h ?_
     rintro ⟨x28,x29⟩ oo30 h f31
     replace h : BZ sf1 p0 p1 x28 x29 = some oo30 := h
     refine At.seq ?_
     refine At.seqJ (S := Bool) (fun s => ⟨[(0,lv Aa.enc p0),(1,i64 p1),(5,i64 x28),(6,i64 x29),(31,bo s)],[]⟩) (fun s => F8 sf1 p0 x28 x29 s = some oo30) ?_ ?_
     · obtain ⟨y46,hy46,h⟩ := bs h
       rcases cs h with ⟨b47,h⟩ | ⟨b47,h⟩
       · exact At.rK [0,1,5,6,31] [] [eT Aa.enc_len 3 hy46,bT 7 b47] fun _ _ i => ⟨(decide (x28 < ((p0).length : Int))),h,i⟩
       · exact At.rK [0,1,5,6,31] [] [eT Aa.enc_len 3 hy46,bT 7 b47] fun _ _ i => ⟨false,h,i⟩
     · intro x40 h
       refine At.cd h (fun b41 h => ?_) (fun b41 h => ?_)
       · refine At.nR [0,1,5,6] [] ?_
         refine At.skip (norm ?_)
         refine At.seq ?_
         refine At.block ?_
         obtain ⟨y43,hy43,h⟩ := bs h
         refine At.rG [0,1,5,6] [] [c0 2 (hf1 p0 x28 y43 hy43)] (norm ?_)
         exact At.rK [0,1,5,6] [] [] fun _ _ i => ⟨_,li h,i⟩
       · refine At.nR [5] [] ?_
         obtain ⟨r44,h,e45⟩ := mr h
         rw [f31 _ e45] at h
         refine At.exit (norm ?_)
         refine At.sR [4] [] [] ?_
         obtain rfl := sq h
         exact At.ret (At.rR hR [])
theorem IH : ∀ n : Nat,(∀ (p0 : (List Aa)) (p1 : Int) (r : Int),(Bi n) p0 p1 = some r → FnOK Tryz.prog 64 [lv Aa.enc p0,i64 p1] [] (i64 r) [] [])
 | 0 => fun _ _ _ h => by cases h
 | n + 1 => KH (Bi n) (IH n)
theorem E7 (p0 : (List Aa)) (p1 : Int) (r : Int) (h : Bz p0 p1 = some r) : FnOK Tryz.prog 64 [lv Aa.enc p0,i64 p1] [] (i64 r) [] [] :=
 (IH 4000) p0 p1 r h
theorem BP (p0 : (List Aa)) (p1 : Int) (r : (List Int)) (h : AP p0 p1 = some r) : FnOK Tryz.prog 39 [lv Aa.enc p0,i64 p1] [] (.row 0 (r).length) [.row 3 1 (encL (eInt .i64) r)] [] := by
 refine fI Tryz.func39 rfl fun E gv R hR => ?_
 refine At.sR [0,1] [] [] ?_
 refine At.sR [0,1,5] [] [] ?_
 refine At.seq ?_
 refine At.seqJ (S := Bool) (fun s => ⟨[(0,lv Aa.enc p0),(1,i64 p1),(5,.d (.list true 0 [])),(15,bo s)],[]⟩) (fun s => G0 p0 p1 s = some r) ?_ ?_
 · rcases cs h with ⟨b58,h⟩ | ⟨b58,h⟩
   · exact At.rK [0,1,5,15] [] [bT 2 b58] fun _ _ i => ⟨true,h,i⟩
   · exact At.rK [0,1,5,15] [] [bT 2 b58] fun _ _ i => ⟨(decide (((p0).length : Int) ≤ p1)),h,i⟩
 · intro x6 h
   refine At.cd h (fun b7 h => ?_) (fun b7 h => ?_)
   · refine At.sR [4] [] [] ?_
     refine At.eN [.ownS 4 3 1] [4] [0] ?_
     obtain rfl := sq h
     exact At.ret (At.rR hR [0])
   · refine At.nR [0,1,5] [] ?_
     refine At.skip (norm ?_)
     refine At.sR [0,1,5,6] [] [] ?_
     refine At.seq ?_
     refine At.sR [0,1,5,6,7] [] [] ?_
     refine At.block ?_
     refine At.nK (st' := ⟨[(0,lv Aa.enc p0),(1,i64 p1),(5,.d (.list true 0 [])),(6,i64 (w64 (p1 + 1))),(7,i64 0)],[]⟩) [0,1,5,6,7] [] ?_
     refine At.edNar [.ownS 5 3 1] [0,1,5,6,7] [0] (st' := ⟨[(0,lv Aa.enc p0),(1,i64 p1),(5,.row 0 ([] : List Int).length),(6,i64 (w64 (p1 + 1))),(7,i64 0)],[.row 3 1 (encL (eInt .i64) ([]))]⟩) (by kernel_rfl) ?_
     refine At.lp (fun s : (Int × Int × (List Int)) => ⟨[(0,lv Aa.enc p0),(1,i64 p1),(5,.row 0 (s.2.2).length),(6,i64 s.1),(7,i64 s.2.1)],[.row 3 1 (encL (eInt .i64) s.2.2)]⟩) h ?_
     rintro ⟨x33,x34,x35⟩ oo36 h f37
     replace h : Ce p0 p1 x33 x34 x35 = some oo36 := h
     refine At.seq ?_
     refine At.seqJ (S := Bool) (fun s => ⟨[(0,lv Aa.enc p0),(1,i64 p1),(5,.row 0 (x35).length),(6,i64 x33),(7,i64 x34),(31,bo s)],[.row 3 1 (encL (eInt .i64) x35)]⟩) (fun s => FV p0 x33 x34 x35 s = some oo36) ?_ ?_
     · obtain ⟨y56,hy56,h⟩ := bs h
       rcases cs h with ⟨b57,h⟩ | ⟨b57,h⟩
       · exact At.rK [0,1,5,6,7,31] [0] [eT Aa.enc_len 3 hy56,bT 7 b57] fun _ _ i => ⟨(decide (x33 < ((p0).length : Int))),h,i⟩
       · exact At.rK [0,1,5,6,7,31] [0] [eT Aa.enc_len 3 hy56,bT 7 b57] fun _ _ i => ⟨false,h,i⟩
     · intro x46 h
       refine At.cd h (fun b47 h => ?_) (fun b47 h => ?_)
       · refine At.nR [0,1,5,6,7] [0] ?_
         refine At.skip (norm ?_)
         refine At.seq ?_
         refine At.block ?_
         obtain ⟨g52,h⟩ := gs h
         refine At.sR [0,1,5,6,7] [0] [aT (he_int .i64) 3 x35 ([x33]) rfl g52] ?_
         obtain ⟨y53,hy53,h⟩ := bs h
         refine At.rG [0,1,5,6,7] [0] [c0 2 (E7 p0 x33 y53 hy53)] (norm ?_)
         exact At.rK [0,1,5,6,7] [0] [] fun _ _ i => ⟨_,li h,i⟩
       · refine At.nR [5] [0] ?_
         obtain ⟨r54,h,e55⟩ := mr h
         rw [f37 _ e55] at h
         refine At.exit (norm ?_)
         refine At.sR [4] [0] [] ?_
         obtain rfl := sq h
         exact At.ret (At.rR hR [0])
theorem I6 (p0 : Aa) (r : Int) (h : FE p0 = some r) : FnOK Tryz.prog 89 [.agg (Aa.pvs p0)] [] (i64 r) [] [] := by
 refine fI Tryz.func89 rfl fun E gv R hR => ?_
 refine At.sR [1] [0] [] ?_
 refine At.seq ?_
 refine At.sR [1,5] [0] [] ?_
 refine At.cd h (fun b2 h => ?_) (fun b2 h => ?_)
 · refine At.sR [2] [] [] ?_
   obtain rfl := sq h
   exact At.ret (At.rR hR [])
 · refine At.nR [1] [0] ?_
   refine At.skip (norm ?_)
   refine At.sR [2] [] [] ?_
   obtain rfl := sq h
   exact At.ret (At.rR hR [])
theorem GU (p0 : Aa) (r : ByteArray) (h : Br p0 = some r) : FnOK Tryz.prog 88 [.agg (Aa.pvs p0)] [] (sv r) [] [] := by
 refine fI Tryz.func88 rfl fun E gv R hR => ?_
 refine At.sR [1] [0] [] ?_
 refine At.seq ?_
 refine At.sR [1,5] [0] [] ?_
 refine At.cd h (fun b2 h => ?_) (fun b2 h => ?_)
 · refine At.sR [2] [] [] ?_
   obtain rfl := sq h
   exact At.ret (At.rR hR [])
 · refine At.nR [1] [0] ?_
   refine At.skip (norm ?_)
   refine At.sR [2] [] [] ?_
   obtain rfl := sq h
   exact At.ret (At.rR hR [])
theorem KA (p0 : (List Aa)) (r : Ap) (h : Et p0 = some r) : FnOK Tryz.prog 58 [lv Aa.enc p0] [] (.agg (Ap.pvs r)) [] [] := by
 refine fI Tryz.func58 rfl fun E gv R hR => ?_
 refine At.sR [0,2] [0] [] ?_
 obtain ⟨y2,hy2,h⟩ := bs h
 refine At.sR [0,2,3] [0,1] [cT 1 0 [1] (BP p0 0 y2 hy2)] ?_
 refine At.sR [0,2,3,4,5,6] [0,1] [] ?_
 refine At.seq ?_
 refine At.sR [0,2,3,4,5,6,7] [0,1] [] ?_
 refine At.block ?_
 refine At.nK (st' := ⟨[(0,lv Aa.enc p0),(2,.ptr 0 0),(3,.row 1 (y2).length),(4,i64 0),(5,i64 0),(6,bo false),(7,i64 0)],[.blk 64 [.d (.list true 0 []),.d (.list true 0 []),i64 0,.d (.list true 0 []),i64 0,i64 0],.row 3 1 (encL (eInt .i64) y2)]⟩) [0,2,3,4,5,6,7] [0,1] ?_
 refine At.lp (fun s : (Int × Int × Bool × Int) => ⟨[(0,lv Aa.enc p0),(2,.ptr 0 0),(3,.row 1 (y2).length),(4,i64 s.1),(5,i64 s.2.1),(6,bo s.2.2.1),(7,i64 s.2.2.2)],[.blk 64 [.d (.list true 0 []),.d (.list true 0 []),i64 0,.d (.list true 0 []),i64 0,i64 0],.row 3 1 (encL (eInt .i64) y2)]⟩) h ?_
 rintro ⟨x177,x178,x179,x180⟩ oo181 h f182
 replace h : Db p0 y2 x177 x178 x179 x180 = some oo181 := h
 refine At.seq ?_
 refine At.sR [0,2,3,4,5,6,7,15] [0,1] [] ?_
 refine At.cd h (fun b184 h => ?_) (fun b184 h => ?_)
 · refine At.nR [0,2,3,4,5,6,7] [0,1] ?_
   refine At.skip (norm ?_)
   refine At.seq ?_
   refine At.block ?_
   obtain ⟨y267,hy267,h⟩ := bs h
   obtain ⟨y268,hy268,h⟩ := bs h
   refine At.sR [0,2,3,4,5,6,7,8] [0,1,2] [oT 3 ((AZ (he_int .i64) (d := .int .i64 y267) hy267 rfl).1),vT 4 (.int .i64 y267) ((AZ (he_int .i64) (d := .int .i64 y267) hy267 rfl).2),eT Aa.enc_len 5 hy268] ?_
   refine At.seq ?_
   refine At.sR [0,2,3,4,5,6,7,8,9] [0,1,2] [] ?_
   refine At.block ?_
   refine At.nK (st' := ⟨[(0,lv Aa.enc p0),(2,.ptr 0 0),(3,.row 1 (y2).length),(4,i64 x177),(5,i64 x178),(6,bo x179),(7,i64 x180),(8,.ptr 2 0),(9,i64 0)],[.blk 64 [.d (.list true 0 []),.d (.list true 0 []),i64 0,.d (.list true 0 []),i64 0,i64 0],.row 3 1 (encL (eInt .i64) y2),.blk 67 (Aa.pvs y268)]⟩) [0,2,3,4,5,6,7,8,9] [0,1,2] ?_
   refine At.lp (fun s : (Int) => ⟨[(0,lv Aa.enc p0),(2,.ptr 0 0),(3,.row 1 (y2).length),(4,i64 x177),(5,i64 x178),(6,bo x179),(7,i64 x180),(8,.ptr 2 0),(9,i64 s)],[.blk 64 [.d (.list true 0 []),.d (.list true 0 []),i64 0,.d (.list true 0 []),i64 0,i64 0],.row 3 1 (encL (eInt .i64) y2),.blk 67 (Aa.pvs y268)]⟩) h ?_
   intro x300 oo301 h f302
   replace h : Fo p0 y2 x177 x178 x179 x180 y268 x300 = some oo301 := h
   refine At.seq ?_
   refine At.sR [0,2,3,4,5,6,7,8,9,27] [0,1,2] [] ?_
   refine At.cd h (fun b304 h => ?_) (fun b304 h => ?_)
   · refine At.nR [0,2,3,4,5,6,7,8,9] [0,1,2] ?_
     refine At.skip (norm ?_)
     refine At.seq ?_
     refine At.block ?_
     obtain ⟨y320,hy320,h⟩ := bs h
     obtain ⟨y321,hy321,h⟩ := bs h
     obtain ⟨y322,hy322,h⟩ := bs h
     obtain ⟨y323,hy323,h⟩ := bs h
     refine At.sD 0 [0,2,3,4,5,6,7,8,9,40] [0,1,2] [oT 3 ((AZ (he_int .i64) (d := .int .i64 y320) hy320 rfl).1),vT 4 (.int .i64 y320) ((AZ (he_int .i64) (d := .int .i64 y320) hy320 rfl).2),eT Aa.enc_len 5 hy321,c0 7 (GU y321 y322 hy322),c0 9 (GU y268 y323 hy323)] ?_
     refine At.cd h (fun b324 h => ?_) (fun b324 h => ?_)
     · obtain ⟨y326,hy326,h⟩ := bs h
       refine At.sR [2] [0] [oT 2 ((AZ (he_int .i64) (d := .int .i64 y326) hy326 rfl).1),vT 3 (.int .i64 y326) ((AZ (he_int .i64) (d := .int .i64 y326) hy326 rfl).2)] ?_
       obtain ⟨r327,h,e328⟩ := mr h
       rw [f302 _ e328] at h
       obtain ⟨r329,h,e330⟩ := mr h
       rw [f182 _ e330] at h
       refine At.eN [.loO 0] [2] [0] ?_
       obtain rfl := sq h
       exact At.ret (At.rR hR [])
     · refine At.nR [0,2,3,4,5,6,7,8,9] [0,1,2] ?_
       refine At.skip (norm ?_)
       exact At.rK [0,2,3,4,5,6,7,8,9] [0,1,2] [] fun _ _ i => ⟨_,li h,i⟩
   · refine At.nR [0,2,3,4,5,6,7,8] [0,1,2] ?_
     obtain ⟨r331,h,e332⟩ := mr h
     rw [f302 _ e332] at h
     refine At.exit (norm ?_)
     obtain ⟨y334,hy334,h⟩ := bs h
     refine At.sR [0,2,3,4,5,6,7,8] [0,1,2] [c0 2 (I6 y268 y334 hy334)] ?_
     refine At.seqJ (S := Int) (fun s => ⟨[(0,lv Aa.enc p0),(2,.ptr 0 0),(3,.row 1 (y2).length),(4,i64 (w64 (x177 + y334))),(5,i64 s),(6,bo x179),(7,i64 x180),(8,.ptr 2 0)],[.blk 64 [.d (.list true 0 []),.d (.list true 0 []),i64 0,.d (.list true 0 []),i64 0,i64 0],.row 3 1 (encL (eInt .i64) y2),.blk 67 (Aa.pvs y268)]⟩) (fun s => CD y2 x177 x179 x180 y268 y334 s = some oo181) ?_ ?_
     · refine At.sR [0,2,3,4,5,6,7,8,52] [0,1,2] [] ?_
       refine At.cd h (fun b348 h => ?_) (fun b348 h => ?_)
       · exact At.rK [0,2,3,4,5,6,7,8] [0,1,2] [] fun _ _ i => ⟨(w64 (x178 + 1)),h,i⟩
       · refine At.nR [0,2,3,4,5,6,7,8] [0,1,2] ?_
         refine At.skip (fun _ _ i => ⟨x178,h,i.en [] [0,2,3,4,5,6,7,8] [0,1,2]⟩)
     · intro x336 h
       refine At.seqJ (S := Bool) (fun s => ⟨[(0,lv Aa.enc p0),(2,.ptr 0 0),(3,.row 1 (y2).length),(4,i64 (w64 (x177 + y334))),(5,i64 x336),(6,bo s),(7,i64 x180)],[.blk 64 [.d (.list true 0 []),.d (.list true 0 []),i64 0,.d (.list true 0 []),i64 0,i64 0],.row 3 1 (encL (eInt .i64) y2)]⟩) (fun s => CC y2 x177 x180 y334 x336 s = some oo181) ?_ ?_
       · rcases cs h with ⟨b347,h⟩ | ⟨b347,h⟩
         · exact At.rK [0,2,3,4,5,6,7] [0,1] [bT 1 b347] fun _ _ i => ⟨true,h,i⟩
         · exact At.rK [0,2,3,4,5,6,7] [0,1] [bT 1 b347] fun _ _ i => ⟨(y268.Op == 41),h,i⟩
       · intro x338 h
         refine At.seqJ (S := Bool) (fun s => ⟨[(0,lv Aa.enc p0),(2,.ptr 0 0),(3,.row 1 (y2).length),(4,i64 (w64 (x177 + y334))),(5,i64 x336),(6,bo x338),(7,i64 x180),(66,bo s)],[.blk 64 [.d (.list true 0 []),.d (.list true 0 []),i64 0,.d (.list true 0 []),i64 0,i64 0],.row 3 1 (encL (eInt .i64) y2)]⟩) (fun s => CB y2 x177 x180 y334 x336 x338 s = some oo181) ?_ ?_
         · rcases cs h with ⟨b346,h⟩ | ⟨b346,h⟩
           · exact At.rK [0,2,3,4,5,6,7,66] [0,1] [bT 2 b346] fun _ _ i => ⟨true,h,i⟩
           · exact At.rK [0,2,3,4,5,6,7,66] [0,1] [bT 2 b346] fun _ _ i => ⟨(decide (32 < x336)),h,i⟩
         · intro x340 h
           refine At.cd h (fun b341 h => ?_) (fun b341 h => ?_)
           · obtain ⟨y343,hy343,h⟩ := bs h
             refine At.sR [2] [0] [oT 2 ((AZ (he_int .i64) (d := .int .i64 y343) hy343 rfl).1),vT 3 (.int .i64 y343) ((AZ (he_int .i64) (d := .int .i64 y343) hy343 rfl).2)] ?_
             obtain ⟨r344,h,e345⟩ := mr h
             rw [f182 _ e345] at h
             refine At.eN [.loO 0] [2] [0] ?_
             obtain rfl := sq h
             exact At.ret (At.rR hR [])
           · refine At.nR [0,2,3,4,5,6,7] [0,1] ?_
             refine At.skip (norm ?_)
             exact At.rK [0,2,3,4,5,6,7] [0,1] [] fun _ _ i => ⟨_,li h,i⟩
 · refine At.nR [0,2,6] [0] ?_
   obtain ⟨r349,h,e350⟩ := mr h
   rw [f182 _ e350] at h
   refine At.exit (norm ?_)
   refine At.seq ?_
   refine At.sR [0,2,73] [0] [] ?_
   refine At.cd h (fun b352 h => ?_) (fun b352 h => ?_)
   · refine At.sR [2] [0] [] ?_
     refine At.eN [.loO 0] [2] [0] ?_
     obtain rfl := sq h
     exact At.ret (At.rR hR [])
   · refine At.nR [2] [0] ?_
     refine At.skip (norm ?_)
     refine At.sR [2] [0] [] ?_
     refine At.eN [.loO 0] [2] [0] ?_
     obtain rfl := sq h
     exact At.ret (At.rR hR [])
theorem FZ (p0 : (List Aa)) (p1 : Int) (r : Int) (h : B8 p0 p1 = some r) : FnOK Tryz.prog 59 [lv Aa.enc p0,i64 p1] [] (i64 r) [] [] := by
 refine fI Tryz.func59 rfl fun E gv R hR => ?_
 refine At.sR [0,1] [] [] ?_
 obtain ⟨y2,hy2,h⟩ := bs h
 refine At.sR [0,1,5] [0] [cT 1 0 [0] (BP p0 0 y2 hy2)] ?_
 refine At.seq ?_
 refine At.sR [0,1,5,6] [0] [] ?_
 refine At.block ?_
 refine At.nK (st' := ⟨[(0,lv Aa.enc p0),(1,i64 p1),(5,.row 0 (y2).length),(6,i64 0)],[.row 3 1 (encL (eInt .i64) y2)]⟩) [0,1,5,6] [0] ?_
 refine At.lp (fun s : (Int) => ⟨[(0,lv Aa.enc p0),(1,i64 p1),(5,.row 0 (y2).length),(6,i64 s)],[.row 3 1 (encL (eInt .i64) y2)]⟩) h ?_
 intro x48 oo49 h f50
 replace h : Gd p0 p1 y2 x48 = some oo49 := h
 refine At.seq ?_
 refine At.sR [0,1,5,6,12] [0] [] ?_
 refine At.cd h (fun b52 h => ?_) (fun b52 h => ?_)
 · refine At.nR [0,1,5,6] [0] ?_
   refine At.skip (norm ?_)
   refine At.seq ?_
   refine At.block ?_
   refine At.seqJ (S := Bool) (fun s => ⟨[(0,lv Aa.enc p0),(1,i64 p1),(5,.row 0 (y2).length),(6,i64 x48),(41,bo s)],[.row 3 1 (encL (eInt .i64) y2)]⟩) (fun s => B1 y2 x48 s = some oo49) ?_ ?_
   · obtain ⟨y84,hy84,h⟩ := bs h
     obtain ⟨y85,hy85,h⟩ := bs h
     rcases cs h with ⟨b86,h⟩ | ⟨b86,h⟩
     · obtain ⟨y87,hy87,h⟩ := bs h
       rcases cs h with ⟨b88,h⟩ | ⟨b88,h⟩
       · obtain ⟨y89,hy89,h⟩ := bs h
         obtain ⟨y90,hy90,h⟩ := bs h
         exact At.rK [0,1,5,6,41] [0] [oT 3 ((AZ (he_int .i64) (d := .int .i64 y84) hy84 rfl).1),vT 4 (.int .i64 y84) ((AZ (he_int .i64) (d := .int .i64 y84) hy84 rfl).2),eT Aa.enc_len 5 hy85,bT 9 b86,oT 12 ((AZ (he_int .i64) (d := .int .i64 y87) hy87 rfl).1),vT 13 (.int .i64 y87) ((AZ (he_int .i64) (d := .int .i64 y87) hy87 rfl).2),bT 17 b88,oT 22 ((AZ (he_int .i64) (d := .int .i64 y89) hy89 rfl).1),vT 23 (.int .i64 y89) ((AZ (he_int .i64) (d := .int .i64 y89) hy89 rfl).2),c0 24 (E7 p0 y89 y90 hy90)] fun _ _ i => ⟨(decide (p1 < y90)),h,i⟩
       · exact At.rK [0,1,5,6,41] [0] [oT 3 ((AZ (he_int .i64) (d := .int .i64 y84) hy84 rfl).1),vT 4 (.int .i64 y84) ((AZ (he_int .i64) (d := .int .i64 y84) hy84 rfl).2),eT Aa.enc_len 5 hy85,bT 9 b86,oT 12 ((AZ (he_int .i64) (d := .int .i64 y87) hy87 rfl).1),vT 13 (.int .i64 y87) ((AZ (he_int .i64) (d := .int .i64 y87) hy87 rfl).2),bT 17 b88] fun _ _ i => ⟨false,h,i⟩
     · exact At.rK [0,1,5,6,41] [0] [oT 3 ((AZ (he_int .i64) (d := .int .i64 y84) hy84 rfl).1),vT 4 (.int .i64 y84) ((AZ (he_int .i64) (d := .int .i64 y84) hy84 rfl).2),eT Aa.enc_len 5 hy85,bT 9 b86] fun _ _ i => ⟨false,h,i⟩
   · intro x78 h
     refine At.cd h (fun b79 h => ?_) (fun b79 h => ?_)
     · obtain ⟨y81,hy81,h⟩ := bs h
       refine At.sR [4] [] [oT 2 ((AZ (he_int .i64) (d := .int .i64 y81) hy81 rfl).1),vT 3 (.int .i64 y81) ((AZ (he_int .i64) (d := .int .i64 y81) hy81 rfl).2)] ?_
       obtain ⟨r82,h,e83⟩ := mr h
       rw [f50 _ e83] at h
       obtain rfl := sq h
       exact At.ret (At.rR hR [])
     · refine At.nR [0,1,5,6] [0] ?_
       refine At.skip (norm ?_)
       exact At.rK [0,1,5,6] [0] [] fun _ _ i => ⟨_,li h,i⟩
 · refine At.nR [] [] ?_
   obtain ⟨r91,h,e92⟩ := mr h
   rw [f50 _ e92] at h
   refine At.exit (norm ?_)
   refine At.sR [4] [] [] ?_
   obtain rfl := sq h
   exact At.ret (At.rR hR [])
theorem Eq (p0 : Aa) (r : Bool) (h : BG p0 = some r) : FnOK Tryz.prog 93 [.agg (Aa.pvs p0)] [] (bo r) [] [] := by
 refine fI Tryz.func93 rfl fun E gv R hR => ?_
 refine At.sR [1] [0] [] ?_
 refine At.seqJ (S := Bool) (fun s => ⟨[(2,bo s)],[]⟩) (fun s => Ez s = some r) ?_ ?_
 · rcases cs h with ⟨b3,h⟩ | ⟨b3,h⟩
   · exact At.rK [2] [] [bT 3 b3] fun _ _ i => ⟨true,h,i⟩
   · exact At.rK [2] [] [bT 3 b3] fun _ _ i => ⟨(p0.Op == 18),h,i⟩
 · intro x2 h
   obtain rfl := sq h
   exact At.ret (At.rR hR [])
theorem Jw (p0 : (List Aa)) (p1 : Int) (r : Int) (h : GB p0 p1 = some r) : FnOK Tryz.prog 62 [lv Aa.enc p0,i64 p1] [] (i64 r) [] [] := by
 refine fI Tryz.func62 rfl fun E gv R hR => ?_
 refine At.sR [0,1] [] [] ?_
 refine At.seq ?_
 refine At.sR [0,1,5] [] [] ?_
 refine At.block ?_
 refine At.nK (st' := ⟨[(0,lv Aa.enc p0),(1,i64 p1),(5,i64 0)],[]⟩) [0,1,5] [] ?_
 refine At.lp (fun s : (Int) => ⟨[(0,lv Aa.enc p0),(1,i64 p1),(5,i64 s)],[]⟩) h ?_
 intro x50 oo51 h f52
 replace h : HB p0 p1 x50 = some oo51 := h
 refine At.seq ?_
 refine At.seqJ (S := Bool) (fun s => ⟨[(0,lv Aa.enc p0),(1,i64 p1),(5,i64 x50),(16,bo s)],[]⟩) (fun s => Fh p0 p1 x50 s = some oo51) ?_ ?_
 · rcases cs h with ⟨b98,h⟩ | ⟨b98,h⟩
   · exact At.rK [0,1,5,16] [] [bT 3 b98] fun _ _ i => ⟨(decide (x50 < ((p0).length : Int))),h,i⟩
   · exact At.rK [0,1,5,16] [] [bT 3 b98] fun _ _ i => ⟨false,h,i⟩
 · intro x58 h
   refine At.cd h (fun b59 h => ?_) (fun b59 h => ?_)
   · refine At.nR [0,1,5] [] ?_
     refine At.skip (norm ?_)
     refine At.seq ?_
     refine At.block ?_
     obtain ⟨y78,hy78,h⟩ := bs h
     refine At.sR [0,1,5,6] [0] [cT 2 0 [0] (BP p0 x50 y78 hy78)] ?_
     refine At.sR [0,1,5,6,7] [0] [] ?_
     refine At.block ?_
     refine At.nK (st' := ⟨[(0,lv Aa.enc p0),(1,i64 p1),(5,i64 x50),(6,.row 0 (y78).length),(7,i64 0)],[.row 3 1 (encL (eInt .i64) y78)]⟩) [0,1,5,6,7] [0] ?_
     refine At.lp (fun s : (Int) => ⟨[(0,lv Aa.enc p0),(1,i64 p1),(5,i64 x50),(6,.row 0 (y78).length),(7,i64 s)],[.row 3 1 (encL (eInt .i64) y78)]⟩) h ?_
     intro x79 oo80 h f81
     replace h : HC p1 x50 y78 x79 = some oo80 := h
     refine At.seq ?_
     refine At.sR [0,1,5,6,7,25] [0] [] ?_
     refine At.cd h (fun b83 h => ?_) (fun b83 h => ?_)
     · refine At.nR [0,1,5,6,7] [0] ?_
       refine At.skip (norm ?_)
       refine At.seq ?_
       refine At.block ?_
       obtain ⟨y88,hy88,h⟩ := bs h
       refine At.sR [0,1,5,6,7,33] [0] [oT 2 ((AZ (he_int .i64) (d := .int .i64 y88) hy88 rfl).1),vT 3 (.int .i64 y88) ((AZ (he_int .i64) (d := .int .i64 y88) hy88 rfl).2)] ?_
       refine At.cd h (fun b89 h => ?_) (fun b89 h => ?_)
       · refine At.sR [4] [] [] ?_
         obtain ⟨r90,h,e91⟩ := mr h
         rw [f81 _ e91] at h
         obtain ⟨r92,h,e93⟩ := mr h
         rw [f52 _ e93] at h
         obtain rfl := sq h
         exact At.ret (At.rR hR [])
       · refine At.nR [0,1,5,6,7] [0] ?_
         refine At.skip (norm ?_)
         exact At.rK [0,1,5,6,7] [0] [] fun _ _ i => ⟨_,li h,i⟩
     · refine At.nR [0,1,5] [] ?_
       obtain ⟨r94,h,e95⟩ := mr h
       rw [f81 _ e95] at h
       refine At.exit (norm ?_)
       exact At.rK [0,1,5] [] [] fun _ _ i => ⟨_,li h,i⟩
   · refine At.nR [] [] ?_
     obtain ⟨r96,h,e97⟩ := mr h
     rw [f52 _ e97] at h
     refine At.exit (norm ?_)
     refine At.sR [4] [] [] ?_
     obtain rfl := sq h
     exact At.ret (At.rR hR [])
theorem Kz (p0 : (List Aa)) (p1 : Int) (p2 : Int) (r : Bool) (h : Gl p0 p1 p2 = some r) : FnOK Tryz.prog 110 [lv Aa.enc p0,i64 p1,i64 p2] [] (bo r) [] [] := by
 refine fI Tryz.func110 rfl fun E gv R hR => ?_
 refine At.sR [0,1,2] [] [] ?_
 refine At.seq ?_
 obtain ⟨y5,hy5,h⟩ := bs h
 refine At.sR [0,1,2,12] [] [eT Aa.enc_len 2 hy5] ?_
 refine At.cd h (fun b6 h => ?_) (fun b6 h => ?_)
 · refine At.sR [6] [] [] ?_
   obtain rfl := sq h
   exact At.ret (At.rR hR [])
 · refine At.nR [0,1,2] [] ?_
   refine At.skip (norm ?_)
   refine At.seqJ (S := Bool) (fun s => ⟨[(6,bo s)],[]⟩) (fun s => GK s = some r) ?_ ?_
   · obtain ⟨y12,hy12,h⟩ := bs h
     rcases cs h with ⟨b13,h⟩ | ⟨b13,h⟩
     · obtain ⟨y14,hy14,h⟩ := bs h
       obtain ⟨y15,hy15,h⟩ := bs h
       exact At.rK [6] [] [c0 2 (E7 p0 p1 y12 hy12),bT 5 b13,c0 10 (Jw p0 p1 y14 hy14),c0 11 (E7 p0 y14 y15 hy15)] fun _ _ i => ⟨(decide (p2 < y15)),h,i⟩
     · exact At.rK [6] [] [c0 2 (E7 p0 p1 y12 hy12),bT 5 b13] fun _ _ i => ⟨false,h,i⟩
   · intro x11 h
     obtain rfl := sq h
     exact At.ret (At.rR hR [])
theorem Hl (p0 : (List Aa)) (p1 : Int) (p2 : Int) (r : Int) (h : Cp p0 p1 p2 = some r) : FnOK Tryz.prog 91 [lv Aa.enc p0,i64 p1,i64 p2] [] (i64 r) [] [] := by
 refine fI Tryz.func91 rfl fun E gv R hR => ?_
 refine At.sR [0,1,2] [] [] ?_
 refine At.sR [0,1,2,7] [] [] ?_
 refine At.seq ?_
 refine At.sR [0,2,7,8] [] [] ?_
 refine At.block ?_
 refine At.nK (st' := ⟨[(0,lv Aa.enc p0),(2,i64 p2),(7,i64 0),(8,i64 p1)],[]⟩) [0,2,7,8] [] ?_
 refine At.lp (fun s : (Int × Int) => ⟨[(0,lv Aa.enc p0),(2,i64 p2),(7,i64 s.1),(8,i64 s.2)],[]⟩) h ?_
 rintro ⟨x20,x21⟩ oo22 h f23
 replace h : Bx p0 p2 x20 x21 = some oo22 := h
 refine At.seq ?_
 refine At.sR [0,2,7,8,12] [] [] ?_
 refine At.cd h (fun b25 h => ?_) (fun b25 h => ?_)
 · refine At.nR [0,2,7,8] [] ?_
   refine At.skip (norm ?_)
   refine At.seqJ (S := Int) (fun s => ⟨[(0,lv Aa.enc p0),(2,i64 p2),(7,i64 s),(8,i64 x21)],[]⟩) (fun s => Gy x21 s = some oo22) ?_ ?_
   · refine At.block ?_
     obtain ⟨y34,hy34,h⟩ := bs h
     obtain ⟨y35,hy35,h⟩ := bs h
     refine At.sR [0,2,7,8,19] [] [eT Aa.enc_len 2 hy34,c0 4 (Eq y34 y35 hy35)] ?_
     refine At.cd h (fun b36 h => ?_) (fun b36 h => ?_)
     · exact At.rK [0,2,7,8] [] [] fun _ _ i => ⟨(w64 (x20 + 1)),h,i⟩
     · refine At.nR [0,2,7,8] [] ?_
       refine At.skip (fun _ _ i => ⟨x20,h,i.en [] [0,2,7,8] []⟩)
   · intro x31 h
     exact At.rK [0,2,7,8] [] [] fun _ _ i => ⟨_,li h,i⟩
 · refine At.nR [7] [] ?_
   obtain ⟨r37,h,e38⟩ := mr h
   rw [f23 _ e38] at h
   refine At.exit (norm ?_)
   refine At.sR [6] [] [] ?_
   obtain rfl := sq h
   exact At.ret (At.rR hR [])
theorem HR (p0 : (List Aa)) (p1 : Int) (p2 : ByteArray) (r : Int) (h : DN p0 p1 p2 = some r) : FnOK Tryz.prog 90 [lv Aa.enc p0,i64 p1,sv p2] [] (i64 r) [] [] := by
 refine fI Tryz.func90 rfl fun E gv R hR => ?_
 refine At.sR [0,1,2] [] [] ?_
 obtain ⟨y2,hy2,h⟩ := bs h
 refine At.sR [0,1,2,7] [] [c0 2 (FZ p0 p1 y2 hy2)] ?_
 refine At.seq ?_
 refine At.sR [0,1,2,7,8] [] [] ?_
 refine At.block ?_
 refine At.nK (st' := ⟨[(0,lv Aa.enc p0),(1,i64 p1),(2,sv p2),(7,i64 y2),(8,i64 y2)],[]⟩) [0,1,2,7,8] [] ?_
 refine At.lp (fun s : (Int) => ⟨[(0,lv Aa.enc p0),(1,i64 p1),(2,sv p2),(7,i64 y2),(8,i64 s)],[]⟩) h ?_
 intro x44 oo45 h f46
 replace h : GZ p0 p1 p2 y2 x44 = some oo45 := h
 refine At.seq ?_
 refine At.sR [0,1,2,7,8,15] [] [] ?_
 refine At.cd h (fun b48 h => ?_) (fun b48 h => ?_)
 · refine At.nR [0,1,2,7,8] [] ?_
   refine At.skip (norm ?_)
   refine At.seq ?_
   refine At.block ?_
   refine At.seqJ (S := Bool) (fun s => ⟨[(0,lv Aa.enc p0),(1,i64 p1),(2,sv p2),(7,i64 y2),(8,i64 x44),(37,bo s)],[]⟩) (fun s => Dx p0 y2 x44 s = some oo45) ?_ ?_
   · obtain ⟨y77,hy77,h⟩ := bs h
     obtain ⟨y78,hy78,h⟩ := bs h
     rcases cs h with ⟨b79,h⟩ | ⟨b79,h⟩
     · obtain ⟨y80,hy80,h⟩ := bs h
       rcases cs h with ⟨b81,h⟩ | ⟨b81,h⟩
       · obtain ⟨y82,hy82,h⟩ := bs h
         exact At.rK [0,1,2,7,8,37] [] [eT Aa.enc_len 2 hy77,c0 4 (Eq y77 y78 hy78),bT 5 b79,eT Aa.enc_len 8 hy80,bT 14 b81,c0 18 (Kz p0 x44 p1 y82 hy82)] fun _ _ i => ⟨y82,h,i⟩
       · exact At.rK [0,1,2,7,8,37] [] [eT Aa.enc_len 2 hy77,c0 4 (Eq y77 y78 hy78),bT 5 b79,eT Aa.enc_len 8 hy80,bT 14 b81] fun _ _ i => ⟨false,h,i⟩
     · exact At.rK [0,1,2,7,8,37] [] [eT Aa.enc_len 2 hy77,c0 4 (Eq y77 y78 hy78),bT 5 b79] fun _ _ i => ⟨false,h,i⟩
   · intro x71 h
     refine At.cd h (fun b72 h => ?_) (fun b72 h => ?_)
     · obtain ⟨y74,hy74,h⟩ := bs h
       refine At.sR [6] [] [c0 3 (Hl p0 y2 x44 y74 hy74)] ?_
       obtain ⟨r75,h,e76⟩ := mr h
       rw [f46 _ e76] at h
       obtain rfl := sq h
       exact At.ret (At.rR hR [])
     · refine At.nR [0,1,2,7,8] [] ?_
       refine At.skip (norm ?_)
       exact At.rK [0,1,2,7,8] [] [] fun _ _ i => ⟨_,li h,i⟩
 · refine At.nR [] [] ?_
   obtain ⟨r83,h,e84⟩ := mr h
   rw [f46 _ e84] at h
   refine At.exit (norm ?_)
   refine At.sR [6] [] [] ?_
   obtain rfl := sq h
   exact At.ret (At.rR hR [])
theorem IB (p0 : (List Aa)) (p1 : ByteArray) (r : Int) (h : DU p0 p1 = some r) : FnOK Tryz.prog 92 [lv Aa.enc p0,sv p1] [] (i64 r) [] [] := by
 refine fI Tryz.func92 rfl fun E gv R hR => ?_
 refine At.sR [0,1] [] [] ?_
 obtain ⟨y2,hy2,h⟩ := bs h
 refine At.sR [0,1,5] [0] [cT 1 0 [0] (BP p0 0 y2 hy2)] ?_
 refine At.seq ?_
 refine At.sR [0,1,5,6] [0] [] ?_
 refine At.block ?_
 refine At.nK (st' := ⟨[(0,lv Aa.enc p0),(1,sv p1),(5,.row 0 (y2).length),(6,i64 0)],[.row 3 1 (encL (eInt .i64) y2)]⟩) [0,1,5,6] [0] ?_
 refine At.lp (fun s : (Int) => ⟨[(0,lv Aa.enc p0),(1,sv p1),(5,.row 0 (y2).length),(6,i64 s)],[.row 3 1 (encL (eInt .i64) y2)]⟩) h ?_
 intro x30 oo31 h f32
 replace h : Gz p0 p1 y2 x30 = some oo31 := h
 refine At.seq ?_
 refine At.sR [0,1,5,6,12] [0] [] ?_
 refine At.cd h (fun b34 h => ?_) (fun b34 h => ?_)
 · refine At.nR [0,1,5,6] [0] ?_
   refine At.skip (norm ?_)
   refine At.seq ?_
   refine At.block ?_
   obtain ⟨y47,hy47,h⟩ := bs h
   obtain ⟨y48,hy48,h⟩ := bs h
   obtain ⟨y49,hy49,h⟩ := bs h
   refine At.sR [0,1,5,6,24] [0] [oT 3 ((AZ (he_int .i64) (d := .int .i64 y47) hy47 rfl).1),vT 4 (.int .i64 y47) ((AZ (he_int .i64) (d := .int .i64 y47) hy47 rfl).2),eT Aa.enc_len 5 hy48,c0 7 (GU y48 y49 hy49)] ?_
   refine At.cd h (fun b50 h => ?_) (fun b50 h => ?_)
   · obtain ⟨y52,hy52,h⟩ := bs h
     refine At.sR [4] [] [oT 2 ((AZ (he_int .i64) (d := .int .i64 y52) hy52 rfl).1),vT 3 (.int .i64 y52) ((AZ (he_int .i64) (d := .int .i64 y52) hy52 rfl).2)] ?_
     obtain ⟨r53,h,e54⟩ := mr h
     rw [f32 _ e54] at h
     obtain rfl := sq h
     exact At.ret (At.rR hR [])
   · refine At.nR [0,1,5,6] [0] ?_
     refine At.skip (norm ?_)
     exact At.rK [0,1,5,6] [0] [] fun _ _ i => ⟨_,li h,i⟩
 · refine At.nR [] [] ?_
   obtain ⟨r55,h,e56⟩ := mr h
   rw [f32 _ e56] at h
   refine At.exit (norm ?_)
   refine At.sR [4] [] [] ?_
   obtain rfl := sq h
   exact At.ret (At.rR hR [])
theorem Ky (p0 : (List Aa)) (p1 : Int) (r : Int) (h : Gk p0 p1 = some r) : FnOK Tryz.prog 60 [lv Aa.enc p0,i64 p1] [] (i64 r) [] [] := by
 refine fI Tryz.func60 rfl fun E gv R hR => ?_
 refine At.sR [0,1] [] [] ?_
 obtain ⟨y2,hy2,h⟩ := bs h
 refine At.sR [0,1,5] [0] [eT Aa.enc_len 2 hy2] ?_
 refine At.seqJ (S := Unit) (fun s => ⟨[],[]⟩) (fun s => Ee = some r) ?_ ?_
 · refine At.sR [0,1,5,12] [0] [] ?_
   refine At.block ?_
   refine At.seqJ (S := Bool) (fun s => ⟨[(0,lv Aa.enc p0),(1,i64 p1),(5,.ptr 0 0),(12,i64 y2.Op),(13,bo s)],[.blk 67 (Aa.pvs y2)]⟩) (fun s => Cz p0 p1 y2 s = some r) ?_ ?_
   · refine At.sR [0,1,5,12,13] [0] [] ?_
     refine At.cd h (fun b80 h => ?_) (fun b80 h => ?_)
     · refine At.skip (fun _ _ i => ⟨(y2.Op == 39),h,i.en [] [0,1,5,12,13] [0]⟩)
     · exact At.rK [0,1,5,12,13] [0] [] fun _ _ i => ⟨(y2.Op == 18),h,i⟩
   · intro x43 h
     refine At.cd h (fun b44 h => ?_) (fun b44 h => ?_)
     · refine At.seq ?_
       obtain ⟨y49,hy49,h⟩ := bs h
       refine At.sR [0,1,21] [] [c0 4 (HR p0 p1 y2.Name y49 hy49)] ?_
       refine At.cd h (fun b50 h => ?_) (fun b50 h => ?_)
       · refine At.sR [4] [] [] ?_
         obtain rfl := sq h
         exact At.ret (At.rR hR [])
       · refine At.nR [0,1] [] ?_
         refine At.skip (norm ?_)
         obtain ⟨y53,hy53,h⟩ := bs h
         obtain ⟨y54,hy54,h⟩ := bs h
         refine At.sR [28] [] [c0 3 (FZ p0 p1 y53 hy53),c0 5 (Hl p0 y53 p1 y54 hy54)] ?_
         refine At.cd h (fun b55 h => ?_) (fun b55 h => ?_)
         · refine At.sR [4] [] [] ?_
           obtain rfl := sq h
           exact At.ret (At.rR hR [])
         · refine At.nR [] [] ?_
           refine At.skip (fun _ _ i => ⟨(),h,i.en [] [] []⟩)
     · refine At.seqJ (S := Bool) (fun s => ⟨[(0,lv Aa.enc p0),(1,i64 p1),(5,.ptr 0 0),(12,i64 y2.Op),(29,bo s)],[.blk 67 (Aa.pvs y2)]⟩) (fun s => BU p0 p1 y2 s = some r) ?_ ?_
       · refine At.sR [0,1,5,12,29] [0] [] ?_
         refine At.cd h (fun b76 h => ?_) (fun b76 h => ?_)
         · refine At.skip (fun _ _ i => ⟨(y2.Op == 2),h,i.en [] [0,1,5,12,29] [0]⟩)
         · refine At.sR [0,1,5,12,29] [0] [] ?_
           refine At.cd h (fun b77 h => ?_) (fun b77 h => ?_)
           · refine At.skip (fun _ _ i => ⟨(y2.Op == 19),h,i.en [] [0,1,5,12,29] [0]⟩)
           · refine At.sR [0,1,5,12,29] [0] [] ?_
             refine At.cd h (fun b78 h => ?_) (fun b78 h => ?_)
             · refine At.skip (fun _ _ i => ⟨(y2.Op == 20),h,i.en [] [0,1,5,12,29] [0]⟩)
             · refine At.sR [0,1,5,12,29] [0] [] ?_
               refine At.cd h (fun b79 h => ?_) (fun b79 h => ?_)
               · refine At.skip (fun _ _ i => ⟨(y2.Op == 22),h,i.en [] [0,1,5,12,29] [0]⟩)
               · exact At.rK [0,1,5,12,29] [0] [] fun _ _ i => ⟨(y2.Op == 34),h,i⟩
       · intro x60 h
         refine At.cd h (fun b61 h => ?_) (fun b61 h => ?_)
         · obtain ⟨y63,hy63,h⟩ := bs h
           refine At.sR [40] [] [c0 4 (HR p0 p1 y2.Name y63 hy63)] ?_
           refine At.cd h (fun b64 h => ?_) (fun b64 h => ?_)
           · refine At.sR [4] [] [] ?_
             obtain rfl := sq h
             exact At.ret (At.rR hR [])
           · refine At.nR [] [] ?_
             refine At.skip (fun _ _ i => ⟨(),h,i.en [] [] []⟩)
         · refine At.seqJ (S := Bool) (fun s => ⟨[(0,lv Aa.enc p0),(5,.ptr 0 0),(41,bo s)],[.blk 67 (Aa.pvs y2)]⟩) (fun s => Ec p0 y2 s = some r) ?_ ?_
           · refine At.sR [0,5,12,41] [0] [] ?_
             refine At.cd h (fun b75 h => ?_) (fun b75 h => ?_)
             · refine At.nR [0,5,41] [0] ?_
               refine At.skip (fun _ _ i => ⟨(y2.Op == 33),h,i.en [] [0,5,41] [0]⟩)
             · exact At.rK [0,5,41] [0] [] fun _ _ i => ⟨(y2.Op == 26),h,i⟩
           · intro x66 h
             refine At.cd h (fun b67 h => ?_) (fun b67 h => ?_)
             · obtain ⟨y69,hy69,h⟩ := bs h
               refine At.sR [0,5,6] [0] [c0 3 (IB p0 y2.Name y69 hy69)] ?_
               refine At.seq ?_
               refine At.sR [0,5,6,49] [0] [] ?_
               refine At.cd h (fun b71 h => ?_) (fun b71 h => ?_)
               · refine At.sR [4] [] [] ?_
                 obtain rfl := sq h
                 exact At.ret (At.rR hR [])
               · refine At.nR [0,5,6] [0] ?_
                 refine At.skip (norm ?_)
                 obtain ⟨y73,hy73,h⟩ := bs h
                 refine At.sD 0 [59] [] [eT Aa.enc_len 2 hy73] ?_
                 refine At.cd h (fun b74 h => ?_) (fun b74 h => ?_)
                 · refine At.sR [4] [] [] ?_
                   obtain rfl := sq h
                   exact At.ret (At.rR hR [])
                 · refine At.nR [] [] ?_
                   refine At.skip (fun _ _ i => ⟨(),h,i.en [] [] []⟩)
             · refine At.nR [] [] ?_
               refine At.skip (fun _ _ i => ⟨(),h,i.en [] [] []⟩)
 · intro _ h
   refine At.sR [4] [] [] ?_
   obtain rfl := sq h
   exact At.ret (At.rR hR [])
theorem IG (p0 : (List Aa)) (p1 : Int) (r : Int) (h : Dp p0 p1 = some r) : FnOK Tryz.prog 111 [lv Aa.enc p0,i64 p1] [] (i64 r) [] [] := by
 refine fI Tryz.func111 rfl fun E gv R hR => ?_
 refine At.sR [0,1] [] [] ?_
 refine At.sR [0,1,5] [] [] ?_
 obtain ⟨y2,hy2,h⟩ := bs h
 refine At.sR [0,1,5,6] [0] [cT 1 0 [0] (BP p0 0 y2 hy2)] ?_
 refine At.seq ?_
 refine At.sR [0,1,5,6,7] [0] [] ?_
 refine At.block ?_
 refine At.nK (st' := ⟨[(0,lv Aa.enc p0),(1,i64 p1),(5,i64 0),(6,.row 0 (y2).length),(7,i64 0)],[.row 3 1 (encL (eInt .i64) y2)]⟩) [0,1,5,6,7] [0] ?_
 refine At.lp (fun s : (Int × Int) => ⟨[(0,lv Aa.enc p0),(1,i64 p1),(5,i64 s.1),(6,.row 0 (y2).length),(7,i64 s.2)],[.row 3 1 (encL (eInt .i64) y2)]⟩) h ?_
 rintro ⟨x36,x37⟩ oo38 h f39
 replace h : CA p0 p1 y2 x36 x37 = some oo38 := h
 refine At.seq ?_
 refine At.seqJ (S := Bool) (fun s => ⟨[(0,lv Aa.enc p0),(1,i64 p1),(5,i64 x36),(6,.row 0 (y2).length),(7,i64 x37),(21,bo s)],[.row 3 1 (encL (eInt .i64) y2)]⟩) (fun s => Da p0 p1 y2 x36 x37 s = some oo38) ?_ ?_
 · rcases cs h with ⟨b67,h⟩ | ⟨b67,h⟩
   · obtain ⟨y68,hy68,h⟩ := bs h
     exact At.rK [0,1,5,6,7,21] [0] [bT 4 b67,oT 7 ((AZ (he_int .i64) (d := .int .i64 y68) hy68 rfl).1),vT 8 (.int .i64 y68) ((AZ (he_int .i64) (d := .int .i64 y68) hy68 rfl).2)] fun _ _ i => ⟨(decide (y68 < p1)),h,i⟩
   · exact At.rK [0,1,5,6,7,21] [0] [bT 4 b67] fun _ _ i => ⟨false,h,i⟩
 · intro x48 h
   refine At.cd h (fun b49 h => ?_) (fun b49 h => ?_)
   · refine At.nR [0,1,5,6,7] [0] ?_
     refine At.skip (norm ?_)
     refine At.seqJ (S := Int) (fun s => ⟨[(0,lv Aa.enc p0),(1,i64 p1),(5,i64 s),(6,.row 0 (y2).length),(7,i64 x37)],[.row 3 1 (encL (eInt .i64) y2)]⟩) (fun s => GM x37 s = some oo38) ?_ ?_
     · refine At.block ?_
       obtain ⟨y61,hy61,h⟩ := bs h
       obtain ⟨y62,hy62,h⟩ := bs h
       obtain ⟨y63,hy63,h⟩ := bs h
       refine At.sD 0 [0,1,5,6,7,39] [0] [oT 3 ((AZ (he_int .i64) (d := .int .i64 y61) hy61 rfl).1),vT 4 (.int .i64 y61) ((AZ (he_int .i64) (d := .int .i64 y61) hy61 rfl).2),eT Aa.enc_len 5 hy62,eT Aa.enc_len 11 hy63] ?_
       refine At.cd h (fun b64 h => ?_) (fun b64 h => ?_)
       · exact At.rK [0,1,5,6,7] [0] [] fun _ _ i => ⟨(w64 (x36 + 1)),h,i⟩
       · refine At.nR [0,1,5,6,7] [0] ?_
         refine At.skip (fun _ _ i => ⟨x36,h,i.en [] [0,1,5,6,7] [0]⟩)
     · intro x57 h
       exact At.rK [0,1,5,6,7] [0] [] fun _ _ i => ⟨_,li h,i⟩
   · refine At.nR [5] [] ?_
     obtain ⟨r65,h,e66⟩ := mr h
     rw [f39 _ e66] at h
     refine At.exit (norm ?_)
     refine At.sR [4] [] [] ?_
     obtain rfl := sq h
     exact At.ret (At.rR hR [])
theorem Lp (p0 : (List Aa)) (p1 : Int) (r : Int) (h : Bo p0 p1 = some r) : FnOK Tryz.prog 94 [lv Aa.enc p0,i64 p1] [] (i64 r) [] [] := by
 refine fI Tryz.func94 rfl fun E gv R hR => ?_
 refine At.sR [0,1] [] [] ?_
 obtain ⟨y2,hy2,h⟩ := bs h
 refine At.sR [0,1,5] [0] [eT Aa.enc_len 2 hy2] ?_
 refine At.seq ?_
 refine At.sR [0,1,5,11] [0] [] ?_
 refine At.block ?_
 refine At.seqJ (S := Bool) (fun s => ⟨[(0,lv Aa.enc p0),(1,i64 p1),(5,.ptr 0 0),(11,i64 y2.Op),(12,bo s)],[.blk 67 (Aa.pvs y2)]⟩) (fun s => AK p0 p1 y2 s = some r) ?_ ?_
 · refine At.sR [0,1,5,11,12] [0] [] ?_
   refine At.cd h (fun b73 h => ?_) (fun b73 h => ?_)
   · refine At.skip (fun _ _ i => ⟨(y2.Op == 38),h,i.en [] [0,1,5,11,12] [0]⟩)
   · refine At.sR [0,1,5,11,12] [0] [] ?_
     refine At.cd h (fun b74 h => ?_) (fun b74 h => ?_)
     · refine At.skip (fun _ _ i => ⟨(y2.Op == 40),h,i.en [] [0,1,5,11,12] [0]⟩)
     · exact At.rK [0,1,5,11,12] [0] [] fun _ _ i => ⟨(y2.Op == 41),h,i⟩
 · intro x41 h
   refine At.cd h (fun b42 h => ?_) (fun b42 h => ?_)
   · obtain ⟨y44,hy44,h⟩ := bs h
     refine At.sR [4] [] [c0 2 (IG p0 p1 y44 hy44)] ?_
     obtain rfl := sq h
     exact At.ret (At.rR hR [])
   · refine At.seqJ (S := Bool) (fun s => ⟨[(0,lv Aa.enc p0),(1,i64 p1),(5,.ptr 0 0),(11,i64 y2.Op),(19,bo s)],[.blk 67 (Aa.pvs y2)]⟩) (fun s => DT p0 p1 y2 s = some r) ?_ ?_
     · refine At.sR [0,1,5,11,19] [0] [] ?_
       refine At.cd h (fun b72 h => ?_) (fun b72 h => ?_)
       · refine At.skip (fun _ _ i => ⟨(y2.Op == 33),h,i.en [] [0,1,5,11,19] [0]⟩)
       · exact At.rK [0,1,5,11,19] [0] [] fun _ _ i => ⟨(y2.Op == 26),h,i⟩
     · intro x46 h
       refine At.cd h (fun b47 h => ?_) (fun b47 h => ?_)
       · obtain ⟨y50,hy50,h⟩ := bs h
         obtain ⟨y51,hy51,h⟩ := bs h
         refine At.sR [4] [] [c0 4 (IB p0 y2.Name y50 hy50),c0 5 (IG p0 y50 y51 hy51)] ?_
         obtain rfl := sq h
         exact At.ret (At.rR hR [])
       · refine At.seqJ (S := Bool) (fun s => ⟨[(0,lv Aa.enc p0),(1,i64 p1),(5,.ptr 0 0),(11,i64 y2.Op),(28,bo s)],[.blk 67 (Aa.pvs y2)]⟩) (fun s => DS p0 p1 y2 s = some r) ?_ ?_
         · refine At.sR [0,1,5,11,28] [0] [] ?_
           refine At.cd h (fun b71 h => ?_) (fun b71 h => ?_)
           · refine At.skip (fun _ _ i => ⟨(y2.Op == 39),h,i.en [] [0,1,5,11,28] [0]⟩)
           · exact At.rK [0,1,5,11,28] [0] [] fun _ _ i => ⟨(y2.Op == 18),h,i⟩
         · intro x53 h
           refine At.cd h (fun b54 h => ?_) (fun b54 h => ?_)
           · obtain ⟨y57,hy57,h⟩ := bs h
             obtain ⟨y58,hy58,h⟩ := bs h
             refine At.sR [4] [] [c0 3 (FZ p0 p1 y57 hy57),c0 5 (Hl p0 y57 p1 y58 hy58)] ?_
             obtain rfl := sq h
             exact At.ret (At.rR hR [])
           · refine At.seqJ (S := Bool) (fun s => ⟨[(0,lv Aa.enc p0),(1,i64 p1),(5,.ptr 0 0),(37,bo s)],[.blk 67 (Aa.pvs y2)]⟩) (fun s => BV p0 p1 y2 s = some r) ?_ ?_
             · refine At.sR [0,1,5,11,37] [0] [] ?_
               refine At.cd h (fun b67 h => ?_) (fun b67 h => ?_)
               · refine At.nR [0,1,5,37] [0] ?_
                 refine At.skip (fun _ _ i => ⟨(y2.Op == 2),h,i.en [] [0,1,5,37] [0]⟩)
               · refine At.sR [0,1,5,11,37] [0] [] ?_
                 refine At.cd h (fun b68 h => ?_) (fun b68 h => ?_)
                 · refine At.nR [0,1,5,37] [0] ?_
                   refine At.skip (fun _ _ i => ⟨(y2.Op == 19),h,i.en [] [0,1,5,37] [0]⟩)
                 · refine At.sR [0,1,5,11,37] [0] [] ?_
                   refine At.cd h (fun b69 h => ?_) (fun b69 h => ?_)
                   · refine At.nR [0,1,5,37] [0] ?_
                     refine At.skip (fun _ _ i => ⟨(y2.Op == 20),h,i.en [] [0,1,5,37] [0]⟩)
                   · refine At.sR [0,1,5,11,37] [0] [] ?_
                     refine At.cd h (fun b70 h => ?_) (fun b70 h => ?_)
                     · refine At.nR [0,1,5,37] [0] ?_
                       refine At.skip (fun _ _ i => ⟨(y2.Op == 22),h,i.en [] [0,1,5,37] [0]⟩)
                     · exact At.rK [0,1,5,37] [0] [] fun _ _ i => ⟨(y2.Op == 34),h,i⟩
             · intro x63 h
               refine At.cd h (fun b64 h => ?_) (fun b64 h => ?_)
               · obtain ⟨y66,hy66,h⟩ := bs h
                 refine At.sR [4] [] [c0 4 (HR p0 p1 y2.Name y66 hy66)] ?_
                 obtain rfl := sq h
                 exact At.ret (At.rR hR [])
               · refine At.nR [] [] ?_
                 refine At.skip (norm ?_)
                 refine At.sR [4] [] [] ?_
                 obtain rfl := sq h
                 exact At.ret (At.rR hR [])
theorem K3 (p0 : (List Aa)) (r : Ah) (h : GL p0 = some r) : FnOK Tryz.prog 61 [lv Aa.enc p0] [] (.agg (Ah.pvs r)) [] [] := by
 refine fI Tryz.func61 rfl fun E gv R hR => ?_
 refine At.sR [0,2] [0] [] ?_
 refine At.sR [0,2,3] [0,1] [] ?_
 refine At.sR [0,2,3,4] [0,1] [] ?_
 obtain ⟨y2,hy2,h⟩ := bs h
 refine At.sR [0,2,3,4,5] [0,1,2] [cT 1 0 [2] (BP p0 0 y2 hy2)] ?_
 refine At.seq ?_
 refine At.sR [0,2,3,4,5,6] [0,1,2] [] ?_
 refine At.block ?_
 refine At.nK (st' := ⟨[(0,lv Aa.enc p0),(2,.ptr 0 0),(3,.ptr 1 0),(4,i64 0),(5,.row 2 (y2).length),(6,i64 0)],[.blk 44 [.d (.list true 0 []),.d (.list true 0 []),i64 0,.d (.list true 0 [])],.blk 44 [.d (.list true 0 []),.d (.list true 0 []),i64 0,.d (.list true 0 [])],.row 3 1 (encL (eInt .i64) y2)]⟩) [0,2,3,4,5,6] [0,1,2] ?_
 refine At.edNar [.ownO 1 0 83 3,.ownO 1 1 70 4] [0,2,3,4,5,6] [0,1,3,4,2] (st' := ⟨[(0,lv Aa.enc p0),(2,.ptr 0 0),(3,.ptr 1 0),(4,i64 0),(5,.row 4 (y2).length),(6,i64 0)],[.blk 44 [.d (.list true 0 []),.d (.list true 0 []),i64 0,.d (.list true 0 [])],.blk 44 [.row 2 ([] : List Ak).length,.row 3 ([] : List Aq).length,i64 0,.d (.list true 0 [])],.row 83 3 (encL Ak.enc ([])),.row 70 4 (encL Aq.enc ([])),.row 3 1 (encL (eInt .i64) y2)]⟩) (by kernel_rfl) ?_
 refine At.lp (fun s : (Int × Int × Int × (List Ak) × (List Aq)) => ⟨[(0,lv Aa.enc p0),(2,.ptr 0 0),(3,.ptr 1 0),(4,i64 s.1),(5,.row 4 (y2).length),(6,i64 s.2.1)],[.blk 44 [.d (.list true 0 []),.d (.list true 0 []),i64 0,.d (.list true 0 [])],.blk 44 [.row 2 (s.2.2.2.1).length,.row 3 (s.2.2.2.2).length,i64 s.2.2.1,.d (.list true 0 [])],.row 83 3 (encL Ak.enc s.2.2.2.1),.row 70 4 (encL Aq.enc s.2.2.2.2),.row 3 1 (encL (eInt .i64) y2)]⟩) h ?_
 rintro ⟨x290,x291,x292,x293,x294⟩ oo295 h f296
 replace h : FM p0 y2 x290 x291 x292 x293 x294 = some oo295 := h
 refine At.seq ?_
 refine At.sR [0,2,3,4,5,6,16] [0,1,2,3,4] [] ?_
 refine At.cd h (fun b298 h => ?_) (fun b298 h => ?_)
 · refine At.nR [0,2,3,4,5,6] [0,1,2,3,4] ?_
   refine At.skip (norm ?_)
   refine At.seqJ (S := Int × Int × (List Ak) × (List Aq)) (fun s => ⟨[(0,lv Aa.enc p0),(2,.ptr 0 0),(3,.ptr 1 0),(4,i64 s.1),(5,.row 4 (y2).length),(6,i64 x291)],[.blk 44 [.d (.list true 0 []),.d (.list true 0 []),i64 0,.d (.list true 0 [])],.blk 44 [.row 2 (s.2.2.1).length,.row 3 (s.2.2.2).length,i64 s.2.1,.d (.list true 0 [])],.row 83 3 (encL Ak.enc s.2.2.1),.row 70 4 (encL Aq.enc s.2.2.2),.row 3 1 (encL (eInt .i64) y2)]⟩) (fun s => Dw x291 s.1 s.2.1 s.2.2.1 s.2.2.2 = some oo295) ?_ ?_
   · refine At.block ?_
     obtain ⟨y441,hy441,h⟩ := bs h
     obtain ⟨y442,hy442,h⟩ := bs h
     refine At.sR [0,2,3,4,5,6,7] [0,1,2,3,4,5] [oT 3 ((AZ (he_int .i64) (d := .int .i64 y441) hy441 rfl).1),vT 4 (.int .i64 y441) ((AZ (he_int .i64) (d := .int .i64 y441) hy441 rfl).2),eT Aa.enc_len 5 hy442] ?_
     refine At.seq ?_
     refine At.sR [0,2,3,4,5,6,7,28] [0,1,2,3,4,5] [] ?_
     refine At.cd h (fun b448 h => ?_) (fun b448 h => ?_)
     · obtain ⟨g450,h⟩ := gs h
       refine At.sR [0,2,3,4,5,6,7] [0,1,2,3,4,5] [aT Ak.enc_len 9 x293 ([(⟨y442.Name,x290,y442.N⟩ : Ak)]) rfl g450] ?_
       refine At.seq ?_
       obtain ⟨y452,hy452,h⟩ := bs h
       refine At.rK (st' := ⟨[(0,lv Aa.enc p0),(2,.ptr 0 0),(3,.ptr 1 0),(4,i64 (w64 (x290 + y452))),(5,.row 4 (y2).length),(6,i64 x291)],[.blk 44 [.d (.list true 0 []),.d (.list true 0 []),i64 0,.d (.list true 0 [])],.blk 44 [.row 2 ((x293 ++ [(⟨y442.Name,x290,y442.N⟩ : Ak)])).length,.row 3 (x294).length,i64 x292,.d (.list true 0 [])],.row 83 3 (encL Ak.enc (x293 ++ [(⟨y442.Name,x290,y442.N⟩ : Ak)])),.row 70 4 (encL Aq.enc x294),.row 3 1 (encL (eInt .i64) y2)]⟩) [0,2,3,4,5,6] [0,1,2,3,4] [c0 2 (I6 y442 y452 hy452)] (norm ?_)
       refine At.exit (fun _ _ i => ⟨((w64 (x290 + y452)),x292,(x293 ++ [(⟨y442.Name,x290,y442.N⟩ : Ak)]),x294),h,i⟩)
     · refine At.nR [0,2,3,4,5,6,7] [0,1,2,3,4,5] ?_
       refine At.skip (norm ?_)
       refine At.seqJ (S := Int) (fun s => ⟨[(0,lv Aa.enc p0),(2,.ptr 0 0),(3,.ptr 1 0),(4,i64 x290),(5,.row 4 (y2).length),(6,i64 x291),(7,.ptr 5 0)],[.blk 44 [.d (.list true 0 []),.d (.list true 0 []),i64 0,.d (.list true 0 [])],.blk 44 [.row 2 (x293).length,.row 3 (x294).length,i64 s,.d (.list true 0 [])],.row 83 3 (encL Ak.enc x293),.row 70 4 (encL Aq.enc x294),.row 3 1 (encL (eInt .i64) y2),.blk 67 (Aa.pvs y442)]⟩) (fun s => EE p0 y2 x290 x291 x293 x294 y442 s = some oo295) ?_ ?_
       · refine At.seq ?_
         refine At.rK (st' := ⟨[(0,lv Aa.enc p0),(2,.ptr 0 0),(3,.ptr 1 0),(4,i64 x290),(5,.row 4 (y2).length),(6,i64 x291),(7,.ptr 5 0),(46,bo (y442.Op == 41))],[.blk 44 [.d (.list true 0 []),.d (.list true 0 []),i64 0,.d (.list true 0 [])],.blk 44 [.row 2 (x293).length,.row 3 (x294).length,i64 x292,.d (.list true 0 [])],.row 83 3 (encL Ak.enc x293),.row 70 4 (encL Aq.enc x294),.row 3 1 (encL (eInt .i64) y2),.blk 67 (Aa.pvs y442)]⟩) [0,2,3,4,5,6,7,46] [0,1,2,3,4,5] [] (norm ?_)
         refine At.cd h (fun b574 h => ?_) (fun b574 h => ?_)
         · exact At.rK [0,2,3,4,5,6,7] [0,1,2,3,4,5] [] fun _ _ i => ⟨((x294).length : Int),h,i⟩
         · refine At.nR [0,2,3,4,5,6,7] [0,1,2,3,4,5] ?_
           refine At.skip (fun _ _ i => ⟨x292,h,i.en [] [0,2,3,4,5,6,7] [0,1,2,3,4,5]⟩)
       · intro x454 h
         obtain ⟨y457,hy457,h⟩ := bs h
         obtain ⟨y458,hy458,h⟩ := bs h
         refine At.sD 1 [0,2,3,4,5,6,8] [0,1,2,3,4,6] [c0 1 (GU y442 y457 hy457),oT 4 ((AZ (he_int .i64) (d := .int .i64 y458) hy458 rfl).1),vT 5 (.int .i64 y458) ((AZ (he_int .i64) (d := .int .i64 y458) hy458 rfl).2)] ?_
         refine At.seq ?_
         obtain ⟨y517,hy517,h⟩ := bs h
         refine At.sR [0,2,3,4,5,6,8,9] [0,1,2,3,4,5] [oT 2 ((AZ (he_int .i64) (d := .int .i64 y517) hy517 rfl).1),vT 3 (.int .i64 y517) ((AZ (he_int .i64) (d := .int .i64 y517) hy517 rfl).2)] ?_
         refine At.block ?_
         refine At.nK (st' := ⟨[(0,lv Aa.enc p0),(2,.ptr 0 0),(3,.ptr 1 0),(4,i64 x290),(5,.row 4 (y2).length),(6,i64 x291),(8,.ptr 5 0),(9,i64 y517)],[.blk 44 [.d (.list true 0 []),.d (.list true 0 []),i64 0,.d (.list true 0 [])],.blk 44 [.row 2 (x293).length,.row 3 (x294).length,i64 x454,.d (.list true 0 [])],.row 83 3 (encL Ak.enc x293),.row 70 4 (encL Aq.enc x294),.row 3 1 (encL (eInt .i64) y2),.blk 70 [sv y457,i64 y458,i64 0,.d (.list true 0 [])]]⟩) [0,2,3,4,5,6,8,9] [0,1,2,3,4,5] ?_
         refine At.edNar [.ownO 5 3 9 1] [0,2,3,4,5,6,8,9] [0,1,2,3,4,5,6] (st' := ⟨[(0,lv Aa.enc p0),(2,.ptr 0 0),(3,.ptr 1 0),(4,i64 x290),(5,.row 4 (y2).length),(6,i64 x291),(8,.ptr 5 0),(9,i64 y517)],[.blk 44 [.d (.list true 0 []),.d (.list true 0 []),i64 0,.d (.list true 0 [])],.blk 44 [.row 2 (x293).length,.row 3 (x294).length,i64 x454,.d (.list true 0 [])],.row 83 3 (encL Ak.enc x293),.row 70 4 (encL Aq.enc x294),.row 3 1 (encL (eInt .i64) y2),.blk 70 [sv y457,i64 y458,i64 0,.row 6 ([] : List ByteArray).length],.row 9 1 (encL eStr ([]))]⟩) (by kernel_rfl) ?_
         refine At.lp (fun s : (Int × Int × (List ByteArray)) => ⟨[(0,lv Aa.enc p0),(2,.ptr 0 0),(3,.ptr 1 0),(4,i64 x290),(5,.row 4 (y2).length),(6,i64 x291),(8,.ptr 5 0),(9,i64 s.1)],[.blk 44 [.d (.list true 0 []),.d (.list true 0 []),i64 0,.d (.list true 0 [])],.blk 44 [.row 2 (x293).length,.row 3 (x294).length,i64 x454,.d (.list true 0 [])],.row 83 3 (encL Ak.enc x293),.row 70 4 (encL Aq.enc x294),.row 3 1 (encL (eInt .i64) y2),.blk 70 [sv y457,i64 y458,i64 s.2.1,.row 6 (s.2.2).length],.row 9 1 (encL eStr s.2.2)]⟩) h ?_
         rintro ⟨x518,x519,x520⟩ oo521 h f522
         replace h : EC p0 y2 x290 x291 x293 x294 x454 y457 y458 x518 x519 x520 = some oo521 := h
         refine At.seq ?_
         obtain ⟨y530,hy530,h⟩ := bs h
         obtain ⟨y531,hy531,h⟩ := bs h
         refine At.sR [0,2,3,4,5,6,8,9,69] [0,1,2,3,4,5,6] [oT 4 ((AZ (he_int .i64) (d := .int .i64 y530) hy530 rfl).1),vT 5 (.int .i64 y530) ((AZ (he_int .i64) (d := .int .i64 y530) hy530 rfl).2),c0 6 (E7 p0 y530 y531 hy531)] ?_
         refine At.cd h (fun b532 h => ?_) (fun b532 h => ?_)
         · refine At.nR [0,2,3,4,5,6,8,9] [0,1,2,3,4,5,6] ?_
           refine At.skip (norm ?_)
           refine At.seqJ (S := Int × (List ByteArray)) (fun s => ⟨[(0,lv Aa.enc p0),(2,.ptr 0 0),(3,.ptr 1 0),(4,i64 x290),(5,.row 4 (y2).length),(6,i64 x291),(8,.ptr 5 0),(9,i64 x518)],[.blk 44 [.d (.list true 0 []),.d (.list true 0 []),i64 0,.d (.list true 0 [])],.blk 44 [.row 2 (x293).length,.row 3 (x294).length,i64 x454,.d (.list true 0 [])],.row 83 3 (encL Ak.enc x293),.row 70 4 (encL Aq.enc x294),.row 3 1 (encL (eInt .i64) y2),.blk 70 [sv y457,i64 y458,i64 s.1,.row 6 (s.2).length],.row 9 1 (encL eStr s.2)]⟩) (fun s => Dv x518 s.1 s.2 = some oo521) ?_ ?_
           · refine At.block ?_
             refine At.seqJ (S := (List ByteArray)) (fun s => ⟨[(0,lv Aa.enc p0),(2,.ptr 0 0),(3,.ptr 1 0),(4,i64 x290),(5,.row 4 (y2).length),(6,i64 x291),(8,.ptr 5 0),(9,i64 x518)],[.blk 44 [.d (.list true 0 []),.d (.list true 0 []),i64 0,.d (.list true 0 [])],.blk 44 [.row 2 (x293).length,.row 3 (x294).length,i64 x454,.d (.list true 0 [])],.row 83 3 (encL Ak.enc x293),.row 70 4 (encL Aq.enc x294),.row 3 1 (encL (eInt .i64) y2),.blk 70 [sv y457,i64 y458,i64 x519,.row 6 (s).length],.row 9 1 (encL eStr s)]⟩) (fun s => ED p0 x518 x519 s = some oo521) ?_ ?_
             · obtain ⟨y566,hy566,h⟩ := bs h
               obtain ⟨y567,hy567,h⟩ := bs h
               refine At.sR [0,2,3,4,5,6,8,9,76] [0,1,2,3,4,5,6] [eT Aa.enc_len 2 hy566,c0 4 (Eq y566 y567 hy567)] ?_
               refine At.cd h (fun b568 h => ?_) (fun b568 h => ?_)
               · obtain ⟨y569,hy569,h⟩ := bs h
                 obtain ⟨g570,h⟩ := gs h
                 exact At.dK 1 [0,2,3,4,5,6,8,9] [0,1,2,3,4,5,6] [eT Aa.enc_len 4 hy569,aT G6 8 x520 ([y569.Name]) rfl g570] fun _ _ i => ⟨(x520 ++ [y569.Name]),h,i⟩
               · refine At.nR [0,2,3,4,5,6,8,9] [0,1,2,3,4,5,6] ?_
                 refine At.skip (fun _ _ i => ⟨x520,h,i.en [] [0,2,3,4,5,6,8,9] [0,1,2,3,4,5,6]⟩)
             · intro x560 h
               obtain ⟨y562,hy562,h⟩ := bs h
               refine At.sR [0,2,3,4,5,6,8,9,92] [0,1,2,3,4,5,6] [eT Aa.enc_len 2 hy562] ?_
               refine At.cd h (fun b563 h => ?_) (fun b563 h => ?_)
               · exact At.rK [0,2,3,4,5,6,8,9] [0,1,2,3,4,5,6] [] fun _ _ i => ⟨((w64 (x519 + 1)),x560),h,i⟩
               · refine At.nR [0,2,3,4,5,6,8,9] [0,1,2,3,4,5,6] ?_
                 refine At.skip (fun _ _ i => ⟨(x519,x560),h,i.en [] [0,2,3,4,5,6,8,9] [0,1,2,3,4,5,6]⟩)
           · rintro ⟨x551,x552⟩ h
             replace h : Dv x518 x551 x552 = some oo521 := h
             exact At.rK [0,2,3,4,5,6,8,9] [0,1,2,3,4,5,6] [] fun _ _ i => ⟨_,li h,i⟩
         · refine At.nR [0,2,3,4,5,6,8] [0,1,2,3,4,5,6] ?_
           obtain ⟨r571,h,e572⟩ := mr h
           rw [f522 _ e572] at h
           refine At.exit (norm ?_)
           obtain ⟨g573,h⟩ := gs h
           exact At.rK [0,2,3,4,5,6] [0,1,2,3,4] [tT 3 ({ settle := [6] }) all0,aT Aq.enc_len 4 x294 ([(⟨y457,y458,x519,x520⟩ : Aq)]) rfl g573] fun _ _ i => ⟨(x290,x454,x293,(x294 ++ [(⟨y457,y458,x519,x520⟩ : Aq)])),h,i⟩
   · rintro ⟨x435,x436,x437,x438⟩ h
     replace h : Dw x291 x435 x436 x437 x438 = some oo295 := h
     exact At.rK [0,2,3,4,5,6] [0,1,2,3,4] [] fun _ _ i => ⟨_,li h,i⟩
 · refine At.nR [0,2,3] [0,1,2,3] ?_
   obtain ⟨r575,h,e576⟩ := mr h
   rw [f296 _ e576] at h
   refine At.exit (norm ?_)
   refine At.seq ?_
   refine At.sR [0,2,3,10] [0,1,2,3] [] ?_
   refine At.block ?_
   refine At.nK (st' := ⟨[(0,lv Aa.enc p0),(2,.ptr 0 0),(3,.ptr 1 0),(10,i64 0)],[.blk 44 [.d (.list true 0 []),.d (.list true 0 []),i64 0,.d (.list true 0 [])],.blk 44 [.row 2 (x293).length,.row 3 (x294).length,i64 x292,.d (.list true 0 [])],.row 83 3 (encL Ak.enc x293),.row 70 4 (encL Aq.enc x294)]⟩) [0,2,3,10] [0,1,2,3] ?_
   refine At.edNar [.ownO 1 3 3 1] [0,2,3,10] [0,1,2,3,4] (st' := ⟨[(0,lv Aa.enc p0),(2,.ptr 0 0),(3,.ptr 1 0),(10,i64 0)],[.blk 44 [.d (.list true 0 []),.d (.list true 0 []),i64 0,.d (.list true 0 [])],.blk 44 [.row 2 (x293).length,.row 3 (x294).length,i64 x292,.row 4 ([] : List Int).length],.row 83 3 (encL Ak.enc x293),.row 70 4 (encL Aq.enc x294),.row 3 1 (encL (eInt .i64) ([]))]⟩) (by kernel_rfl) ?_
   refine At.lp (fun s : (Int × (List Int)) => ⟨[(0,lv Aa.enc p0),(2,.ptr 0 0),(3,.ptr 1 0),(10,i64 s.1)],[.blk 44 [.d (.list true 0 []),.d (.list true 0 []),i64 0,.d (.list true 0 [])],.blk 44 [.row 2 (x293).length,.row 3 (x294).length,i64 x292,.row 4 (s.2).length],.row 83 3 (encL Ak.enc x293),.row 70 4 (encL Aq.enc x294),.row 3 1 (encL (eInt .i64) s.2)]⟩) h ?_
   rintro ⟨x589,x590⟩ oo591 h f592
   replace h : EB p0 x292 x293 x294 x589 x590 = some oo591 := h
   refine At.seq ?_
   refine At.sR [0,2,3,10,106] [0,1,2,3,4] [] ?_
   refine At.cd h (fun b594 h => ?_) (fun b594 h => ?_)
   · refine At.nR [0,2,3,10] [0,1,2,3,4] ?_
     refine At.skip (norm ?_)
     refine At.seq ?_
     refine At.block ?_
     obtain ⟨y597,hy597,h⟩ := bs h
     obtain ⟨g598,h⟩ := gs h
     refine At.dG 1 [0,2,3,10] [0,1,2,3,4] [c0 4 (Lp p0 x589 y597 hy597),aT (he_int .i64) 6 x590 ([y597]) rfl g598] (norm ?_)
     exact At.rK [0,2,3,10] [0,1,2,3,4] [] fun _ _ i => ⟨_,li h,i⟩
   · refine At.nR [2,3] [0,1,2,3,4] ?_
     obtain ⟨r599,h,e600⟩ := mr h
     rw [f592 _ e600] at h
     refine At.exit (norm ?_)
     refine At.sR [2] [0,2,3,4] [] ?_
     refine At.eN [.settle 1,.settle 2,.settle 3] [2] [0] ?_
     obtain rfl := sq h
     exact At.ret (At.rR hR [])
theorem LH (p0 : (List Aa)) (r : Ap) (h : Fy p0 = some r) : FnOK Tryz.prog 36 [lv Aa.enc p0] [] (.agg (Ap.pvs r)) [] [] := by
 refine fI Tryz.func36 rfl fun E gv R hR => ?_
 refine At.sR [0,2] [0] [] ?_
 refine At.seq ?_
 obtain ⟨y14,hy14,h⟩ := bs h
 obtain ⟨g15,h⟩ := gs h
 refine At.sR [0,2,3] [0,1] [c0 1 (KI p0 y14 hy14),oN 3 (allc (lenN (he_int .i64) y14 g15.1) (allc (lenN (he_int .i64) (List.replicate 2 (0 : Int)) g15.2) all0))] ?_
 obtain ⟨y17,hy17,h⟩ := bs h
 refine At.sR [0,2,3,11] [0,1] [oT 0 ((M2 (he_int .i64) (d := .int .i64 y17) hy17 rfl).1),vT 1 (.int .i64 y17) ((M2 (he_int .i64) (d := .int .i64 y17) hy17 rfl).2)] ?_
 refine At.cd h (fun b18 h => ?_) (fun b18 h => ?_)
 · obtain ⟨y21,hy21,h⟩ := bs h
   obtain ⟨y22,hy22,h⟩ := bs h
   refine At.sR [2] [0] [oT 0 ((M2 (he_int .i64) (d := .int .i64 y21) hy21 rfl).1),vT 1 (.int .i64 y21) ((M2 (he_int .i64) (d := .int .i64 y21) hy21 rfl).2),oT 2 ((M2 (he_int .i64) (d := .int .i64 y22) hy22 rfl).1),vT 3 (.int .i64 y22) ((M2 (he_int .i64) (d := .int .i64 y22) hy22 rfl).2)] ?_
   refine At.eN [.loO 0] [2] [0] ?_
   obtain rfl := sq h
   exact At.ret (At.rR hR [])
 · refine At.nR [0,2] [0] ?_
   refine At.skip (norm ?_)
   refine At.seq ?_
   obtain ⟨y27,hy27,h⟩ := bs h
   refine At.sR [0,2,4] [0,1] [c0 1 (KA p0 y27 hy27)] ?_
   refine At.seq ?_
   refine At.rK (st' := ⟨[(0,lv Aa.enc p0),(2,.ptr 0 0),(4,.ptr 1 0),(21,bo (y27.E != 0))],[.blk 64 [.d (.list true 0 []),.d (.list true 0 []),i64 0,.d (.list true 0 []),i64 0,i64 0],.blk 64 (Ap.pvs y27)]⟩) [0,2,4,21] [0,1] [] (norm ?_)
   refine At.cd h (fun b28 h => ?_) (fun b28 h => ?_)
   · refine At.sR [2] [0] [] ?_
     obtain rfl := sq h
     exact At.ret (At.rR hR [])
   · refine At.nR [0,2] [0] ?_
     refine At.skip (norm ?_)
     refine At.seq ?_
     refine At.sR [0,2,5] [0] [] ?_
     refine At.block ?_
     refine At.nK (st' := ⟨[(0,lv Aa.enc p0),(2,.ptr 0 0),(5,i64 0)],[.blk 64 [.d (.list true 0 []),.d (.list true 0 []),i64 0,.d (.list true 0 []),i64 0,i64 0]]⟩) [0,2,5] [0] ?_
     refine At.lp (fun s : (Int) => ⟨[(0,lv Aa.enc p0),(2,.ptr 0 0),(5,i64 s)],[.blk 64 [.d (.list true 0 []),.d (.list true 0 []),i64 0,.d (.list true 0 []),i64 0,i64 0]]⟩) h ?_
     intro x50 oo51 h f52
     replace h : Gm p0 x50 = some oo51 := h
     refine At.seq ?_
     refine At.sR [0,2,5,26] [0] [] ?_
     refine At.cd h (fun b54 h => ?_) (fun b54 h => ?_)
     · refine At.nR [0,2,5] [0] ?_
       refine At.skip (norm ?_)
       refine At.seqJ (S := Unit) (fun s => ⟨[(0,lv Aa.enc p0),(2,.ptr 0 0),(5,i64 x50)],[.blk 64 [.d (.list true 0 []),.d (.list true 0 []),i64 0,.d (.list true 0 []),i64 0,i64 0]]⟩) (fun s => Ff x50 = some oo51) ?_ ?_
       · refine At.block ?_
         obtain ⟨y62,hy62,h⟩ := bs h
         refine At.sR [0,2,5,32] [0] [c0 2 (FZ p0 x50 y62 hy62)] ?_
         refine At.cd h (fun b63 h => ?_) (fun b63 h => ?_)
         · obtain ⟨y65,hy65,h⟩ := bs h
           refine At.sR [0,2,5,6] [0] [c0 2 (Ky p0 x50 y65 hy65)] ?_
           refine At.sR [0,2,5,6,37] [0] [] ?_
           refine At.cd h (fun b66 h => ?_) (fun b66 h => ?_)
           · refine At.seq ?_
             refine At.rK (st' := ⟨[(2,.ptr 0 0)],[.blk 64 [.d (.list true 0 []),.d (.list true 0 []),i64 0,.d (.list true 0 []),i64 x50,i64 y65]]⟩) [2] [0] [] (norm ?_)
             obtain ⟨r67,h,e68⟩ := mr h
             rw [f52 _ e68] at h
             refine At.eN [.loO 0] [2] [0] ?_
             obtain rfl := sq h
             exact At.ret (At.rR hR [])
           · refine At.nK (st' := ⟨[(0,lv Aa.enc p0),(2,.ptr 0 0),(5,i64 x50)],[.blk 64 [.d (.list true 0 []),.d (.list true 0 []),i64 0,.d (.list true 0 []),i64 0,i64 0]]⟩) [0,2,5] [0] ?_
             refine At.skip (fun _ _ i => ⟨(),h,i⟩)
         · refine At.nR [0,2,5] [0] ?_
           refine At.skip (fun _ _ i => ⟨(),h,i.en [] [0,2,5] [0]⟩)
       · intro _ h
         exact At.rK [0,2,5] [0] [] fun _ _ i => ⟨_,li h,i⟩
     · refine At.nR [0,2] [0] ?_
       obtain ⟨r69,h,e70⟩ := mr h
       rw [f52 _ e70] at h
       refine At.exit (norm ?_)
       obtain ⟨y72,hy72,h⟩ := bs h
       refine At.sR [2] [0] [c0 1 (K3 p0 y72 hy72)] ?_
       obtain rfl := sq h
       exact At.ret (At.rR hR [])
theorem Kx (p0 : (List Aa)) (p1 : Ah) (p2 : Int) (r : Int) (h : Gi p0 p1 p2 = some r) : FnOK Tryz.prog 37 [lv Aa.enc p0,.agg (Ah.pvs p1),i64 p2] [] (i64 r) [] [] := by
 refine fI Tryz.func37 rfl fun E gv R hR => ?_
 refine At.sR [0,2,4] [0] [] ?_
 obtain ⟨y2,hy2,h⟩ := bs h
 refine At.sR [0,2,4,7] [0,1] [eT Aa.enc_len 2 hy2] ?_
 refine At.seqJ (S := Unit) (fun s => ⟨[],[]⟩) (fun s => Cy = some r) ?_ ?_
 · refine At.sR [0,2,4,7,16] [0,1] [] ?_
   refine At.block ?_
   refine At.sR [0,2,4,7,16,17] [0,1] [] ?_
   refine At.cd h (fun b78 h => ?_) (fun b78 h => ?_)
   · obtain ⟨y81,hy81,h⟩ := bs h
     obtain ⟨y82,hy82,h⟩ := bs h
     refine At.sD 0 [0,2,7,8] [1] [eT (he_int .i64) 5 hy81,eT Ak.enc_len 7 hy82] ?_
     refine At.seq ?_
     refine At.seqJ (S := Bool) (fun s => ⟨[(0,lv Aa.enc p0),(2,i64 p2),(8,i64 y82.Size),(44,bo s)],[]⟩) (fun s => Bu p0 p2 y82 s = some r) ?_ ?_
     · rcases cs h with ⟨b109,h⟩ | ⟨b109,h⟩
       · rcases cs h with ⟨b110,h⟩ | ⟨b110,h⟩
         · exact At.rK [0,2,8,44] [] [bT 2 b109,bT 7 b110] fun _ _ i => ⟨true,h,i⟩
         · rcases cs h with ⟨b111,h⟩ | ⟨b111,h⟩
           · exact At.rK [0,2,8,44] [] [bT 2 b109,bT 7 b110,bT 10 b111] fun _ _ i => ⟨(y2.Kids == 0),h,i⟩
           · exact At.rK [0,2,8,44] [] [bT 2 b109,bT 7 b110,bT 10 b111] fun _ _ i => ⟨false,h,i⟩
       · rcases cs h with ⟨b112,h⟩ | ⟨b112,h⟩
         · exact At.rK [0,2,8,44] [] [bT 2 b109,bT 10 b112] fun _ _ i => ⟨(y2.Kids == 0),h,i⟩
         · exact At.rK [0,2,8,44] [] [bT 2 b109,bT 10 b112] fun _ _ i => ⟨false,h,i⟩
     · intro x97 h
       refine At.cd h (fun b98 h => ?_) (fun b98 h => ?_)
       · refine At.sR [6] [] [] ?_
         obtain rfl := sq h
         exact At.ret (At.rR hR [])
       · refine At.nR [0,2,8] [] ?_
         refine At.skip (norm ?_)
         refine At.seqJ (S := Bool) (fun s => ⟨[(65,bo s)],[]⟩) (fun s => C9 s = some r) ?_ ?_
         · rcases cs h with ⟨b105,h⟩ | ⟨b105,h⟩
           · obtain ⟨y106,hy106,h⟩ := bs h
             rcases cs h with ⟨b107,h⟩ | ⟨b107,h⟩
             · obtain ⟨y108,hy108,h⟩ := bs h
               exact At.rK [65] [] [bT 2 b105,eT Aa.enc_len 6 hy106,bT 11 b107,eT Aa.enc_len 15 hy108] fun _ _ i => ⟨(decide (y82.Size ≤ y108.N)),h,i⟩
             · exact At.rK [65] [] [bT 2 b105,eT Aa.enc_len 6 hy106,bT 11 b107] fun _ _ i => ⟨false,h,i⟩
           · exact At.rK [65] [] [bT 2 b105] fun _ _ i => ⟨false,h,i⟩
         · intro x103 h
           refine At.cd h (fun b104 h => ?_) (fun b104 h => ?_)
           · refine At.sR [6] [] [] ?_
             obtain rfl := sq h
             exact At.ret (At.rR hR [])
           · refine At.nR [] [] ?_
             refine At.skip (fun _ _ i => ⟨(),h,i.en [] [] []⟩)
   · refine At.sR [0,2,4,7,16,66] [0,1] [] ?_
     refine At.cd h (fun b113 h => ?_) (fun b113 h => ?_)
     · refine At.seq ?_
       obtain ⟨y116,hy116,h⟩ := bs h
       obtain ⟨y117,hy117,h⟩ := bs h
       refine At.dK (st' := ⟨[(80,bo (y2.Kids != y117.Params))],[]⟩) 0 [80] [] [eT (he_int .i64) 7 hy116,eT Aq.enc_len 9 hy117] (norm ?_)
       refine At.cd h (fun b118 h => ?_) (fun b118 h => ?_)
       · refine At.sR [6] [] [] ?_
         obtain rfl := sq h
         exact At.ret (At.rR hR [])
       · refine At.nR [] [] ?_
         refine At.skip (fun _ _ i => ⟨(),h,i.en [] [] []⟩)
     · refine At.seq ?_
       refine At.rK (st' := ⟨[(0,lv Aa.enc p0),(2,i64 p2),(81,bo (y2.Op == 37))],[]⟩) [0,2,81] [] [] (norm ?_)
       refine At.cd h (fun b119 h => ?_) (fun b119 h => ?_)
       · obtain ⟨y122,hy122,h⟩ := bs h
         obtain ⟨y123,hy123,h⟩ := bs h
         refine At.sR [0,2,9] [0] [c0 3 (Jw p0 p2 y122 hy122),cT 4 0 [0] (BP p0 y122 y123 hy123)] ?_
         refine At.sR [0,2,9,10] [0] [] ?_
         refine At.block ?_
         refine At.nK (st' := ⟨[(0,lv Aa.enc p0),(2,i64 p2),(9,.row 0 (y123).length),(10,i64 0)],[.row 3 1 (encL (eInt .i64) y123)]⟩) [0,2,9,10] [0] ?_
         refine At.lp (fun s : (Int) => ⟨[(0,lv Aa.enc p0),(2,i64 p2),(9,.row 0 (y123).length),(10,i64 s)],[.row 3 1 (encL (eInt .i64) y123)]⟩) h ?_
         intro x124 oo125 h f126
         replace h : GI p0 p2 y123 x124 = some oo125 := h
         refine At.seq ?_
         refine At.seqJ (S := Bool) (fun s => ⟨[(0,lv Aa.enc p0),(2,i64 p2),(9,.row 0 (y123).length),(10,i64 x124),(99,bo s)],[.row 3 1 (encL (eInt .i64) y123)]⟩) (fun s => C8 p0 y123 x124 s = some oo125) ?_ ?_
         · rcases cs h with ⟨b151,h⟩ | ⟨b151,h⟩
           · obtain ⟨y152,hy152,h⟩ := bs h
             exact At.rK [0,2,9,10,99] [0] [bT 4 b151,oT 7 ((AZ (he_int .i64) (d := .int .i64 y152) hy152 rfl).1),vT 8 (.int .i64 y152) ((AZ (he_int .i64) (d := .int .i64 y152) hy152 rfl).2)] fun _ _ i => ⟨(decide (y152 < p2)),h,i⟩
           · exact At.rK [0,2,9,10,99] [0] [bT 4 b151] fun _ _ i => ⟨false,h,i⟩
         · intro x135 h
           refine At.cd h (fun b136 h => ?_) (fun b136 h => ?_)
           · refine At.nR [0,2,9,10] [0] ?_
             refine At.skip (norm ?_)
             refine At.seq ?_
             refine At.block ?_
             obtain ⟨y144,hy144,h⟩ := bs h
             obtain ⟨y145,hy145,h⟩ := bs h
             refine At.sR [0,2,9,10,110] [0] [oT 3 ((AZ (he_int .i64) (d := .int .i64 y144) hy144 rfl).1),vT 4 (.int .i64 y144) ((AZ (he_int .i64) (d := .int .i64 y144) hy144 rfl).2),eT Aa.enc_len 5 hy145] ?_
             refine At.cd h (fun b146 h => ?_) (fun b146 h => ?_)
             · refine At.sR [6] [] [] ?_
               obtain ⟨r147,h,e148⟩ := mr h
               rw [f126 _ e148] at h
               obtain rfl := sq h
               exact At.ret (At.rR hR [])
             · refine At.nR [0,2,9,10] [0] ?_
               refine At.skip (norm ?_)
               exact At.rK [0,2,9,10] [0] [] fun _ _ i => ⟨_,li h,i⟩
           · refine At.nR [] [] ?_
             obtain ⟨r149,h,e150⟩ := mr h
             rw [f126 _ e150] at h
             refine At.exit (fun _ _ i => ⟨(),h,i.en [] [] []⟩)
       · refine At.nR [] [] ?_
         refine At.skip (fun _ _ i => ⟨(),h,i.en [] [] []⟩)
 · intro _ h
   refine At.sR [6] [] [] ?_
   obtain rfl := sq h
   exact At.ret (At.rR hR [])
theorem Ju (p0 : (List Aa)) (r : Ap) (h : ET p0 = some r) : FnOK Tryz.prog 17 [lv Aa.enc p0] [] (.agg (Ap.pvs r)) [] [] := by
 refine fI Tryz.func17 rfl fun E gv R hR => ?_
 refine At.sR [0,2] [0] [] ?_
 obtain ⟨y2,hy2,h⟩ := bs h
 refine At.sR [0,2,3] [0,1] [c0 1 (LH p0 y2 hy2)] ?_
 refine At.seq ?_
 refine At.sR [0,2,3,10] [0,1] [] ?_
 refine At.cd h (fun b4 h => ?_) (fun b4 h => ?_)
 · refine At.sR [2] [0] [] ?_
   obtain rfl := sq h
   exact At.ret (At.rR hR [])
 · refine At.nR [0,2,3] [0,1] ?_
   refine At.skip (norm ?_)
   refine At.seq ?_
   refine At.sR [0,2,3,4] [0,1] [] ?_
   refine At.block ?_
   refine At.nK (st' := ⟨[(0,lv Aa.enc p0),(2,.ptr 0 0),(3,.ptr 1 0),(4,i64 0)],[.blk 64 [.d (.list true 0 []),.d (.list true 0 []),i64 0,.d (.list true 0 []),i64 0,i64 0],.blk 64 (Ap.pvs y2)]⟩) [0,2,3,4] [0,1] ?_
   refine At.lp (fun s : (Int) => ⟨[(0,lv Aa.enc p0),(2,.ptr 0 0),(3,.ptr 1 0),(4,i64 s)],[.blk 64 [.d (.list true 0 []),.d (.list true 0 []),i64 0,.d (.list true 0 []),i64 0,i64 0],.blk 64 (Ap.pvs y2)]⟩) h ?_
   intro x20 oo21 h f22
   replace h : Gj p0 y2 x20 = some oo21 := h
   refine At.seq ?_
   refine At.sR [0,2,3,4,15] [0,1] [] ?_
   refine At.cd h (fun b24 h => ?_) (fun b24 h => ?_)
   · refine At.nR [0,2,3,4] [0,1] ?_
     refine At.skip (norm ?_)
     refine At.seq ?_
     refine At.block ?_
     obtain ⟨y29,hy29,h⟩ := bs h
     refine At.sR [0,2,3,4,5] [0,1] [c0 4 (Kx p0 y2.P x20 y29 hy29)] ?_
     refine At.sR [0,2,3,4,5,24] [0,1] [] ?_
     refine At.cd h (fun b30 h => ?_) (fun b30 h => ?_)
     · refine At.sR [2] [0] [] ?_
       obtain ⟨r31,h,e32⟩ := mr h
       rw [f22 _ e32] at h
       refine At.eN [.loO 0] [2] [0] ?_
       obtain rfl := sq h
       exact At.ret (At.rR hR [])
     · refine At.nR [0,2,3,4] [0,1] ?_
       refine At.skip (norm ?_)
       exact At.rK [0,2,3,4] [0,1] [] fun _ _ i => ⟨_,li h,i⟩
   · refine At.nR [2,3] [0,1] ?_
     obtain ⟨r33,h,e34⟩ := mr h
     rw [f22 _ e34] at h
     refine At.exit (norm ?_)
     refine At.sR [2] [0] [] ?_
     obtain rfl := sq h
     exact At.ret (At.rR hR [])
theorem K2 (p0 : ByteArray) (r : Bc) (h : GJ p0 = some r) : FnOK Tryz.prog 9 [sv p0] [] (.agg (Bc.pvs r)) [] [] := by
 refine fI Tryz.func9 rfl fun E gv R hR => ?_
 refine At.sR [0,2] [0] [] ?_
 obtain ⟨y2,hy2,h⟩ := bs h
 refine At.sR [0,2,3] [0,1] [c0 1 (I7 p0 y2 hy2)] ?_
 refine At.seq ?_
 refine At.sR [0,2,3,9] [0,1] [] ?_
 refine At.cd h (fun b4 h => ?_) (fun b4 h => ?_)
 · refine At.sR [2] [0] [] ?_
   refine At.eN [.loO 0] [2] [0] ?_
   obtain rfl := sq h
   exact At.ret (At.rR hR [])
 · refine At.nR [0,2,3] [0,1] ?_
   refine At.skip (norm ?_)
   obtain ⟨y6,hy6,h⟩ := bs h
   refine At.sR [0,2,3,4] [0,1,2] [c0 2 (Ju y2.L y6 hy6)] ?_
   refine At.seq ?_
   refine At.seq ?_
   refine At.rK (st' := ⟨[(0,sv p0),(2,.ptr 0 0),(3,.ptr 1 0),(4,.ptr 2 0),(20,bo (y6.E == 0))],[.blk 46 [.d (.list true 0 []),.d (.list true 0 []),.d (.list true 0 []),i64 0,.d (.list true 0 []),i64 0,i64 0],.blk 50 (Ag.pvs y2),.blk 64 (Ap.pvs y6)]⟩) [0,2,3,4,20] [0,1,2] [] (norm ?_)
   refine At.cd h (fun b8 h => ?_) (fun b8 h => ?_)
   · refine At.sR [2] [0] [] ?_
     obtain rfl := sq h
     exact At.ret (At.rR hR [])
   · refine At.nR [0,2,3,4] [0,1,2] ?_
     refine At.skip (norm ?_)
     refine At.seq ?_
     refine At.sR [0,2,3,4,31] [0,1,2] [] ?_
     refine At.cd h (fun b10 h => ?_) (fun b10 h => ?_)
     · refine At.sR [2] [0] [] ?_
       refine At.eN [.loO 0] [2] [0] ?_
       obtain rfl := sq h
       exact At.ret (At.rR hR [])
     · refine At.nR [2,3,4] [0,1,2] ?_
       refine At.skip (norm ?_)
       obtain ⟨y12,hy12,h⟩ := bs h
       refine At.sD 0 [2] [0] [eT Aa.enc_len 4 hy12] ?_
       refine At.eN [.loO 0] [2] [0] ?_
       obtain rfl := sq h
       exact At.ret (At.rR hR [])
theorem Er (p0 : (List Aa)) (p1 : Int) (p2 : Int) (r : Int) (h : AD p0 p1 p2 = some r) : FnOK Tryz.prog 20 [lv Aa.enc p0,i64 p1,i64 p2] [] (i64 r) [] [] := by
 refine fI Tryz.func20 rfl fun E gv R hR => ?_
 refine At.sR [0,1,2] [] [] ?_
 obtain ⟨y2,hy2,h⟩ := bs h
 refine At.sR [2,7] [0] [cT 2 0 [0] (BP p0 p1 y2 hy2)] ?_
 refine At.seq ?_
 refine At.seqJ (S := Bool) (fun s => ⟨[(2,i64 p2),(7,.row 0 (y2).length),(18,bo s)],[.row 3 1 (encL (eInt .i64) y2)]⟩) (fun s => E4 p2 y2 s = some r) ?_ ?_
 · rcases cs h with ⟨b12,h⟩ | ⟨b12,h⟩
   · exact At.rK [2,7,18] [0] [bT 2 b12] fun _ _ i => ⟨true,h,i⟩
   · exact At.rK [2,7,18] [0] [bT 2 b12] fun _ _ i => ⟨(decide (((y2).length : Int) ≤ p2)),h,i⟩
 · intro x8 h
   refine At.cd h (fun b9 h => ?_) (fun b9 h => ?_)
   · refine At.sR [6] [] [] ?_
     obtain rfl := sq h
     exact At.ret (At.rR hR [])
   · refine At.nR [2,7] [0] ?_
     refine At.skip (norm ?_)
     obtain ⟨y11,hy11,h⟩ := bs h
     refine At.sR [6] [] [oT 2 ((AZ (he_int .i64) (d := .int .i64 y11) hy11 rfl).1),vT 3 (.int .i64 y11) ((AZ (he_int .i64) (d := .int .i64 y11) hy11 rfl).2)] ?_
     obtain rfl := sq h
     exact At.ret (At.rR hR [])
theorem Ik (p0 : Aa) (r : Bool) (h : DR p0 = some r) : FnOK Tryz.prog 21 [.agg (Aa.pvs p0)] [] (bo r) [] [] := by
 refine fI Tryz.func21 rfl fun E gv R hR => ?_
 refine At.sR [1] [0] [] ?_
 refine At.seqJ (S := Bool) (fun s => ⟨[(2,bo s)],[]⟩) (fun s => Fe s = some r) ?_ ?_
 · rcases cs h with ⟨b3,h⟩ | ⟨b3,h⟩
   · exact At.rK [2] [] [bT 3 b3] fun _ _ i => ⟨(decide (p0.Op ≤ 31)),h,i⟩
   · exact At.rK [2] [] [bT 3 b3] fun _ _ i => ⟨false,h,i⟩
 · intro x2 h
   obtain rfl := sq h
   exact At.ret (At.rR hR [])
theorem I5 (p0 : (List Aa)) (p1 : Int) (r : Int) (h : DM p0 p1 = some r) : FnOK Tryz.prog 66 [lv Aa.enc p0,i64 p1] [] (i64 r) [] [] := by
 refine fI Tryz.func66 rfl fun E gv R hR => ?_
 refine At.sR [0,1] [] [] ?_
 refine At.seq ?_
 refine At.seqJ (S := Bool) (fun s => ⟨[(0,lv Aa.enc p0),(1,i64 p1),(22,bo s)],[]⟩) (fun s => EA p0 p1 s = some r) ?_ ?_
 · rcases cs h with ⟨b55,h⟩ | ⟨b55,h⟩
   · exact At.rK [0,1,22] [] [bT 2 b55] fun _ _ i => ⟨true,h,i⟩
   · rcases cs h with ⟨b56,h⟩ | ⟨b56,h⟩
     · exact At.rK [0,1,22] [] [bT 2 b55,bT 8 b56] fun _ _ i => ⟨true,h,i⟩
     · obtain ⟨y57,hy57,h⟩ := bs h
       obtain ⟨y58,hy58,h⟩ := bs h
       exact At.rK [0,1,22] [] [bT 2 b55,bT 8 b56,eT Aa.enc_len 11 hy57,c0 13 (Ik y57 y58 hy58)] fun _ _ i => ⟨(!y58),h,i⟩
 · intro x15 h
   refine At.cd h (fun b16 h => ?_) (fun b16 h => ?_)
   · refine At.sR [4] [] [] ?_
     obtain rfl := sq h
     exact At.ret (At.rR hR [])
   · refine At.nR [0,1] [] ?_
     refine At.skip (norm ?_)
     refine At.sR [0,1,5] [] [] ?_
     refine At.seq ?_
     refine At.sR [0,1,5,6] [] [] ?_
     refine At.block ?_
     refine At.nK (st' := ⟨[(0,lv Aa.enc p0),(1,i64 p1),(5,i64 0),(6,i64 0)],[]⟩) [0,1,5,6] [] ?_
     refine At.lp (fun s : (Int × Int) => ⟨[(0,lv Aa.enc p0),(1,i64 p1),(5,i64 s.1),(6,i64 s.2)],[]⟩) h ?_
     rintro ⟨x36,x37⟩ oo38 h f39
     replace h : CR p0 p1 x36 x37 = some oo38 := h
     refine At.seq ?_
     refine At.sR [0,1,5,6,25] [] [] ?_
     refine At.cd h (fun b41 h => ?_) (fun b41 h => ?_)
     · refine At.nR [0,1,5,6] [] ?_
       refine At.skip (norm ?_)
       refine At.seqJ (S := Int) (fun s => ⟨[(0,lv Aa.enc p0),(1,i64 p1),(5,i64 s),(6,i64 x37)],[]⟩) (fun s => FL x37 s = some oo38) ?_ ?_
       · refine At.block ?_
         obtain ⟨y50,hy50,h⟩ := bs h
         obtain ⟨y51,hy51,h⟩ := bs h
         refine At.sR [0,1,5,6,32] [] [eT Aa.enc_len 2 hy50,c0 4 (Ik y50 y51 hy51)] ?_
         refine At.cd h (fun b52 h => ?_) (fun b52 h => ?_)
         · exact At.rK [0,1,5,6] [] [] fun _ _ i => ⟨(w64 (x36 + 1)),h,i⟩
         · refine At.nR [0,1,5,6] [] ?_
           refine At.skip (fun _ _ i => ⟨x36,h,i.en [] [0,1,5,6] []⟩)
       · intro x47 h
         exact At.rK [0,1,5,6] [] [] fun _ _ i => ⟨_,li h,i⟩
     · refine At.nR [5] [] ?_
       obtain ⟨r53,h,e54⟩ := mr h
       rw [f39 _ e54] at h
       refine At.exit (norm ?_)
       refine At.sR [4] [] [] ?_
       obtain rfl := sq h
       exact At.ret (At.rR hR [])
theorem AY (p0 : Int) (p1 : Int) (p2 : Int) (r : (List Ac)) (h : AB p0 p1 p2 = some r) : FnOK Tryz.prog 65 [i64 p0,i64 p1,i64 p2] [] (.row 0 (r).length) [.row 36 3 (encL Ac.enc r)] [] := by
 refine fI Tryz.func65 rfl fun E gv R hR => ?_
 refine At.sR [0,1,2] [] [] ?_
 refine At.sR [6] [0] [] ?_
 obtain rfl := sq h
 exact At.ret (At.rR hR [0])
theorem E6 (p0 : Int) (p1 : Int) (p2 : Int) (r : (List Ac)) (h : Co p0 p1 p2 = some r) : FnOK Tryz.prog 98 [i64 p0,i64 p1,i64 p2] [] (.row 0 (r).length) [.row 36 3 (encL Ac.enc r)] [] := by
 refine fI Tryz.func98 rfl fun E gv R hR => ?_
 refine At.sR [0,1,2] [] [] ?_
 refine At.sR [6] [0] [] ?_
 obtain rfl := sq h
 exact At.ret (At.rR hR [0])
theorem IF (p0 : Int) (r : Int) (h : Es p0 = some r) : FnOK Tryz.prog 63 [i64 p0] [] (i64 r) [] [] := by
 refine fI Tryz.func63 rfl fun E gv R hR => ?_
 refine At.sR [0] [] [] ?_
 refine At.seq ?_
 refine At.sR [0,4] [] [] ?_
 refine At.cd h (fun b2 h => ?_) (fun b2 h => ?_)
 · refine At.sR [2] [] [] ?_
   obtain rfl := sq h
   exact At.ret (At.rR hR [])
 · refine At.nR [0] [] ?_
   refine At.skip (norm ?_)
   refine At.seq ?_
   refine At.seqJ (S := Bool) (fun s => ⟨[(26,bo s)],[]⟩) (fun s => BT s = some r) ?_ ?_
   · rcases cs h with ⟨b22,h⟩ | ⟨b22,h⟩
     · exact At.rK [26] [] [bT 2 b22] fun _ _ i => ⟨true,h,i⟩
     · rcases cs h with ⟨b23,h⟩ | ⟨b23,h⟩
       · exact At.rK [26] [] [bT 2 b22,bT 6 b23] fun _ _ i => ⟨true,h,i⟩
       · rcases cs h with ⟨b24,h⟩ | ⟨b24,h⟩
         · exact At.rK [26] [] [bT 2 b22,bT 6 b23,bT 10 b24] fun _ _ i => ⟨true,h,i⟩
         · rcases cs h with ⟨b25,h⟩ | ⟨b25,h⟩
           · exact At.rK [26] [] [bT 2 b22,bT 6 b23,bT 10 b24,bT 14 b25] fun _ _ i => ⟨true,h,i⟩
           · rcases cs h with ⟨b26,h⟩ | ⟨b26,h⟩
             · exact At.rK [26] [] [bT 2 b22,bT 6 b23,bT 10 b24,bT 14 b25,bT 18 b26] fun _ _ i => ⟨true,h,i⟩
             · exact At.rK [26] [] [bT 2 b22,bT 6 b23,bT 10 b24,bT 14 b25,bT 18 b26] fun _ _ i => ⟨(p0 == 22),h,i⟩
   · intro x20 h
     refine At.cd h (fun b21 h => ?_) (fun b21 h => ?_)
     · refine At.sR [2] [] [] ?_
       obtain rfl := sq h
       exact At.ret (At.rR hR [])
     · refine At.nR [] [] ?_
       refine At.skip (norm ?_)
       refine At.sR [2] [] [] ?_
       obtain rfl := sq h
       exact At.ret (At.rR hR [])
theorem Fj (p0 : (List Ac)) (p1 : Int) (r : (List Ac)) (h : Ch p0 p1 = some r) : FnOK Tryz.prog 38 [lv Ac.enc p0,i64 p1] [] (.row 0 (r).length) [.row 36 3 (encL Ac.enc r)] [] := by
 refine fI Tryz.func38 rfl fun E gv R hR => ?_
 refine At.sR [0,1] [] [] ?_
 refine At.sR [0,1,5] [] [] ?_
 refine At.seq ?_
 refine At.sR [0,1,5,6] [] [] ?_
 refine At.block ?_
 refine At.nK (st' := ⟨[(0,lv Ac.enc p0),(1,i64 p1),(5,.d (.list true 0 [])),(6,i64 0)],[]⟩) [0,1,5,6] [] ?_
 refine At.edNar [.ownS 5 36 3] [0,1,5,6] [0] (st' := ⟨[(0,lv Ac.enc p0),(1,i64 p1),(5,.row 0 ([] : List Ac).length),(6,i64 0)],[.row 36 3 (encL Ac.enc ([]))]⟩) (by kernel_rfl) ?_
 refine At.lp (fun s : (Int × (List Ac)) => ⟨[(0,lv Ac.enc p0),(1,i64 p1),(5,.row 0 (s.2).length),(6,i64 s.1)],[.row 36 3 (encL Ac.enc s.2)]⟩) h ?_
 rintro ⟨x35,x36⟩ oo37 h f38
 replace h : Cx p0 p1 x35 x36 = some oo37 := h
 refine At.seq ?_
 refine At.sR [0,1,5,6,11] [0] [] ?_
 refine At.cd h (fun b40 h => ?_) (fun b40 h => ?_)
 · refine At.nR [0,1,5,6] [0] ?_
   refine At.skip (norm ?_)
   refine At.seq ?_
   refine At.block ?_
   obtain ⟨y55,hy55,h⟩ := bs h
   refine At.sR [0,1,5,6,7] [0,1] [eT Ac.enc_len 2 hy55] ?_
   refine At.seqJ (S := Int × Int) (fun s => ⟨[(0,lv Ac.enc p0),(1,i64 p1),(5,.row 0 (x36).length),(6,i64 x35),(7,.ptr 1 0)],[.row 36 3 (encL Ac.enc x36),.blk 36 [i64 y55.Op,i64 s.1,i64 s.2]]⟩) (fun s => Bt x35 x36 y55 s.1 s.2 = some oo37) ?_ ?_
   · obtain ⟨y64,hy64,h⟩ := bs h
     refine At.sR [0,1,5,6,7,20] [0,1] [c0 2 (IF y55.Op y64 hy64)] ?_
     refine At.block ?_
     refine At.sR [0,1,5,6,7,20,21] [0,1] [] ?_
     refine At.cd h (fun b65 h => ?_) (fun b65 h => ?_)
     · exact At.rK [0,1,5,6,7] [0,1] [] fun _ _ i => ⟨((w64 (y55.A + p1)),y55.B),h,i⟩
     · refine At.seq ?_
       refine At.rK (st' := ⟨[(0,lv Ac.enc p0),(1,i64 p1),(5,.row 0 (x36).length),(6,i64 x35),(7,.ptr 1 0),(28,bo (y64 == 2))],[.row 36 3 (encL Ac.enc x36),.blk 36 (Ac.pvs y55)]⟩) [0,1,5,6,7,28] [0,1] [] (norm ?_)
       refine At.cd h (fun b66 h => ?_) (fun b66 h => ?_)
       · exact At.rK [0,1,5,6,7] [0,1] [] fun _ _ i => ⟨(y55.A,(w64 (y55.B + p1))),h,i⟩
       · refine At.nR [0,1,5,6,7] [0,1] ?_
         refine At.skip (fun _ _ i => ⟨(y55.A,y55.B),h,i.en [] [0,1,5,6,7] [0,1]⟩)
   · rintro ⟨x60,x61⟩ h
     replace h : Bt x35 x36 y55 x60 x61 = some oo37 := h
     obtain ⟨g62,h⟩ := gs h
     refine At.rG [0,1,5,6] [0] [aT Ac.enc_len 3 x36 ([(⟨y55.Op,x60,x61⟩ : Ac)]) rfl g62] (norm ?_)
     exact At.rK [0,1,5,6] [0] [] fun _ _ i => ⟨_,li h,i⟩
 · refine At.nR [5] [0] ?_
   obtain ⟨r67,h,e68⟩ := mr h
   rw [f38 _ e68] at h
   refine At.exit (norm ?_)
   refine At.sR [4] [0] [] ?_
   obtain rfl := sq h
   exact At.ret (At.rR hR [0])
theorem AS (p0 : (List Ac)) (o0 : (List Ac)) (r : (List Ac)) (h : Ar p0 o0 = some r) : FnOK Tryz.prog 18 [lv Ac.enc p0,.row 0 (o0).length] [.row 36 3 (encL Ac.enc o0)] (.row 1 (r).length) [.dead,.row 36 3 (encL Ac.enc r)] [0,1] := by
 refine fI Tryz.func18 rfl fun E gv R hR => ?_
 refine At.sR [0,1] [0,1] [] ?_
 obtain ⟨g4,h⟩ := gs h
 obtain ⟨y5,hy5,h⟩ := bs h
 obtain ⟨g6,h⟩ := gs h
 refine At.sR [4] [0,1,2] [aT Ac.enc_len 2 ([] : List Ac) p0 rfl g4,cX 6 0 [3] [0] true (Fj o0 ((p0).length : Int) y5 hy5),aT Ac.enc_len 7 (([] : List Ac) ++ p0) y5 rfl g6] ?_
 refine At.eN [.hideG 1] [4] [0,1,2] ?_
 obtain rfl := sq h
 exact At.ret (At.rR hR [0,2])
theorem DF (p0 : (List Ac)) (p1 : (List Ac)) (r : (List Ac)) (h : A1 p0 p1 = some r) : FnOK Tryz.prog 18 [lv Ac.enc p0,lv Ac.enc p1] [] (.row 0 (r).length) [.row 36 3 (encL Ac.enc r)] [] := by
 refine fI Tryz.func18 rfl fun E gv R hR => ?_
 refine At.sR [0,1] [] [] ?_
 obtain ⟨g4,h⟩ := gs h
 obtain ⟨y5,hy5,h⟩ := bs h
 obtain ⟨g6,h⟩ := gs h
 refine At.sR [4] [0] [aT Ac.enc_len 2 ([] : List Ac) p0 rfl g4,cT 6 0 [1] (Fj p1 ((p0).length : Int) y5 hy5),aT Ac.enc_len 7 (([] : List Ac) ++ p0) y5 rfl g6] ?_
 obtain rfl := sq h
 exact At.ret (At.rR hR [0])
theorem A4 (o0 : (List Ac)) (o1 : (List Ac)) (r : (List Ac)) (h : AF o0 o1 = some r) : FnOK Tryz.prog 18 [.row 0 (o0).length,.row 1 (o1).length] [.row 36 3 (encL Ac.enc o0),.row 36 3 (encL Ac.enc o1)] (.row 2 (r).length) [.row 36 3 (encL Ac.enc o0),.dead,.row 36 3 (encL Ac.enc r)] [0,2,3] := by
 refine fI Tryz.func18 rfl fun E gv R hR => ?_
 refine At.sR [0,1] [0,1,2,3] [] ?_
 obtain ⟨g4,h⟩ := gs h
 obtain ⟨y5,hy5,h⟩ := bs h
 obtain ⟨g6,h⟩ := gs h
 refine At.sR [4] [0,1,2,3,4] [aT Ac.enc_len 2 ([] : List Ac) o0 rfl g4,cX 6 0 [5] [1] true (Fj o1 ((o0).length : Int) y5 hy5),aT Ac.enc_len 7 (([] : List Ac) ++ o0) y5 rfl g6] ?_
 refine At.eN [.hideG 3] [4] [0,1,2,3,4] ?_
 obtain rfl := sq h
 exact At.ret (At.rR hR [0,1,4])
theorem Kh (sf1 : (List Aa) → Ah → Int → Option ((List Ac))) (hf1 : ∀ (p0 : (List Aa)) (p1 : Ah) (p2 : Int) (r : (List Ac)),sf1 p0 p1 p2 = some r → FnOK Tryz.prog 69 [lv Aa.enc p0,.agg (Ah.pvs p1),i64 p2] [] (.row 0 (r).length) [.row 36 3 (encL Ac.enc r)] []) (p0 : (List Aa)) (p1 : Ah) (p2 : Int) (r : (List Ac)) (h : F6 sf1 p0 p1 p2 = some r) : FnOK Tryz.prog 69 [lv Aa.enc p0,.agg (Ah.pvs p1),i64 p2] [] (.row 0 (r).length) [.row 36 3 (encL Ac.enc r)] [] := by
 refine fI Tryz.func69 rfl fun E gv R hR => ?_
 refine At.sR [0,2,4] [0] [] ?_
 obtain ⟨y2,hy2,h⟩ := bs h
 refine At.sR [0,2,4,7] [0,1] [eT Aa.enc_len 2 hy2] ?_
 refine At.seq ?_
 refine At.sR [0,2,4,7,19] [0,1] [] ?_
 refine At.block ?_
 refine At.sR [0,2,4,7,19,20] [0,1] [] ?_
 refine At.cd h (fun b21 h => ?_) (fun b21 h => ?_)
 · obtain ⟨y23,hy23,h⟩ := bs h
   refine At.sR [6] [2] [cT 2 0 [2] (E6 2 y2.N 0 y23 hy23)] ?_
   obtain rfl := sq h
   exact At.ret (At.rR hR [0])
 · refine At.sR [0,2,4,7,19,25] [0,1] [] ?_
   refine At.cd h (fun b24 h => ?_) (fun b24 h => ?_)
   · refine At.seq ?_
     obtain ⟨y27,hy27,h⟩ := bs h
     obtain ⟨y28,hy28,h⟩ := bs h
     refine At.rK (st' := ⟨[(6,.row 0 (y28).length)],[.row 36 3 (encL Ac.enc y28)]⟩) [6] [2] [eT (he_int .i64) 3 hy27,cT 5 0 [2] (E6 3 y27 0 y28 hy28)] (norm ?_)
     obtain rfl := sq h
     exact At.ret (At.rR hR [0])
   · refine At.seqJ (S := Bool) (fun s => ⟨[(0,lv Aa.enc p0),(2,i64 p2),(4,.ptr 0 0),(7,.ptr 1 0),(33,bo s)],[.blk 44 (Ah.pvs p1),.blk 67 (Aa.pvs y2)]⟩) (fun s => BQ sf1 p0 p1 p2 y2 s = some r) ?_ ?_
     · refine At.seq ?_
       refine At.rK (st' := ⟨[(0,lv Aa.enc p0),(2,i64 p2),(4,.ptr 0 0),(7,.ptr 1 0),(19,i64 y2.Op),(33,bo (y2.Op == 3))],[.blk 44 (Ah.pvs p1),.blk 67 (Aa.pvs y2)]⟩) [0,2,4,7,19,33] [0,1] [] (norm ?_)
       refine At.cd h (fun b78 h => ?_) (fun b78 h => ?_)
       · refine At.nR [0,2,4,7,33] [0,1] ?_
         refine At.skip (fun _ _ i => ⟨(y2.Op == 3),h,i.en [] [0,2,4,7,33] [0,1]⟩)
       · exact At.rK [0,2,4,7,33] [0,1] [] fun _ _ i => ⟨(y2.Op == 4),h,i⟩
     · intro x30 h
       refine At.cd h (fun b31 h => ?_) (fun b31 h => ?_)
       · obtain ⟨y35,hy35,h⟩ := bs h
         obtain ⟨y36,hy36,h⟩ := bs h
         obtain ⟨y37,hy37,h⟩ := bs h
         refine At.sD 3 [6] [4] [cT 4 0 [2] (hf1 p0 p1 (w64 (p2 + 1)) y35 hy35),cT 7 0 [3] (E6 5 y2.Op 0 y36 hy36),cT 8 2 [2,3,4] (A4 y35 y36 y37 hy37)] ?_
         obtain rfl := sq h
         exact At.ret (At.rR hR [0])
       · refine At.nR [0,2,4,7] [0,1] ?_
         refine At.skip (norm ?_)
         obtain ⟨y41,hy41,h⟩ := bs h
         obtain ⟨y42,hy42,h⟩ := bs h
         obtain ⟨y43,hy43,h⟩ := bs h
         refine At.sD 2 [7,8,9] [1,2,3] [cT 4 0 [2] (hf1 p0 p1 (w64 (p2 + 1)) y41 hy41),c0 9 (Er p0 p2 1 y42 hy42),cT 10 0 [3] (hf1 p0 p1 y42 y43 hy43)] ?_
         refine At.seq ?_
         refine At.seqJ (S := Bool) (fun s => ⟨[(7,.ptr 0 0),(8,.row 1 (y41).length),(9,.row 2 (y43).length),(63,bo s)],[.blk 67 (Aa.pvs y2),.row 36 3 (encL Ac.enc y41),.row 36 3 (encL Ac.enc y43)]⟩) (fun s => CS sf1 y2 y41 y43 s = some r) ?_ ?_
         · rcases cs h with ⟨b77,h⟩ | ⟨b77,h⟩
           · exact At.rK [7,8,9,63] [0,1,2] [bT 3 b77] fun _ _ i => ⟨(y2.Op != 17),h,i⟩
           · exact At.rK [7,8,9,63] [0,1,2] [bT 3 b77] fun _ _ i => ⟨false,h,i⟩
         · intro x55 h
           refine At.cd h (fun b56 h => ?_) (fun b56 h => ?_)
           · refine At.seq ?_
             refine At.settle [1] (st' := ⟨[(7,.ptr 0 0),(8,lv Ac.enc y41),(9,.row 2 (y43).length),(63,bo x55)],[.blk 67 (Aa.pvs y2),.dead,.row 36 3 (encL Ac.enc y43)]⟩) (by kernel_rfl) ?_
             refine At.settle [2] (st' := ⟨[(7,.ptr 0 0),(8,lv Ac.enc y41),(9,lv Ac.enc y43),(63,bo x55)],[.blk 67 (Aa.pvs y2),.dead,.dead]⟩) (by kernel_rfl) ?_
             obtain ⟨y60,hy60,h⟩ := bs h
             obtain ⟨y61,hy61,h⟩ := bs h
             obtain ⟨y62,hy62,h⟩ := bs h
             refine At.dG 3 [6] [5] [cT 2 0 [3] (DF y41 y43 y60 hy60),cT 5 0 [4] (E6 5 y2.Op 0 y61 hy61),cT 6 2 [3,4,5] (A4 y60 y61 y62 hy62)] (norm ?_)
             obtain rfl := sq h
             exact At.ret (At.rR hR [0])
           · refine At.nR [7,8,9] [0,1,2] ?_
             refine At.skip (norm ?_)
             refine At.sR [7,8,9,10,11] [0,1,2] [] ?_
             refine At.seqJ (S := Int × Int) (fun s => ⟨[(8,.row 0 (y41).length),(9,.row 1 (y43).length),(10,i64 s.1),(11,i64 s.2)],[.row 36 3 (encL Ac.enc y41),.row 36 3 (encL Ac.enc y43)]⟩) (fun s => Du sf1 y41 y43 s.1 s.2 = some r) ?_ ?_
             · refine At.sR [8,9,10,11,73] [1,2] [] ?_
               refine At.cd h (fun b76 h => ?_) (fun b76 h => ?_)
               · exact At.rK [8,9,10,11] [0,1] [] fun _ _ i => ⟨(8,1),h,i⟩
               · refine At.nR [8,9,10,11] [0,1] ?_
                 refine At.skip (fun _ _ i => ⟨(7,0),h,i.en [] [8,9,10,11] [0,1]⟩)
             · rintro ⟨x64,x65⟩ h
               replace h : Du sf1 y41 y43 x64 x65 = some r := h
               refine At.sR [8,9,10,11,12] [0,1] [] ?_
               obtain ⟨y68,hy68,h⟩ := bs h
               obtain ⟨g69,h⟩ := gs h
               refine At.sR [9,10,11,12,13] [1,2] [cX 1 0 [2] [0] true (DF y41 ([] : List Ac) y68 hy68),aT Ac.enc_len 6 y68 ([(⟨x64,(w64 ((w64 (((y41).length : Int) + ((y43).length : Int))) + 4)),0⟩ : Ac)]) rfl g69] ?_
               obtain ⟨y72,hy72,h⟩ := bs h
               obtain ⟨g73,h⟩ := gs h
               refine At.sR [11,12,13] [2] [cX 2 0 [2] [1,0] true (DF (y68 ++ [(⟨x64,(w64 ((w64 (((y41).length : Int) + ((y43).length : Int))) + 4)),0⟩ : Ac)]) y43 y72 hy72),aT Ac.enc_len 7 y72 ([(⟨x64,(w64 ((w64 (((y41).length : Int) + ((y43).length : Int))) + 4)),0⟩ : Ac)]) rfl g73] ?_
               obtain ⟨g75,h⟩ := gs h
               refine At.sR [6] [0] [aT Ac.enc_len 10 (y72 ++ [(⟨x64,(w64 ((w64 (((y41).length : Int) + ((y43).length : Int))) + 4)),0⟩ : Ac)]) ([(⟨2,(w64 (1 - x65)),0⟩ : Ac),(⟨6,(w64 ((w64 ((w64 (((y41).length : Int) + ((y43).length : Int))) + 4)) + 1)),0⟩ : Ac),(⟨2,x65,0⟩ : Ac)]) rfl g75] ?_
               obtain rfl := sq h
               exact At.ret (At.rR hR [0])
theorem IA : ∀ n : Nat,(∀ (p0 : (List Aa)) (p1 : Ah) (p2 : Int) (r : (List Ac)),(AN n) p0 p1 p2 = some r → FnOK Tryz.prog 69 [lv Aa.enc p0,.agg (Ah.pvs p1),i64 p2] [] (.row 0 (r).length) [.row 36 3 (encL Ac.enc r)] [])
 | 0 => fun _ _ _ _ h => by cases h
 | n + 1 => Kh (AN n) (IA n)
theorem HQ (p0 : (List Aa)) (p1 : Ah) (p2 : Int) (r : (List Ac)) (h : Be p0 p1 p2 = some r) : FnOK Tryz.prog 69 [lv Aa.enc p0,.agg (Ah.pvs p1),i64 p2] [] (.row 0 (r).length) [.row 36 3 (encL Ac.enc r)] [] :=
 (IA 4000) p0 p1 p2 r h
theorem K1 (p0 : (List Aa)) (p1 : Ah) (p2 : Int) (r : (List Ac)) (h : HN p0 p1 p2 = some r) : FnOK Tryz.prog 112 [lv Aa.enc p0,.agg (Ah.pvs p1),i64 p2] [] (.row 0 (r).length) [.row 36 3 (encL Ac.enc r)] [] := by
 refine fI Tryz.func112 rfl fun E gv R hR => ?_
 refine At.sR [0,2,4] [0] [] ?_
 obtain ⟨y3,hy3,h⟩ := bs h
 obtain ⟨y4,hy4,h⟩ := bs h
 refine At.sD 1 [0,2,4,7] [0,1] [eT (he_int .i64) 5 hy3,eT Ak.enc_len 7 hy4] ?_
 refine At.seq ?_
 refine At.sR [0,2,4,7,19] [0,1] [] ?_
 refine At.cd h (fun b8 h => ?_) (fun b8 h => ?_)
 · obtain ⟨y10,hy10,h⟩ := bs h
   refine At.sR [6] [2] [cT 2 0 [2] (E6 9 y4.Base 0 y10 hy10)] ?_
   obtain rfl := sq h
   exact At.ret (At.rR hR [0])
 · refine At.nR [0,2,4,7] [0,1] ?_
   refine At.skip (norm ?_)
   obtain ⟨y14,hy14,h⟩ := bs h
   obtain ⟨y15,hy15,h⟩ := bs h
   obtain ⟨y16,hy16,h⟩ := bs h
   refine At.sD 3 [6] [4] [cT 4 0 [2] (HQ p0 p1 (w64 (p2 + 1)) y14 hy14),cT 9 0 [3] (E6 9 y4.Base y4.Size y15 hy15),cT 10 2 [2,3,4] (A4 y14 y15 y16 hy16)] ?_
   obtain rfl := sq h
   exact At.ret (At.rR hR [0])
theorem GT (p0 : (List Aa)) (p1 : Ah) (p2 : Int) (r : (List Ac)) (h : AO p0 p1 p2 = some r) : FnOK Tryz.prog 95 [lv Aa.enc p0,.agg (Ah.pvs p1),i64 p2] [] (.row 0 (r).length) [.row 36 3 (encL Ac.enc r)] [] := by
 refine fI Tryz.func95 rfl fun E gv R hR => ?_
 refine At.sR [0,2,4] [0] [] ?_
 refine At.seq ?_
 obtain ⟨y7,hy7,h⟩ := bs h
 refine At.sR [0,2,4,12] [0] [eT Aa.enc_len 2 hy7] ?_
 refine At.cd h (fun b8 h => ?_) (fun b8 h => ?_)
 · obtain ⟨y10,hy10,h⟩ := bs h
   refine At.sR [6] [1] [cT 3 0 [1] (K1 p0 p1 p2 y10 hy10)] ?_
   obtain rfl := sq h
   exact At.ret (At.rR hR [0])
 · refine At.nR [0,2,4] [0] ?_
   refine At.skip (norm ?_)
   obtain ⟨y12,hy12,h⟩ := bs h
   refine At.sR [6] [1] [cT 3 0 [1] (HQ p0 p1 p2 y12 hy12)] ?_
   obtain rfl := sq h
   exact At.ret (At.rR hR [0])
theorem CP (p0 : (List Aa)) (p1 : Ah) (p2 : Int) (r : (List Ac)) (h : AG p0 p1 p2 = some r) : FnOK Tryz.prog 67 [lv Aa.enc p0,.agg (Ah.pvs p1),i64 p2] [] (.row 0 (r).length) [.row 36 3 (encL Ac.enc r)] [] := by
 refine fI Tryz.func67 rfl fun E gv R hR => ?_
 refine At.sR [0,2,4] [0] [] ?_
 refine At.sR [0,2,4,7] [0] [] ?_
 obtain ⟨y2,hy2,h⟩ := bs h
 refine At.sR [0,4,7,8] [0,1] [cT 2 0 [1] (BP p0 p2 y2 hy2)] ?_
 refine At.seq ?_
 refine At.sR [0,4,7,8,9] [0,1] [] ?_
 refine At.block ?_
 refine At.nK (st' := ⟨[(0,lv Aa.enc p0),(4,.ptr 0 0),(7,.d (.list true 0 [])),(8,.row 1 (y2).length),(9,i64 0)],[.blk 44 (Ah.pvs p1),.row 3 1 (encL (eInt .i64) y2)]⟩) [0,4,7,8,9] [0,1] ?_
 refine At.edNar [.ownS 7 36 3] [0,4,7,8,9] [0,2,1] (st' := ⟨[(0,lv Aa.enc p0),(4,.ptr 0 0),(7,.row 1 ([] : List Ac).length),(8,.row 2 (y2).length),(9,i64 0)],[.blk 44 (Ah.pvs p1),.row 36 3 (encL Ac.enc ([])),.row 3 1 (encL (eInt .i64) y2)]⟩) (by kernel_rfl) ?_
 refine At.lp (fun s : (Int × (List Ac)) => ⟨[(0,lv Aa.enc p0),(4,.ptr 0 0),(7,.row 1 (s.2).length),(8,.row 2 (y2).length),(9,i64 s.1)],[.blk 44 (Ah.pvs p1),.row 36 3 (encL Ac.enc s.2),.row 3 1 (encL (eInt .i64) y2)]⟩) h ?_
 rintro ⟨x21,x22⟩ oo23 h f24
 replace h : Cv p0 p1 y2 x21 x22 = some oo23 := h
 refine At.seq ?_
 refine At.sR [0,4,7,8,9,16] [0,1,2] [] ?_
 refine At.cd h (fun b26 h => ?_) (fun b26 h => ?_)
 · refine At.nR [0,4,7,8,9] [0,1,2] ?_
   refine At.skip (norm ?_)
   refine At.seq ?_
   refine At.block ?_
   refine At.settle [1] (st' := ⟨[(0,lv Aa.enc p0),(4,.ptr 0 0),(7,lv Ac.enc x22),(8,.row 2 (y2).length),(9,i64 x21)],[.blk 44 (Ah.pvs p1),.dead,.row 3 1 (encL (eInt .i64) y2)]⟩) (by kernel_rfl) ?_
   obtain ⟨y34,hy34,h⟩ := bs h
   obtain ⟨y35,hy35,h⟩ := bs h
   obtain ⟨y36,hy36,h⟩ := bs h
   refine At.dG 2 [0,4,7,8,9] [0,4,2] [oT 5 ((AZ (he_int .i64) (d := .int .i64 y34) hy34 rfl).1),vT 6 (.int .i64 y34) ((AZ (he_int .i64) (d := .int .i64 y34) hy34 rfl).2),cT 7 0 [3] (GT p0 p1 y34 y35 hy35),cT 8 1 [3,4] (AS x22 y35 y36 hy36)] (norm ?_)
   exact At.rK [0,4,7,8,9] [0,1,2] [] fun _ _ i => ⟨_,li h,i⟩
 · refine At.nR [7] [1] ?_
   obtain ⟨r37,h,e38⟩ := mr h
   rw [f24 _ e38] at h
   refine At.exit (norm ?_)
   refine At.sR [6] [0] [] ?_
   obtain rfl := sq h
   exact At.ret (At.rR hR [0])
theorem JN (p1 : Int) (o0 : (List Ac)) (r : (List Ac)) (h : GH p1 o0 = some r) : FnOK Tryz.prog 38 [.row 0 (o0).length,i64 p1] [.row 36 3 (encL Ac.enc o0)] (.row 1 (r).length) [.row 36 3 (encL Ac.enc o0),.row 36 3 (encL Ac.enc r)] [0] := by
 refine fI Tryz.func38 rfl fun E gv R hR => ?_
 refine At.sR [0,1] [0,1] [] ?_
 refine At.sR [0,1,5] [0,1] [] ?_
 refine At.seq ?_
 refine At.sR [0,1,5,6] [0,1] [] ?_
 refine At.block ?_
 refine At.nK (st' := ⟨[(0,.row 0 (o0).length),(1,i64 p1),(5,.d (.list true 0 [])),(6,i64 0)],[.row 36 3 (encL Ac.enc o0),.ghost (gv 0) (.row 0 0)]⟩) [0,1,5,6] [0,1] ?_
 refine At.edNar [.ownS 5 36 3] [0,1,5,6] [0,1,2] (st' := ⟨[(0,.row 0 (o0).length),(1,i64 p1),(5,.row 2 ([] : List Ac).length),(6,i64 0)],[.row 36 3 (encL Ac.enc o0),.ghost (gv 0) (.row 0 0),.row 36 3 (encL Ac.enc ([]))]⟩) (by kernel_rfl) ?_
 refine At.lp (fun s : (Int × (List Ac)) => ⟨[(0,.row 0 (o0).length),(1,i64 p1),(5,.row 2 (s.2).length),(6,i64 s.1)],[.row 36 3 (encL Ac.enc o0),.ghost (gv 0) (.row 0 0),.row 36 3 (encL Ac.enc s.2)]⟩) h ?_
 rintro ⟨x35,x36⟩ oo37 h f38
 replace h : Hx p1 o0 x35 x36 = some oo37 := h
 refine At.seq ?_
 refine At.sR [0,1,5,6,11] [0,1,2] [] ?_
 refine At.cd h (fun b40 h => ?_) (fun b40 h => ?_)
 · refine At.nR [0,1,5,6] [0,1,2] ?_
   refine At.skip (norm ?_)
   refine At.seq ?_
   refine At.block ?_
   obtain ⟨y55,hy55,h⟩ := bs h
   refine At.sR [0,1,5,6,7] [0,1,2,3] [oT 2 (rEl hy55),tT 3 ({ orc := .cells [.int .i64 y55.Op,.int .i64 y55.A,.int .i64 y55.B] }) (allc (rElC Ac.enc_len hy55 0 3 (by decide) (by rfl)) all0)] ?_
   refine At.seqJ (S := Int × Int) (fun s => ⟨[(0,.row 0 (o0).length),(1,i64 p1),(5,.row 2 (x36).length),(6,i64 x35),(7,.ptr 3 0)],[.row 36 3 (encL Ac.enc o0),.ghost (gv 0) (.row 0 0),.row 36 3 (encL Ac.enc x36),.blk 36 [i64 y55.Op,i64 s.1,i64 s.2]]⟩) (fun s => Df x35 x36 y55 s.1 s.2 = some oo37) ?_ ?_
   · obtain ⟨y64,hy64,h⟩ := bs h
     refine At.sR [0,1,5,6,7,20] [0,1,2,3] [c0 2 (IF y55.Op y64 hy64)] ?_
     refine At.block ?_
     refine At.sR [0,1,5,6,7,20,21] [0,1,2,3] [] ?_
     refine At.cd h (fun b65 h => ?_) (fun b65 h => ?_)
     · exact At.rK [0,1,5,6,7] [0,1,2,3] [] fun _ _ i => ⟨((w64 (y55.A + p1)),y55.B),h,i⟩
     · refine At.seq ?_
       refine At.rK (st' := ⟨[(0,.row 0 (o0).length),(1,i64 p1),(5,.row 2 (x36).length),(6,i64 x35),(7,.ptr 3 0),(28,bo (y64 == 2))],[.row 36 3 (encL Ac.enc o0),.ghost (gv 0) (.row 0 0),.row 36 3 (encL Ac.enc x36),.blk 36 (Ac.pvs y55)]⟩) [0,1,5,6,7,28] [0,1,2,3] [] (norm ?_)
       refine At.cd h (fun b66 h => ?_) (fun b66 h => ?_)
       · exact At.rK [0,1,5,6,7] [0,1,2,3] [] fun _ _ i => ⟨(y55.A,(w64 (y55.B + p1))),h,i⟩
       · refine At.nR [0,1,5,6,7] [0,1,2,3] ?_
         refine At.skip (fun _ _ i => ⟨(y55.A,y55.B),h,i.en [] [0,1,5,6,7] [0,1,2,3]⟩)
   · rintro ⟨x60,x61⟩ h
     replace h : Df x35 x36 y55 x60 x61 = some oo37 := h
     obtain ⟨g62,h⟩ := gs h
     refine At.rG [0,1,5,6] [0,1,2] [aT Ac.enc_len 3 x36 ([(⟨y55.Op,x60,x61⟩ : Ac)]) rfl g62] (norm ?_)
     exact At.rK [0,1,5,6] [0,1,2] [] fun _ _ i => ⟨_,li h,i⟩
 · refine At.nR [5] [0,1,2] ?_
   obtain ⟨r67,h,e68⟩ := mr h
   rw [f38 _ e68] at h
   refine At.exit (norm ?_)
   refine At.sR [4] [0,1,2] [] ?_
   obtain rfl := sq h
   exact At.ret (At.rR hR [0,2])
theorem I4 (p0 : (List Aa)) (p1 : Ah) (p2 : Int) (p3 : Int) (p4 : Int) (r : (List Ac)) (h : Bq p0 p1 p2 p3 p4 = some r) : FnOK Tryz.prog 97 [lv Aa.enc p0,.agg (Ah.pvs p1),i64 p2,i64 p3,i64 p4] [] (.row 0 (r).length) [.row 36 3 (encL Ac.enc r)] [] := by
 refine fI Tryz.func97 rfl fun E gv R hR => ?_
 refine At.sR [0,2,3,4,6] [0] [] ?_
 obtain ⟨y2,hy2,h⟩ := bs h
 refine At.sR [0,2,3,4,6,11] [0,1] [eT Aa.enc_len 2 hy2] ?_
 refine At.sR [0,2,3,4,6,11,12] [0,1] [] ?_
 refine At.sR [0,2,3,4,6,11,12,13] [0,1] [] ?_
 refine At.seqJ (S := (List Ac)) (fun s => ⟨[(0,lv Aa.enc p0),(2,i64 p2),(3,i64 p3),(4,i64 p4),(6,.ptr 0 0),(11,.ptr 1 0),(12,i64 y2.N),(13,.row 2 (s).length)],[.blk 44 (Ah.pvs p1),.blk 67 (Aa.pvs y2),.row 36 3 (encL Ac.enc s)]⟩) (fun s => B6 p0 p1 p2 p3 p4 y2 s = some r) ?_ ?_
 · refine At.seqJ (S := Bool) (fun s => ⟨[(0,lv Aa.enc p0),(2,i64 p2),(3,i64 p3),(4,i64 p4),(6,.ptr 0 0),(11,.ptr 1 0),(12,i64 y2.N),(13,.d (.list true 0 [])),(34,bo s)],[.blk 44 (Ah.pvs p1),.blk 67 (Aa.pvs y2)]⟩) (fun s => FI p0 p1 p2 p3 p4 y2 s = some r) ?_ ?_
   · rcases cs h with ⟨b80,h⟩ | ⟨b80,h⟩
     · exact At.rK [0,2,3,4,6,11,12,13,34] [0,1] [bT 3 b80] fun _ _ i => ⟨true,h,i⟩
     · rcases cs h with ⟨b81,h⟩ | ⟨b81,h⟩
       · exact At.rK [0,2,3,4,6,11,12,13,34] [0,1] [bT 3 b80,bT 8 b81] fun _ _ i => ⟨true,h,i⟩
       · exact At.rK [0,2,3,4,6,11,12,13,34] [0,1] [bT 3 b80,bT 8 b81] fun _ _ i => ⟨(y2.Op == 36),h,i⟩
   · intro x76 h
     refine At.cd h (fun b77 h => ?_) (fun b77 h => ?_)
     · obtain ⟨y78,hy78,h⟩ := bs h
       obtain ⟨y79,hy79,h⟩ := bs h
       exact At.dK 1 [0,2,3,4,6,11,12,13] [0,1,2] [c0 5 (Er p0 p2 y2.N y78 hy78),cT 6 0 [2] (GT p0 p1 y78 y79 hy79)] fun _ _ i => ⟨y79,h,i⟩
     · refine At.nR [0,2,3,4,6,11,12,13] [0,1] ?_
       refine At.skip (fun _ _ i => ⟨([] : (List Ac)),h,i.en [.ownS 13 36 3] [0,2,3,4,6,11,12,13] [0,1,2]⟩)
 · intro x11 h
   refine At.seqJ (S := (List Ac)) (fun s => ⟨[(0,lv Aa.enc p0),(2,i64 p2),(3,i64 p3),(6,.ptr 0 0),(11,.ptr 1 0),(12,i64 y2.N),(13,.row 2 (s).length)],[.blk 44 (Ah.pvs p1),.blk 67 (Aa.pvs y2),.row 36 3 (encL Ac.enc s)]⟩) (fun s => B5 p0 p1 p2 p3 y2 s = some r) ?_ ?_
   · refine At.sR [0,2,3,4,6,11,12,13,43] [0,1,2] [] ?_
     refine At.block ?_
     refine At.sR [0,2,3,4,6,11,12,13,43,51] [0,1,2] [] ?_
     refine At.cd h (fun b56 h => ?_) (fun b56 h => ?_)
     · obtain ⟨y57,hy57,h⟩ := bs h
       obtain ⟨g58,h⟩ := gs h
       exact At.rK [0,2,3,6,11,12,13] [0,1,2] [eT (he_int .i64) 4 hy57,aT Ac.enc_len 11 x11 ([(⟨19,y57,(w64 (p4 - p3))⟩ : Ac)]) rfl g58] fun _ _ i => ⟨(x11 ++ [(⟨19,y57,(w64 (p4 - p3))⟩ : Ac)]),h,i⟩
     · refine At.sR [0,2,3,4,6,11,12,13,43,65] [0,1,2] [] ?_
       refine At.cd h (fun b59 h => ?_) (fun b59 h => ?_)
       · refine At.seq ?_
         refine At.settle [2] (st' := ⟨[(0,lv Aa.enc p0),(2,i64 p2),(3,i64 p3),(4,i64 p4),(6,.ptr 0 0),(11,.ptr 1 0),(12,i64 y2.N),(13,lv Ac.enc x11),(43,i64 y2.Op),(65,bo (y2.Op == 35))],[.blk 44 (Ah.pvs p1),.blk 67 (Aa.pvs y2),.dead]⟩) (by kernel_rfl) ?_
         obtain ⟨y67,hy67,h⟩ := bs h
         obtain ⟨y68,hy68,h⟩ := bs h
         obtain ⟨y69,hy69,h⟩ := bs h
         refine At.dG 2 [0,2,3,4,6,11,12,13] [0,1,4] [c0 7 (Er p0 p2 (w64 (y2.N + 1)) y67 hy67),cT 8 0 [3] (GT p0 p1 y67 y68 hy68),cT 9 1 [3,4] (AS x11 y68 y69 hy69)] (norm ?_)
         obtain ⟨g70,h⟩ := gs h
         exact At.rK [0,2,3,6,11,12,13] [0,1,2] [aT Ac.enc_len 6 y69 ([(⟨20,(w64 (p4 - p3)),0⟩ : Ac)]) rfl g70] fun _ _ i => ⟨(y69 ++ [(⟨20,(w64 (p4 - p3)),0⟩ : Ac)]),h,i⟩
       · refine At.sR [0,2,3,4,6,11,12,13,84] [0,1,2] [] ?_
         refine At.cd h (fun b71 h => ?_) (fun b71 h => ?_)
         · obtain ⟨g72,h⟩ := gs h
           exact At.rK [0,2,3,6,11,12,13] [0,1,2] [aT Ac.enc_len 6 x11 ([(⟨21,(w64 (p4 - p3)),0⟩ : Ac)]) rfl g72] fun _ _ i => ⟨(x11 ++ [(⟨21,(w64 (p4 - p3)),0⟩ : Ac)]),h,i⟩
         · obtain ⟨g73,h⟩ := gs h
           exact At.rK [0,2,3,6,11,12,13] [0,1,2] [aT Ac.enc_len 6 x11 ([(⟨22,(w64 (p4 - p3)),0⟩ : Ac)]) rfl g73] fun _ _ i => ⟨(x11 ++ [(⟨22,(w64 (p4 - p3)),0⟩ : Ac)]),h,i⟩
   · intro x30 h
     refine At.seq ?_
     refine At.sR [0,2,3,6,11,13,94] [0,1,2] [] ?_
     refine At.cd h (fun b34 h => ?_) (fun b34 h => ?_)
     · obtain ⟨y36,hy36,h⟩ := bs h
       refine At.sR [10] [3] [cX 2 0 [3] [2] true (Fj x30 p3 y36 hy36)] ?_
       obtain rfl := sq h
       exact At.ret (At.rR hR [0])
     · refine At.nR [0,2,3,6,11,13] [0,1,2] ?_
       refine At.skip (norm ?_)
       obtain ⟨y38,hy38,h⟩ := bs h
       refine At.sR [3,11,13,14] [1,2,3] [cT 4 0 [3] (GT p0 p1 (w64 (p2 + 1)) y38 hy38)] ?_
       refine At.sR [3,11,13,14,15] [0,1,2] [] ?_
       refine At.seqJ (S := (List Ac)) (fun s => ⟨[(3,i64 p3),(13,.row 0 (s).length),(14,.row 1 (y38).length),(15,i64 (w64 (((y38).length : Int) + 1)))],[.row 36 3 (encL Ac.enc s),.row 36 3 (encL Ac.enc y38)]⟩) (fun s => CQ p3 y38 s = some r) ?_ ?_
       · refine At.sR [3,13,14,15,108] [1,2] [] ?_
         refine At.cd h (fun b51 h => ?_) (fun b51 h => ?_)
         · obtain ⟨y52,hy52,h⟩ := bs h
           obtain ⟨y53,hy53,h⟩ := bs h
           refine At.rK (st' := ⟨[(3,i64 p3),(13,.row 0 (x30).length),(14,.row 1 (y38).length),(15,i64 (w64 (((y38).length : Int) + 1)))],[.row 36 3 (encL Ac.enc (List.set x30 (Int.toNat (w64 (((x30).length : Int) - 1))) (⟨y53.Op,y53.A,(w64 (y52.B - (w64 (((y38).length : Int) + 1))))⟩ : Ac))),.row 36 3 (encL Ac.enc y38)]⟩) [3,13,14,15] [0,1] [oT 8 (rEl hy52),vT 10 (.int .i64 y52.B) (rElV Ac.enc_len hy52 2 (by decide) (d := .int .i64 y52.B) (by rfl)),oT 13 (rEl hy53),tT 15 ({ form := some (0,encL Ac.enc (List.set x30 (Int.toNat (w64 (((x30).length : Int) - 1))) (⟨y53.Op,y53.A,(w64 (y52.B - (w64 (((y38).length : Int) + 1))))⟩ : Ac))),obj := 0 }) (allc ((PR Ac.enc_len hy53 2 (⟨y53.Op,y53.A,(w64 (y52.B - (w64 (((y38).length : Int) + 1))))⟩ : Ac) (vs := [.int .i64 (w64 (y52.B - (w64 (((y38).length : Int) + 1))))]) (by rfl) (Nat.le_of_ble_eq_true rfl)).1) (allc ((PR Ac.enc_len hy53 2 (⟨y53.Op,y53.A,(w64 (y52.B - (w64 (((y38).length : Int) + 1))))⟩ : Ac) (vs := [.int .i64 (w64 (y52.B - (w64 (((y38).length : Int) + 1))))]) (by rfl) (Nat.le_of_ble_eq_true rfl)).2) all0))] (SC (st2 := ⟨[(3,i64 p3),(13,.row 0 ((List.set x30 (Int.toNat (w64 (((x30).length : Int) - 1))) (⟨y53.Op,y53.A,(w64 (y52.B - (w64 (((y38).length : Int) + 1))))⟩ : Ac))).length),(14,.row 1 (y38).length),(15,i64 (w64 (((y38).length : Int) + 1)))],[.row 36 3 (encL Ac.enc (List.set x30 (Int.toNat (w64 (((x30).length : Int) - 1))) (⟨y53.Op,y53.A,(w64 (y52.B - (w64 (((y38).length : Int) + 1))))⟩ : Ac))),.row 36 3 (encL Ac.enc y38)]⟩) (by simp only [List.length_set]) (fun _ _ i => ⟨(List.set x30 (Int.toNat (w64 (((x30).length : Int) - 1))) (⟨y53.Op,y53.A,(w64 (y52.B - (w64 (((y38).length : Int) + 1))))⟩ : Ac)),h,i⟩))
         · obtain ⟨y54,hy54,h⟩ := bs h
           obtain ⟨y55,hy55,h⟩ := bs h
           refine At.rK (st' := ⟨[(3,i64 p3),(13,.row 0 (x30).length),(14,.row 1 (y38).length),(15,i64 (w64 (((y38).length : Int) + 1)))],[.row 36 3 (encL Ac.enc (List.set x30 (Int.toNat (w64 (((x30).length : Int) - 1))) (⟨y55.Op,(w64 (y54.A - (w64 (((y38).length : Int) + 1)))),y55.B⟩ : Ac))),.row 36 3 (encL Ac.enc y38)]⟩) [3,13,14,15] [0,1] [oT 8 (rEl hy54),vT 10 (.int .i64 y54.A) (rElV Ac.enc_len hy54 1 (by decide) (d := .int .i64 y54.A) (by rfl)),oT 13 (rEl hy55),tT 15 ({ form := some (0,encL Ac.enc (List.set x30 (Int.toNat (w64 (((x30).length : Int) - 1))) (⟨y55.Op,(w64 (y54.A - (w64 (((y38).length : Int) + 1)))),y55.B⟩ : Ac))),obj := 0 }) (allc ((PR Ac.enc_len hy55 1 (⟨y55.Op,(w64 (y54.A - (w64 (((y38).length : Int) + 1)))),y55.B⟩ : Ac) (vs := [.int .i64 (w64 (y54.A - (w64 (((y38).length : Int) + 1))))]) (by rfl) (Nat.le_of_ble_eq_true rfl)).1) (allc ((PR Ac.enc_len hy55 1 (⟨y55.Op,(w64 (y54.A - (w64 (((y38).length : Int) + 1)))),y55.B⟩ : Ac) (vs := [.int .i64 (w64 (y54.A - (w64 (((y38).length : Int) + 1))))]) (by rfl) (Nat.le_of_ble_eq_true rfl)).2) all0))] (SC (st2 := ⟨[(3,i64 p3),(13,.row 0 ((List.set x30 (Int.toNat (w64 (((x30).length : Int) - 1))) (⟨y55.Op,(w64 (y54.A - (w64 (((y38).length : Int) + 1)))),y55.B⟩ : Ac))).length),(14,.row 1 (y38).length),(15,i64 (w64 (((y38).length : Int) + 1)))],[.row 36 3 (encL Ac.enc (List.set x30 (Int.toNat (w64 (((x30).length : Int) - 1))) (⟨y55.Op,(w64 (y54.A - (w64 (((y38).length : Int) + 1)))),y55.B⟩ : Ac))),.row 36 3 (encL Ac.enc y38)]⟩) (by simp only [List.length_set]) (fun _ _ i => ⟨(List.set x30 (Int.toNat (w64 (((x30).length : Int) - 1))) (⟨y55.Op,(w64 (y54.A - (w64 (((y38).length : Int) + 1)))),y55.B⟩ : Ac)),h,i⟩))
       · intro x44 h
         obtain ⟨g46,h⟩ := gs h
         refine At.sR [3,13,14] [0,1] [aT Ac.enc_len 7 y38 ([(⟨7,(w64 ((w64 (((y38).length : Int) + 1)) + ((x44).length : Int))),0⟩ : Ac)]) rfl g46] ?_
         obtain ⟨y49,hy49,h⟩ := bs h
         obtain ⟨y50,hy50,h⟩ := bs h
         refine At.sR [10] [3] [cX 2 0 [2] [1,0] true (DF (y38 ++ [(⟨7,(w64 ((w64 (((y38).length : Int) + 1)) + ((x44).length : Int))),0⟩ : Ac)]) x44 y49 hy49),cT 4 1 [2,3] (JN p3 y49 y50 hy50)] ?_
         obtain rfl := sq h
         exact At.ret (At.rR hR [0])
theorem KZ (p0 : (List Aa)) (p1 : Ah) (p2 : Int) (r : Int) (h : HM p0 p1 p2 = some r) : FnOK Tryz.prog 96 [lv Aa.enc p0,.agg (Ah.pvs p1),i64 p2] [] (i64 r) [] [] := by
 refine fI Tryz.func96 rfl fun E gv R hR => ?_
 refine At.sR [0,2,4] [0] [] ?_
 obtain ⟨y2,hy2,h⟩ := bs h
 refine At.sR [6] [] [cT 3 0 [1] (I4 p0 p1 p2 0 0 y2 hy2)] ?_
 obtain rfl := sq h
 exact At.ret (At.rR hR [])
theorem FY (p1 : (List Ac)) (o0 : (List Ac)) (r : (List Ac)) (h : A0 p1 o0 = some r) : FnOK Tryz.prog 18 [.row 0 (o0).length,lv Ac.enc p1] [.row 36 3 (encL Ac.enc o0)] (.row 1 (r).length) [.row 36 3 (encL Ac.enc o0),.row 36 3 (encL Ac.enc r)] [0] := by
 refine fI Tryz.func18 rfl fun E gv R hR => ?_
 refine At.sR [0,1] [0,1] [] ?_
 obtain ⟨g4,h⟩ := gs h
 obtain ⟨y5,hy5,h⟩ := bs h
 obtain ⟨g6,h⟩ := gs h
 refine At.sR [4] [0,1,2] [aT Ac.enc_len 2 ([] : List Ac) o0 rfl g4,cT 6 0 [3] (Fj p1 ((o0).length : Int) y5 hy5),aT Ac.enc_len 7 (([] : List Ac) ++ o0) y5 rfl g6] ?_
 obtain rfl := sq h
 exact At.ret (At.rR hR [0,2])
theorem JM (sf1 : (List Aa) → Ah → Int → Option ((List Ac))) (hf1 : ∀ (p0 : (List Aa)) (p1 : Ah) (p2 : Int) (r : (List Ac)),sf1 p0 p1 p2 = some r → FnOK Tryz.prog 19 [lv Aa.enc p0,.agg (Ah.pvs p1),i64 p2] [] (lv Ac.enc r) [] []) (p0 : (List Aa)) (p1 : Ah) (p2 : Int) (r : (List Ac)) (h : Eb sf1 p0 p1 p2 = some r) : FnOK Tryz.prog 68 [lv Aa.enc p0,.agg (Ah.pvs p1),i64 p2] [] (.row 0 (r).length) [.row 36 3 (encL Ac.enc r)] [] := by
 refine fI Tryz.func68 rfl fun E gv R hR => ?_
 refine At.sR [0,2,4] [0] [] ?_
 obtain ⟨y2,hy2,h⟩ := bs h
 refine At.sR [0,2,4,7] [0,1] [cT 2 0 [1] (BP p0 p2 y2 hy2)] ?_
 refine At.sR [0,2,4,7,8] [0,1] [] ?_
 refine At.seq ?_
 refine At.sR [0,2,4,7,8,9] [0,1] [] ?_
 refine At.block ?_
 refine At.nK (st' := ⟨[(0,lv Aa.enc p0),(2,i64 p2),(4,.ptr 0 0),(7,.row 1 (y2).length),(8,i64 2),(9,i64 0)],[.blk 44 (Ah.pvs p1),.row 3 1 (encL (eInt .i64) y2)]⟩) [0,2,4,7,8,9] [0,1] ?_
 refine At.lp (fun s : (Int × Int) => ⟨[(0,lv Aa.enc p0),(2,i64 p2),(4,.ptr 0 0),(7,.row 1 (y2).length),(8,i64 s.1),(9,i64 s.2)],[.blk 44 (Ah.pvs p1),.row 3 1 (encL (eInt .i64) y2)]⟩) h ?_
 rintro ⟨x15,x16⟩ oo17 h f18
 replace h : Ci sf1 p0 p1 p2 y2 x15 x16 = some oo17 := h
 refine At.seq ?_
 refine At.sR [0,2,4,7,8,9,23] [0,1] [] ?_
 refine At.cd h (fun b20 h => ?_) (fun b20 h => ?_)
 · refine At.nR [0,2,4,7,8,9] [0,1] ?_
   refine At.skip (norm ?_)
   refine At.seq ?_
   refine At.block ?_
   obtain ⟨y23,hy23,h⟩ := bs h
   obtain ⟨y24,hy24,h⟩ := bs h
   refine At.dG 0 [0,2,4,7,8,9] [0,1] [oT 5 ((AZ (he_int .i64) (d := .int .i64 y23) hy23 rfl).1),vT 6 (.int .i64 y23) ((AZ (he_int .i64) (d := .int .i64 y23) hy23 rfl).2),c0 7 (KZ p0 p1 y23 y24 hy24)] (norm ?_)
   exact At.rK [0,2,4,7,8,9] [0,1] [] fun _ _ i => ⟨_,li h,i⟩
 · refine At.nR [0,2,4,7,8] [0,1] ?_
   obtain ⟨r25,h,e26⟩ := mr h
   rw [f18 _ e26] at h
   refine At.exit (norm ?_)
   refine At.sR [0,2,4,7,10] [0,1] [] ?_
   refine At.sR [0,2,4,7,10,11] [0,1] [] ?_
   refine At.sR [0,2,4,7,10,11,12] [0,1] [] ?_
   refine At.seq ?_
   refine At.seq ?_
   refine At.rK (st' := ⟨[(0,lv Aa.enc p0),(2,i64 p2),(4,.ptr 0 0),(7,.row 1 (y2).length),(10,i64 (w64 (x15 + 1))),(11,i64 (w64 (x15 + 1))),(12,.d (.list true 0 [])),(13,i64 0)],[.blk 44 (Ah.pvs p1),.row 3 1 (encL (eInt .i64) y2)]⟩) [0,2,4,7,10,11,12,13] [0,1] [] (norm ?_)
   refine At.block ?_
   refine At.edNar [.ownS 12 23 1] [0,2,4,7,10,11,12,13] [0,1,2] (st' := ⟨[(0,lv Aa.enc p0),(2,i64 p2),(4,.ptr 0 0),(7,.row 1 (y2).length),(10,i64 (w64 (x15 + 1))),(11,i64 (w64 (x15 + 1))),(12,.row 2 ([] : List (List Ac)).length),(13,i64 0)],[.blk 44 (Ah.pvs p1),.row 3 1 (encL (eInt .i64) y2),.row 23 1 (encL (LX Ac.enc) ([]))]⟩) (by kernel_rfl) ?_
   refine At.lp (fun s : (Int × Int × (List (List Ac))) => ⟨[(0,lv Aa.enc p0),(2,i64 p2),(4,.ptr 0 0),(7,.row 1 (y2).length),(10,i64 (w64 (x15 + 1))),(11,i64 s.1),(12,.row 2 (s.2.2).length),(13,i64 s.2.1)],[.blk 44 (Ah.pvs p1),.row 3 1 (encL (eInt .i64) y2),.row 23 1 (encL (LX Ac.enc) s.2.2)]⟩) h ?_
   rintro ⟨x62,x63,x64⟩ oo65 h f66
   replace h : Cj sf1 p0 p1 p2 y2 x15 x62 x63 x64 = some oo65 := h
   refine At.seq ?_
   refine At.sR [0,2,4,7,10,11,12,13,41] [0,1,2] [] ?_
   refine At.cd h (fun b68 h => ?_) (fun b68 h => ?_)
   · refine At.nR [0,2,4,7,10,11,12,13] [0,1,2] ?_
     refine At.skip (norm ?_)
     refine At.seq ?_
     refine At.block ?_
     obtain ⟨y88,hy88,h⟩ := bs h
     obtain ⟨y89,hy89,h⟩ := bs h
     obtain ⟨y90,hy90,h⟩ := bs h
     obtain ⟨y91,hy91,h⟩ := bs h
     obtain ⟨y92,hy92,h⟩ := bs h
     obtain ⟨g93,h⟩ := gs h
     refine At.sD 1 [0,2,4,7,10,11,12,13] [0,1,2] [oT 6 ((AZ (he_int .i64) (d := .int .i64 y88) hy88 rfl).1),vT 7 (.int .i64 y88) ((AZ (he_int .i64) (d := .int .i64 y88) hy88 rfl).2),oT 11 ((AZ (he_int .i64) (d := .int .i64 y89) hy89 rfl).1),vT 12 (.int .i64 y89) ((AZ (he_int .i64) (d := .int .i64 y89) hy89 rfl).2),eT Aa.enc_len 13 hy90,c0 17 (Er p0 y88 (w64 (y90.Kids - 1)) y91 hy91),c0 18 (hf1 p0 p1 y91 y92 hy92),aT (IT Ac.enc) 20 x64 ([y92]) rfl g93] ?_
     obtain ⟨y94,hy94,h⟩ := bs h
     refine At.rG [0,2,4,7,10,11,12,13] [0,1,2] [oT 3 ((AZ (IT Ac.enc) (d := .list false (y94).length (encL Ac.enc y94)) hy94 rfl).1),vT 4 (.list false (y94).length (encL Ac.enc y94)) ((AZ (IT Ac.enc) (d := .list false (y94).length (encL Ac.enc y94)) hy94 rfl).2)] (norm ?_)
     exact At.rK [0,2,4,7,10,11,12,13] [0,1,2] [] fun _ _ i => ⟨_,li h,i⟩
   · refine At.nR [0,2,4,7,10,11,12] [0,1,2] ?_
     obtain ⟨r95,h,e96⟩ := mr h
     rw [f66 _ e96] at h
     refine At.exit (norm ?_)
     obtain ⟨y101,hy101,h⟩ := bs h
     obtain ⟨y102,hy102,h⟩ := bs h
     obtain ⟨y103,hy103,h⟩ := bs h
     obtain ⟨y104,hy104,h⟩ := bs h
     refine At.sR [0,4,7,10,11,12,14] [0,1,2,5] [c0 2 (I5 p0 p2 y101 hy101),cT 3 0 [3] (AY 1 y101 0 y102 hy102),cT 4 0 [4] (AY 25 0 0 y103 hy103),cT 5 2 [3,4,5] (A4 y102 y103 y104 hy104)] ?_
     refine At.seq ?_
     refine At.sR [0,4,7,10,11,12,14,15] [0,1,2,3] [] ?_
     refine At.block ?_
     refine At.nK (st' := ⟨[(0,lv Aa.enc p0),(4,.ptr 0 0),(7,.row 1 (y2).length),(10,i64 (w64 (x15 + 1))),(11,i64 x62),(12,.row 2 (x64).length),(14,.row 3 (y104).length),(15,i64 0)],[.blk 44 (Ah.pvs p1),.row 3 1 (encL (eInt .i64) y2),.row 23 1 (encL (LX Ac.enc) x64),.row 36 3 (encL Ac.enc y104)]⟩) [0,4,7,10,11,12,14,15] [0,1,2,3] ?_
     refine At.lp (fun s : (Int × Int × (List Ac)) => ⟨[(0,lv Aa.enc p0),(4,.ptr 0 0),(7,.row 1 (y2).length),(10,i64 s.1),(11,i64 x62),(12,.row 2 (x64).length),(14,.row 3 (s.2.2).length),(15,i64 s.2.1)],[.blk 44 (Ah.pvs p1),.row 3 1 (encL (eInt .i64) y2),.row 23 1 (encL (LX Ac.enc) x64),.row 36 3 (encL Ac.enc s.2.2)]⟩) h ?_
     rintro ⟨x128,x129,x130⟩ oo131 h f132
     replace h : Ck sf1 p0 p1 y2 x62 x64 x128 x129 x130 = some oo131 := h
     refine At.seq ?_
     refine At.sR [0,4,7,10,11,12,14,15,82] [0,1,2,3] [] ?_
     refine At.cd h (fun b134 h => ?_) (fun b134 h => ?_)
     · refine At.nR [0,4,7,10,11,12,14,15] [0,1,2,3] ?_
       refine At.skip (norm ?_)
       refine At.seq ?_
       refine At.block ?_
       obtain ⟨y145,hy145,h⟩ := bs h
       obtain ⟨y146,hy146,h⟩ := bs h
       obtain ⟨g147,h⟩ := gs h
       refine At.sD 1 [0,4,7,10,11,12,14,15] [0,1,2,3] [oT 5 ((AZ (he_int .i64) (d := .int .i64 y145) hy145 rfl).1),vT 6 (.int .i64 y145) ((AZ (he_int .i64) (d := .int .i64 y145) hy145 rfl).2),cT 10 0 [4] (I4 p0 p1 y145 ((x130).length : Int) x128 y146 hy146),aT Ac.enc_len 11 x130 y146 rfl g147] ?_
       obtain ⟨y148,hy148,h⟩ := bs h
       refine At.rG [0,4,7,10,11,12,14,15] [0,1,2,3] [oT 3 ((AZ (IT Ac.enc) (d := .list false (y148).length (encL Ac.enc y148)) hy148 rfl).1),vT 4 (.list false (y148).length (encL Ac.enc y148)) ((AZ (IT Ac.enc) (d := .list false (y148).length (encL Ac.enc y148)) hy148 rfl).2)] (norm ?_)
       exact At.rK [0,4,7,10,11,12,14,15] [0,1,2,3] [] fun _ _ i => ⟨_,li h,i⟩
     · refine At.nR [7,11,12,14] [1,2,3] ?_
       obtain ⟨r149,h,e150⟩ := mr h
       rw [f132 _ e150] at h
       refine At.exit (norm ?_)
       obtain ⟨g152,h⟩ := gs h
       refine At.sR [7,11,12,14] [0,1,2] [aT Ac.enc_len 3 x130 ([(⟨23,0,0⟩ : Ac)]) rfl g152] ?_
       refine At.seq ?_
       refine At.sR [7,11,12,14,16] [0,1,2] [] ?_
       refine At.block ?_
       refine At.nK (st' := ⟨[(7,.row 0 (y2).length),(11,i64 x62),(12,.row 1 (x64).length),(14,.row 2 ((x130 ++ [(⟨23,0,0⟩ : Ac)])).length),(16,i64 0)],[.row 3 1 (encL (eInt .i64) y2),.row 23 1 (encL (LX Ac.enc) x64),.row 36 3 (encL Ac.enc (x130 ++ [(⟨23,0,0⟩ : Ac)]))]⟩) [7,11,12,14,16] [0,1,2] ?_
       refine At.lp (fun s : (Int × (List Ac)) => ⟨[(7,.row 0 (y2).length),(11,i64 x62),(12,.row 1 (x64).length),(14,.row 2 (s.2).length),(16,i64 s.1)],[.row 3 1 (encL (eInt .i64) y2),.row 23 1 (encL (LX Ac.enc) x64),.row 36 3 (encL Ac.enc s.2)]⟩) h ?_
       rintro ⟨x171,x172⟩ oo173 h f174
       replace h : Cl sf1 y2 x62 x64 x171 x172 = some oo173 := h
       refine At.seq ?_
       refine At.sR [7,11,12,14,16,112] [0,1,2] [] ?_
       refine At.cd h (fun b176 h => ?_) (fun b176 h => ?_)
       · refine At.nR [7,11,12,14,16] [0,1,2] ?_
         refine At.skip (norm ?_)
         refine At.seq ?_
         refine At.block ?_
         obtain ⟨y184,hy184,h⟩ := bs h
         obtain ⟨y185,hy185,h⟩ := bs h
         refine At.sR [7,11,12,14,16] [0,1,3] [oT 3 ((AZ (IT Ac.enc) (d := .list false (y184).length (encL Ac.enc y184)) hy184 rfl).1),vT 4 (.list false (y184).length (encL Ac.enc y184)) ((AZ (IT Ac.enc) (d := .list false (y184).length (encL Ac.enc y184)) hy184 rfl).2),cX 5 0 [3] [2] true (DF x172 y184 y185 hy185)] ?_
         obtain ⟨g186,h⟩ := gs h
         refine At.rG [7,11,12,14,16] [0,1,2] [aT Ac.enc_len 4 y185 ([(⟨6,x62,0⟩ : Ac)]) rfl g186] (norm ?_)
         exact At.rK [7,11,12,14,16] [0,1,2] [] fun _ _ i => ⟨_,li h,i⟩
       · refine At.nR [14] [2] ?_
         obtain ⟨r187,h,e188⟩ := mr h
         rw [f174 _ e188] at h
         refine At.exit (norm ?_)
         refine At.sR [6] [0] [] ?_
         obtain rfl := sq h
         exact At.ret (At.rR hR [0])
theorem Kg (sf1 : (List Aa) → Ah → Int → Option ((List Ac))) (hf1 : ∀ (p0 : (List Aa)) (p1 : Ah) (p2 : Int) (r : (List Ac)),sf1 p0 p1 p2 = some r → FnOK Tryz.prog 19 [lv Aa.enc p0,.agg (Ah.pvs p1),i64 p2] [] (lv Ac.enc r) [] []) (p0 : (List Aa)) (p1 : Ah) (p2 : Int) (r : (List Ac)) (h : F5 sf1 p0 p1 p2 = some r) : FnOK Tryz.prog 40 [lv Aa.enc p0,.agg (Ah.pvs p1),i64 p2] [] (.row 0 (r).length) [.row 36 3 (encL Ac.enc r)] [] := by
 refine fI Tryz.func40 rfl fun E gv R hR => ?_
 refine At.sR [0,2,4] [0] [] ?_
 obtain ⟨y4,hy4,h⟩ := bs h
 obtain ⟨y5,hy5,h⟩ := bs h
 obtain ⟨y6,hy6,h⟩ := bs h
 refine At.sD 2 [0,2,4,7,8] [0,2,1] [eT Aa.enc_len 2 hy4,c0 6 (I5 p0 p2 y5 hy5),cT 7 0 [1] (AY 1 y5 0 y6 hy6)] ?_
 refine At.seq ?_
 refine At.sR [0,2,4,7,8,23] [0,1,2] [] ?_
 refine At.block ?_
 refine At.seqJ (S := Bool) (fun s => ⟨[(0,lv Aa.enc p0),(2,i64 p2),(4,.ptr 0 0),(7,.ptr 1 0),(8,.row 2 (y6).length),(23,i64 y4.Op),(24,bo s)],[.blk 44 (Ah.pvs p1),.blk 67 (Aa.pvs y4),.row 36 3 (encL Ac.enc y6)]⟩) (fun s => AJ sf1 p0 p1 p2 y4 y6 s = some r) ?_ ?_
 · refine At.sR [0,2,4,7,8,23,24] [0,1,2] [] ?_
   refine At.cd h (fun b274 h => ?_) (fun b274 h => ?_)
   · refine At.skip (fun _ _ i => ⟨(y4.Op == 18),h,i.en [] [0,2,4,7,8,23,24] [0,1,2]⟩)
   · exact At.rK [0,2,4,7,8,23,24] [0,1,2] [] fun _ _ i => ⟨(y4.Op == 19),h,i⟩
 · intro x112 h
   refine At.cd h (fun b113 h => ?_) (fun b113 h => ?_)
   · refine At.seq ?_
     refine At.settle [2] (st' := ⟨[(0,lv Aa.enc p0),(2,i64 p2),(4,.ptr 0 0),(7,.ptr 1 0),(8,lv Ac.enc y6),(23,i64 y4.Op),(24,bo x112)],[.blk 44 (Ah.pvs p1),.blk 67 (Aa.pvs y4),.dead]⟩) (by kernel_rfl) ?_
     obtain ⟨y121,hy121,h⟩ := bs h
     obtain ⟨y122,hy122,h⟩ := bs h
     obtain ⟨y123,hy123,h⟩ := bs h
     obtain ⟨y124,hy124,h⟩ := bs h
     obtain ⟨y125,hy125,h⟩ := bs h
     refine At.dG 4 [6] [6] [cT 4 0 [3] (CP p0 p1 p2 y121 hy121),cT 5 1 [3,4] (AS y6 y121 y122 hy122),eT (he_int .i64) 9 hy123,cT 11 0 [5] (AY 4 y123 0 y124 hy124),cT 12 2 [4,5,6] (A4 y122 y124 y125 hy125)] (norm ?_)
     obtain rfl := sq h
     exact At.ret (At.rR hR [0])
   · refine At.sR [0,2,4,7,8,23,40] [0,1,2] [] ?_
     refine At.cd h (fun b126 h => ?_) (fun b126 h => ?_)
     · refine At.seq ?_
       refine At.settle [2] (st' := ⟨[(0,lv Aa.enc p0),(2,i64 p2),(4,.ptr 0 0),(7,.ptr 1 0),(8,lv Ac.enc y6),(23,i64 y4.Op),(40,bo (y4.Op == 20))],[.blk 44 (Ah.pvs p1),.blk 67 (Aa.pvs y4),.dead]⟩) (by kernel_rfl) ?_
       obtain ⟨y134,hy134,h⟩ := bs h
       obtain ⟨y135,hy135,h⟩ := bs h
       obtain ⟨y136,hy136,h⟩ := bs h
       obtain ⟨y137,hy137,h⟩ := bs h
       obtain ⟨y138,hy138,h⟩ := bs h
       refine At.dG 4 [6] [6] [cT 4 0 [3] (CP p0 p1 p2 y134 hy134),cT 5 1 [3,4] (AS y6 y134 y135 hy135),eT (he_int .i64) 9 hy136,cT 11 0 [5] (AY 12 y136 0 y137 hy137),cT 12 2 [4,5,6] (A4 y135 y137 y138 hy138)] (norm ?_)
       obtain rfl := sq h
       exact At.ret (At.rR hR [0])
     · refine At.sR [0,2,4,7,8,23,55] [0,1,2] [] ?_
       refine At.cd h (fun b139 h => ?_) (fun b139 h => ?_)
       · obtain ⟨y144,hy144,h⟩ := bs h
         obtain ⟨y145,hy145,h⟩ := bs h
         obtain ⟨y146,hy146,h⟩ := bs h
         obtain ⟨y147,hy147,h⟩ := bs h
         refine At.sR [6] [6] [cT 4 0 [3] (CP p0 p1 p2 y144 hy144),cX 5 1 [3,4] [2] true (AS y6 y144 y145 hy145),cT 6 0 [5] (AY 10 0 0 y146 hy146),cT 7 2 [4,5,6] (A4 y145 y146 y147 hy147)] ?_
         obtain rfl := sq h
         exact At.ret (At.rR hR [0])
       · refine At.sR [0,2,4,7,8,23,65] [0,1,2] [] ?_
         refine At.cd h (fun b148 h => ?_) (fun b148 h => ?_)
         · refine At.seq ?_
           refine At.settle [2] (st' := ⟨[(0,lv Aa.enc p0),(2,i64 p2),(4,.ptr 0 0),(7,.ptr 1 0),(8,lv Ac.enc y6),(23,i64 y4.Op),(65,bo (y4.Op == 22))],[.blk 44 (Ah.pvs p1),.blk 67 (Aa.pvs y4),.dead]⟩) (by kernel_rfl) ?_
           obtain ⟨y156,hy156,h⟩ := bs h
           obtain ⟨y157,hy157,h⟩ := bs h
           obtain ⟨y158,hy158,h⟩ := bs h
           obtain ⟨y159,hy159,h⟩ := bs h
           obtain ⟨y160,hy160,h⟩ := bs h
           refine At.dG 4 [6] [6] [cT 4 0 [3] (CP p0 p1 p2 y156 hy156),cT 5 1 [3,4] (AS y6 y156 y157 hy157),eT (he_int .i64) 9 hy158,cT 11 0 [5] (AY 11 y158 0 y159 hy159),cT 12 2 [4,5,6] (A4 y157 y159 y160 hy160)] (norm ?_)
           obtain rfl := sq h
           exact At.ret (At.rR hR [0])
         · refine At.sR [0,2,4,7,8,23,80] [0,1,2] [] ?_
           refine At.cd h (fun b161 h => ?_) (fun b161 h => ?_)
           · obtain ⟨y166,hy166,h⟩ := bs h
             obtain ⟨y167,hy167,h⟩ := bs h
             obtain ⟨y168,hy168,h⟩ := bs h
             obtain ⟨y169,hy169,h⟩ := bs h
             refine At.sR [6] [6] [cT 4 0 [3] (CP p0 p1 p2 y166 hy166),cX 5 1 [3,4] [2] true (AS y6 y166 y167 hy167),cT 6 0 [5] (AY 13 0 0 y168 hy168),cT 7 2 [4,5,6] (A4 y167 y168 y169 hy169)] ?_
             obtain rfl := sq h
             exact At.ret (At.rR hR [0])
           · refine At.sR [0,2,4,7,8,23,90] [0,1,2] [] ?_
             refine At.cd h (fun b170 h => ?_) (fun b170 h => ?_)
             · refine At.seq ?_
               obtain ⟨y175,hy175,h⟩ := bs h
               obtain ⟨y176,hy176,h⟩ := bs h
               obtain ⟨y177,hy177,h⟩ := bs h
               obtain ⟨y178,hy178,h⟩ := bs h
               refine At.rK (st' := ⟨[(6,.row 0 (y178).length)],[.row 36 3 (encL Ac.enc y178)]⟩) [6] [6] [cT 4 0 [3] (CP p0 p1 p2 y175 hy175),cX 5 1 [3,4] [2] true (AS y6 y175 y176 hy176),cT 6 0 [5] (AY 15 0 0 y177 hy177),cT 7 2 [4,5,6] (A4 y176 y177 y178 hy178)] (norm ?_)
               obtain rfl := sq h
               exact At.ret (At.rR hR [0])
             · refine At.seq ?_
               refine At.rK (st' := ⟨[(0,lv Aa.enc p0),(2,i64 p2),(4,.ptr 0 0),(7,.ptr 1 0),(8,.row 2 (y6).length),(23,i64 y4.Op),(100,bo (y4.Op == 29))],[.blk 44 (Ah.pvs p1),.blk 67 (Aa.pvs y4),.row 36 3 (encL Ac.enc y6)]⟩) [0,2,4,7,8,23,100] [0,1,2] [] (norm ?_)
               refine At.cd h (fun b179 h => ?_) (fun b179 h => ?_)
               · obtain ⟨y184,hy184,h⟩ := bs h
                 obtain ⟨y185,hy185,h⟩ := bs h
                 obtain ⟨y186,hy186,h⟩ := bs h
                 obtain ⟨y187,hy187,h⟩ := bs h
                 refine At.sR [6] [6] [cT 4 0 [3] (CP p0 p1 p2 y184 hy184),cX 5 1 [3,4] [2] true (AS y6 y184 y185 hy185),cT 6 0 [5] (AY 16 0 0 y186 hy186),cT 7 2 [4,5,6] (A4 y185 y186 y187 hy187)] ?_
                 obtain rfl := sq h
                 exact At.ret (At.rR hR [0])
               · refine At.sR [0,2,4,7,8,23,110] [0,1,2] [] ?_
                 refine At.cd h (fun b188 h => ?_) (fun b188 h => ?_)
                 · obtain ⟨y191,hy191,h⟩ := bs h
                   obtain ⟨y192,hy192,h⟩ := bs h
                   refine At.sR [6] [4] [cT 1 0 [3] (AY 17 0 0 y191 hy191),cX 2 1 [3,4] [2] true (AS y6 y191 y192 hy192)] ?_
                   obtain rfl := sq h
                   exact At.ret (At.rR hR [0])
                 · refine At.sR [0,2,4,7,8,23,115] [0,1,2] [] ?_
                   refine At.cd h (fun b193 h => ?_) (fun b193 h => ?_)
                   · obtain ⟨y196,hy196,h⟩ := bs h
                     obtain ⟨y197,hy197,h⟩ := bs h
                     refine At.sR [6] [4] [cT 1 0 [3] (AY 18 0 0 y196 hy196),cX 2 1 [3,4] [2] true (AS y6 y196 y197 hy197)] ?_
                     obtain rfl := sq h
                     exact At.ret (At.rR hR [0])
                   · refine At.sR [0,2,4,7,8,23,120] [0,1,2] [] ?_
                     refine At.cd h (fun b198 h => ?_) (fun b198 h => ?_)
                     · refine At.seq ?_
                       refine At.settle [2] (st' := ⟨[(0,lv Aa.enc p0),(2,i64 p2),(4,.ptr 0 0),(7,.ptr 1 0),(8,lv Ac.enc y6),(23,i64 y4.Op),(120,bo (y4.Op == 26))],[.blk 44 (Ah.pvs p1),.blk 67 (Aa.pvs y4),.dead]⟩) (by kernel_rfl) ?_
                       obtain ⟨y206,hy206,h⟩ := bs h
                       obtain ⟨y207,hy207,h⟩ := bs h
                       obtain ⟨y208,hy208,h⟩ := bs h
                       obtain ⟨y209,hy209,h⟩ := bs h
                       obtain ⟨y210,hy210,h⟩ := bs h
                       refine At.dG 4 [6] [6] [cT 4 0 [3] (CP p0 p1 p2 y206 hy206),cT 5 1 [3,4] (AS y6 y206 y207 hy207),eT (he_int .i64) 9 hy208,cT 13 0 [5] (AY 14 y208 y4.Kids y209 hy209),cT 14 2 [4,5,6] (A4 y207 y209 y210 hy210)] (norm ?_)
                       obtain rfl := sq h
                       exact At.ret (At.rR hR [0])
                     · refine At.sR [0,2,4,7,8,137] [0,1,2] [] ?_
                       refine At.cd h (fun b211 h => ?_) (fun b211 h => ?_)
                       · obtain ⟨y213,hy213,h⟩ := bs h
                         refine At.sR [6] [3] [cT 3 0 [3] (JM sf1 hf1 p0 p1 p2 y213 hy213)] ?_
                         obtain rfl := sq h
                         exact At.ret (At.rR hR [0])
                       · refine At.nR [0,2,4,7,8] [0,1,2] ?_
                         refine At.skip (norm ?_)
                         refine At.seq ?_
                         obtain ⟨y216,hy216,h⟩ := bs h
                         obtain ⟨y217,hy217,h⟩ := bs h
                         refine At.rK (st' := ⟨[(0,lv Aa.enc p0),(2,i64 p2),(4,.ptr 0 0),(7,.ptr 1 0),(9,.row 2 (y217).length)],[.blk 44 (Ah.pvs p1),.blk 67 (Aa.pvs y4),.row 36 3 (encL Ac.enc y217)]⟩) [0,2,4,7,9] [0,1,4] [cT 5 0 [3] (HQ p0 p1 (w64 (p2 + 1)) y216 hy216),cX 6 1 [3,4] [2] true (AS y6 y216 y217 hy217)] (norm ?_)
                         obtain ⟨y220,hy220,h⟩ := bs h
                         obtain ⟨y221,hy221,h⟩ := bs h
                         refine At.sD 0 [0,2,4,7,9,10] [0,1,2] [c0 4 (Er p0 p2 1 y220 hy220),c0 5 (hf1 p0 p1 y220 y221 hy221)] ?_
                         refine At.seq ?_
                         refine At.sR [0,2,4,7,9,10,158] [0,1,2] [] ?_
                         refine At.cd h (fun b233 h => ?_) (fun b233 h => ?_)
                         · refine At.sR [9,10,11] [2] [] ?_
                           obtain ⟨y239,hy239,h⟩ := bs h
                           obtain ⟨y240,hy240,h⟩ := bs h
                           obtain ⟨y241,hy241,h⟩ := bs h
                           obtain ⟨y242,hy242,h⟩ := bs h
                           obtain ⟨y243,hy243,h⟩ := bs h
                           refine At.sR [6] [5] [cT 5 0 [1] (AY 7 (w64 ((w64 ((w64 ((w64 (((y217).length : Int) + 1)) + ((y221).length : Int))) + 1)) - ((y217).length : Int))) 0 y239 hy239),cX 6 1 [1,2] [0] true (AS y217 y239 y240 hy240),cT 8 1 [2,3] (FY y221 y240 y241 hy241),cT 12 0 [4] (AY 6 (w64 ((w64 (0 - (w64 ((w64 ((w64 (((y217).length : Int) + 1)) + ((y221).length : Int))) + 1)))) + 1)) 0 y242 hy242),cT 13 2 [3,4,5] (A4 y241 y242 y243 hy243)] ?_
                           obtain rfl := sq h
                           exact At.ret (At.rR hR [0])
                         · refine At.nR [0,2,4,7,9,10] [0,1,2] ?_
                           refine At.skip (norm ?_)
                           refine At.seq ?_
                           refine At.sR [0,2,4,9,10,182] [0,2] [] ?_
                           refine At.cd h (fun b251 h => ?_) (fun b251 h => ?_)
                           · obtain ⟨y255,hy255,h⟩ := bs h
                             obtain ⟨y256,hy256,h⟩ := bs h
                             obtain ⟨y257,hy257,h⟩ := bs h
                             refine At.sR [6] [4] [cT 4 0 [2] (AY 7 (w64 (1 + ((y221).length : Int))) 0 y255 hy255),cX 5 1 [2,3] [1] true (AS y217 y255 y256 hy256),cT 7 1 [3,4] (FY y221 y256 y257 hy257)] ?_
                             obtain rfl := sq h
                             exact At.ret (At.rR hR [0])
                           · refine At.nR [0,2,4,9,10] [0,1] ?_
                             refine At.skip (norm ?_)
                             refine At.seq ?_
                             obtain ⟨y260,hy260,h⟩ := bs h
                             obtain ⟨y261,hy261,h⟩ := bs h
                             refine At.dK (st' := ⟨[(9,.row 0 (y217).length),(10,lv Ac.enc y221),(12,lv Ac.enc y261)],[.row 36 3 (encL Ac.enc y217)]⟩) 0 [9,10,12] [1] [c0 4 (Er p0 p2 2 y260 hy260),c0 5 (hf1 p0 p1 y260 y261 hy261)] (norm ?_)
                             obtain ⟨y265,hy265,h⟩ := bs h
                             obtain ⟨y266,hy266,h⟩ := bs h
                             obtain ⟨y267,hy267,h⟩ := bs h
                             refine At.sR [12,13] [3] [cT 4 0 [1] (AY 7 (w64 (2 + ((y221).length : Int))) 0 y265 hy265),cX 5 1 [1,2] [0] true (AS y217 y265 y266 hy266),cT 7 1 [2,3] (FY y221 y266 y267 hy267)] ?_
                             obtain ⟨y271,hy271,h⟩ := bs h
                             obtain ⟨y272,hy272,h⟩ := bs h
                             obtain ⟨y273,hy273,h⟩ := bs h
                             refine At.sR [6] [3] [cT 4 0 [1] (AY 6 (w64 (1 + ((y261).length : Int))) 0 y271 hy271),cX 5 1 [1,2] [0] true (AS y267 y271 y272 hy272),cT 7 1 [2,3] (FY y261 y272 y273 hy273)] ?_
                             obtain rfl := sq h
                             exact At.ret (At.rR hR [0])
theorem JV (sf1 : (List Aa) → Ah → Int → Option ((List Ac))) (hf1 : ∀ (p0 : (List Aa)) (p1 : Ah) (p2 : Int) (r : (List Ac)),sf1 p0 p1 p2 = some r → FnOK Tryz.prog 19 [lv Aa.enc p0,.agg (Ah.pvs p1),i64 p2] [] (lv Ac.enc r) [] []) (p0 : (List Aa)) (p1 : Ah) (p2 : Int) (r : (List Ac)) (h : FJ sf1 p0 p1 p2 = some r) : FnOK Tryz.prog 19 [lv Aa.enc p0,.agg (Ah.pvs p1),i64 p2] [] (lv Ac.enc r) [] [] := by
 refine fI Tryz.func19 rfl fun E gv R hR => ?_
 refine At.sR [0,2,4] [0] [] ?_
 refine At.sR [0,2,4,7] [0] [] ?_
 obtain ⟨y2,hy2,h⟩ := bs h
 refine At.sR [0,4,7,8] [0,1] [cT 2 0 [1] (BP p0 p2 y2 hy2)] ?_
 refine At.seq ?_
 refine At.sR [0,4,7,8,9] [0,1] [] ?_
 refine At.block ?_
 refine At.nK (st' := ⟨[(0,lv Aa.enc p0),(4,.ptr 0 0),(7,.d (.list true 0 [])),(8,.row 1 (y2).length),(9,i64 0)],[.blk 44 (Ah.pvs p1),.row 3 1 (encL (eInt .i64) y2)]⟩) [0,4,7,8,9] [0,1] ?_
 refine At.edNar [.ownS 7 36 3] [0,4,7,8,9] [0,2,1] (st' := ⟨[(0,lv Aa.enc p0),(4,.ptr 0 0),(7,.row 1 ([] : List Ac).length),(8,.row 2 (y2).length),(9,i64 0)],[.blk 44 (Ah.pvs p1),.row 36 3 (encL Ac.enc ([])),.row 3 1 (encL (eInt .i64) y2)]⟩) (by kernel_rfl) ?_
 refine At.lp (fun s : (Int × (List Ac)) => ⟨[(0,lv Aa.enc p0),(4,.ptr 0 0),(7,.row 1 (s.2).length),(8,.row 2 (y2).length),(9,i64 s.1)],[.blk 44 (Ah.pvs p1),.row 36 3 (encL Ac.enc s.2),.row 3 1 (encL (eInt .i64) y2)]⟩) h ?_
 rintro ⟨x21,x22⟩ oo23 h f24
 replace h : Cw sf1 p0 p1 y2 x21 x22 = some oo23 := h
 refine At.seq ?_
 refine At.sR [0,4,7,8,9,16] [0,1,2] [] ?_
 refine At.cd h (fun b26 h => ?_) (fun b26 h => ?_)
 · refine At.nR [0,4,7,8,9] [0,1,2] ?_
   refine At.skip (norm ?_)
   refine At.seq ?_
   refine At.block ?_
   refine At.settle [1] (st' := ⟨[(0,lv Aa.enc p0),(4,.ptr 0 0),(7,lv Ac.enc x22),(8,.row 2 (y2).length),(9,i64 x21)],[.blk 44 (Ah.pvs p1),.dead,.row 3 1 (encL (eInt .i64) y2)]⟩) (by kernel_rfl) ?_
   obtain ⟨y34,hy34,h⟩ := bs h
   obtain ⟨y35,hy35,h⟩ := bs h
   obtain ⟨y36,hy36,h⟩ := bs h
   refine At.dG 2 [0,4,7,8,9] [0,4,2] [oT 5 ((AZ (he_int .i64) (d := .int .i64 y34) hy34 rfl).1),vT 6 (.int .i64 y34) ((AZ (he_int .i64) (d := .int .i64 y34) hy34 rfl).2),cT 7 0 [3] (Kg sf1 hf1 p0 p1 y34 y35 hy35),cT 8 1 [3,4] (AS x22 y35 y36 hy36)] (norm ?_)
   exact At.rK [0,4,7,8,9] [0,1,2] [] fun _ _ i => ⟨_,li h,i⟩
 · refine At.nR [7] [1] ?_
   obtain ⟨r37,h,e38⟩ := mr h
   rw [f24 _ e38] at h
   refine At.exit (norm ?_)
   refine At.sR [6] [0] [] ?_
   refine At.eN [.settle 0] [6] [] ?_
   obtain rfl := sq h
   exact At.ret (At.rR hR [])
theorem Ia : ∀ n : Nat,(∀ (p0 : (List Aa)) (p1 : Ah) (p2 : Int) (r : (List Ac)),(B7 n) p0 p1 p2 = some r → FnOK Tryz.prog 19 [lv Aa.enc p0,.agg (Ah.pvs p1),i64 p2] [] (lv Ac.enc r) [] [])
 | 0 => fun _ _ _ _ h => by cases h
 | n + 1 => JV (B7 n) (Ia n)
theorem Kw (p0 : (List Aa)) (p1 : Ah) (p2 : Int) (r : (List Ac)) (h : Hy p0 p1 p2 = some r) : FnOK Tryz.prog 19 [lv Aa.enc p0,.agg (Ah.pvs p1),i64 p2] [] (lv Ac.enc r) [] [] :=
 (Ia 4000) p0 p1 p2 r h
theorem LG (p0 : (List Aa)) (r : AA) (h : Hv p0 = some r) : FnOK Tryz.prog 10 [lv Aa.enc p0] [] (.agg (AA.pvs r)) [] [] := by
 refine fI Tryz.func10 rfl fun E gv R hR => ?_
 refine At.sR [0,2] [0] [] ?_
 obtain ⟨y2,hy2,h⟩ := bs h
 refine At.sR [0,2,3] [0,1] [c0 1 (Ju p0 y2 hy2)] ?_
 refine At.seq ?_
 refine At.sR [0,2,3,12] [0,1] [] ?_
 refine At.cd h (fun b4 h => ?_) (fun b4 h => ?_)
 · refine At.sR [2] [0] [] ?_
   refine At.eN [.loO 0] [2] [0] ?_
   obtain rfl := sq h
   exact At.ret (At.rR hR [])
 · refine At.nR [0,2,3] [0,1] ?_
   refine At.skip (norm ?_)
   refine At.sR [0,2,3,4] [0,1,2] [] ?_
   refine At.seq ?_
   refine At.seq ?_
   refine At.rK (st' := ⟨[(0,lv Aa.enc p0),(2,.ptr 0 0),(3,.ptr 1 0),(4,.ptr 2 0),(5,i64 0)],[.blk 29 [.d (.list true 0 []),.d (.list true 0 []),.d (.list true 0 []),i64 0,i64 0,i64 0,i64 0],.blk 64 (Ap.pvs y2),.blk 27 [.d (.list true 0 []),.d (.list true 0 []),lv Ak.enc y2.P.Chans,i64 y2.P.Main,i64 0]]⟩) [0,2,3,4,5] [0,1,2] [] (norm ?_)
   refine At.block ?_
   refine At.edNar [.ownO 2 0 36 3,.ownO 2 1 38 4] [0,2,3,4,5] [0,1,2,3,4] (st' := ⟨[(0,lv Aa.enc p0),(2,.ptr 0 0),(3,.ptr 1 0),(4,.ptr 2 0),(5,i64 0)],[.blk 29 [.d (.list true 0 []),.d (.list true 0 []),.d (.list true 0 []),i64 0,i64 0,i64 0,i64 0],.blk 64 (Ap.pvs y2),.blk 27 [.row 3 ([] : List Ac).length,.row 4 ([] : List Ao).length,lv Ak.enc y2.P.Chans,i64 y2.P.Main,i64 0],.row 36 3 (encL Ac.enc ([])),.row 38 4 (encL Ao.enc ([]))]⟩) (by kernel_rfl) ?_
   refine At.lp (fun s : (Int × (List Ac) × (List Ao)) => ⟨[(0,lv Aa.enc p0),(2,.ptr 0 0),(3,.ptr 1 0),(4,.ptr 2 0),(5,i64 s.1)],[.blk 29 [.d (.list true 0 []),.d (.list true 0 []),.d (.list true 0 []),i64 0,i64 0,i64 0,i64 0],.blk 64 (Ap.pvs y2),.blk 27 [.row 3 (s.2.1).length,.row 4 (s.2.2).length,lv Ak.enc y2.P.Chans,i64 y2.P.Main,i64 0],.row 36 3 (encL Ac.enc s.2.1),.row 38 4 (encL Ao.enc s.2.2)]⟩) h ?_
   rintro ⟨x52,x53,x54⟩ oo55 h f56
   replace h : Gg p0 y2 x52 x53 x54 = some oo55 := h
   refine At.seq ?_
   refine At.sR [0,2,3,4,5,30] [0,1,2,3,4] [] ?_
   refine At.cd h (fun b58 h => ?_) (fun b58 h => ?_)
   · refine At.nR [0,2,3,4,5] [0,1,2,3,4] ?_
     refine At.skip (norm ?_)
     refine At.seq ?_
     refine At.block ?_
     obtain ⟨y79,hy79,h⟩ := bs h
     refine At.sR [0,2,3,4,5,6] [0,1,2,3,4,5] [eT Aq.enc_len 4 hy79] ?_
     obtain ⟨g81,h⟩ := gs h
     refine At.sR [0,2,3,4,5,6] [0,1,2,3,4,5] [aT Ao.enc_len 14 x54 ([(⟨y79.Name,((x53).length : Int),y79.Params,((y79.Vars).length : Int)⟩ : Ao)]) rfl g81] ?_
     refine At.seq ?_
     refine At.settle [3] (st' := ⟨[(0,lv Aa.enc p0),(2,.ptr 0 0),(3,.ptr 1 0),(4,.ptr 2 0),(5,i64 x52),(6,.ptr 5 0)],[.blk 29 [.d (.list true 0 []),.d (.list true 0 []),.d (.list true 0 []),i64 0,i64 0,i64 0,i64 0],.blk 64 (Ap.pvs y2),.blk 27 [lv Ac.enc x53,.row 4 ((x54 ++ [(⟨y79.Name,((x53).length : Int),y79.Params,((y79.Vars).length : Int)⟩ : Ao)])).length,lv Ak.enc y2.P.Chans,i64 y2.P.Main,i64 0],.dead,.row 38 4 (encL Ao.enc (x54 ++ [(⟨y79.Name,((x53).length : Int),y79.Params,((y79.Vars).length : Int)⟩ : Ao)])),.blk 70 (Aq.pvs y79)]⟩) (by kernel_rfl) ?_
     obtain ⟨y92,hy92,h⟩ := bs h
     obtain ⟨y93,hy93,h⟩ := bs h
     obtain ⟨y94,hy94,h⟩ := bs h
     obtain ⟨y95,hy95,h⟩ := bs h
     refine At.dG 1 [0,2,3,4,5] [0,1,2,6,4] [eT Aa.enc_len 11 hy92,c0 15 (Er p0 y79.Node (w64 (y92.Kids - 1)) y93 hy93),c0 16 (Kw p0 y2.P y93 y94 hy94),cT 17 0 [6] (DF x53 y94 y95 hy95)] (norm ?_)
     obtain ⟨g96,h⟩ := gs h
     refine At.rG [0,2,3,4,5] [0,1,2,3,4] [aT Ac.enc_len 4 y95 ([(⟨24,0,0⟩ : Ac)]) rfl g96] (norm ?_)
     exact At.rK [0,2,3,4,5] [0,1,2,3,4] [] fun _ _ i => ⟨_,li h,i⟩
   · refine At.nR [0,2,4] [0,2,3,4] ?_
     obtain ⟨r97,h,e98⟩ := mr h
     rw [f56 _ e98] at h
     refine At.exit (norm ?_)
     refine At.seq ?_
     refine At.sR [0,2,4,7] [0,1,2,3] [] ?_
     refine At.block ?_
     refine At.nK (st' := ⟨[(0,lv Aa.enc p0),(2,.ptr 0 0),(4,.ptr 1 0),(7,i64 0)],[.blk 29 [.d (.list true 0 []),.d (.list true 0 []),.d (.list true 0 []),i64 0,i64 0,i64 0,i64 0],.blk 27 [.row 2 (x53).length,.row 3 (x54).length,lv Ak.enc y2.P.Chans,i64 y2.P.Main,i64 0],.row 36 3 (encL Ac.enc x53),.row 38 4 (encL Ao.enc x54)]⟩) [0,2,4,7] [0,1,2,3] ?_
     refine At.lp (fun s : (Int × Int) => ⟨[(0,lv Aa.enc p0),(2,.ptr 0 0),(4,.ptr 1 0),(7,i64 s.1)],[.blk 29 [.d (.list true 0 []),.d (.list true 0 []),.d (.list true 0 []),i64 0,i64 0,i64 0,i64 0],.blk 27 [.row 2 (x53).length,.row 3 (x54).length,lv Ak.enc y2.P.Chans,i64 y2.P.Main,i64 s.2],.row 36 3 (encL Ac.enc x53),.row 38 4 (encL Ao.enc x54)]⟩) h ?_
     rintro ⟨x118,x119⟩ oo120 h f121
     replace h : CN p0 y2 x53 x54 x118 x119 = some oo120 := h
     refine At.seq ?_
     refine At.sR [0,2,4,7,83] [0,1,2,3] [] ?_
     refine At.cd h (fun b123 h => ?_) (fun b123 h => ?_)
     · refine At.nR [0,2,4,7] [0,1,2,3] ?_
       refine At.skip (norm ?_)
       refine At.seqJ (S := Int) (fun s => ⟨[(0,lv Aa.enc p0),(2,.ptr 0 0),(4,.ptr 1 0),(7,i64 x118)],[.blk 29 [.d (.list true 0 []),.d (.list true 0 []),.d (.list true 0 []),i64 0,i64 0,i64 0,i64 0],.blk 27 [.row 2 (x53).length,.row 3 (x54).length,lv Ak.enc y2.P.Chans,i64 y2.P.Main,i64 s],.row 36 3 (encL Ac.enc x53),.row 38 4 (encL Ao.enc x54)]⟩) (fun s => Gh x118 s = some oo120) ?_ ?_
       · refine At.block ?_
         obtain ⟨y132,hy132,h⟩ := bs h
         obtain ⟨y133,hy133,h⟩ := bs h
         refine At.sR [0,2,4,7,90] [0,1,2,3] [eT Aa.enc_len 2 hy132,c0 4 (Ik y132 y133 hy133)] ?_
         refine At.cd h (fun b134 h => ?_) (fun b134 h => ?_)
         · exact At.rK [0,2,4,7] [0,1,2,3] [] fun _ _ i => ⟨(w64 (x119 + 1)),h,i⟩
         · refine At.nR [0,2,4,7] [0,1,2,3] ?_
           refine At.skip (fun _ _ i => ⟨x119,h,i.en [] [0,2,4,7] [0,1,2,3]⟩)
       · intro x129 h
         exact At.rK [0,2,4,7] [0,1,2,3] [] fun _ _ i => ⟨_,li h,i⟩
     · refine At.nR [0,2,4] [0,1,2,3] ?_
       obtain ⟨r135,h,e136⟩ := mr h
       rw [f121 _ e136] at h
       refine At.exit (norm ?_)
       refine At.seq ?_
       refine At.sR [0,2,4,98] [0,1,2,3] [] ?_
       refine At.cd h (fun b138 h => ?_) (fun b138 h => ?_)
       · refine At.sR [2] [0] [] ?_
         refine At.eN [.loO 0] [2] [0] ?_
         obtain rfl := sq h
         exact At.ret (At.rR hR [])
       · refine At.nR [2,4] [0,1,2,3] ?_
         refine At.skip (norm ?_)
         refine At.sR [2] [0,2,3] [] ?_
         refine At.eN [.settle 1,.settle 2] [2] [0] ?_
         obtain rfl := sq h
         exact At.ret (At.rR hR [])
theorem K0 (p0 : ByteArray) (r : AA) (h : GG p0 = some r) : FnOK Tryz.prog 5 [sv p0] [] (.agg (AA.pvs r)) [] [] := by
 refine fI Tryz.func5 rfl fun E gv R hR => ?_
 refine At.sR [0,2] [0] [] ?_
 obtain ⟨y2,hy2,h⟩ := bs h
 refine At.sR [0,2,3] [0,1] [c0 1 (K2 p0 y2 hy2)] ?_
 refine At.seq ?_
 refine At.sR [0,2,3,9] [0,1] [] ?_
 refine At.cd h (fun b4 h => ?_) (fun b4 h => ?_)
 · refine At.sR [2] [0] [] ?_
   refine At.eN [.loO 0] [2] [0] ?_
   obtain rfl := sq h
   exact At.ret (At.rR hR [])
 · refine At.nR [0,2] [0] ?_
   refine At.skip (norm ?_)
   obtain ⟨y7,hy7,h⟩ := bs h
   obtain ⟨y8,hy8,h⟩ := bs h
   refine At.sR [0,2,4] [0,1] [c0 1 (I7 p0 y7 hy7),c0 3 (LG y7.L y8 hy8)] ?_
   refine At.seqJ (S := Int) (fun s => ⟨[(2,.ptr 0 0),(4,.ptr 1 0)],[.blk 29 [.d (.list true 0 []),.d (.list true 0 []),.d (.list true 0 []),i64 0,i64 0,i64 0,i64 0],.blk 29 (Au.pvs y8.C ++ [i64 s,i64 y8.E])]⟩) (fun s => FK y8 s = some r) ?_ ?_
   · refine At.seq ?_
     refine At.rK (st' := ⟨[(0,sv p0),(2,.ptr 0 0),(4,.ptr 1 0),(21,bo (y8.E != 0))],[.blk 29 [.d (.list true 0 []),.d (.list true 0 []),.d (.list true 0 []),i64 0,i64 0,i64 0,i64 0],.blk 29 (AA.pvs y8)]⟩) [0,2,4,21] [0,1] [] (norm ?_)
     refine At.cd h (fun b11 h => ?_) (fun b11 h => ?_)
     · exact At.rK [2,4] [0,1] [] fun _ _ i => ⟨(p0.size : Int),h,i⟩
     · refine At.nR [2,4] [0,1] ?_
       refine At.skip (fun _ _ i => ⟨y8.At,h,i.en [] [2,4] [0,1]⟩)
   · intro x10 h
     refine At.sR [2] [0] [] ?_
     obtain rfl := sq h
     exact At.ret (At.rR hR [])
theorem I8 (p0 : ByteArray) (r : Bool) (h : FG p0 = some r) : FnOK Tryz.prog 3 [sv p0] [] (bo r) [] [] := by
 refine fI Tryz.func3 rfl fun E gv R hR => ?_
 refine At.sR [0] [] [] ?_
 refine At.seq ?_
 refine At.sR [0,8] [] [] ?_
 refine At.cd h (fun b4 h => ?_) (fun b4 h => ?_)
 · obtain ⟨y6,hy6,h⟩ := bs h
   refine At.sR [2] [] [c0 0 (HS y6 hy6)] ?_
   obtain rfl := sq h
   exact At.ret (At.rR hR [])
 · refine At.nR [0] [] ?_
   refine At.skip (norm ?_)
   obtain ⟨y8,hy8,h⟩ := bs h
   refine At.sR [3] [0] [c0 1 (K0 p0 y8 hy8)] ?_
   refine At.seq ?_
   refine At.seqJ (S := Bool) (fun s => ⟨[(3,.ptr 0 0),(21,bo s)],[.blk 29 (AA.pvs y8)]⟩) (fun s => Cq y8 s = some r) ?_ ?_
   · rcases cs h with ⟨b29,h⟩ | ⟨b29,h⟩
     · exact At.rK [3,21] [0] [bT 3 b29] fun _ _ i => ⟨true,h,i⟩
     · exact At.rK [3,21] [0] [bT 3 b29] fun _ _ i => ⟨(decide (400 < ((y8.C.Ins).length : Int))),h,i⟩
   · intro x16 h
     refine At.cd h (fun b17 h => ?_) (fun b17 h => ?_)
     · obtain ⟨y19,hy19,h⟩ := bs h
       refine At.sR [2] [] [c0 0 (HS y19 hy19)] ?_
       obtain rfl := sq h
       exact At.ret (At.rR hR [])
     · refine At.nR [3] [0] ?_
       refine At.skip (norm ?_)
       obtain ⟨y21,hy21,h⟩ := bs h
       refine At.sR [4,5] [] [c0 2 (Km y8.C y21 hy21)] ?_
       refine At.seqJ (S := Bool) (fun s => ⟨[(2,bo s)],[]⟩) (fun s => Dt s = some r) ?_ ?_
       · rcases cs h with ⟨b26,h⟩ | ⟨b26,h⟩
         · rcases cs h with ⟨b27,h⟩ | ⟨b27,h⟩
           · obtain ⟨y28,hy28,h⟩ := bs h
             exact At.rK [2] [] [bT 2 b26,bT 6 b27,c0 7 (HS y28 hy28)] fun _ _ i => ⟨y28,h,i⟩
           · exact At.rK [2] [] [bT 2 b26,bT 6 b27] fun _ _ i => ⟨false,h,i⟩
         · exact At.rK [2] [] [bT 2 b26] fun _ _ i => ⟨false,h,i⟩
       · intro x25 h
         obtain rfl := sq h
         exact At.ret (At.rR hR [])
end Go.Ab
