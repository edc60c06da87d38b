/- GP1 -/
import Derived.Test.YtgldclhdieafkaaGreatGP
namespace Go.Ab
open Go.Proofs
set_option linter.unusedVariables false
set_option maxRecDepth 100000
theorem HK (p0 : Int) (r : Bool) (h : HI p0 = some r) : FnOK Tryz.prog 47 [u8 p0] [] (bo r) [] [] := by
 refine fI Tryz.func47 rfl fun E gv R hR => ?_
 refine At.sR [0] [] [] ?_
 refine At.seqJ (S := Bool) (fun s => ⟨[(2,bo s)],[]⟩) (fun s => Hu s = some r) ?_ ?_
 · rcases cs h with ⟨b4,h⟩ | ⟨b4,h⟩
   · exact At.rK [2] [] [bT 2 b4] fun _ _ i => ⟨true,h,i⟩
   · rcases cs h with ⟨b5,h⟩ | ⟨b5,h⟩
     · exact At.rK [2] [] [bT 2 b4,bT 6 b5] fun _ _ i => ⟨(decide ((bits .or .u8 p0 32) ≤ 122)),h,i⟩
     · exact At.rK [2] [] [bT 2 b4,bT 6 b5] fun _ _ i => ⟨false,h,i⟩
 · intro x3 h
   obtain rfl := sq h
   exact At.ret (At.rR hR [])
theorem NH (p0 : Int) (r : Bool) (h : JJ p0 = some r) : FnOK Tryz.prog 83 [u8 p0] [] (bo r) [] [] := by
 refine fI Tryz.func83 rfl fun E gv R hR => ?_
 refine At.sR [0] [] [] ?_
 refine At.seqJ (S := Bool) (fun s => ⟨[(2,bo s)],[]⟩) (fun s => ID s = some r) ?_ ?_
 · rcases cs h with ⟨b3,h⟩ | ⟨b3,h⟩
   · exact At.rK [2] [] [bT 2 b3] fun _ _ i => ⟨(decide (p0 ≤ 57)),h,i⟩
   · exact At.rK [2] [] [bT 2 b3] fun _ _ i => ⟨false,h,i⟩
 · intro x2 h
   obtain rfl := sq h
   exact At.ret (At.rR hR [])
theorem MM (p0 : Int) (r : Bool) (h : Ip p0 = some r) : FnOK Tryz.prog 49 [u8 p0] [] (bo r) [] [] := by
 refine fI Tryz.func49 rfl fun E gv R hR => ?_
 refine At.sR [0] [] [] ?_
 refine At.seqJ (S := Bool) (fun s => ⟨[(2,bo s)],[]⟩) (fun s => Ht s = some r) ?_ ?_
 · obtain ⟨y5,hy5,h⟩ := bs h
   rcases cs h with ⟨b6,h⟩ | ⟨b6,h⟩
   · exact At.rK [2] [] [c0 1 (HK p0 y5 hy5),bT 2 b6] fun _ _ i => ⟨true,h,i⟩
   · obtain ⟨y7,hy7,h⟩ := bs h
     exact At.rK [2] [] [c0 1 (HK p0 y5 hy5),bT 2 b6,c0 4 (NH p0 y7 hy7)] fun _ _ i => ⟨y7,h,i⟩
 · intro x4 h
   obtain rfl := sq h
   exact At.ret (At.rR hR [])
theorem MI (p0 : ByteArray) (r : ByteArray) (h : I1 p0 = some r) : FnOK Tryz.prog 48 [sv p0,.fn (.func 49) [] []] [] (sv r) [] [] := by
 refine fI Tryz.func48 rfl fun E gv R hR => ?_
 refine At.sR [0,1] [] [] ?_
 refine At.seq ?_
 refine At.sR [0,1,7,8] [] [] ?_
 refine At.block ?_
 refine At.nK (st' := ⟨[(0,sv p0),(1,.fn (.func 49) [] []),(7,i64 (p0.size : Int)),(8,i64 0)],[]⟩) [0,1,7,8] [] ?_
 refine At.lp (fun s : (Int) => ⟨[(0,sv p0),(1,.fn (.func 49) [] []),(7,i64 (p0.size : Int)),(8,i64 s)],[]⟩) h ?_
 intro x24 oo25 h f26
 replace h : Iq p0 x24 = some oo25 := h
 refine At.sR [0,1,7,8,9] [] [] ?_
 refine At.seq ?_
 refine At.cd h (fun b28 h => ?_) (fun b28 h => ?_)
 · refine At.nR [0,1,7,8] [] ?_
   refine At.skip (norm ?_)
   refine At.seq ?_
   refine At.block ?_
   refine At.sR [0,1,5,7,8] [] [] ?_
   obtain ⟨y38,hy38,h⟩ := bs h
   obtain ⟨y39,hy39,h⟩ := bs h
   refine At.sR [0,1,5,7,8,16] [] [sT 3 hy38,c0 4 (MM y38 y39 hy39)] ?_
   refine At.cd h (fun b40 h => ?_) (fun b40 h => ?_)
   · obtain ⟨g42,h⟩ := gs h
     refine At.sR [4] [] [oT 2 g42] ?_
     obtain ⟨r43,h,e44⟩ := mr h
     rw [f26 _ e44] at h
     obtain rfl := sq h
     exact At.ret (At.rR hR [])
   · refine At.nR [0,1,7,8] [] ?_
     refine At.skip (norm ?_)
     exact At.rK [0,1,7,8] [] [] fun _ _ i => ⟨_,li h,i⟩
 · refine At.nR [0] [] ?_
   obtain ⟨r45,h,e46⟩ := mr h
   rw [f26 _ e46] at h
   refine At.exit (norm ?_)
   refine At.sR [4] [] [] ?_
   obtain rfl := sq h
   exact At.ret (At.rR hR [])
theorem NG  (r : (List ByteArray)) (h : Hs  = some r) : FnOK Tryz.prog 85 [] [] (.row 0 (r).length) [.row 9 1 (encL eStr r)] [] := by
 refine fI Tryz.func85 rfl fun E gv R hR => ?_
 refine At.sR [] [] [] ?_
 refine At.sR [0] [0] [] ?_
 obtain rfl := sq h
 exact At.ret (At.rR hR [0])
theorem Gb (p0 : ByteArray) (r : Bool) (h : E5 p0 = some r) : FnOK Tryz.prog 114 [sv p0] [] (bo r) [] [] := by
 refine fI Tryz.func114 rfl fun E gv R hR => ?_
 refine At.sR [0] [] [] ?_
 refine At.sR [2] [] [] ?_
 obtain rfl := sq h
 exact At.ret (At.rR hR [])
theorem LJ (p0 : ByteArray) (p1 : ByteArray) (r : Bool) (h : Fz p0 p1 = some r) : FnOK Tryz.prog 100 [sv p0,sv p1] [] (bo r) [] [] := by
 refine fI Tryz.func100 rfl fun E gv R hR => ?_
 refine At.sR [0,1] [] [] ?_
 refine At.seqJ (S := Bool) (fun s => ⟨[(4,bo s)],[]⟩) (fun s => Dr s = some r) ?_ ?_
 · obtain ⟨y6,hy6,h⟩ := bs h
   rcases cs h with ⟨b7,h⟩ | ⟨b7,h⟩
   · obtain ⟨y8,hy8,h⟩ := bs h
     rcases cs h with ⟨b9,h⟩ | ⟨b9,h⟩
     · exact At.rK [4] [] [c0 1 (Gb p0 y6 hy6),bT 2 b7,c0 4 (Gb p1 y8 hy8),bT 7 b9] fun _ _ i => ⟨true,h,i⟩
     · exact At.rK [4] [] [c0 1 (Gb p0 y6 hy6),bT 2 b7,c0 4 (Gb p1 y8 hy8),bT 7 b9] fun _ _ i => ⟨(sLt p0 p1),h,i⟩
   · exact At.rK [4] [] [c0 1 (Gb p0 y6 hy6),bT 2 b7] fun _ _ i => ⟨(sLt p0 p1),h,i⟩
 · intro x5 h
   obtain rfl := sq h
   exact At.ret (At.rR hR [])
theorem Hk (p0 : ByteArray) (r : Bool) (h : DQ p0 = some r) : FnOK Tryz.prog 101 [sv p0] [] (bo r) [] [] := by
 refine fI Tryz.func101 rfl fun E gv R hR => ?_
 refine At.sR [0] [] [] ?_
 refine At.sR [2] [] [] ?_
 obtain rfl := sq h
 exact At.ret (At.rR hR [])
theorem HP (p1 : ByteArray) (o0 : (List ByteArray)) (r : Int × Bool) (h : Bp p1 o0 = some r) : FnOK Tryz.prog 84 [.row 0 (o0).length,sv p1] [.row 9 1 (encL eStr o0)] (.tup [i64 r.1,bo r.2]) [.row 9 1 (encL eStr o0)] [0] := by
 refine fI Tryz.func84 rfl fun E gv R hR => ?_
 refine At.sR [0,1] [0,1] [] ?_
 refine At.sR [0,1,6] [0,1] [] ?_
 refine At.sR [0,1,6,7,8] [0,1] [] ?_
 refine At.seq ?_
 refine At.block ?_
 refine At.nK (st' := ⟨[(0,.row 0 (o0).length),(1,sv p1),(6,i64 ((o0).length : Int)),(7,i64 0),(8,i64 ((o0).length : Int))],[.row 9 1 (encL eStr o0),.ghost (gv 0) (.row 0 0)]⟩) [0,1,6,7,8] [0,1] ?_
 refine At.lp (fun s : (Int × Int) => ⟨[(0,.row 0 (o0).length),(1,sv p1),(6,i64 ((o0).length : Int)),(7,i64 s.1),(8,i64 s.2)],[.row 9 1 (encL eStr o0),.ghost (gv 0) (.row 0 0)]⟩) h ?_
 rintro ⟨x14,x15⟩ oo16 h f17
 replace h : Bb p1 o0 x14 x15 = some oo16 := h
 refine At.seq ?_
 refine At.sR [0,1,6,7,8,15] [0,1] [] ?_
 refine At.cd h (fun b19 h => ?_) (fun b19 h => ?_)
 · refine At.nR [0,1,6,7,8] [0,1] ?_
   refine At.skip (norm ?_)
   refine At.block ?_
   refine At.sR [0,1,6,7,8,9] [0,1] [oT 4 (by decide : (0:Int) ≤ 1)] ?_
   obtain ⟨y22,hy22,h⟩ := bs h
   obtain ⟨y23,hy23,h⟩ := bs h
   refine At.sR [0,1,6,7,8,9,27] [0,1] [oT 2 ((AZ G6 (d := .str y22) hy22 rfl).1),vT 3 (.str y22) ((AZ G6 (d := .str y22) hy22 rfl).2),c0 5 (LJ y22 p1 y23 hy23)] ?_
   refine At.cd h (fun b24 h => ?_) (fun b24 h => ?_)
   · exact At.rK [0,1,6,7,8] [0,1] [] fun _ _ i => ⟨_,li h,i⟩
   · exact At.rK [0,1,6,7,8] [0,1] [] fun _ _ i => ⟨_,li h,i⟩
 · refine At.nR [0,1,6,7] [0,1] ?_
   obtain ⟨r25,h,e26⟩ := mr h
   rw [f17 _ e26] at h
   refine At.exit (norm ?_)
   refine At.seqJ (S := Bool) (fun s => ⟨[(4,i64 x14),(5,bo s)],[.row 9 1 (encL eStr o0),.ghost (gv 0) (.row 0 0)]⟩) (fun s => AQ x14 s = some r) ?_ ?_
   · rcases cs h with ⟨b35,h⟩ | ⟨b35,h⟩
     · obtain ⟨y36,hy36,h⟩ := bs h
       rcases cs h with ⟨b37,h⟩ | ⟨b37,h⟩
       · exact At.rK [4,5] [0,1] [bT 4 b35,oT 7 ((AZ G6 (d := .str y36) hy36 rfl).1),vT 8 (.str y36) ((AZ G6 (d := .str y36) hy36 rfl).2),bT 11 b37] fun _ _ i => ⟨true,h,i⟩
       · obtain ⟨y38,hy38,h⟩ := bs h
         obtain ⟨y39,hy39,h⟩ := bs h
         rcases cs h with ⟨b40,h⟩ | ⟨b40,h⟩
         · obtain ⟨y41,hy41,h⟩ := bs h
           exact At.rK [4,5] [0,1] [bT 4 b35,oT 7 ((AZ G6 (d := .str y36) hy36 rfl).1),vT 8 (.str y36) ((AZ G6 (d := .str y36) hy36 rfl).2),bT 11 b37,oT 14 ((AZ G6 (d := .str y38) hy38 rfl).1),vT 15 (.str y38) ((AZ G6 (d := .str y38) hy38 rfl).2),c0 16 (Hk y38 y39 hy39),bT 17 b40,c0 19 (Hk p1 y41 hy41)] fun _ _ i => ⟨y41,h,i⟩
         · exact At.rK [4,5] [0,1] [bT 4 b35,oT 7 ((AZ G6 (d := .str y36) hy36 rfl).1),vT 8 (.str y36) ((AZ G6 (d := .str y36) hy36 rfl).2),bT 11 b37,oT 14 ((AZ G6 (d := .str y38) hy38 rfl).1),vT 15 (.str y38) ((AZ G6 (d := .str y38) hy38 rfl).2),c0 16 (Hk y38 y39 hy39),bT 17 b40] fun _ _ i => ⟨false,h,i⟩
     · exact At.rK [4,5] [0,1] [bT 4 b35] fun _ _ i => ⟨false,h,i⟩
   · intro x34 h
     obtain rfl := sq h
     exact At.ret (At.rR hR [0])
theorem Ow (p0 : ByteArray) (r : Bool) (h : Hh p0 = some r) : FnOK Tryz.prog 50 [sv p0] [] (bo r) [] [] := by
 refine fI Tryz.func50 rfl fun E gv R hR => ?_
 refine At.sR [0] [] [] ?_
 obtain ⟨y3,hy3,h⟩ := bs h
 obtain ⟨y4,hy4,h⟩ := bs h
 refine At.sR [4] [] [cT 0 0 [0] (NG y3 hy3),cT 2 1 [0] (HP p0 y3 y4 hy4)] ?_
 refine At.sR [2] [] [] ?_
 obtain rfl := sq h
 exact At.ret (At.rR hR [])
theorem Iz (p0 : ByteArray) (r : Bool) (h : Fx p0 = some r) : FnOK Tryz.prog 24 [sv p0] [] (bo r) [] [] := by
 refine fI Tryz.func24 rfl fun E gv R hR => ?_
 refine At.sR [0] [] [] ?_
 refine At.seqJ (S := Bool) (fun s => ⟨[(2,bo s)],[]⟩) (fun s => FD s = some r) ?_ ?_
 · rcases cs h with ⟨b10,h⟩ | ⟨b10,h⟩
   · rcases cs h with ⟨b11,h⟩ | ⟨b11,h⟩
     · obtain ⟨y12,hy12,h⟩ := bs h
       obtain ⟨y13,hy13,h⟩ := bs h
       rcases cs h with ⟨b14,h⟩ | ⟨b14,h⟩
       · obtain ⟨y15,hy15,h⟩ := bs h
         rcases cs h with ⟨b16,h⟩ | ⟨b16,h⟩
         · obtain ⟨y17,hy17,h⟩ := bs h
           exact At.rK [2] [] [bT 2 b10,bT 7 b11,sT 9 hy12,c0 10 (HK y12 y13 hy13),bT 12 b14,c0 14 (MI p0 y15 hy15),bT 18 b16,c0 20 (Ow p0 y17 hy17)] fun _ _ i => ⟨(!y17),h,i⟩
         · exact At.rK [2] [] [bT 2 b10,bT 7 b11,sT 9 hy12,c0 10 (HK y12 y13 hy13),bT 12 b14,c0 14 (MI p0 y15 hy15),bT 18 b16] fun _ _ i => ⟨false,h,i⟩
       · exact At.rK [2] [] [bT 2 b10,bT 7 b11,sT 9 hy12,c0 10 (HK y12 y13 hy13),bT 12 b14] fun _ _ i => ⟨false,h,i⟩
     · exact At.rK [2] [] [bT 2 b10,bT 7 b11] fun _ _ i => ⟨false,h,i⟩
   · exact At.rK [2] [] [bT 2 b10] fun _ _ i => ⟨false,h,i⟩
 · intro x9 h
   obtain rfl := sq h
   exact At.ret (At.rR hR [])
theorem NJ (p0 : Au) (r : Bool) (h : H4 p0 = some r) : FnOK Tryz.prog 12 [.agg (Au.pvs p0)] [] (bo r) [] [] := by
 refine fI Tryz.func12 rfl fun E gv R hR => ?_
 refine At.sR [1] [0] [] ?_
 refine At.sR [1,3] [0] [] ?_
 refine At.seq ?_
 refine At.seqJ (S := Bool) (fun s => ⟨[(1,.ptr 0 0),(46,bo s)],[.blk 27 (Au.pvs p0)]⟩) (fun s => DJ p0 s = some r) ?_ ?_
 · rcases cs h with ⟨b379,h⟩ | ⟨b379,h⟩
   · exact At.rK [1,46] [0] [bT 2 b379] fun _ _ i => ⟨true,h,i⟩
   · rcases cs h with ⟨b380,h⟩ | ⟨b380,h⟩
     · exact At.rK [1,46] [0] [bT 2 b379,bT 6 b380] fun _ _ i => ⟨true,h,i⟩
     · rcases cs h with ⟨b381,h⟩ | ⟨b381,h⟩
       · exact At.rK [1,46] [0] [bT 2 b379,bT 6 b380,bT 12 b381] fun _ _ i => ⟨true,h,i⟩
       · rcases cs h with ⟨b382,h⟩ | ⟨b382,h⟩
         · exact At.rK [1,46] [0] [bT 2 b379,bT 6 b380,bT 12 b381,bT 17 b382] fun _ _ i => ⟨true,h,i⟩
         · rcases cs h with ⟨b383,h⟩ | ⟨b383,h⟩
           · exact At.rK [1,46] [0] [bT 2 b379,bT 6 b380,bT 12 b381,bT 17 b382,bT 23 b383] fun _ _ i => ⟨true,h,i⟩
           · obtain ⟨y384,hy384,h⟩ := bs h
             exact At.rK [1,46] [0] [bT 2 b379,bT 6 b380,bT 12 b381,bT 17 b382,bT 23 b383,eT Ao.enc_len 28 hy384] fun _ _ i => ⟨(y384.Params != 0),h,i⟩
 · intro x21 h
   refine At.cd h (fun b22 h => ?_) (fun b22 h => ?_)
   · refine At.sR [2] [] [] ?_
     obtain rfl := sq h
     exact At.ret (At.rR hR [])
   · refine At.nR [1] [0] ?_
     refine At.skip (norm ?_)
     refine At.sR [1,4] [0] [] ?_
     refine At.seq ?_
     refine At.sR [1,4,48,49,50] [0] [] ?_
     refine At.block ?_
     refine At.nK (st' := ⟨[(1,.ptr 0 0),(4,i64 (-1)),(48,lv Ao.enc p0.Defs),(49,i64 ((p0.Defs).length : Int)),(50,i64 0)],[.blk 27 (Au.pvs p0)]⟩) [1,4,48,49,50] [0] ?_
     refine At.lp (fun s : (Int × Int) => ⟨[(1,.ptr 0 0),(4,i64 s.1),(48,lv Ao.enc p0.Defs),(49,i64 ((p0.Defs).length : Int)),(50,i64 s.2)],[.blk 27 (Au.pvs p0)]⟩) h ?_
     rintro ⟨x143,x144⟩ oo145 h f146
     replace h : E9 p0 x143 x144 = some oo145 := h
     refine At.sR [1,4,48,49,50,51] [0] [] ?_
     refine At.seq ?_
     refine At.cd h (fun b148 h => ?_) (fun b148 h => ?_)
     · refine At.nR [1,4,48,49,50] [0] ?_
       refine At.skip (norm ?_)
       refine At.seq ?_
       refine At.block ?_
       obtain ⟨y205,hy205,h⟩ := bs h
       refine At.sR [1,4,6,48,49,50] [0,1] [eT Ao.enc_len 0 hy205] ?_
       refine At.seqJ (S := Bool) (fun s => ⟨[(1,.ptr 0 0),(4,i64 x143),(6,.ptr 1 0),(7,bo s),(48,lv Ao.enc p0.Defs),(49,i64 ((p0.Defs).length : Int)),(50,i64 x144)],[.blk 27 (Au.pvs p0),.blk 38 (Ao.pvs y205)]⟩) (fun s => GX p0 x143 x144 y205 s = some oo145) ?_ ?_
       · rcases cs h with ⟨b259,h⟩ | ⟨b259,h⟩
         · exact At.rK [1,4,6,7,48,49,50] [0,1] [bT 3 b259] fun _ _ i => ⟨true,h,i⟩
         · obtain ⟨y260,hy260,h⟩ := bs h
           exact At.rK [1,4,6,7,48,49,50] [0,1] [bT 3 b259,c0 6 (Iz y205.Name y260 hy260)] fun _ _ i => ⟨y260,h,i⟩
       · intro x208 h
         refine At.seq ?_
         refine At.seqJ (S := Bool) (fun s => ⟨[(1,.ptr 0 0),(6,.ptr 1 0),(48,lv Ao.enc p0.Defs),(49,i64 ((p0.Defs).length : Int)),(50,i64 x144),(103,bo s)],[.blk 27 (Au.pvs p0),.blk 38 (Ao.pvs y205)]⟩) (fun s => BL x144 y205 s = some oo145) ?_ ?_
         · rcases cs h with ⟨b248,h⟩ | ⟨b248,h⟩
           · exact At.rK [1,6,48,49,50,103] [0,1] [bT 2 b248] fun _ _ i => ⟨true,h,i⟩
           · rcases cs h with ⟨b249,h⟩ | ⟨b249,h⟩
             · rcases cs h with ⟨b250,h⟩ | ⟨b250,h⟩
               · exact At.rK [1,6,48,49,50,103] [0,1] [bT 2 b248,bT 5 b249,bT 11 b250] fun _ _ i => ⟨true,h,i⟩
               · rcases cs h with ⟨b251,h⟩ | ⟨b251,h⟩
                 · exact At.rK [1,6,48,49,50,103] [0,1] [bT 2 b248,bT 5 b249,bT 11 b250,bT 17 b251] fun _ _ i => ⟨true,h,i⟩
                 · rcases cs h with ⟨b252,h⟩ | ⟨b252,h⟩
                   · exact At.rK [1,6,48,49,50,103] [0,1] [bT 2 b248,bT 5 b249,bT 11 b250,bT 17 b251,bT 25 b252] fun _ _ i => ⟨true,h,i⟩
                   · rcases cs h with ⟨b253,h⟩ | ⟨b253,h⟩
                     · exact At.rK [1,6,48,49,50,103] [0,1] [bT 2 b248,bT 5 b249,bT 11 b250,bT 17 b251,bT 25 b252,bT 30 b253] fun _ _ i => ⟨true,h,i⟩
                     · rcases cs h with ⟨b254,h⟩ | ⟨b254,h⟩
                       · exact At.rK [1,6,48,49,50,103] [0,1] [bT 2 b248,bT 5 b249,bT 11 b250,bT 17 b251,bT 25 b252,bT 30 b253,bT 37 b254] fun _ _ i => ⟨true,h,i⟩
                       · exact At.rK [1,6,48,49,50,103] [0,1] [bT 2 b248,bT 5 b249,bT 11 b250,bT 17 b251,bT 25 b252,bT 30 b253,bT 37 b254] fun _ _ i => ⟨(decide (16 < y205.Vars)),h,i⟩
             · rcases cs h with ⟨b255,h⟩ | ⟨b255,h⟩
               · exact At.rK [1,6,48,49,50,103] [0,1] [bT 2 b248,bT 5 b249,bT 17 b255] fun _ _ i => ⟨true,h,i⟩
               · rcases cs h with ⟨b256,h⟩ | ⟨b256,h⟩
                 · exact At.rK [1,6,48,49,50,103] [0,1] [bT 2 b248,bT 5 b249,bT 17 b255,bT 25 b256] fun _ _ i => ⟨true,h,i⟩
                 · rcases cs h with ⟨b257,h⟩ | ⟨b257,h⟩
                   · exact At.rK [1,6,48,49,50,103] [0,1] [bT 2 b248,bT 5 b249,bT 17 b255,bT 25 b256,bT 30 b257] fun _ _ i => ⟨true,h,i⟩
                   · rcases cs h with ⟨b258,h⟩ | ⟨b258,h⟩
                     · exact At.rK [1,6,48,49,50,103] [0,1] [bT 2 b248,bT 5 b249,bT 17 b255,bT 25 b256,bT 30 b257,bT 37 b258] fun _ _ i => ⟨true,h,i⟩
                     · exact At.rK [1,6,48,49,50,103] [0,1] [bT 2 b248,bT 5 b249,bT 17 b255,bT 25 b256,bT 30 b257,bT 37 b258] fun _ _ i => ⟨(decide (16 < y205.Vars)),h,i⟩
         · intro x244 h
           refine At.cd h (fun b245 h => ?_) (fun b245 h => ?_)
           · refine At.sR [2] [] [] ?_
             obtain ⟨r246,h,e247⟩ := mr h
             rw [f146 _ e247] at h
             obtain rfl := sq h
             exact At.ret (At.rR hR [])
           · refine At.nR [1,6,48,49,50] [0,1] ?_
             refine At.skip (norm ?_)
             refine At.rG [1,4,48,49,50] [0] [] (norm ?_)
             exact At.rK [1,4,48,49,50] [0] [] fun _ _ i => ⟨_,li h,i⟩
     · refine At.nR [1] [0] ?_
       obtain ⟨r261,h,e262⟩ := mr h
       rw [f146 _ e262] at h
       refine At.exit (norm ?_)
       refine At.sR [1,8] [0] [] ?_
       refine At.seq ?_
       refine At.sR [8,108,109,110] [] [] ?_
       refine At.block ?_
       refine At.nK (st' := ⟨[(8,i64 0),(108,lv Ak.enc p0.Chans),(109,i64 ((p0.Chans).length : Int)),(110,i64 0)],[]⟩) [8,108,109,110] [] ?_
       refine At.lp (fun s : (Int × Int) => ⟨[(8,i64 s.1),(108,lv Ak.enc p0.Chans),(109,i64 ((p0.Chans).length : Int)),(110,i64 s.2)],[]⟩) h ?_
       rintro ⟨x321,x322⟩ oo323 h f324
       replace h : Ex p0 x321 x322 = some oo323 := h
       refine At.sR [8,108,109,110,111] [] [] ?_
       refine At.seq ?_
       refine At.cd h (fun b326 h => ?_) (fun b326 h => ?_)
       · refine At.nR [8,108,109,110] [] ?_
         refine At.skip (norm ?_)
         refine At.seq ?_
         refine At.block ?_
         obtain ⟨y351,hy351,h⟩ := bs h
         refine At.sR [8,10,108,109,110] [0] [eT Ak.enc_len 0 hy351] ?_
         refine At.seq ?_
         refine At.seqJ (S := Bool) (fun s => ⟨[(8,i64 x321),(10,.ptr 0 0),(108,lv Ak.enc p0.Chans),(109,i64 ((p0.Chans).length : Int)),(110,i64 x322),(133,bo s)],[.blk 83 (Ak.pvs y351)]⟩) (fun s => F2 x321 x322 y351 s = some oo323) ?_ ?_
         · obtain ⟨y373,hy373,h⟩ := bs h
           rcases cs h with ⟨b374,h⟩ | ⟨b374,h⟩
           · exact At.rK [8,10,108,109,110,133] [0] [c0 2 (Iz y351.Name y373 hy373),bT 4 b374] fun _ _ i => ⟨true,h,i⟩
           · rcases cs h with ⟨b375,h⟩ | ⟨b375,h⟩
             · exact At.rK [8,10,108,109,110,133] [0] [c0 2 (Iz y351.Name y373 hy373),bT 4 b374,bT 9 b375] fun _ _ i => ⟨true,h,i⟩
             · rcases cs h with ⟨b376,h⟩ | ⟨b376,h⟩
               · exact At.rK [8,10,108,109,110,133] [0] [c0 2 (Iz y351.Name y373 hy373),bT 4 b374,bT 9 b375,bT 14 b376] fun _ _ i => ⟨true,h,i⟩
               · exact At.rK [8,10,108,109,110,133] [0] [c0 2 (Iz y351.Name y373 hy373),bT 4 b374,bT 9 b375,bT 14 b376] fun _ _ i => ⟨(y351.Base != x321),h,i⟩
         · intro x366 h
           refine At.cd h (fun b367 h => ?_) (fun b367 h => ?_)
           · refine At.sR [2] [] [] ?_
             obtain ⟨r368,h,e369⟩ := mr h
             rw [f324 _ e369] at h
             obtain rfl := sq h
             exact At.ret (At.rR hR [])
           · refine At.nR [8,10,108,109,110] [0] ?_
             refine At.skip (norm ?_)
             refine At.sR [8,108,109,110] [] [] ?_
             refine At.sR [8,108,109,110,140] [] [] ?_
             refine At.cd h (fun b370 h => ?_) (fun b370 h => ?_)
             · refine At.sR [2] [] [] ?_
               obtain ⟨r371,h,e372⟩ := mr h
               rw [f324 _ e372] at h
               obtain rfl := sq h
               exact At.ret (At.rR hR [])
             · refine At.nR [8,108,109,110] [] ?_
               refine At.skip (norm ?_)
               exact At.rK [8,108,109,110] [] [] fun _ _ i => ⟨_,li h,i⟩
       · refine At.nR [] [] ?_
         obtain ⟨r377,h,e378⟩ := mr h
         rw [f324 _ e378] at h
         refine At.exit (norm ?_)
         refine At.sR [2] [] [] ?_
         obtain rfl := sq h
         exact At.ret (At.rR hR [])
theorem Ic (p1 : Int) (o0 : As) (r : As) (h : ER p1 o0 = some r) : FnOK Tryz.prog 13 [.ptr 0 0,i64 p1] [.blk 55 (As.pvs o0)] (.tup []) [.blk 55 (As.pvs r)] [1] := by
 refine fI Tryz.func13 rfl fun E gv R hR => ?_
 obtain ⟨y3,hy3,h⟩ := bs h
 obtain ⟨y4,hy4,h⟩ := bs h
 refine At.sD 0 [0,1] [0,1] [eT Ao.enc_len 9 hy3,eT Ao.enc_len 24 hy4] ?_
 refine At.sR [0,1,45] [0,1] [] ?_
 refine At.cd h (fun b5 h => ?_) (fun b5 h => ?_)
 · obtain ⟨y6,hy6,h⟩ := bs h
   obtain rfl := sq h
   refine At.rG [] [0,1] [eT Ao.enc_len 8 hy6] (edq (l := []) (ks := []) (ρ := [0,1]) (st' := ⟨[],[.blk 55 (Au.pvs o0.Code ++ [i64 o0.marks,i64 y3.Entry,i64 y6.Entry,i64 y4.Vars]),.ghost (gv 0) (.ptr 0 0)]⟩) (by kernel_rfl) (At.rN hR [0]))
 · refine At.nR [] [0,1] ?_
   obtain rfl := sq h
   refine At.skip (edq (l := []) (ks := []) (ρ := [0,1]) (st' := ⟨[],[.blk 55 (Au.pvs o0.Code ++ [i64 o0.marks,i64 y3.Entry,i64 ((o0.Code.Ins).length : Int),i64 y4.Vars]),.ghost (gv 0) (.ptr 0 0)]⟩) (by kernel_rfl) (At.rN hR [0]))
theorem Qd  (r : (List Al)) (h : M3  = some r) : FnOK Tryz.prog 86 [] [] (.dagg (encL Al.enc r)) [] [] := by
 refine fI Tryz.func86 rfl fun E gv R hR => ?_
 refine At.sR [0] [0] [] ?_
 obtain ⟨g2,h⟩ := gs h
 refine At.sR [0] [0] [oN 26 (allc (lenM Al.enc_len ([(⟨(⟨#[]⟩ : ByteArray),0,0,0⟩ : Al),(⟨(⟨#[109,97,114,107]⟩ : ByteArray),1,0,0⟩ : Al),(⟨(⟨#[112,117,115,104]⟩ : ByteArray),1,0,1⟩ : Al),(⟨(⟨#[108,111,97,100]⟩ : ByteArray),1,0,1⟩ : Al),(⟨(⟨#[115,116,111,114,101]⟩ : ByteArray),1,1,0⟩ : Al),(⟨(⟨#[97,112,112,108,121]⟩ : ByteArray),1,0,1⟩ : Al),(⟨(⟨#[106,117,109,112]⟩ : ByteArray),1,0,0⟩ : Al),(⟨(⟨#[122,101,114,111]⟩ : ByteArray),1,1,0⟩ : Al),(⟨(⟨#[111,110,101]⟩ : ByteArray),1,1,0⟩ : Al),(⟨(⟨#[99,104,97,110]⟩ : ByteArray),2,0,1⟩ : Al),(⟨(⟨#[115,101,110,100]⟩ : ByteArray),0,2,0⟩ : Al),(⟨(⟨#[114,101,99,118]⟩ : ByteArray),1,1,0⟩ : Al),(⟨(⟨#[100,114,97,119]⟩ : ByteArray),1,1,0⟩ : Al),(⟨(⟨#[115,108,101,101,112]⟩ : ByteArray),0,1,0⟩ : Al),(⟨(⟨#[115,116,97,114,116]⟩ : ByteArray),2,0,0⟩ : Al),(⟨(⟨#[112,114,105,110,116]⟩ : ByteArray),0,1,0⟩ : Al),(⟨(⟨#[97,115,115,101,114,116]⟩ : ByteArray),0,1,0⟩ : Al),(⟨(⟨#[115,107,105,112]⟩ : ByteArray),0,0,0⟩ : Al),(⟨(⟨#[115,116,111,112]⟩ : ByteArray),0,0,0⟩ : Al),(⟨(⟨#[111,110,114,101,99,118]⟩ : ByteArray),2,1,0⟩ : Al),(⟨(⟨#[111,110,115,101,110,100]⟩ : ByteArray),1,2,0⟩ : Al),(⟨(⟨#[97,102,116,101,114]⟩ : ByteArray),1,1,0⟩ : Al),(⟨(⟨#[101,108,115,101]⟩ : ByteArray),1,0,0⟩ : Al),(⟨(⟨#[115,101,108,101,99,116]⟩ : ByteArray),0,0,0⟩ : Al),(⟨(⟨#[101,110,100]⟩ : ByteArray),0,0,0⟩ : Al),(⟨(⟨#[99,104,111,111,115,101]⟩ : ByteArray),0,0,0⟩ : Al)] : List Al) g2.1 rfl) (allc (lenM Al.enc_len (List.replicate 26 (⟨(⟨#[]⟩ : ByteArray),0,0,0⟩ : Al)) g2.2 rfl) all0))] ?_
 obtain ⟨g3,h⟩ := gs h
 obtain rfl := sq h
 exact At.ret (At.rQ hR [] (allc (lenM Al.enc_len ([(⟨(⟨#[]⟩ : ByteArray),0,0,0⟩ : Al),(⟨(⟨#[109,97,114,107]⟩ : ByteArray),1,0,0⟩ : Al),(⟨(⟨#[112,117,115,104]⟩ : ByteArray),1,0,1⟩ : Al),(⟨(⟨#[108,111,97,100]⟩ : ByteArray),1,0,1⟩ : Al),(⟨(⟨#[115,116,111,114,101]⟩ : ByteArray),1,1,0⟩ : Al),(⟨(⟨#[97,112,112,108,121]⟩ : ByteArray),1,0,1⟩ : Al),(⟨(⟨#[106,117,109,112]⟩ : ByteArray),1,0,0⟩ : Al),(⟨(⟨#[122,101,114,111]⟩ : ByteArray),1,1,0⟩ : Al),(⟨(⟨#[111,110,101]⟩ : ByteArray),1,1,0⟩ : Al),(⟨(⟨#[99,104,97,110]⟩ : ByteArray),2,0,1⟩ : Al),(⟨(⟨#[115,101,110,100]⟩ : ByteArray),0,2,0⟩ : Al),(⟨(⟨#[114,101,99,118]⟩ : ByteArray),1,1,0⟩ : Al),(⟨(⟨#[100,114,97,119]⟩ : ByteArray),1,1,0⟩ : Al),(⟨(⟨#[115,108,101,101,112]⟩ : ByteArray),0,1,0⟩ : Al),(⟨(⟨#[115,116,97,114,116]⟩ : ByteArray),2,0,0⟩ : Al),(⟨(⟨#[112,114,105,110,116]⟩ : ByteArray),0,1,0⟩ : Al),(⟨(⟨#[97,115,115,101,114,116]⟩ : ByteArray),0,1,0⟩ : Al),(⟨(⟨#[115,107,105,112]⟩ : ByteArray),0,0,0⟩ : Al),(⟨(⟨#[115,116,111,112]⟩ : ByteArray),0,0,0⟩ : Al),(⟨(⟨#[111,110,114,101,99,118]⟩ : ByteArray),2,1,0⟩ : Al),(⟨(⟨#[111,110,115,101,110,100]⟩ : ByteArray),1,2,0⟩ : Al),(⟨(⟨#[97,102,116,101,114]⟩ : ByteArray),1,1,0⟩ : Al),(⟨(⟨#[101,108,115,101]⟩ : ByteArray),1,0,0⟩ : Al),(⟨(⟨#[115,101,108,101,99,116]⟩ : ByteArray),0,0,0⟩ : Al),(⟨(⟨#[101,110,100]⟩ : ByteArray),0,0,0⟩ : Al),(⟨(⟨#[99,104,111,111,115,101]⟩ : ByteArray),0,0,0⟩ : Al)] : List Al) g3 rfl) all0))
theorem LI (p0 : Int) (r : Al × Bool) (h : Kt p0 = some r) : FnOK Tryz.prog 51 [i64 p0] [] (.tup [.agg (Al.pvs r.1),bo r.2]) [] [] := by
 refine fI Tryz.func51 rfl fun E gv R hR => ?_
 refine At.sR [0,2] [0] [] ?_
 refine At.seq ?_
 refine At.seqJ (S := Bool) (fun s => ⟨[(0,i64 p0),(2,.ptr 0 0),(9,bo s)],[.blk 112 [sv (⟨#[]⟩ : ByteArray),i64 0,i64 0,i64 0]]⟩) (fun s => JK p0 s = some r) ?_ ?_
 · rcases cs h with ⟨b12,h⟩ | ⟨b12,h⟩
   · exact At.rK [0,2,9] [0] [bT 2 b12] fun _ _ i => ⟨true,h,i⟩
   · exact At.rK [0,2,9] [0] [bT 2 b12] fun _ _ i => ⟨(decide (25 < p0)),h,i⟩
 · intro x6 h
   refine At.cd h (fun b7 h => ?_) (fun b7 h => ?_)
   · refine At.sR [2,3] [0] [] ?_
     obtain rfl := sq h
     exact At.ret (At.rR hR [])
   · refine At.nR [0,2] [0] ?_
     refine At.skip (norm ?_)
     obtain ⟨y10,hy10,h⟩ := bs h
     obtain ⟨y11,hy11,h⟩ := bs h
     refine At.sR [2,3] [0] [c0 0 (Qd y10 hy10),tT 2 ({ orc := .cells (Al.enc y11) }) (allc ((aIxM Al.enc_len hy11).1) (allc ((aIxM Al.enc_len hy11).2) all0))] ?_
     obtain rfl := sq h
     exact At.ret (At.rR hR [])
theorem Ko (p0 : Int) (r : Int) (h : GE p0 = some r) : FnOK Tryz.prog 52 [i64 p0] [] (i64 r) [] [] := by
 refine fI Tryz.func52 rfl fun E gv R hR => ?_
 refine At.sR [0] [] [] ?_
 refine At.seq ?_
 refine At.block ?_
 refine At.seqJ (S := Bool) (fun s => ⟨[(0,i64 p0),(3,bo s)],[]⟩) (fun s => H5 p0 s = some r) ?_ ?_
 · rcases cs h with ⟨b16,h⟩ | ⟨b16,h⟩
   · exact At.rK [0,3] [] [bT 2 b16] fun _ _ i => ⟨true,h,i⟩
   · exact At.rK [0,3] [] [bT 2 b16] fun _ _ i => ⟨(p0 == 4),h,i⟩
 · intro x10 h
   refine At.cd h (fun b11 h => ?_) (fun b11 h => ?_)
   · refine At.sR [2] [] [] ?_
     obtain rfl := sq h
     exact At.ret (At.rR hR [])
   · refine At.seqJ (S := Bool) (fun s => ⟨[(10,bo s)],[]⟩) (fun s => I3 s = some r) ?_ ?_
     · rcases cs h with ⟨b15,h⟩ | ⟨b15,h⟩
       · exact At.rK [10] [] [bT 2 b15] fun _ _ i => ⟨(decide (p0 ≤ 17)),h,i⟩
       · exact At.rK [10] [] [bT 2 b15] fun _ _ i => ⟨false,h,i⟩
     · intro x13 h
       refine At.cd h (fun b14 h => ?_) (fun b14 h => ?_)
       · refine At.sR [2] [] [] ?_
         obtain rfl := sq h
         exact At.ret (At.rR hR [])
       · refine At.nR [] [] ?_
         refine At.skip (norm ?_)
         refine At.sR [2] [] [] ?_
         obtain rfl := sq h
         exact At.ret (At.rR hR [])
theorem HT (p0 : Ac) (r : Bool) (h : C3 p0 = some r) : FnOK Tryz.prog 25 [.agg (Ac.pvs p0)] [] (bo r) [] [] := by
 refine fI Tryz.func25 rfl fun E gv R hR => ?_
 refine At.sR [1] [0] [] ?_
 obtain ⟨y2,hy2,h⟩ := bs h
 refine At.sR [1,3,4] [0,1] [c0 2 (LI p0.Op y2 hy2)] ?_
 refine At.seq ?_
 refine At.seqJ (S := Bool) (fun s => ⟨[(1,.ptr 0 0),(32,bo s)],[.blk 36 (Ac.pvs p0)]⟩) (fun s => Gf p0 s = some r) ?_ ?_
 · rcases cs h with ⟨b35,h⟩ | ⟨b35,h⟩
   · exact At.rK [1,32] [0] [bT 2 b35] fun _ _ i => ⟨true,h,i⟩
   · rcases cs h with ⟨b36,h⟩ | ⟨b36,h⟩
     · rcases cs h with ⟨b37,h⟩ | ⟨b37,h⟩
       · exact At.rK [1,32] [0] [bT 2 b35,bT 6 b36,bT 12 b37] fun _ _ i => ⟨true,h,i⟩
       · rcases cs h with ⟨b38,h⟩ | ⟨b38,h⟩
         · exact At.rK [1,32] [0] [bT 2 b35,bT 6 b36,bT 12 b37,bT 16 b38] fun _ _ i => ⟨(p0.B != 0),h,i⟩
         · exact At.rK [1,32] [0] [bT 2 b35,bT 6 b36,bT 12 b37,bT 16 b38] fun _ _ i => ⟨false,h,i⟩
     · rcases cs h with ⟨b39,h⟩ | ⟨b39,h⟩
       · exact At.rK [1,32] [0] [bT 2 b35,bT 6 b36,bT 16 b39] fun _ _ i => ⟨(p0.B != 0),h,i⟩
       · exact At.rK [1,32] [0] [bT 2 b35,bT 6 b36,bT 16 b39] fun _ _ i => ⟨false,h,i⟩
 · intro x20 h
   refine At.cd h (fun b21 h => ?_) (fun b21 h => ?_)
   · refine At.sR [2] [] [] ?_
     obtain rfl := sq h
     exact At.ret (At.rR hR [])
   · refine At.nR [1] [0] ?_
     refine At.skip (norm ?_)
     refine At.seqJ (S := Bool) (fun s => ⟨[(2,bo s)],[]⟩) (fun s => Ge s = some r) ?_ ?_
     · rcases cs h with ⟨b29,h⟩ | ⟨b29,h⟩
       · rcases cs h with ⟨b30,h⟩ | ⟨b30,h⟩
         · exact At.rK [2] [] [bT 3 b29,bT 12 b30] fun _ _ i => ⟨true,h,i⟩
         · obtain ⟨y31,hy31,h⟩ := bs h
           exact At.rK [2] [] [bT 3 b29,bT 12 b30,c0 15 (Ko p0.A y31 hy31)] fun _ _ i => ⟨(decide (0 < y31)),h,i⟩
       · rcases cs h with ⟨b32,h⟩ | ⟨b32,h⟩
         · rcases cs h with ⟨b33,h⟩ | ⟨b33,h⟩
           · exact At.rK [2] [] [bT 3 b29,bT 8 b32,bT 12 b33] fun _ _ i => ⟨true,h,i⟩
           · obtain ⟨y34,hy34,h⟩ := bs h
             exact At.rK [2] [] [bT 3 b29,bT 8 b32,bT 12 b33,c0 15 (Ko p0.A y34 hy34)] fun _ _ i => ⟨(decide (0 < y34)),h,i⟩
         · exact At.rK [2] [] [bT 3 b29,bT 8 b32] fun _ _ i => ⟨false,h,i⟩
     · intro x28 h
       obtain rfl := sq h
       exact At.ret (At.rR hR [])
theorem KL (p0 : Ak) (o0 : Ac) (r : Bool) (h : Gt p0 o0 = some r) : FnOK Tryz.prog 27 [.agg (Ak.pvs p0),.ptr 0 0] [.blk 36 (Ac.pvs o0)] (bo r) [.blk 36 (Ac.pvs o0)] [1] := by
 refine fI Tryz.func27 rfl fun E gv R hR => ?_
 refine At.sR [1,2] [0,1,2] [] ?_
 refine At.seqJ (S := Bool) (fun s => ⟨[(3,bo s)],[.blk 36 (Ac.pvs o0),.ghost (gv 0) (.ptr 0 0)]⟩) (fun s => En s = some r) ?_ ?_
 · rcases cs h with ⟨b3,h⟩ | ⟨b3,h⟩
   · exact At.rK [3] [0,1] [bT 5 b3] fun _ _ i => ⟨(p0.Size == o0.B),h,i⟩
   · exact At.rK [3] [0,1] [bT 5 b3] fun _ _ i => ⟨false,h,i⟩
 · intro x2 h
   obtain rfl := sq h
   exact At.ret (At.rR hR [0])
theorem FA (p0 : (List Ak)) (o0 : Ac) (r : Int) (h : BJ p0 o0 = some r) : FnOK Tryz.prog 53 [lv Ak.enc p0,.fn (.func 27) [] [.ptr 0 0]] [.blk 36 (Ac.pvs o0)] (i64 r) [.blk 36 (Ac.pvs o0)] [1] := by
 refine fI Tryz.func53 rfl fun E gv R hR => ?_
 refine At.sR [0,1] [0,1] [] ?_
 refine At.seq ?_
 refine At.sR [0,1,7,8] [0,1] [] ?_
 refine At.block ?_
 refine At.nK (st' := ⟨[(0,lv Ak.enc p0),(1,.fn (.func 27) [] [.ptr 0 0]),(7,i64 ((p0).length : Int)),(8,i64 0)],[.blk 36 (Ac.pvs o0),.ghost (gv 0) (.ptr 0 0)]⟩) [0,1,7,8] [0,1] ?_
 refine At.lp (fun s : (Int) => ⟨[(0,lv Ak.enc p0),(1,.fn (.func 27) [] [.ptr 0 0]),(7,i64 ((p0).length : Int)),(8,i64 s)],[.blk 36 (Ac.pvs o0),.ghost (gv 0) (.ptr 0 0)]⟩) h ?_
 intro x20 oo21 h f22
 replace h : Ay p0 o0 x20 = some oo21 := h
 refine At.sR [0,1,7,8,9] [0,1] [] ?_
 refine At.seq ?_
 refine At.cd h (fun b24 h => ?_) (fun b24 h => ?_)
 · refine At.nR [0,1,7,8] [0,1] ?_
   refine At.skip (norm ?_)
   refine At.seq ?_
   refine At.block ?_
   refine At.sR [0,1,5,7,8] [0,1] [] ?_
   obtain ⟨y32,hy32,h⟩ := bs h
   obtain ⟨y33,hy33,h⟩ := bs h
   refine At.sR [0,1,5,7,8,16] [0,1] [eT Ak.enc_len 3 hy32,cT 5 1 [0] (KL y32 o0 y33 hy33)] ?_
   refine At.cd h (fun b34 h => ?_) (fun b34 h => ?_)
   · refine At.sR [4] [0,1] [] ?_
     obtain ⟨r35,h,e36⟩ := mr h
     rw [f22 _ e36] at h
     obtain rfl := sq h
     exact At.ret (At.rR hR [0])
   · refine At.nR [0,1,7,8] [0,1] ?_
     refine At.skip (norm ?_)
     exact At.rK [0,1,7,8] [0,1] [] fun _ _ i => ⟨_,li h,i⟩
 · refine At.nR [] [0,1] ?_
   obtain ⟨r37,h,e38⟩ := mr h
   rw [f22 _ e38] at h
   refine At.exit (norm ?_)
   refine At.sR [4] [0,1] [] ?_
   obtain rfl := sq h
   exact At.ret (At.rR hR [0])
theorem Fb (p0 : (List Ak)) (o0 : Ac) (r : Bool) (h : AI p0 o0 = some r) : FnOK Tryz.prog 26 [lv Ak.enc p0,.fn (.func 27) [] [.ptr 0 0]] [.blk 36 (Ac.pvs o0)] (bo r) [.blk 36 (Ac.pvs o0)] [1] := by
 refine fI Tryz.func26 rfl fun E gv R hR => ?_
 refine At.sR [0,1] [0,1] [] ?_
 obtain ⟨y2,hy2,h⟩ := bs h
 refine At.sR [4] [0,1] [cT 2 1 [0] (FA p0 o0 y2 hy2)] ?_
 obtain rfl := sq h
 exact At.ret (At.rR hR [0])
theorem KR (p0 : Ac) (r : Int × Bool) (h : DH p0 = some r) : FnOK Tryz.prog 28 [.agg (Ac.pvs p0)] [] (.tup [i64 r.1,bo r.2]) [] [] := by
 refine fI Tryz.func28 rfl fun E gv R hR => ?_
 refine At.sR [1] [0] [] ?_
 refine At.seq ?_
 refine At.sR [1,5] [0] [] ?_
 refine At.block ?_
 refine At.seqJ (S := Bool) (fun s => ⟨[(1,.ptr 0 0),(5,i64 p0.Op),(6,bo s)],[.blk 36 (Ac.pvs p0)]⟩) (fun s => EU p0 s = some r) ?_ ?_
 · refine At.sR [1,5,6] [0] [] ?_
   refine At.cd h (fun b22 h => ?_) (fun b22 h => ?_)
   · refine At.skip (fun _ _ i => ⟨(p0.Op == 6),h,i.en [] [1,5,6] [0]⟩)
   · refine At.sR [1,5,6] [0] [] ?_
     refine At.cd h (fun b23 h => ?_) (fun b23 h => ?_)
     · refine At.skip (fun _ _ i => ⟨(p0.Op == 7),h,i.en [] [1,5,6] [0]⟩)
     · refine At.sR [1,5,6] [0] [] ?_
       refine At.cd h (fun b24 h => ?_) (fun b24 h => ?_)
       · refine At.skip (fun _ _ i => ⟨(p0.Op == 8),h,i.en [] [1,5,6] [0]⟩)
       · refine At.seq ?_
         refine At.rK (st' := ⟨[(1,.ptr 0 0),(5,i64 p0.Op),(6,bo (p0.Op == 20))],[.blk 36 (Ac.pvs p0)]⟩) [1,5,6] [0] [] (norm ?_)
         refine At.cd h (fun b25 h => ?_) (fun b25 h => ?_)
         · refine At.skip (fun _ _ i => ⟨(p0.Op == 20),h,i⟩)
         · refine At.sR [1,5,6] [0] [] ?_
           refine At.cd h (fun b26 h => ?_) (fun b26 h => ?_)
           · refine At.skip (fun _ _ i => ⟨(p0.Op == 21),h,i.en [] [1,5,6] [0]⟩)
           · exact At.rK [1,5,6] [0] [] fun _ _ i => ⟨(p0.Op == 22),h,i⟩
 · intro x19 h
   refine At.cd h (fun b20 h => ?_) (fun b20 h => ?_)
   · refine At.sR [2,3] [] [] ?_
     obtain rfl := sq h
     exact At.ret (At.rR hR [])
   · refine At.sR [1,15] [0] [] ?_
     refine At.cd h (fun b21 h => ?_) (fun b21 h => ?_)
     · refine At.sR [2,3] [] [] ?_
       obtain rfl := sq h
       exact At.ret (At.rR hR [])
     · refine At.nR [] [] ?_
       refine At.skip (norm ?_)
       refine At.sR [2,3] [] [] ?_
       obtain rfl := sq h
       exact At.ret (At.rR hR [])
theorem KM (p1 : Int) (p2 : Int) (o0 : As) (r : Bool) (h : BS p1 p2 o0 = some r) : FnOK Tryz.prog 29 [.ptr 0 0,i64 p1,i64 p2] [.blk 55 (As.pvs o0)] (bo r) [.blk 55 (As.pvs o0)] [1] := by
 refine fI Tryz.func29 rfl fun E gv R hR => ?_
 refine At.sR [0,1,2] [0,1] [] ?_
 refine At.seqJ (S := Bool) (fun s => ⟨[(6,bo s)],[.blk 55 (As.pvs o0),.ghost (gv 0) (.ptr 0 0)]⟩) (fun s => Ep s = some r) ?_ ?_
 · rcases cs h with ⟨b6,h⟩ | ⟨b6,h⟩
   · rcases cs h with ⟨b7,h⟩ | ⟨b7,h⟩
     · rcases cs h with ⟨b8,h⟩ | ⟨b8,h⟩
       · exact At.rK [6] [0,1] [bT 6 b6,bT 14 b7,bT 18 b8] fun _ _ i => ⟨true,h,i⟩
       · obtain ⟨y9,hy9,h⟩ := bs h
         exact At.rK [6] [0,1] [bT 6 b6,bT 14 b7,bT 18 b8,eT Ac.enc_len 25 hy9] fun _ _ i => ⟨(y9.Op == 1),h,i⟩
     · exact At.rK [6] [0,1] [bT 6 b6,bT 14 b7] fun _ _ i => ⟨false,h,i⟩
   · exact At.rK [6] [0,1] [bT 6 b6] fun _ _ i => ⟨false,h,i⟩
 · intro x5 h
   obtain rfl := sq h
   exact At.ret (At.rR hR [0])
theorem Il (p0 : Int) (r : Bool) (h : Ii p0 = some r) : FnOK Tryz.prog 30 [i64 p0] [] (bo r) [] [] := by
 refine fI Tryz.func30 rfl fun E gv R hR => ?_
 refine At.sR [0] [] [] ?_
 refine At.seq ?_
 refine At.sR [3] [] [] ?_
 refine At.block ?_
 refine At.seqJ (S := Bool) (fun s => ⟨[(4,bo s)],[]⟩) (fun s => Ea s = some r) ?_ ?_
 · refine At.sR [3,4] [] [] ?_
   refine At.cd h (fun b29 h => ?_) (fun b29 h => ?_)
   · refine At.nR [4] [] ?_
     refine At.skip (fun _ _ i => ⟨(p0 == 4),h,i.en [] [4] []⟩)
   · refine At.sR [3,4] [] [] ?_
     refine At.cd h (fun b30 h => ?_) (fun b30 h => ?_)
     · refine At.nR [4] [] ?_
       refine At.skip (fun _ _ i => ⟨(p0 == 10),h,i.en [] [4] []⟩)
     · refine At.sR [3,4] [] [] ?_
       refine At.cd h (fun b31 h => ?_) (fun b31 h => ?_)
       · refine At.nK (st' := ⟨[(4,bo (p0 == 11))],[]⟩) [4] [] ?_
         refine At.skip (fun _ _ i => ⟨(p0 == 11),h,i⟩)
       · refine At.seq ?_
         refine At.rK (st' := ⟨[(3,i64 p0),(4,bo (p0 == 12))],[]⟩) [3,4] [] [] (norm ?_)
         refine At.cd h (fun b32 h => ?_) (fun b32 h => ?_)
         · refine At.nR [4] [] ?_
           refine At.skip (fun _ _ i => ⟨(p0 == 12),h,i.en [] [4] []⟩)
         · refine At.sR [3,4] [] [] ?_
           refine At.cd h (fun b33 h => ?_) (fun b33 h => ?_)
           · refine At.nR [4] [] ?_
             refine At.skip (fun _ _ i => ⟨(p0 == 13),h,i.en [] [4] []⟩)
           · refine At.sR [3,4] [] [] ?_
             refine At.cd h (fun b34 h => ?_) (fun b34 h => ?_)
             · refine At.nR [4] [] ?_
               refine At.skip (fun _ _ i => ⟨(p0 == 14),h,i.en [] [4] []⟩)
             · refine At.sR [3,4] [] [] ?_
               refine At.cd h (fun b35 h => ?_) (fun b35 h => ?_)
               · refine At.nR [4] [] ?_
                 refine At.skip (fun _ _ i => ⟨(p0 == 15),h,i.en [] [4] []⟩)
               · refine At.sR [3,4] [] [] ?_
                 refine At.cd h (fun b36 h => ?_) (fun b36 h => ?_)
                 · refine At.nR [4] [] ?_
                   refine At.skip (fun _ _ i => ⟨(p0 == 16),h,i.en [] [4] []⟩)
                 · exact At.rK [4] [] [] fun _ _ i => ⟨(p0 == 17),h,i⟩
 · intro x27 h
   refine At.cd h (fun b28 h => ?_) (fun b28 h => ?_)
   · refine At.sR [2] [] [] ?_
     obtain rfl := sq h
     exact At.ret (At.rR hR [])
   · refine At.nR [] [] ?_
     refine At.skip (norm ?_)
     refine At.sR [2] [] [] ?_
     obtain rfl := sq h
     exact At.ret (At.rR hR [])
theorem GY (p0 : Int) (r : Bool) (h : DI p0 = some r) : FnOK Tryz.prog 32 [i64 p0] [] (bo r) [] [] := by
 refine fI Tryz.func32 rfl fun E gv R hR => ?_
 refine At.sR [0] [] [] ?_
 refine At.seqJ (S := Bool) (fun s => ⟨[(2,bo s)],[]⟩) (fun s => GC s = some r) ?_ ?_
 · rcases cs h with ⟨b5,h⟩ | ⟨b5,h⟩
   · exact At.rK [2] [] [bT 2 b5] fun _ _ i => ⟨true,h,i⟩
   · rcases cs h with ⟨b6,h⟩ | ⟨b6,h⟩
     · exact At.rK [2] [] [bT 2 b5,bT 6 b6] fun _ _ i => ⟨true,h,i⟩
     · rcases cs h with ⟨b7,h⟩ | ⟨b7,h⟩
       · exact At.rK [2] [] [bT 2 b5,bT 6 b6,bT 10 b7] fun _ _ i => ⟨true,h,i⟩
       · exact At.rK [2] [] [bT 2 b5,bT 6 b6,bT 10 b7] fun _ _ i => ⟨(p0 == 22),h,i⟩
 · intro x4 h
   obtain rfl := sq h
   exact At.ret (At.rR hR [])
theorem NK (p0 : Au) (p1 : Int) (r : Int) (h : IM p0 p1 = some r) : FnOK Tryz.prog 54 [.agg (Au.pvs p0),i64 p1] [] (i64 r) [] [] := by
 refine fI Tryz.func54 rfl fun E gv R hR => ?_
 refine At.sR [1,2] [0] [] ?_
 refine At.sR [1,2,5] [0] [] ?_
 refine At.seq ?_
 refine At.sR [1,2,5,10,11] [0] [] ?_
 refine At.block ?_
 refine At.nK (st' := ⟨[(1,i64 p1),(2,.ptr 0 0),(5,i64 p1),(10,i64 (w64 (((p0.Ins).length : Int) + 1))),(11,i64 0)],[.blk 27 (Au.pvs p0)]⟩) [1,2,5,10,11] [0] ?_
 refine At.lp (fun s : (Int × Int) => ⟨[(1,i64 p1),(2,.ptr 0 0),(5,i64 s.1),(10,i64 (w64 (((p0.Ins).length : Int) + 1))),(11,i64 s.2)],[.blk 27 (Au.pvs p0)]⟩) h ?_
 rintro ⟨x45,x46⟩ oo47 h f48
 replace h : Ey p0 p1 x45 x46 = some oo47 := h
 refine At.sR [1,2,5,10,11,12] [0] [] ?_
 refine At.seq ?_
 refine At.cd h (fun b50 h => ?_) (fun b50 h => ?_)
 · refine At.nR [1,2,5,10,11] [0] ?_
   refine At.skip (norm ?_)
   refine At.seq ?_
   refine At.block ?_
   refine At.seq ?_
   refine At.seqJ (S := Bool) (fun s => ⟨[(1,i64 p1),(2,.ptr 0 0),(5,i64 x45),(10,i64 (w64 (((p0.Ins).length : Int) + 1))),(11,i64 x46),(30,bo s)],[.blk 27 (Au.pvs p0)]⟩) (fun s => Fa p0 x45 x46 s = some oo47) ?_ ?_
   · rcases cs h with ⟨b84,h⟩ | ⟨b84,h⟩
     · exact At.rK [1,2,5,10,11,30] [0] [bT 2 b84] fun _ _ i => ⟨true,h,i⟩
     · rcases cs h with ⟨b85,h⟩ | ⟨b85,h⟩
       · exact At.rK [1,2,5,10,11,30] [0] [bT 2 b84,bT 9 b85] fun _ _ i => ⟨true,h,i⟩
       · obtain ⟨y86,hy86,h⟩ := bs h
         exact At.rK [1,2,5,10,11,30] [0] [bT 2 b84,bT 9 b85,eT Ac.enc_len 13 hy86] fun _ _ i => ⟨(y86.Op != 6),h,i⟩
   · intro x79 h
     refine At.cd h (fun b80 h => ?_) (fun b80 h => ?_)
     · refine At.sR [4] [] [] ?_
       obtain ⟨r81,h,e82⟩ := mr h
       rw [f48 _ e82] at h
       obtain rfl := sq h
       exact At.ret (At.rR hR [])
     · refine At.nR [1,2,5,10,11] [0] ?_
       refine At.skip (norm ?_)
       obtain ⟨y83,hy83,h⟩ := bs h
       refine At.rG [1,2,5,10,11] [0] [eT Ac.enc_len 3 hy83] (norm ?_)
       exact At.rK [1,2,5,10,11] [0] [] fun _ _ i => ⟨_,li h,i⟩
 · refine At.nR [1] [] ?_
   obtain ⟨r87,h,e88⟩ := mr h
   rw [f48 _ e88] at h
   refine At.exit (norm ?_)
   refine At.sR [4] [] [] ?_
   obtain rfl := sq h
   exact At.ret (At.rR hR [])
theorem Fk (p1 : Int) (o0 : As) (r : Bool) (h : Bj p1 o0 = some r) : FnOK Tryz.prog 31 [.ptr 0 0,i64 p1] [.blk 55 (As.pvs o0)] (bo r) [.blk 55 (As.pvs o0)] [1] := by
 refine fI Tryz.func31 rfl fun E gv R hR => ?_
 refine At.sR [0,1] [0,1] [] ?_
 obtain ⟨y2,hy2,h⟩ := bs h
 refine At.sR [0,1] [0,1] [c0 5 (NK o0.Code p1 y2 hy2)] ?_
 refine At.seqJ (S := Bool) (fun s => ⟨[(4,bo s)],[.blk 55 (As.pvs o0),.ghost (gv 0) (.ptr 0 0)]⟩) (fun s => Em s = some r) ?_ ?_
 · rcases cs h with ⟨b9,h⟩ | ⟨b9,h⟩
   · rcases cs h with ⟨b10,h⟩ | ⟨b10,h⟩
     · obtain ⟨y11,hy11,h⟩ := bs h
       rcases cs h with ⟨b12,h⟩ | ⟨b12,h⟩
       · exact At.rK [4] [0,1] [bT 6 b9,bT 14 b10,eT Ac.enc_len 21 hy11,bT 25 b12] fun _ _ i => ⟨true,h,i⟩
       · obtain ⟨y13,hy13,h⟩ := bs h
         exact At.rK [4] [0,1] [bT 6 b9,bT 14 b10,eT Ac.enc_len 21 hy11,bT 25 b12,eT Ac.enc_len 32 hy13] fun _ _ i => ⟨(y13.Op == 24),h,i⟩
     · exact At.rK [4] [0,1] [bT 6 b9,bT 14 b10] fun _ _ i => ⟨false,h,i⟩
   · exact At.rK [4] [0,1] [bT 6 b9] fun _ _ i => ⟨false,h,i⟩
 · intro x8 h
   obtain rfl := sq h
   exact At.ret (At.rR hR [0])
theorem Lt (p1 : Int) (o0 : As) (r : Bool) (h : Eo p1 o0 = some r) : FnOK Tryz.prog 14 [.ptr 0 0,i64 p1] [.blk 55 (As.pvs o0)] (bo r) [.blk 55 (As.pvs o0)] [1] := by
 refine fI Tryz.func14 rfl fun E gv R hR => ?_
 refine At.sR [0,1] [0,1] [] ?_
 obtain ⟨y2,hy2,h⟩ := bs h
 refine At.sR [0,1,5] [0,1,2] [eT Ac.enc_len 6 hy2] ?_
 refine At.seq ?_
 refine At.seqJ (S := Bool) (fun s => ⟨[(0,.ptr 0 0),(1,i64 p1),(5,.ptr 2 0),(50,bo s)],[.blk 55 (As.pvs o0),.ghost (gv 0) (.ptr 0 0),.blk 36 (Ac.pvs y2)]⟩) (fun s => BI p1 o0 y2 s = some r) ?_ ?_
 · obtain ⟨y98,hy98,h⟩ := bs h
   rcases cs h with ⟨b99,h⟩ | ⟨b99,h⟩
   · exact At.dK 0 [0,1,5,50] [0,1,2] [c0 1 (HT y2 y98 hy98),bT 3 b99] fun _ _ i => ⟨true,h,i⟩
   · rcases cs h with ⟨b100,h⟩ | ⟨b100,h⟩
     · exact At.dK 0 [0,1,5,50] [0,1,2] [c0 1 (HT y2 y98 hy98),bT 3 b99,bT 16 b100] fun _ _ i => ⟨true,h,i⟩
     · rcases cs h with ⟨b101,h⟩ | ⟨b101,h⟩
       · rcases cs h with ⟨b102,h⟩ | ⟨b102,h⟩
         · exact At.dK 0 [0,1,5,50] [0,1,2] [c0 1 (HT y2 y98 hy98),bT 3 b99,bT 16 b100,bT 23 b101,bT 28 b102] fun _ _ i => ⟨(y2.Op != 24),h,i⟩
         · exact At.dK 0 [0,1,5,50] [0,1,2] [c0 1 (HT y2 y98 hy98),bT 3 b99,bT 16 b100,bT 23 b101,bT 28 b102] fun _ _ i => ⟨false,h,i⟩
       · exact At.dK 0 [0,1,5,50] [0,1,2] [c0 1 (HT y2 y98 hy98),bT 3 b99,bT 16 b100,bT 23 b101] fun _ _ i => ⟨false,h,i⟩
 · intro x20 h
   refine At.cd h (fun b21 h => ?_) (fun b21 h => ?_)
   · refine At.sR [4] [0,1] [] ?_
     obtain rfl := sq h
     exact At.ret (At.rR hR [0])
   · refine At.nR [0,1,5] [0,1,2] ?_
     refine At.skip (norm ?_)
     refine At.sR [0,1,5,6] [0,1,2] [] ?_
     refine At.seqJ (S := Bool) (fun s => ⟨[(0,.ptr 0 0),(1,i64 p1),(5,.ptr 2 0),(6,bo s)],[.blk 55 (As.pvs o0),.ghost (gv 0) (.ptr 0 0),.blk 36 (Ac.pvs y2)]⟩) (fun s => AE p1 o0 y2 s = some r) ?_ ?_
     · refine At.sR [0,1,5,6,52] [0,1,2] [] ?_
       refine At.block ?_
       refine At.sR [0,1,5,6,52,53] [0,1,2] [] ?_
       refine At.cd h (fun b80 h => ?_) (fun b80 h => ?_)
       · exact At.dK 0 [0,1,5,6] [0,1,2] [] fun _ _ i => ⟨(y2.A == o0.marks),h,i⟩
       · refine At.seqJ (S := Bool) (fun s => ⟨[(0,.ptr 0 0),(1,i64 p1),(5,.ptr 2 0),(6,bo true),(52,i64 y2.Op),(62,bo s)],[.blk 55 (As.pvs o0),.ghost (gv 0) (.ptr 0 0),.blk 36 (Ac.pvs y2)]⟩) (fun s => D7 p1 o0 y2 s = some r) ?_ ?_
         · refine At.sR [0,1,5,6,52,62] [0,1,2] [] ?_
           refine At.cd h (fun b94 h => ?_) (fun b94 h => ?_)
           · refine At.skip (fun _ _ i => ⟨(y2.Op == 3),h,i.en [] [0,1,5,6,52,62] [0,1,2]⟩)
           · refine At.seq ?_
             refine At.rK (st' := ⟨[(0,.ptr 0 0),(1,i64 p1),(5,.ptr 2 0),(6,bo true),(52,i64 y2.Op),(62,bo (y2.Op == 4))],[.blk 55 (As.pvs o0),.ghost (gv 0) (.ptr 0 0),.blk 36 (Ac.pvs y2)]⟩) [0,1,5,6,52,62] [0,1,2] [] (norm ?_)
             refine At.cd h (fun b95 h => ?_) (fun b95 h => ?_)
             · refine At.skip (fun _ _ i => ⟨(y2.Op == 4),h,i⟩)
             · refine At.sR [0,1,5,6,52,62] [0,1,2] [] ?_
               refine At.cd h (fun b96 h => ?_) (fun b96 h => ?_)
               · refine At.skip (fun _ _ i => ⟨(y2.Op == 11),h,i.en [] [0,1,5,6,52,62] [0,1,2]⟩)
               · refine At.sR [0,1,5,6,52,62] [0,1,2] [] ?_
                 refine At.cd h (fun b97 h => ?_) (fun b97 h => ?_)
                 · refine At.skip (fun _ _ i => ⟨(y2.Op == 12),h,i.en [] [0,1,5,6,52,62] [0,1,2]⟩)
                 · exact At.rK [0,1,5,6,52,62] [0,1,2] [] fun _ _ i => ⟨(y2.Op == 19),h,i⟩
         · intro x85 h
           refine At.cd h (fun b86 h => ?_) (fun b86 h => ?_)
           · rcases cs h with ⟨b87,h⟩ | ⟨b87,h⟩
             · exact At.dK 0 [0,1,5,6] [0,1,2] [bT 3 b87] fun _ _ i => ⟨(decide (y2.A < o0.vars)),h,i⟩
             · exact At.dK 0 [0,1,5,6] [0,1,2] [bT 3 b87] fun _ _ i => ⟨false,h,i⟩
           · refine At.sR [0,1,5,6,52,80] [0,1,2] [] ?_
             refine At.cd h (fun b88 h => ?_) (fun b88 h => ?_)
             · obtain ⟨y89,hy89,h⟩ := bs h
               exact At.rK [0,1,5,6] [0,1,2] [cT 6 1 [2] (Fb o0.Code.Chans y2 y89 hy89)] fun _ _ i => ⟨y89,h,i⟩
             · refine At.sR [0,1,5,6,89] [0,1,2] [] ?_
               refine At.cd h (fun b90 h => ?_) (fun b90 h => ?_)
               · rcases cs h with ⟨b91,h⟩ | ⟨b91,h⟩
                 · rcases cs h with ⟨b92,h⟩ | ⟨b92,h⟩
                   · obtain ⟨y93,hy93,h⟩ := bs h
                     exact At.dK 0 [0,1,5,6] [0,1,2] [bT 3 b91,bT 14 b92,eT Ao.enc_len 24 hy93] fun _ _ i => ⟨(y2.B == y93.Params),h,i⟩
                   · exact At.dK 0 [0,1,5,6] [0,1,2] [bT 3 b91,bT 14 b92] fun _ _ i => ⟨false,h,i⟩
                 · exact At.dK 0 [0,1,5,6] [0,1,2] [bT 3 b91] fun _ _ i => ⟨false,h,i⟩
               · refine At.nR [0,1,5,6] [0,1,2] ?_
                 refine At.skip (fun _ _ i => ⟨true,h,i.en [] [0,1,5,6] [0,1,2]⟩)
     · intro x40 h
       obtain ⟨y42,hy42,h⟩ := bs h
       refine At.sR [0,1,5,6,7,8] [0,1,2] [c0 1 (KR y2 y42 hy42)] ?_
       refine At.seq ?_
       refine At.seqJ (S := Bool) (fun s => ⟨[(0,.ptr 0 0),(1,i64 p1),(5,.ptr 2 0),(7,i64 y42.1),(136,bo s)],[.blk 55 (As.pvs o0),.ghost (gv 0) (.ptr 0 0),.blk 36 (Ac.pvs y2)]⟩) (fun s => Bw p1 o0 y2 y42 s = some r) ?_ ?_
       · rcases cs h with ⟨b77,h⟩ | ⟨b77,h⟩
         · exact At.rK [0,1,5,7,136] [0,1,2] [bT 2 b77] fun _ _ i => ⟨true,h,i⟩
         · rcases cs h with ⟨b78,h⟩ | ⟨b78,h⟩
           · obtain ⟨y79,hy79,h⟩ := bs h
             exact At.rK [0,1,5,7,136] [0,1,2] [bT 2 b77,bT 4 b78,cT 8 1 [0] (KM p1 y42.1 o0 y79 hy79)] fun _ _ i => ⟨(!y79),h,i⟩
           · exact At.rK [0,1,5,7,136] [0,1,2] [bT 2 b77,bT 4 b78] fun _ _ i => ⟨false,h,i⟩
       · intro x54 h
         refine At.cd h (fun b55 h => ?_) (fun b55 h => ?_)
         · refine At.sR [4] [0,1] [] ?_
           obtain rfl := sq h
           exact At.ret (At.rR hR [0])
         · refine At.nR [0,1,5,7] [0,1,2] ?_
           refine At.skip (norm ?_)
           refine At.seqJ (S := Bool) (fun s => ⟨[(4,bo s)],[.blk 55 (As.pvs o0),.ghost (gv 0) (.ptr 0 0)]⟩) (fun s => D8 s = some r) ?_ ?_
           · obtain ⟨y67,hy67,h⟩ := bs h
             rcases cs h with ⟨b68,h⟩ | ⟨b68,h⟩
             · obtain ⟨y69,hy69,h⟩ := bs h
               rcases cs h with ⟨b70,h⟩ | ⟨b70,h⟩
               · exact At.rK [4] [0,1] [c0 2 (Il y2.Op y67 hy67),bT 4 b68,c0 13 (GY y2.Op y69 hy69),bT 15 b70] fun _ _ i => ⟨true,h,i⟩
               · obtain ⟨y71,hy71,h⟩ := bs h
                 exact At.rK [4] [0,1] [c0 2 (Il y2.Op y67 hy67),bT 4 b68,c0 13 (GY y2.Op y69 hy69),bT 15 b70,cT 18 1 [0] (Fk y42.1 o0 y71 hy71)] fun _ _ i => ⟨y71,h,i⟩
             · obtain ⟨y72,hy72,h⟩ := bs h
               rcases cs h with ⟨b73,h⟩ | ⟨b73,h⟩
               · obtain ⟨y74,hy74,h⟩ := bs h
                 rcases cs h with ⟨b75,h⟩ | ⟨b75,h⟩
                 · exact At.rK [4] [0,1] [c0 2 (Il y2.Op y67 hy67),bT 4 b68,cT 8 1 [0] (Fk (w64 (p1 + 1)) o0 y72 hy72),bT 10 b73,c0 13 (GY y2.Op y74 hy74),bT 15 b75] fun _ _ i => ⟨true,h,i⟩
                 · obtain ⟨y76,hy76,h⟩ := bs h
                   exact At.rK [4] [0,1] [c0 2 (Il y2.Op y67 hy67),bT 4 b68,cT 8 1 [0] (Fk (w64 (p1 + 1)) o0 y72 hy72),bT 10 b73,c0 13 (GY y2.Op y74 hy74),bT 15 b75,cT 18 1 [0] (Fk y42.1 o0 y76 hy76)] fun _ _ i => ⟨y76,h,i⟩
               · exact At.rK [4] [0,1] [c0 2 (Il y2.Op y67 hy67),bT 4 b68,cT 8 1 [0] (Fk (w64 (p1 + 1)) o0 y72 hy72),bT 10 b73] fun _ _ i => ⟨false,h,i⟩
           · intro x66 h
             obtain rfl := sq h
             exact At.ret (At.rR hR [0])
theorem O4 (p0 : Ac) (r : Int) (h : E8 p0 = some r) : FnOK Tryz.prog 55 [.agg (Ac.pvs p0)] [] (i64 r) [] [] := by
 refine fI Tryz.func55 rfl fun E gv R hR => ?_
 refine At.sR [1] [0] [] ?_
 obtain ⟨y2,hy2,h⟩ := bs h
 refine At.sR [1,3] [0,1] [c0 2 (LI p0.Op y2 hy2)] ?_
 refine At.seq ?_
 refine At.block ?_
 obtain ⟨y15,hy15,h⟩ := bs h
 refine At.sR [1,3,11] [0,1] [c0 1 (HT p0 y15 hy15)] ?_
 refine At.cd h (fun b16 h => ?_) (fun b16 h => ?_)
 · refine At.sR [2] [] [] ?_
   obtain rfl := sq h
   exact At.ret (At.rR hR [])
 · refine At.sR [1,3,15] [0,1] [] ?_
   refine At.cd h (fun b17 h => ?_) (fun b17 h => ?_)
   · obtain ⟨y19,hy19,h⟩ := bs h
     refine At.sR [2] [] [c0 2 (Ko p0.A y19 hy19)] ?_
     obtain rfl := sq h
     exact At.ret (At.rR hR [])
   · refine At.seqJ (S := Bool) (fun s => ⟨[(1,.ptr 0 0),(3,.ptr 1 0),(22,bo s)],[.blk 36 (Ac.pvs p0),.blk 112 (Al.pvs y2.1)]⟩) (fun s => HJ p0 y2 s = some r) ?_ ?_
     · rcases cs h with ⟨b24,h⟩ | ⟨b24,h⟩
       · exact At.rK [1,3,22] [0,1] [bT 3 b24] fun _ _ i => ⟨(decide (0 < p0.B)),h,i⟩
       · exact At.rK [1,3,22] [0,1] [bT 3 b24] fun _ _ i => ⟨false,h,i⟩
     · intro x21 h
       refine At.cd h (fun b22 h => ?_) (fun b22 h => ?_)
       · refine At.sR [2] [] [] ?_
         obtain rfl := sq h
         exact At.ret (At.rR hR [])
       · refine At.sR [1,3,31] [0,1] [] ?_
         refine At.cd h (fun b23 h => ?_) (fun b23 h => ?_)
         · refine At.sR [2] [] [] ?_
           obtain rfl := sq h
           exact At.ret (At.rR hR [])
         · refine At.nR [3] [1] ?_
           refine At.skip (norm ?_)
           refine At.sR [2] [] [] ?_
           obtain rfl := sq h
           exact At.ret (At.rR hR [])
theorem O5 (p0 : Ac) (r : Int) (h : HO p0 = some r) : FnOK Tryz.prog 56 [.agg (Ac.pvs p0)] [] (i64 r) [] [] := by
 refine fI Tryz.func56 rfl fun E gv R hR => ?_
 refine At.sR [1] [0] [] ?_
 refine At.seq ?_
 obtain ⟨y10,hy10,h⟩ := bs h
 refine At.sR [1,3,4] [0,1] [c0 2 (LI p0.Op y10 hy10)] ?_
 refine At.seqJ (S := Bool) (fun s => ⟨[(3,.ptr 0 0),(15,bo s)],[.blk 112 (Al.pvs y10.1)]⟩) (fun s => Jn y10 s = some r) ?_ ?_
 · rcases cs h with ⟨b15,h⟩ | ⟨b15,h⟩
   · obtain ⟨y16,hy16,h⟩ := bs h
     exact At.rK [3,15] [1] [bT 1 b15,c0 3 (HT p0 y16 hy16)] fun _ _ i => ⟨y16,h,i⟩
   · exact At.rK [3,15] [1] [bT 1 b15] fun _ _ i => ⟨false,h,i⟩
 · intro x13 h
   refine At.cd h (fun b14 h => ?_) (fun b14 h => ?_)
   · refine At.sR [2] [] [] ?_
     obtain rfl := sq h
     exact At.ret (At.rR hR [])
   · refine At.nR [] [] ?_
     refine At.skip (norm ?_)
     refine At.sR [2] [] [] ?_
     obtain rfl := sq h
     exact At.ret (At.rR hR [])
theorem O6 (p0 : Ac) (p1 : Aj) (r : Aj × Bool) (h : CY p0 p1 = some r) : FnOK Tryz.prog 33 [.agg (Ac.pvs p0),.agg (Aj.pvs p1)] [] (.tup [.agg (Aj.pvs r.1),bo r.2]) [] [] := by
 refine fI Tryz.func33 rfl fun E gv R hR => ?_
 refine At.sR [2,3,4] [0,1,2] [] ?_
 obtain ⟨y2,hy2,h⟩ := bs h
 refine At.sD 0 [2,3,4,6] [0,1,2] [c0 3 (O4 p0 y2 hy2)] ?_
 refine At.sR [2,3,4,6,7] [0,1,2] [] ?_
 refine At.seqJ (S := Bool × Bool) (fun s => ⟨[(2,.ptr 0 0),(3,.ptr 1 0),(4,.ptr 2 0),(6,i64 (w64 (p1.n - y2))),(7,bo s.1)],[.blk 36 (Ac.pvs p0),.blk 90 [i64 p1.n,bo s.2],.blk 90 [i64 0,bo false]]⟩) (fun s => A8 p0 p1 y2 s.1 s.2 = some r) ?_ ?_
 · refine At.block ?_
   refine At.seqJ (S := Bool) (fun s => ⟨[(2,.ptr 0 0),(3,.ptr 1 0),(4,.ptr 2 0),(6,i64 (w64 (p1.n - y2))),(7,bo (decide (0 ≤ (w64 (p1.n - y2))))),(15,bo s)],[.blk 36 (Ac.pvs p0),.blk 90 (Aj.pvs p1),.blk 90 [i64 0,bo false]]⟩) (fun s => Ir p0 p1 y2 s = some r) ?_ ?_
   · refine At.sR [2,3,4,6,7,15] [0,1,2] [] ?_
     refine At.cd h (fun b45 h => ?_) (fun b45 h => ?_)
     · refine At.skip (fun _ _ i => ⟨(p0.Op == 1),h,i.en [] [2,3,4,6,7,15] [0,1,2]⟩)
     · refine At.sR [2,3,4,6,7,15] [0,1,2] [] ?_
       refine At.cd h (fun b46 h => ?_) (fun b46 h => ?_)
       · refine At.skip (fun _ _ i => ⟨(p0.Op == 24),h,i.en [] [2,3,4,6,7,15] [0,1,2]⟩)
       · exact At.rK [2,3,4,6,7,15] [0,1,2] [] fun _ _ i => ⟨(p0.Op == 25),h,i⟩
   · intro x29 h
     refine At.cd h (fun b30 h => ?_) (fun b30 h => ?_)
     · refine At.sR [2,3,4,6,7] [0,1,2] [] ?_
       exact At.rK [2,3,4,6,7] [0,1,2] [] fun _ _ i => ⟨(((p1.n == 0) && ((p1.choose == false) && true)),(p0.Op == 25)),h,i⟩
     · refine At.sR [2,3,4,6,7,32] [0,1,2] [] ?_
       refine At.cd h (fun b31 h => ?_) (fun b31 h => ?_)
       · exact At.rK [2,3,4,6,7] [0,1,2] [] fun _ _ i => ⟨(((p1.n == 0) && ((p1.choose == true) && true)),p1.choose),h,i⟩
       · obtain ⟨y33,hy33,h⟩ := bs h
         refine At.sR [2,3,4,6,7,39] [0,1,2] [c0 2 (GY p0.Op y33 hy33)] ?_
         refine At.cd h (fun b34 h => ?_) (fun b34 h => ?_)
         · rcases cs h with ⟨b35,h⟩ | ⟨b35,h⟩
           · exact At.rK [2,3,4,6,7] [0,1,2] [bT 2 b35] fun _ _ i => ⟨(p1.choose,p1.choose),h,i⟩
           · exact At.rK [2,3,4,6,7] [0,1,2] [bT 2 b35] fun _ _ i => ⟨(false,p1.choose),h,i⟩
         · refine At.seqJ (S := Bool) (fun s => ⟨[(2,.ptr 0 0),(3,.ptr 1 0),(4,.ptr 2 0),(6,i64 (w64 (p1.n - y2))),(7,bo (decide (0 ≤ (w64 (p1.n - y2))))),(49,bo s)],[.blk 36 (Ac.pvs p0),.blk 90 (Aj.pvs p1),.blk 90 [i64 0,bo false]]⟩) (fun s => Jo p0 p1 y2 s = some r) ?_ ?_
           · obtain ⟨y43,hy43,h⟩ := bs h
             refine At.sR [2,3,4,6,7,49] [0,1,2] [c0 2 (Il p0.Op y43 hy43)] ?_
             refine At.cd h (fun b44 h => ?_) (fun b44 h => ?_)
             · refine At.skip (fun _ _ i => ⟨y43,h,i.en [] [2,3,4,6,7,49] [0,1,2]⟩)
             · exact At.rK [2,3,4,6,7,49] [0,1,2] [] fun _ _ i => ⟨(p0.Op == 18),h,i⟩
           · intro x39 h
             refine At.cd h (fun b40 h => ?_) (fun b40 h => ?_)
             · rcases cs h with ⟨b41,h⟩ | ⟨b41,h⟩
               · exact At.rK [2,3,4,6,7] [0,1,2] [bT 2 b41] fun _ _ i => ⟨((!p1.choose),p1.choose),h,i⟩
               · exact At.rK [2,3,4,6,7] [0,1,2] [bT 2 b41] fun _ _ i => ⟨(false,p1.choose),h,i⟩
             · refine At.nR [2,3,4,6,7] [0,1,2] ?_
               refine At.skip (fun _ _ i => ⟨((decide (0 ≤ (w64 (p1.n - y2)))),p1.choose),h,i.en [] [2,3,4,6,7] [0,1,2]⟩)
 · rintro ⟨x23,x24⟩ h
   replace h : A8 p0 p1 y2 x23 x24 = some r := h
   obtain ⟨y26,hy26,h⟩ := bs h
   refine At.sR [3,4,7] [1,2] [c0 2 (O5 p0 y26 hy26)] ?_
   refine At.sR [4,5] [1] [] ?_
   obtain rfl := sq h
   exact At.ret (At.rR hR [])
theorem Hm (p0 : Int) (p1 : Aj) (o2_0 : Int) (o3_0 : Bool) (o1 : (List (Int × Aj))) (r : Bool × (List (Int × Aj))) (h : Bl p0 p1 o2_0 o3_0 o1 = some r) : FnOK Tryz.prog 34 [i64 p0,.agg (Aj.pvs p1),.ptr 0 0,.ptr 2 0,.ptr 3 0] [.blk 91 [.mapv 1],.dmp true (encM .i64 Aj.enc o1),.blk 3 [i64 o2_0],.blk 4 [bo o3_0]] (.tup []) [.blk 91 [.mapv 1],.dmp true (encM .i64 Aj.enc r.2),.blk 3 [i64 o2_0],.blk 4 [bo r.1]] [1,3,5,7] := by
 refine fI Tryz.func34 rfl fun E gv R hR => ?_
 refine At.sR [0,2,3,4,6] [0,1,2,3,4,5,6,7,8] [] ?_
 obtain ⟨y2,hy2,h⟩ := Let_some h
 refine At.sR [0,2,3,4,6,7,8] [0,1,2,3,4,5,6,7,8,9] [tT 2 ({ orc := .cells (.bool y2.isSome :: Aj.enc (y2.getD (⟨0,false⟩ : Aj))) }) (allc (PE .i64 Aj.enc (⟨0,false⟩ : Aj) hy2) all0)] ?_
 refine At.block ?_
 refine At.sR [0,2,4,6,7,8,18] [0,1,2,3,4,5,6,7,8,9] [] ?_
 refine At.cd h (fun b3 h => ?_) (fun b3 h => ?_)
 · rcases cs h with ⟨b4,h⟩ | ⟨b4,h⟩
   · obtain rfl := sq h
     refine At.rG [] [0,1,2,3,4,5,6,7] [bT 1 b4] (edq (l := []) (ks := []) (ρ := [0,1,2,3,4,5,6,7]) (st' := ⟨[],[.blk 91 [.mapv 1],.dmp true (encM .i64 Aj.enc o1),.blk 3 [i64 o2_0],.blk 4 [bo ((p1.n == 0) && ((p1.choose == false) && true))],.ghost (gv 0) (.ptr 0 0),.ghost (gv 1) (.ptr 1 0),.ghost (gv 2) (.ptr 2 0),.ghost (gv 3) (.ptr 3 0)]⟩) (by kernel_rfl) (At.rN hR [0,1,2,3]))
   · obtain rfl := sq h
     refine At.rG [] [0,1,2,3,4,5,6,7] [bT 1 b4] (edq (l := []) (ks := []) (ρ := [0,1,2,3,4,5,6,7]) (st' := ⟨[],[.blk 91 [.mapv 1],.dmp true (encM .i64 Aj.enc o1),.blk 3 [i64 o2_0],.blk 4 [bo false],.ghost (gv 0) (.ptr 0 0),.ghost (gv 1) (.ptr 1 0),.ghost (gv 2) (.ptr 2 0),.ghost (gv 3) (.ptr 3 0)]⟩) (by kernel_rfl) (At.rN hR [0,1,2,3]))
 · refine At.sR [0,2,4,6,7,28] [0,1,2,3,4,5,6,7,8,9] [] ?_
   refine At.cd h (fun b5 h => ?_) (fun b5 h => ?_)
   · rcases cs h with ⟨b6,h⟩ | ⟨b6,h⟩
     · obtain rfl := sq h
       refine At.rG [] [0,1,2,3,4,5,6,7] [bT 1 b6] (edq (l := []) (ks := []) (ρ := [0,1,2,3,4,5,6,7]) (st' := ⟨[],[.blk 91 [.mapv 1],.dmp true (encM .i64 Aj.enc o1),.blk 3 [i64 o2_0],.blk 4 [bo ((p1.n == ((y2.getD (⟨0,false⟩ : Aj)).n)) && ((p1.choose == ((y2.getD (⟨0,false⟩ : Aj)).choose)) && true))],.ghost (gv 0) (.ptr 0 0),.ghost (gv 1) (.ptr 1 0),.ghost (gv 2) (.ptr 2 0),.ghost (gv 3) (.ptr 3 0)]⟩) (by kernel_rfl) (At.rN hR [0,1,2,3]))
     · obtain rfl := sq h
       refine At.rG [] [0,1,2,3,4,5,6,7] [bT 1 b6] (edq (l := []) (ks := []) (ρ := [0,1,2,3,4,5,6,7]) (st' := ⟨[],[.blk 91 [.mapv 1],.dmp true (encM .i64 Aj.enc o1),.blk 3 [i64 o2_0],.blk 4 [bo false],.ghost (gv 0) (.ptr 0 0),.ghost (gv 1) (.ptr 1 0),.ghost (gv 2) (.ptr 2 0),.ghost (gv 3) (.ptr 3 0)]⟩) (by kernel_rfl) (At.rN hR [0,1,2,3]))
   · obtain rfl := sq h
     refine At.rG [] [0,1,2,3,4,5,6,7] [tT 3 ({ orc := .ents (encM .i64 Aj.enc (mPut o1 p0 p1)) }) (allc (RK .i64 Aj.enc p0 p1 o1) all0)] (edq (l := []) (ks := []) (ρ := [0,1,2,3,4,5,6,7]) (st' := ⟨[],[.blk 91 [.mapv 1],.dmp true (encM .i64 Aj.enc (mPut o1 p0 p1)),.blk 3 [i64 o2_0],.blk 4 [bo o3_0],.ghost (gv 0) (.ptr 0 0),.ghost (gv 1) (.ptr 1 0),.ghost (gv 2) (.ptr 2 0),.ghost (gv 3) (.ptr 3 0)]⟩) (by kernel_rfl) (At.rN hR [0,1,2,3]))
theorem K7 (o0 : As) (r : Int × Bool) (h : EV o0 = some r) : FnOK Tryz.prog 15 [.ptr 0 0] [.blk 55 (As.pvs o0)] (.tup [i64 r.1,bo r.2]) [.blk 55 (As.pvs o0)] [1] := by
 refine fI Tryz.func15 rfl fun E gv R hR => ?_
 refine At.sR [0] [0,1] [] ?_
 refine At.sR [0,4] [0,1,3,2] [] ?_
 refine At.eN [.mapD 3 true] [0,4] [0,1,2,3] ?_
 refine At.seq ?_
 refine At.sR [0,4,5] [0,1,2,3,4] [] ?_
 refine At.block ?_
 refine At.nK (st' := ⟨[(0,.ptr 0 0),(4,.ptr 2 0),(5,.ptr 4 0)],[.blk 55 (As.pvs o0),.ghost (gv 0) (.ptr 0 0),.blk 91 [.mapv 3],.dmp true (encM .i64 Aj.enc ([(o0.from_,(⟨0,false⟩ : Aj))] : List (Int × Aj))),.blk 3 [i64 o0.from_]]⟩) [0,4,5] [0,1,2,3,4] ?_
 refine At.lp (fun s : ((List (Int × Aj)) × Int) => ⟨[(0,.ptr 0 0),(4,.ptr 2 0),(5,.ptr 4 0)],[.blk 55 (As.pvs o0),.ghost (gv 0) (.ptr 0 0),.blk 91 [.mapv 3],.dmp true (encM .i64 Aj.enc s.1),.blk 3 [i64 s.2]]⟩) h ?_
 rintro ⟨x138,x139⟩ oo140 h f141
 replace h : BD o0 x138 x139 = some oo140 := h
 refine At.seq ?_
 refine At.sD 0 [0,4,5,30] [0,1,2,3,4] [] ?_
 refine At.cd h (fun b143 h => ?_) (fun b143 h => ?_)
 · refine At.nR [0,4,5] [0,1,2,3,4] ?_
   refine At.skip (norm ?_)
   refine At.seqJ (S := (List (Int × Aj))) (fun s => ⟨[(0,.ptr 0 0),(4,.ptr 2 0),(5,.ptr 4 0)],[.blk 55 (As.pvs o0),.ghost (gv 0) (.ptr 0 0),.blk 91 [.mapv 3],.dmp true (encM .i64 Aj.enc s),.blk 3 [i64 x139]]⟩) (fun s => G4 x139 s = some oo140) ?_ ?_
   · refine At.block ?_
     obtain ⟨y209,hy209,h⟩ := Let_some h
     refine At.sR [0,4,5,6,7] [0,1,2,3,4,5] [tT 2 ({ orc := .cells (.bool y209.isSome :: Aj.enc (y209.getD (⟨0,false⟩ : Aj))) }) (allc (PE .i64 Aj.enc (⟨0,false⟩ : Aj) hy209) all0)] ?_
     obtain ⟨y211,hy211,h⟩ := bs h
     refine At.sD 1 [0,4,5,6,7,8] [0,1,2,3,4,5,6] [eT Ac.enc_len 6 hy211] ?_
     refine At.seq ?_
     refine At.seqJ (S := Bool) (fun s => ⟨[(0,.ptr 0 0),(4,.ptr 2 0),(5,.ptr 4 0),(6,.ptr 5 0),(8,.ptr 6 0),(53,bo s)],[.blk 55 (As.pvs o0),.ghost (gv 0) (.ptr 0 0),.blk 91 [.mapv 3],.dmp true (encM .i64 Aj.enc x138),.blk 3 [i64 x139],.blk 90 (Aj.pvs (y209.getD (⟨0,false⟩ : Aj))),.blk 36 (Ac.pvs y211)]⟩) (fun s => FX x138 x139 y209 y211 s = some oo140) ?_ ?_
     · rcases cs h with ⟨b272,h⟩ | ⟨b272,h⟩
       · exact At.rK [0,4,5,6,8,53] [0,1,2,3,4,5,6] [bT 2 b272] fun _ _ i => ⟨(y211.Op != 1),h,i⟩
       · exact At.rK [0,4,5,6,8,53] [0,1,2,3,4,5,6] [bT 2 b272] fun _ _ i => ⟨false,h,i⟩
     · intro x217 h
       refine At.cd h (fun b218 h => ?_) (fun b218 h => ?_)
       · refine At.nR [0,4,5] [0,1,2,3,4] ?_
         refine At.exit (fun _ _ i => ⟨x138,h,i.en [] [0,4,5] [0,1,2,3,4]⟩)
       · refine At.nR [0,4,5,6,8] [0,1,2,3,4,5,6] ?_
         refine At.skip (norm ?_)
         obtain ⟨y220,hy220,h⟩ := bs h
         refine At.sR [0,4,5,8,9,10] [0,1,2,3,4,6,7,8] [c0 2 (O6 y211 (y209.getD (⟨0,false⟩ : Aj)) y220 hy220)] ?_
         refine At.sR [0,4,5,8,9,10,11] [0,1,2,3,4,5,6,7] [] ?_
         refine At.seqJ (S := (List (Int × Aj)) × Bool) (fun s => ⟨[(0,.ptr 0 0),(4,.ptr 2 0),(5,.ptr 4 0),(8,.ptr 5 0),(9,.ptr 6 0),(10,.ptr 7 0),(11,.fn (.func 34) [] [.ptr 2 0,.ptr 4 0,.ptr 7 0])],[.blk 55 (As.pvs o0),.ghost (gv 0) (.ptr 0 0),.blk 91 [.mapv 3],.dmp true (encM .i64 Aj.enc s.1),.blk 3 [i64 x139],.blk 36 (Ac.pvs y211),.blk 90 (Aj.pvs y220.1),.blk 4 [bo s.2]]⟩) (fun s => Bn x139 y211 y220 s.1 s.2 = some oo140) ?_ ?_
         · obtain ⟨y262,hy262,h⟩ := bs h
           refine At.sR [0,4,5,8,9,10,11,12,13] [0,1,2,3,4,5,6,7] [c0 1 (KR y211 y262 hy262)] ?_
           refine At.seqJ (S := Bool) (fun s => ⟨[(0,.ptr 0 0),(4,.ptr 2 0),(5,.ptr 4 0),(8,.ptr 5 0),(9,.ptr 6 0),(10,.ptr 7 0),(11,.fn (.func 34) [] [.ptr 2 0,.ptr 4 0,.ptr 7 0]),(12,i64 y262.1),(69,bo s)],[.blk 55 (As.pvs o0),.ghost (gv 0) (.ptr 0 0),.blk 91 [.mapv 3],.dmp true (encM .i64 Aj.enc x138),.blk 3 [i64 x139],.blk 36 (Ac.pvs y211),.blk 90 (Aj.pvs y220.1),.blk 4 [bo y220.2]]⟩) (fun s => Bm x138 x139 y211 y220 y262 s = some oo140) ?_ ?_
           · rcases cs h with ⟨b271,h⟩ | ⟨b271,h⟩
             · exact At.rK [0,4,5,8,9,10,11,12,69] [0,1,2,3,4,5,6,7] [bT 1 b271] fun _ _ i => ⟨y220.2,h,i⟩
             · exact At.rK [0,4,5,8,9,10,11,12,69] [0,1,2,3,4,5,6,7] [bT 1 b271] fun _ _ i => ⟨false,h,i⟩
           · intro x264 h
             refine At.cd h (fun b265 h => ?_) (fun b265 h => ?_)
             · obtain ⟨y267,hy267,h⟩ := bs h
               refine At.sR [0,4,5,8,9,10,11,12,72] [0,1,2,3,4,5,6,7] [c0 2 (GY y211.Op y267 hy267)] ?_
               refine At.cd h (fun b268 h => ?_) (fun b268 h => ?_)
               · obtain ⟨y269,hy269,h⟩ := bs h
                 exact At.rK [0,4,5,8,9,10,11] [0,1,2,3,4,5,6,7] [cT 3 4 [2,3,4,7] (Hm y262.1 (⟨0,false⟩ : Aj) x139 y220.2 x138 y269 hy269)] fun _ _ i => ⟨(y269.2,y269.1),h,i⟩
               · obtain ⟨y270,hy270,h⟩ := bs h
                 exact At.rK [0,4,5,8,9,10,11] [0,1,2,3,4,5,6,7] [cT 3 4 [2,3,4,7] (Hm y262.1 y220.1 x139 y220.2 x138 y270 hy270)] fun _ _ i => ⟨(y270.2,y270.1),h,i⟩
             · refine At.nR [0,4,5,8,9,10,11] [0,1,2,3,4,5,6,7] ?_
               refine At.skip (fun _ _ i => ⟨(x138,y220.2),h,i.en [] [0,4,5,8,9,10,11] [0,1,2,3,4,5,6,7]⟩)
         · rintro ⟨x232,x233⟩ h
           replace h : Bn x139 y211 y220 x232 x233 = some oo140 := h
           refine At.seqJ (S := (List (Int × Aj)) × Bool) (fun s => ⟨[(0,.ptr 0 0),(4,.ptr 2 0),(5,.ptr 4 0),(10,.ptr 5 0)],[.blk 55 (As.pvs o0),.ghost (gv 0) (.ptr 0 0),.blk 91 [.mapv 3],.dmp true (encM .i64 Aj.enc s.1),.blk 3 [i64 x139],.blk 4 [bo s.2]]⟩) (fun s => FW x139 s.1 s.2 = some oo140) ?_ ?_
           · refine At.seqJ (S := Bool) (fun s => ⟨[(0,.ptr 0 0),(4,.ptr 2 0),(5,.ptr 4 0),(9,.ptr 5 0),(10,.ptr 6 0),(11,.fn (.func 34) [] [.ptr 2 0,.ptr 4 0,.ptr 6 0]),(101,bo s)],[.blk 55 (As.pvs o0),.ghost (gv 0) (.ptr 0 0),.blk 91 [.mapv 3],.dmp true (encM .i64 Aj.enc x232),.blk 3 [i64 x139],.blk 90 (Aj.pvs y220.1),.blk 4 [bo x233]]⟩) (fun s => Cf x139 y220 x232 x233 s = some oo140) ?_ ?_
             · rcases cs h with ⟨b257,h⟩ | ⟨b257,h⟩
               · rcases cs h with ⟨b258,h⟩ | ⟨b258,h⟩
                 · rcases cs h with ⟨b259,h⟩ | ⟨b259,h⟩
                   · rcases cs h with ⟨b260,h⟩ | ⟨b260,h⟩
                     · exact At.rK [0,4,5,9,10,11,101] [0,1,2,3,4,6,7] [bT 1 b257,bT 6 b258,bT 11 b259,bT 16 b260] fun _ _ i => ⟨(y211.Op != 24),h,i⟩
                     · exact At.rK [0,4,5,9,10,11,101] [0,1,2,3,4,6,7] [bT 1 b257,bT 6 b258,bT 11 b259,bT 16 b260] fun _ _ i => ⟨false,h,i⟩
                   · exact At.rK [0,4,5,9,10,11,101] [0,1,2,3,4,6,7] [bT 1 b257,bT 6 b258,bT 11 b259] fun _ _ i => ⟨false,h,i⟩
                 · exact At.rK [0,4,5,9,10,11,101] [0,1,2,3,4,6,7] [bT 1 b257,bT 6 b258] fun _ _ i => ⟨false,h,i⟩
               · exact At.rK [0,4,5,9,10,11,101] [0,1,2,3,4,6,7] [bT 1 b257] fun _ _ i => ⟨false,h,i⟩
             · intro x254 h
               refine At.cd h (fun b255 h => ?_) (fun b255 h => ?_)
               · obtain ⟨y256,hy256,h⟩ := bs h
                 exact At.rK [0,4,5,10] [0,1,2,3,4,6] [cT 4 4 [2,3,4,6] (Hm (w64 (x139 + 1)) y220.1 x139 x233 x232 y256 hy256)] fun _ _ i => ⟨(y256.2,y256.1),h,i⟩
               · refine At.nR [0,4,5,10] [0,1,2,3,4,6] ?_
                 refine At.skip (fun _ _ i => ⟨(x232,x233),h,i.en [] [0,4,5,10] [0,1,2,3,4,5]⟩)
           · rintro ⟨x245,x246⟩ h
             replace h : FW x139 x245 x246 = some oo140 := h
             refine At.sR [0,4,5,108] [0,1,2,3,4] [] ?_
             refine At.cd h (fun b247 h => ?_) (fun b247 h => ?_)
             · refine At.sR [2,3] [0,1] [] ?_
               obtain ⟨r248,h,e249⟩ := mr h
               rw [f141 _ e249] at h
               obtain rfl := sq h
               exact At.ret (At.rR hR [0])
             · refine At.nR [0,4,5] [0,1,2,3,4] ?_
               refine At.skip (fun _ _ i => ⟨x245,h,i.en [] [0,4,5] [0,1,2,3,4]⟩)
   · intro x207 h
     refine At.seq ?_
     refine At.sR [0,4,110] [0,1,2,3] [] ?_
     refine At.rG [0,4,5] [0,1,2,3,4] [] (norm ?_)
     exact At.rK [0,4,5] [0,1,2,3,4] [] fun _ _ i => ⟨_,li h,i⟩
 · refine At.nR [] [0,1] ?_
   obtain ⟨r273,h,e274⟩ := mr h
   rw [f141 _ e274] at h
   refine At.exit (norm ?_)
   refine At.sR [2,3] [0,1] [] ?_
   obtain rfl := sq h
   exact At.ret (At.rR hR [0])
theorem Km (p0 : Au) (r : Int × Int) (h : Cr p0 = some r) : FnOK Tryz.prog 6 [.agg (Au.pvs p0)] [] (.tup [i64 r.1,i64 r.2]) [] [] := by
 refine fI Tryz.func6 rfl fun E gv R hR => ?_
 refine At.sR [1] [0] [] ?_
 refine At.seq ?_
 obtain ⟨y5,hy5,h⟩ := bs h
 refine At.sR [1,12] [0] [c0 1 (NJ p0 y5 hy5)] ?_
 refine At.cd h (fun b6 h => ?_) (fun b6 h => ?_)
 · refine At.sR [2,3] [] [] ?_
   obtain rfl := sq h
   exact At.ret (At.rR hR [])
 · refine At.nR [1] [0] ?_
   refine At.skip (norm ?_)
   refine At.sR [1,4] [0,1] [] ?_
   refine At.seq ?_
   refine At.sR [1,4,18,19] [0,1] [] ?_
   refine At.block ?_
   refine At.nK (st' := ⟨[(1,.ptr 0 0),(4,.ptr 1 0),(18,i64 ((p0.Defs).length : Int)),(19,i64 0)],[.blk 27 (Au.pvs p0),.blk 55 (Au.pvs p0 ++ [i64 0,i64 0,i64 0,i64 0])]⟩) [1,4,18,19] [0,1] ?_
   refine At.lp (fun s : (Int × (List Ac) × (List Ao) × (List Ak) × Int × Int × Int × Int × Int × Int) => ⟨[(1,.ptr 0 0),(4,.ptr 1 0),(18,i64 ((p0.Defs).length : Int)),(19,i64 s.1)],[.blk 27 (Au.pvs p0),.blk 55 [lv Ac.enc s.2.1,lv Ao.enc s.2.2.1,lv Ak.enc s.2.2.2.1,i64 s.2.2.2.2.1,i64 s.2.2.2.2.2.1,i64 s.2.2.2.2.2.2.1,i64 s.2.2.2.2.2.2.2.1,i64 s.2.2.2.2.2.2.2.2.1,i64 s.2.2.2.2.2.2.2.2.2]]⟩) h ?_
   rintro ⟨x87,x88,x89,x90,x91,x92,x93,x94,x95,x96⟩ oo97 h f98
   replace h : FH p0 x87 x88 x89 x90 x91 x92 x93 x94 x95 x96 = some oo97 := h
   refine At.sR [1,4,18,19,20] [0,1] [] ?_
   refine At.seq ?_
   refine At.cd h (fun b100 h => ?_) (fun b100 h => ?_)
   · refine At.nR [1,4,18,19] [0,1] ?_
     refine At.skip (norm ?_)
     refine At.seq ?_
     refine At.block ?_
     refine At.sR [1,4,5,18,19] [0,1] [] ?_
     obtain ⟨y133,hy133,h⟩ := bs h
     refine At.sR [1,4,18,19] [0,1] [cT 2 1 [1] (Ic x87 (⟨(⟨x88,x89,x90,x91,x92⟩ : Au),x93,x94,x95,x96⟩ : As) y133 hy133)] ?_
     refine At.sR [1,4,6,18,19] [0,1] [] ?_
     refine At.block ?_
     refine At.nK (st' := ⟨[(1,.ptr 0 0),(4,.ptr 1 0),(6,i64 y133.from_),(18,i64 ((p0.Defs).length : Int)),(19,i64 x87)],[.blk 27 (Au.pvs p0),.blk 55 (As.pvs y133)]⟩) [1,4,6,18,19] [0,1] ?_
     refine At.lp (fun s : (Int × Int) => ⟨[(1,.ptr 0 0),(4,.ptr 1 0),(6,i64 s.1),(18,i64 ((p0.Defs).length : Int)),(19,i64 x87)],[.blk 27 (Au.pvs p0),.blk 55 (Au.pvs y133.Code ++ [i64 s.2,i64 y133.from_,i64 y133.to,i64 y133.vars])]⟩) h ?_
     rintro ⟨x134,x135⟩ oo136 h f137
     replace h : Cn p0 x87 y133 x134 x135 = some oo136 := h
     refine At.seq ?_
     refine At.sR [1,4,6,18,19,34] [0,1] [] ?_
     refine At.cd h (fun b139 h => ?_) (fun b139 h => ?_)
     · refine At.nR [1,4,6,18,19] [0,1] ?_
       refine At.skip (norm ?_)
       refine At.seqJ (S := Int) (fun s => ⟨[(1,.ptr 0 0),(4,.ptr 1 0),(6,i64 x134),(18,i64 ((p0.Defs).length : Int)),(19,i64 x87)],[.blk 27 (Au.pvs p0),.blk 55 (Au.pvs y133.Code ++ [i64 s,i64 y133.from_,i64 y133.to,i64 y133.vars])]⟩) (fun s => I2 x134 s = some oo136) ?_ ?_
       · refine At.block ?_
         refine At.seq ?_
         obtain ⟨y154,hy154,h⟩ := bs h
         refine At.sR [1,4,6,18,19,40] [0,1] [cT 2 1 [1] (Lt x134 (⟨y133.Code,x135,y133.from_,y133.to,y133.vars⟩ : As) y154 hy154)] ?_
         refine At.cd h (fun b155 h => ?_) (fun b155 h => ?_)
         · refine At.sR [2,3] [] [] ?_
           obtain ⟨r156,h,e157⟩ := mr h
           rw [f137 _ e157] at h
           obtain ⟨r158,h,e159⟩ := mr h
           rw [f98 _ e159] at h
           obtain rfl := sq h
           exact At.ret (At.rR hR [])
         · refine At.nR [1,4,6,18,19] [0,1] ?_
           refine At.skip (norm ?_)
           obtain ⟨y161,hy161,h⟩ := bs h
           refine At.sR [1,4,6,18,19,48] [0,1] [eT Ac.enc_len 3 hy161] ?_
           refine At.cd h (fun b162 h => ?_) (fun b162 h => ?_)
           · exact At.rK [1,4,6,18,19] [0,1] [] fun _ _ i => ⟨(w64 (x135 + 1)),h,i⟩
           · refine At.nK (st' := ⟨[(1,.ptr 0 0),(4,.ptr 1 0),(6,i64 x134),(18,i64 ((p0.Defs).length : Int)),(19,i64 x87)],[.blk 27 (Au.pvs p0),.blk 55 (Au.pvs y133.Code ++ [i64 x135,i64 y133.from_,i64 y133.to,i64 y133.vars])]⟩) [1,4,6,18,19] [0,1] ?_
             refine At.skip (fun _ _ i => ⟨x135,h,i⟩)
       · intro x149 h
         exact At.rK [1,4,6,18,19] [0,1] [] fun _ _ i => ⟨_,li h,i⟩
     · refine At.nR [1,4,18,19] [0,1] ?_
       obtain ⟨r163,h,e164⟩ := mr h
       rw [f137 _ e164] at h
       refine At.exit (norm ?_)
       exact At.rK [1,4,18,19] [0,1] [] fun _ _ i => ⟨_,li h,i⟩
   · refine At.nR [1,4] [0,1] ?_
     obtain ⟨r165,h,e166⟩ := mr h
     rw [f98 _ e166] at h
     refine At.exit (norm ?_)
     refine At.seq ?_
     refine At.sD 0 [1,4,63] [0,1] [] ?_
     refine At.cd h (fun b168 h => ?_) (fun b168 h => ?_)
     · refine At.sR [2,3] [] [] ?_
       obtain rfl := sq h
       exact At.ret (At.rR hR [])
     · refine At.nR [1,4] [0,1] ?_
       refine At.skip (norm ?_)
       refine At.seq ?_
       refine At.sR [4,66,67] [1] [] ?_
       refine At.block ?_
       refine At.nK (st' := ⟨[(4,.ptr 0 0),(66,i64 ((p0.Defs).length : Int)),(67,i64 0)],[.blk 55 [lv Ac.enc x88,lv Ao.enc x89,lv Ak.enc x90,i64 x91,i64 x92,i64 x93,i64 x94,i64 x95,i64 x96]]⟩) [4,66,67] [0] ?_
       refine At.lp (fun s : (Int × (List Ac) × (List Ao) × (List Ak) × Int × Int × Int × Int × Int × Int) => ⟨[(4,.ptr 0 0),(66,i64 ((p0.Defs).length : Int)),(67,i64 s.1)],[.blk 55 [lv Ac.enc s.2.1,lv Ao.enc s.2.2.1,lv Ak.enc s.2.2.2.1,i64 s.2.2.2.2.1,i64 s.2.2.2.2.2.1,i64 s.2.2.2.2.2.2.1,i64 s.2.2.2.2.2.2.2.1,i64 s.2.2.2.2.2.2.2.2.1,i64 s.2.2.2.2.2.2.2.2.2]]⟩) h ?_
       rintro ⟨x197,x198,x199,x200,x201,x202,x203,x204,x205,x206⟩ oo207 h f208
       replace h : C4 p0 x197 x198 x199 x200 x201 x202 x203 x204 x205 x206 = some oo207 := h
       refine At.sR [4,66,67,68] [0] [] ?_
       refine At.seq ?_
       refine At.cd h (fun b210 h => ?_) (fun b210 h => ?_)
       · refine At.nR [4,66,67] [0] ?_
         refine At.skip (norm ?_)
         refine At.seq ?_
         refine At.block ?_
         refine At.sR [4,7,66,67] [0] [] ?_
         obtain ⟨y217,hy217,h⟩ := bs h
         refine At.sR [4,66,67] [0] [cT 2 1 [0] (Ic x197 (⟨(⟨x198,x199,x200,x201,x202⟩ : Au),x203,x204,x205,x206⟩ : As) y217 hy217)] ?_
         obtain ⟨y219,hy219,h⟩ := bs h
         refine At.sR [4,8,9,66,67] [0] [cT 1 1 [0] (K7 y217 y219 hy219)] ?_
         refine At.seq ?_
         refine At.rK (st' := ⟨[(4,.ptr 0 0),(8,i64 y219.1),(66,i64 ((p0.Defs).length : Int)),(67,i64 x197),(79,bo (!y219.2))],[.blk 55 (As.pvs y217)]⟩) [4,8,66,67,79] [0] [] (norm ?_)
         refine At.cd h (fun b220 h => ?_) (fun b220 h => ?_)
         · refine At.sR [2,3] [] [] ?_
           obtain ⟨r221,h,e222⟩ := mr h
           rw [f208 _ e222] at h
           obtain rfl := sq h
           exact At.ret (At.rR hR [])
         · refine At.nR [4,66,67] [0] ?_
           refine At.skip (norm ?_)
           exact At.rK [4,66,67] [0] [] fun _ _ i => ⟨_,li h,i⟩
       · refine At.nR [] [] ?_
         obtain ⟨r223,h,e224⟩ := mr h
         rw [f208 _ e224] at h
         refine At.exit (norm ?_)
         refine At.sR [2,3] [] [] ?_
         obtain rfl := sq h
         exact At.ret (At.rR hR [])
theorem F0 (p0 : (List Ao)) (r : (List Ao)) (h : De p0 = some r) : FnOK Tryz.prog 16 [lv Ao.enc p0] [] (.fn (.func 35) [] [.ptr 0 0]) [.blk 24 [lv Ao.enc r]] [] := by
 refine fI Tryz.func16 rfl fun E gv R hR => ?_
 refine At.sR [1] [0] [] ?_
 refine At.sR [2] [0] [] ?_
 obtain rfl := sq h
 exact At.ret (At.rR hR [0])
theorem Jk (p0 : Int) (p1 : Ao) (o1_0 : Int) (o2_0 : Int) (r : (Int) ⊕ (Unit)) (h : Jj p0 p1 o1_0 o2_0 = some r) : RdOK Tryz.prog 0 [i64 p0,.agg (Ao.pvs p1)] [.loop #[19,20] AV AU 26 [3,4] [.ptr 1 0,.ptr 2 0] .ready none,.blk 3 [i64 o1_0],.blk 3 [i64 o2_0]] ((Sum.elim (fun r => bo false) (fun r => bo true)) r) ((Sum.elim (fun r => [.loop #[19,20] AV AU 26 [3,4] [.ptr 1 0,.ptr 2 0] .done (some .ret),.blk 3 [i64 o1_0],.blk 3 [i64 r]]) (fun r => [.loop #[19,20] AV AU 26 [3,4] [.ptr 1 0,.ptr 2 0] .ready none,.blk 3 [i64 o1_0],.blk 3 [i64 o2_0]])) r) [1,3,5] := by
 refine RdOK.intro (i := 0) rfl (by kernel_rfl) fun E gv l R hR => ?_
 refine At.eqv (st2 := ⟨[(19,i64 p0),(20,.agg (Ao.pvs p1)),(3,.ptr 1 0),(4,.ptr 2 0)],[.loop #[19,20] AV AU 26 [3,4] [.ptr 1 0,.ptr 2 0] .ready none,.blk 3 [i64 o1_0],.blk 3 [i64 o2_0],.ghost (gv 0) (.ptr 0 0),.ghost (gv 1) (.ptr 1 0),.ghost (gv 2) (.ptr 2 0),.ghost (HF l) (.yld 0)]⟩) rfl ?_
 refine At.seq ?_
 refine At.rK (st' := ⟨[(3,.ptr 1 0),(4,.ptr 2 0),(5,i64 p0),(20,.agg (Ao.pvs p1))],[.loop #[19,20] AV AU 26 [3,4] [.ptr 1 0,.ptr 2 0] .ready none,.blk 3 [i64 o1_0],.blk 3 [i64 o2_0],.ghost (gv 0) (.ptr 0 0),.ghost (gv 1) (.ptr 1 0),.ghost (gv 2) (.ptr 2 0),.ghost (HF l) (.yld 0)]⟩) [3,4,5,20] [0,1,2,3,4,5,6] [] (norm ?_)
 refine At.rK (st' := ⟨[(3,.ptr 1 0),(4,.ptr 2 0),(5,i64 p0),(6,.ptr 7 0)],[.loop #[19,20] AV AU 26 [3,4] [.ptr 1 0,.ptr 2 0] .ready none,.blk 3 [i64 o1_0],.blk 3 [i64 o2_0],.ghost (gv 0) (.ptr 0 0),.ghost (gv 1) (.ptr 1 0),.ghost (gv 2) (.ptr 2 0),.ghost (HF l) (.yld 0),.blk 38 (Ao.pvs p1)]⟩) [3,4,5,6] [0,1,2,3,4,5,6,7] [] (RT (i := 0) (k := 6) (st' := ⟨[(3,.ptr 1 0),(4,.ptr 2 0),(5,i64 p0),(6,.ptr 7 0)],[.loop #[19,20] AV AU 26 [3,4] [.ptr 1 0,.ptr 2 0] .busy none,.blk 3 [i64 o1_0],.blk 3 [i64 o2_0],.ghost (gv 0) (.ptr 0 0),.ghost (gv 1) (.ptr 1 0),.ghost (gv 2) (.ptr 2 0),.ghost (HF l) (.yld 0),.blk 38 (Ao.pvs p1)]⟩) (by kernel_rfl) rfl ?_)
 refine At.block ?_
 refine At.seq ?_
 refine At.rK (st' := ⟨[(4,.ptr 2 0),(5,i64 p0),(24,bo (decide (p1.Entry ≤ o1_0)))],[.loop #[19,20] AV AU 26 [3,4] [.ptr 1 0,.ptr 2 0] .busy none,.blk 3 [i64 o1_0],.blk 3 [i64 o2_0],.ghost (gv 0) (.ptr 0 0),.ghost (gv 1) (.ptr 1 0),.ghost (gv 2) (.ptr 2 0),.ghost (HF l) (.yld 0)]⟩) [4,5,24] [0,1,2,3,4,5,6] [] (norm ?_)
 refine At.cd h (fun b1 h => ?_) (fun b1 h => ?_)
 · refine At.seq ?_
   refine At.rK (st' := ⟨[],[.loop #[19,20] AV AU 26 [3,4] [.ptr 1 0,.ptr 2 0] .busy none,.blk 3 [i64 o1_0],.blk 3 [i64 p0],.ghost (gv 0) (.ptr 0 0),.ghost (gv 1) (.ptr 1 0),.ghost (gv 2) (.ptr 2 0),.ghost (HF l) (.yld 0)]⟩) [] [0,1,2,3,4,5,6] [] (norm ?_)
   obtain rfl := sq h
   exact At.ret (NT hR (i := 0) (k := 6) (ρ := [0,1,2]) (jump := (some .ret)) (gs := [.ghost (gv 0) (.ptr 0 0),.ghost (gv 1) (.ptr 1 0),.ghost (gv 2) (.ptr 2 0)]) (by kernel_rfl) rfl (by kernel_rfl) rfl rfl rfl)
 · refine At.nK (st' := ⟨[],[.loop #[19,20] AV AU 26 [3,4] [.ptr 1 0,.ptr 2 0] .busy none,.blk 3 [i64 o1_0],.blk 3 [i64 o2_0],.ghost (gv 0) (.ptr 0 0),.ghost (gv 1) (.ptr 1 0),.ghost (gv 2) (.ptr 2 0),.ghost (HF l) (.yld 0)]⟩) [] [0,1,2,3,4,5,6] ?_
   obtain rfl := sq h
   refine At.skip (NT hR (i := 0) (k := 6) (ρ := [0,1,2]) (jump := none) (gs := [.ghost (gv 0) (.ptr 0 0),.ghost (gv 1) (.ptr 1 0),.ghost (gv 2) (.ptr 2 0)]) (by kernel_rfl) rfl (by kernel_rfl) rfl rfl rfl)
theorem C5 (o1_0 : Int) (o2_0 : Int) (o3_0 : (List Ao)) (r : (Int) ⊕ (Unit)) (h : Bd o1_0 o2_0 o3_0 = some r) : FnOK Tryz.prog 35 [.yld 0,.ptr 3 0] [.loop #[19,20] AV AU 26 [3,4] [.ptr 1 0,.ptr 2 0] .ready none,.blk 3 [i64 o1_0],.blk 3 [i64 o2_0],.blk 24 [lv Ao.enc o3_0]] ((Sum.elim (fun r => .tup []) (fun r => .tup [])) r) ((Sum.elim (fun r => [.loop #[19,20] AV AU 26 [3,4] [.ptr 1 0,.ptr 2 0] .done (some .ret),.blk 3 [i64 o1_0],.blk 3 [i64 r],.blk 24 [lv Ao.enc o3_0]]) (fun r => [.loop #[19,20] AV AU 26 [3,4] [.ptr 1 0,.ptr 2 0] .ready none,.blk 3 [i64 o1_0],.blk 3 [i64 o2_0],.blk 24 [lv Ao.enc o3_0]])) r) [1,3,5,7] := by
 refine fI Tryz.func35 rfl fun E gv R hR => ?_
 refine At.sR [0,1,3] [0,1,2,3,4,5,6,7] [] ?_
 refine At.block ?_
 refine At.nK (st' := ⟨[(0,.yld 0),(1,.ptr 3 0),(3,i64 (w64 (((o3_0).length : Int) - 1)))],[.loop #[19,20] AV AU 26 [3,4] [.ptr 1 0,.ptr 2 0] .ready none,.blk 3 [i64 o1_0],.blk 3 [i64 o2_0],.blk 24 [lv Ao.enc o3_0],.ghost (gv 0) (.ptr 0 0),.ghost (gv 1) (.ptr 1 0),.ghost (gv 2) (.ptr 2 0),.ghost (gv 3) (.ptr 3 0)]⟩) [0,1,3] [0,1,2,3,4,5,6,7] ?_
 refine At.lp (fun s : (Int) => ⟨[(0,.yld 0),(1,.ptr 3 0),(3,i64 s)],[.loop #[19,20] AV AU 26 [3,4] [.ptr 1 0,.ptr 2 0] .ready none,.blk 3 [i64 o1_0],.blk 3 [i64 o2_0],.blk 24 [lv Ao.enc o3_0],.ghost (gv 0) (.ptr 0 0),.ghost (gv 1) (.ptr 1 0),.ghost (gv 2) (.ptr 2 0),.ghost (gv 3) (.ptr 3 0)]⟩) h ?_
 intro x1 oo2 h f3
 replace h : CM o1_0 o2_0 o3_0 x1 = some oo2 := h
 refine At.seq ?_
 refine At.sR [0,1,3,8] [0,1,2,3,4,5,6,7] [] ?_
 refine At.cd h (fun b5 h => ?_) (fun b5 h => ?_)
 · refine At.nR [0,1,3] [0,1,2,3,4,5,6,7] ?_
   refine At.skip (norm ?_)
   refine At.seq ?_
   refine At.block ?_
   refine At.seqJ (S := (Int) ⊕ (Unit)) (Sum.elim (fun s => ⟨[(0,.yld 0),(1,.ptr 3 0),(3,i64 x1),(18,bo true)],[.loop #[19,20] AV AU 26 [3,4] [.ptr 1 0,.ptr 2 0] .done (some .ret),.blk 3 [i64 o1_0],.blk 3 [i64 s],.blk 24 [lv Ao.enc o3_0],.ghost (gv 0) (.ptr 0 0),.ghost (gv 1) (.ptr 1 0),.ghost (gv 2) (.ptr 2 0),.ghost (gv 3) (.ptr 3 0)]⟩) (fun s => ⟨[(0,.yld 0),(1,.ptr 3 0),(3,i64 x1),(18,bo false)],[.loop #[19,20] AV AU 26 [3,4] [.ptr 1 0,.ptr 2 0] .ready none,.blk 3 [i64 o1_0],.blk 3 [i64 o2_0],.blk 24 [lv Ao.enc o3_0],.ghost (gv 0) (.ptr 0 0),.ghost (gv 1) (.ptr 1 0),.ghost (gv 2) (.ptr 2 0),.ghost (gv 3) (.ptr 3 0)]⟩)) (Sum.elim (fun s => BF s = some oo2) (fun s => BE x1 = some oo2)) ?_ ?_
   · obtain ⟨y22,hy22,h⟩ := bs h
     obtain ⟨y23,hy23,h⟩ := bs h
     rcases y23 with y24 | y25
     · exact At.rK [0,1,3,18] [0,1,2,3,4,5,6,7] [eT Ao.enc_len 4 hy22,yX 6 3 [0,1,2] [] true (Jk x1 y22 o1_0 o2_0 (.inl y24) hy23)] fun _ _ i => ⟨.inl y24,h,i⟩
     · exact At.rK [0,1,3,18] [0,1,2,3,4,5,6,7] [eT Ao.enc_len 4 hy22,yX 6 3 [0,1,2] [] true (Jk x1 y22 o1_0 o2_0 (.inr y25) hy23)] fun _ _ i => ⟨.inr (()),h,i⟩
   · rintro (x19 | _) h
     · replace h : BF x19 = some oo2 := h
       refine At.cy ?_
       obtain ⟨r20,h,e21⟩ := mr h
       rw [f3 _ e21] at h
       refine At.eN [] [] [0,1,2,3,4,5,6,7] ?_
       obtain rfl := sq h
       exact At.ret (At.rR hR [0,1,2,3])
     · replace h : BE x1 = some oo2 := h
       refine At.cn ?_
       refine At.nR [0,1,3] [0,1,2,3,4,5,6,7] ?_
       refine At.skip (norm ?_)
       exact At.rK [0,1,3] [0,1,2,3,4,5,6,7] [] fun _ _ i => ⟨_,li h,i⟩
 · refine At.nR [] [0,1,2,3,4,5,6,7] ?_
   obtain ⟨r26,h,e27⟩ := mr h
   rw [f3 _ e27] at h
   obtain rfl := sq h
   refine At.exit (edq (l := []) (ks := []) (ρ := [0,1,2,3,4,5,6,7]) (st' := ⟨[],[.loop #[19,20] AV AU 26 [3,4] [.ptr 1 0,.ptr 2 0] .ready none,.blk 3 [i64 o1_0],.blk 3 [i64 o2_0],.blk 24 [lv Ao.enc o3_0],.ghost (gv 0) (.ptr 0 0),.ghost (gv 1) (.ptr 1 0),.ghost (gv 2) (.ptr 2 0),.ghost (gv 3) (.ptr 3 0)]⟩) (by kernel_rfl) (At.rN hR [0,1,2,3]))
theorem KS (p0 : Au) (p1 : Int) (r : Int) (h : It p0 p1 = some r) : FnOK Tryz.prog 7 [.agg (Au.pvs p0),i64 p1] [] (i64 r) [] [] := by
 refine fI Tryz.func7 rfl fun E gv R hR => ?_
 refine At.sR [2,3,4] [0,1,2] [] ?_
 refine At.seq ?_
 refine At.seqJ (S := Bool) (fun s => ⟨[(2,.ptr 0 0),(3,.ptr 1 0),(4,.ptr 2 0),(15,bo s)],[.blk 27 (Au.pvs p0),.blk 3 [i64 p1],.blk 3 [i64 0]]⟩) (fun s => Ij p0 p1 s = some r) ?_ ?_
 · rcases cs h with ⟨b18,h⟩ | ⟨b18,h⟩
   · exact At.rK [2,3,4,15] [0,1,2] [bT 2 b18] fun _ _ i => ⟨true,h,i⟩
   · exact At.rK [2,3,4,15] [0,1,2] [bT 2 b18] fun _ _ i => ⟨(decide (((p0.Ins).length : Int) ≤ p1)),h,i⟩
 · intro x6 h
   refine At.cd h (fun b7 h => ?_) (fun b7 h => ?_)
   · refine At.sR [4] [2] [] ?_
     obtain rfl := sq h
     exact At.ret (At.rR hR [])
   · refine At.nR [2,3,4] [0,1,2] ?_
     refine At.skip (norm ?_)
     refine At.seq ?_
     obtain ⟨y14,hy14,h⟩ := bs h
     refine At.sR [3,4,18] [1,2,3] [cT 2 0 [3] (F0 p0.Defs y14 hy14)] ?_
     refine At.block ?_
     obtain ⟨y15,hy15,h⟩ := bs h
     rcases y15 with y16 | y17
     · refine At.range (pc := { ρ := [4,0,1,2],n0 := 4,res := .tup [],σ' := [.loop #[19,20] AV AU 26 [3,4] [.ptr 1 0,.ptr 2 0] .done (some .ret),.blk 3 [i64 p1],.blk 3 [i64 y16],.blk 24 [lv Ao.enc y14]],e := [1,3,5,7] }) [3,4] (st' := ⟨[(3,.ptr 0 0),(4,.ptr 1 0),(18,.fn (.func 35) [] [.ptr 2 0])],[.blk 3 [i64 p1],.blk 3 [i64 y16],.blk 24 [lv Ao.enc y14],.mark,.dead]⟩) (jump := (some .ret)) (by kernel_rfl) (allc (C5 p1 0 y14 (.inl y16) hy15) all0) ?_
       show At _ _ _ _ .ret _ _
       refine At.eN [] [4] [3,1] ?_
       obtain rfl := sq h
       exact At.ret (At.rR hR [])
     · refine At.range (pc := { ρ := [4,0,1,2],n0 := 4,res := .tup [],σ' := [.loop #[19,20] AV AU 26 [3,4] [.ptr 1 0,.ptr 2 0] .ready none,.blk 3 [i64 p1],.blk 3 [i64 0],.blk 24 [lv Ao.enc y14]],e := [1,3,5,7] }) [3,4] (st' := ⟨[(3,.ptr 0 0),(4,.ptr 1 0),(18,.fn (.func 35) [] [.ptr 2 0])],[.blk 3 [i64 p1],.blk 3 [i64 0],.blk 24 [lv Ao.enc y14],.mark,.dead]⟩) (jump := none) (by kernel_rfl) (allc (C5 p1 0 y14 (.inr y17) hy15) all0) (nark [4] [3,1] (st' := ⟨[(4,.ptr 1 0)],[.mark,.blk 3 [i64 0]]⟩) (by kernel_rfl) (norm ?_))
       refine At.sR [4] [0,1] [] ?_
       obtain rfl := sq h
       exact At.ret (At.rR hR [])
theorem O7 (p0 : Au) (p1 : Int) (r : Int) (h : KY p0 p1 = some r) : FnOK Tryz.prog 8 [.agg (Au.pvs p0),i64 p1] [] (i64 r) [] [] := by
 refine fI Tryz.func8 rfl fun E gv R hR => ?_
 refine At.sR [1,2] [0] [] ?_
 refine At.seq ?_
 refine At.seqJ (S := Bool) (fun s => ⟨[(1,i64 p1),(2,.ptr 0 0),(22,bo s)],[.blk 27 (Au.pvs p0)]⟩) (fun s => Is p0 p1 s = some r) ?_ ?_
 · rcases cs h with ⟨b16,h⟩ | ⟨b16,h⟩
   · exact At.rK [1,2,22] [0] [bT 2 b16] fun _ _ i => ⟨true,h,i⟩
   · rcases cs h with ⟨b17,h⟩ | ⟨b17,h⟩
     · exact At.rK [1,2,22] [0] [bT 2 b16,bT 9 b17] fun _ _ i => ⟨true,h,i⟩
     · obtain ⟨y18,hy18,h⟩ := bs h
       exact At.rK [1,2,22] [0] [bT 2 b16,bT 9 b17,eT Ac.enc_len 13 hy18] fun _ _ i => ⟨(y18.Op != 1),h,i⟩
 · intro x12 h
   refine At.cd h (fun b13 h => ?_) (fun b13 h => ?_)
   · refine At.sR [4] [] [] ?_
     obtain rfl := sq h
     exact At.ret (At.rR hR [])
   · refine At.nR [1,2] [0] ?_
     refine At.skip (norm ?_)
     obtain ⟨y15,hy15,h⟩ := bs h
     refine At.sR [4] [] [eT Ac.enc_len 3 hy15] ?_
     obtain rfl := sq h
     exact At.ret (At.rR hR [])
theorem HS  (r : Bool) (h : DO  = some r) : FnOK Tryz.prog 4 [] [] (bo r) [] [] := by
 refine fI Tryz.func4 rfl fun E gv R hR => ?_
 refine At.sR [] [] [] ?_
 refine At.sR [1] [2,0,1] [] ?_
 obtain ⟨y2,hy2,h⟩ := bs h
 refine At.sR [1,2,3] [0,1,2] [cT 1 2 [1,2] (FnOK.keep (args := [.agg [.row 0 ([(⟨1,0,0⟩ : Ac),(⟨2,1,0⟩ : Ac),(⟨24,0,0⟩ : Ac)]).length,.row 1 ([(⟨(⟨#[109,97,105,110]⟩ : ByteArray),0,0,0⟩ : Ao)]).length,lv Ak.enc ([]),i64 0,i64 1]]) (σ := [.row 36 3 (encL Ac.enc ([(⟨1,0,0⟩ : Ac),(⟨2,1,0⟩ : Ac),(⟨24,0,0⟩ : Ac)])),.row 38 4 (encL Ao.enc ([(⟨(⟨#[109,97,105,110]⟩ : ByteArray),0,0,0⟩ : Ao)]))]) [0,1] (Km (⟨[(⟨1,0,0⟩ : Ac),(⟨2,1,0⟩ : Ac),(⟨24,0,0⟩ : Ac)],[(⟨(⟨#[109,97,105,110]⟩ : ByteArray),0,0,0⟩ : Ao)],([] : (List Ak)),0,1⟩ : Au) y2 hy2))] ?_
 refine At.seq ?_
 obtain ⟨y4,hy4,h⟩ := bs h
 refine At.rK (st' := ⟨[(1,.ptr 0 0),(2,i64 y2.1),(3,i64 y2.2)],[.blk 27 [.row 1 ([(⟨1,0,0⟩ : Ac),(⟨2,1,0⟩ : Ac),(⟨24,0,0⟩ : Ac)]).length,.row 2 ([(⟨(⟨#[109,97,105,110]⟩ : ByteArray),0,0,0⟩ : Ao)]).length,.d (.list true 0 []),i64 0,i64 1],.row 36 3 (encL Ac.enc (List.set ([(⟨1,0,0⟩ : Ac),(⟨2,1,0⟩ : Ac),(⟨24,0,0⟩ : Ac)]) (Int.toNat 1) (⟨17,0,0⟩ : Ac))),.row 38 4 (encL Ao.enc ([(⟨(⟨#[109,97,105,110]⟩ : ByteArray),0,0,0⟩ : Ao)]))]⟩) [1,2,3] [0,1,2] [oT 3 (rEl hy4),tT 4 ({ form := some (0,encL Ac.enc (List.set ([(⟨1,0,0⟩ : Ac),(⟨2,1,0⟩ : Ac),(⟨24,0,0⟩ : Ac)]) (Int.toNat 1) (⟨17,0,0⟩ : Ac))),obj := 1 }) (allc ((PR Ac.enc_len hy4 0 (⟨17,0,0⟩ : Ac) (vs := [.int .i64 17,.int .i64 0,.int .i64 0]) (by rfl) (Nat.le_of_ble_eq_true rfl)).1) (allc ((PR Ac.enc_len hy4 0 (⟨17,0,0⟩ : Ac) (vs := [.int .i64 17,.int .i64 0,.int .i64 0]) (by rfl) (Nat.le_of_ble_eq_true rfl)).2) all0))] (SC (st2 := ⟨[(1,.ptr 0 0),(2,i64 y2.1),(3,i64 y2.2)],[.blk 27 [.row 1 ((List.set ([(⟨1,0,0⟩ : Ac),(⟨2,1,0⟩ : Ac),(⟨24,0,0⟩ : Ac)]) (Int.toNat 1) (⟨17,0,0⟩ : Ac))).length,.row 2 ([(⟨(⟨#[109,97,105,110]⟩ : ByteArray),0,0,0⟩ : Ao)]).length,.d (.list true 0 []),i64 0,i64 1],.row 36 3 (encL Ac.enc (List.set ([(⟨1,0,0⟩ : Ac),(⟨2,1,0⟩ : Ac),(⟨24,0,0⟩ : Ac)]) (Int.toNat 1) (⟨17,0,0⟩ : Ac))),.row 38 4 (encL Ao.enc ([(⟨(⟨#[109,97,105,110]⟩ : ByteArray),0,0,0⟩ : Ao)]))]⟩) (by simp only [List.length_set]) (norm ?_))
 obtain ⟨y6,hy6,h⟩ := bs h
 refine At.sR [1,2,3,5] [0,1,2] [cT 1 2 [1,2] (FnOK.keep (args := [.agg [.row 0 ((List.set ([(⟨1,0,0⟩ : Ac),(⟨2,1,0⟩ : Ac),(⟨24,0,0⟩ : Ac)]) (Int.toNat 1) (⟨17,0,0⟩ : Ac))).length,.row 1 ([(⟨(⟨#[109,97,105,110]⟩ : ByteArray),0,0,0⟩ : Ao)]).length,lv Ak.enc ([]),i64 0,i64 1]]) (σ := [.row 36 3 (encL Ac.enc (List.set ([(⟨1,0,0⟩ : Ac),(⟨2,1,0⟩ : Ac),(⟨24,0,0⟩ : Ac)]) (Int.toNat 1) (⟨17,0,0⟩ : Ac))),.row 38 4 (encL Ao.enc ([(⟨(⟨#[109,97,105,110]⟩ : ByteArray),0,0,0⟩ : Ao)]))]) [0,1] (Km (⟨(List.set ([(⟨1,0,0⟩ : Ac),(⟨2,1,0⟩ : Ac),(⟨24,0,0⟩ : Ac)]) (Int.toNat 1) (⟨17,0,0⟩ : Ac)),[(⟨(⟨#[109,97,105,110]⟩ : ByteArray),0,0,0⟩ : Ao)],([] : (List Ak)),0,1⟩ : Au) y6 hy6))] ?_
 refine At.seqJ (S := Bool) (fun s => ⟨[(0,bo s)],[]⟩) (fun s => DE s = some r) ?_ ?_
 · rcases cs h with ⟨b14,h⟩ | ⟨b14,h⟩
   · rcases cs h with ⟨b15,h⟩ | ⟨b15,h⟩
     · rcases cs h with ⟨b16,h⟩ | ⟨b16,h⟩
       · obtain ⟨y17,hy17,h⟩ := bs h
         rcases cs h with ⟨b18,h⟩ | ⟨b18,h⟩
         · obtain ⟨y19,hy19,h⟩ := bs h
           exact At.rK [0] [] [bT 2 b14,bT 6 b15,bT 10 b16,cT 12 2 [1,2] (FnOK.keep (args := [.agg [.row 0 ((List.set ([(⟨1,0,0⟩ : Ac),(⟨2,1,0⟩ : Ac),(⟨24,0,0⟩ : Ac)]) (Int.toNat 1) (⟨17,0,0⟩ : Ac))).length,.row 1 ([(⟨(⟨#[109,97,105,110]⟩ : ByteArray),0,0,0⟩ : Ao)]).length,lv Ak.enc ([]),i64 0,i64 1],i64 1]) (σ := [.row 36 3 (encL Ac.enc (List.set ([(⟨1,0,0⟩ : Ac),(⟨2,1,0⟩ : Ac),(⟨24,0,0⟩ : Ac)]) (Int.toNat 1) (⟨17,0,0⟩ : Ac))),.row 38 4 (encL Ao.enc ([(⟨(⟨#[109,97,105,110]⟩ : ByteArray),0,0,0⟩ : Ao)]))]) [0,1] (KS (⟨(List.set ([(⟨1,0,0⟩ : Ac),(⟨2,1,0⟩ : Ac),(⟨24,0,0⟩ : Ac)]) (Int.toNat 1) (⟨17,0,0⟩ : Ac)),[(⟨(⟨#[109,97,105,110]⟩ : ByteArray),0,0,0⟩ : Ao)],([] : (List Ak)),0,1⟩ : Au) 1 y17 hy17)),bT 15 b18,cT 17 2 [1,2] (FnOK.keep (args := [.agg [.row 0 ((List.set ([(⟨1,0,0⟩ : Ac),(⟨2,1,0⟩ : Ac),(⟨24,0,0⟩ : Ac)]) (Int.toNat 1) (⟨17,0,0⟩ : Ac))).length,.row 1 ([(⟨(⟨#[109,97,105,110]⟩ : ByteArray),0,0,0⟩ : Ao)]).length,lv Ak.enc ([]),i64 0,i64 1],i64 0]) (σ := [.row 36 3 (encL Ac.enc (List.set ([(⟨1,0,0⟩ : Ac),(⟨2,1,0⟩ : Ac),(⟨24,0,0⟩ : Ac)]) (Int.toNat 1) (⟨17,0,0⟩ : Ac))),.row 38 4 (encL Ao.enc ([(⟨(⟨#[109,97,105,110]⟩ : ByteArray),0,0,0⟩ : Ao)]))]) [0,1] (O7 (⟨(List.set ([(⟨1,0,0⟩ : Ac),(⟨2,1,0⟩ : Ac),(⟨24,0,0⟩ : Ac)]) (Int.toNat 1) (⟨17,0,0⟩ : Ac)),[(⟨(⟨#[109,97,105,110]⟩ : ByteArray),0,0,0⟩ : Ao)],([] : (List Ak)),0,1⟩ : Au) 0 y19 hy19))] fun _ _ i => ⟨(y19 == 0),h,i⟩
         · exact At.rK [0] [] [bT 2 b14,bT 6 b15,bT 10 b16,cT 12 2 [1,2] (FnOK.keep (args := [.agg [.row 0 ((List.set ([(⟨1,0,0⟩ : Ac),(⟨2,1,0⟩ : Ac),(⟨24,0,0⟩ : Ac)]) (Int.toNat 1) (⟨17,0,0⟩ : Ac))).length,.row 1 ([(⟨(⟨#[109,97,105,110]⟩ : ByteArray),0,0,0⟩ : Ao)]).length,lv Ak.enc ([]),i64 0,i64 1],i64 1]) (σ := [.row 36 3 (encL Ac.enc (List.set ([(⟨1,0,0⟩ : Ac),(⟨2,1,0⟩ : Ac),(⟨24,0,0⟩ : Ac)]) (Int.toNat 1) (⟨17,0,0⟩ : Ac))),.row 38 4 (encL Ao.enc ([(⟨(⟨#[109,97,105,110]⟩ : ByteArray),0,0,0⟩ : Ao)]))]) [0,1] (KS (⟨(List.set ([(⟨1,0,0⟩ : Ac),(⟨2,1,0⟩ : Ac),(⟨24,0,0⟩ : Ac)]) (Int.toNat 1) (⟨17,0,0⟩ : Ac)),[(⟨(⟨#[109,97,105,110]⟩ : ByteArray),0,0,0⟩ : Ao)],([] : (List Ak)),0,1⟩ : Au) 1 y17 hy17)),bT 15 b18] fun _ _ i => ⟨false,h,i⟩
       · exact At.rK [0] [] [bT 2 b14,bT 6 b15,bT 10 b16] fun _ _ i => ⟨false,h,i⟩
     · exact At.rK [0] [] [bT 2 b14,bT 6 b15] fun _ _ i => ⟨false,h,i⟩
   · exact At.rK [0] [] [bT 2 b14] fun _ _ i => ⟨false,h,i⟩
 · intro x13 h
   obtain rfl := sq h
   exact At.ret (At.rR hR [])
theorem KJ (p0 : ByteArray) (p1 : Int) (r : Int) (h : Gs p0 p1 = some r) : FnOK Tryz.prog 70 [sv p0,i64 p1] [] (i64 r) [] [] := by
 refine fI Tryz.func70 rfl fun E gv R hR => ?_
 refine At.sR [0,1] [] [] ?_
 refine At.sR [0,1,5] [] [] ?_
 refine At.seq ?_
 refine At.block ?_
 refine At.nK (st' := ⟨[(0,sv p0),(1,i64 p1),(5,bo false)],[]⟩) [0,1,5] [] ?_
 refine At.lp (fun s : (Int × Bool) => ⟨[(0,sv p0),(1,i64 s.1),(5,bo s.2)],[]⟩) h ?_
 rintro ⟨x34,x35⟩ oo36 h f37
 replace h : Fu p0 x34 x35 = some oo36 := h
 refine At.seq ?_
 refine At.sR [0,1,5,10] [] [] ?_
 refine At.cd h (fun b39 h => ?_) (fun b39 h => ?_)
 · refine At.nR [0,1,5] [] ?_
   refine At.skip (norm ?_)
   refine At.block ?_
   obtain ⟨y41,hy41,h⟩ := bs h
   refine At.sR [0,1,5,6] [] [sT 2 hy41] ?_
   refine At.seqJ (S := Bool) (fun s => ⟨[(0,sv p0),(1,i64 x34),(5,bo s)],[]⟩) (fun s => El x34 s = some oo36) ?_ ?_
   · refine At.sR [0,1,5,6,15] [] [] ?_
     refine At.cd h (fun b53 h => ?_) (fun b53 h => ?_)
     · exact At.rK [0,1,5] [] [] fun _ _ i => ⟨false,h,i⟩
     · refine At.sR [0,1,5,6,17] [] [] ?_
       refine At.cd h (fun b54 h => ?_) (fun b54 h => ?_)
       · exact At.rK [0,1,5] [] [] fun _ _ i => ⟨true,h,i⟩
       · refine At.seqJ (S := Bool) (fun s => ⟨[(0,sv p0),(1,i64 x34),(5,bo x35),(31,bo s)],[]⟩) (fun s => CJ x34 x35 s = some oo36) ?_ ?_
         · rcases cs h with ⟨b62,h⟩ | ⟨b62,h⟩
           · rcases cs h with ⟨b63,h⟩ | ⟨b63,h⟩
             · rcases cs h with ⟨b64,h⟩ | ⟨b64,h⟩
               · exact At.rK [0,1,5,31] [] [bT 2 b62,bT 6 b63,bT 10 b64] fun _ _ i => ⟨(y41 != 32),h,i⟩
               · exact At.rK [0,1,5,31] [] [bT 2 b62,bT 6 b63,bT 10 b64] fun _ _ i => ⟨false,h,i⟩
             · exact At.rK [0,1,5,31] [] [bT 2 b62,bT 6 b63] fun _ _ i => ⟨false,h,i⟩
           · exact At.rK [0,1,5,31] [] [bT 2 b62] fun _ _ i => ⟨false,h,i⟩
         · intro x58 h
           refine At.cd h (fun b59 h => ?_) (fun b59 h => ?_)
           · refine At.sR [4] [] [] ?_
             obtain ⟨r60,h,e61⟩ := mr h
             rw [f37 _ e61] at h
             obtain rfl := sq h
             exact At.ret (At.rR hR [])
           · refine At.nR [0,1,5] [] ?_
             refine At.skip (fun _ _ i => ⟨x35,h,i.en [] [0,1,5] []⟩)
   · intro x52 h
     exact At.rK [0,1,5] [] [] fun _ _ i => ⟨_,li h,i⟩
 · refine At.nR [1] [] ?_
   obtain ⟨r65,h,e66⟩ := mr h
   rw [f37 _ e66] at h
   refine At.exit (norm ?_)
   refine At.sR [4] [] [] ?_
   obtain rfl := sq h
   exact At.ret (At.rR hR [])
theorem Gu (p0 : Int) (r : Bool) (h : BR p0 = some r) : FnOK Tryz.prog 71 [u8 p0] [] (bo r) [] [] := by
 refine fI Tryz.func71 rfl fun E gv R hR => ?_
 refine At.sR [0] [] [] ?_
 refine At.seqJ (S := Bool) (fun s => ⟨[(2,bo s)],[]⟩) (fun s => Fv s = some r) ?_ ?_
 · rcases cs h with ⟨b3,h⟩ | ⟨b3,h⟩
   · exact At.rK [2] [] [bT 2 b3] fun _ _ i => ⟨(decide (p0 ≤ 57)),h,i⟩
   · exact At.rK [2] [] [bT 2 b3] fun _ _ i => ⟨false,h,i⟩
 · intro x2 h
   obtain rfl := sq h
   exact At.ret (At.rR hR [])
theorem C6 (p0 : Int) (r : Bool) (h : Bv p0 = some r) : FnOK Tryz.prog 73 [u8 p0] [] (bo r) [] [] := by
 refine fI Tryz.func73 rfl fun E gv R hR => ?_
 refine At.sR [0] [] [] ?_
 refine At.seqJ (S := Bool) (fun s => ⟨[(2,bo s)],[]⟩) (fun s => BA s = some r) ?_ ?_
 · rcases cs h with ⟨b8,h⟩ | ⟨b8,h⟩
   · rcases cs h with ⟨b9,h⟩ | ⟨b9,h⟩
     · exact At.rK [2] [] [bT 2 b8,bT 6 b9] fun _ _ i => ⟨true,h,i⟩
     · rcases cs h with ⟨b10,h⟩ | ⟨b10,h⟩
       · rcases cs h with ⟨b11,h⟩ | ⟨b11,h⟩
         · exact At.rK [2] [] [bT 2 b8,bT 6 b9,bT 9 b10,bT 14 b11] fun _ _ i => ⟨true,h,i⟩
         · exact At.rK [2] [] [bT 2 b8,bT 6 b9,bT 9 b10,bT 14 b11] fun _ _ i => ⟨(p0 == 95),h,i⟩
       · exact At.rK [2] [] [bT 2 b8,bT 6 b9,bT 9 b10] fun _ _ i => ⟨(p0 == 95),h,i⟩
   · rcases cs h with ⟨b12,h⟩ | ⟨b12,h⟩
     · rcases cs h with ⟨b13,h⟩ | ⟨b13,h⟩
       · exact At.rK [2] [] [bT 2 b8,bT 9 b12,bT 14 b13] fun _ _ i => ⟨true,h,i⟩
       · exact At.rK [2] [] [bT 2 b8,bT 9 b12,bT 14 b13] fun _ _ i => ⟨(p0 == 95),h,i⟩
     · exact At.rK [2] [] [bT 2 b8,bT 9 b12] fun _ _ i => ⟨(p0 == 95),h,i⟩
 · intro x7 h
   obtain rfl := sq h
   exact At.ret (At.rR hR [])
theorem Kl (p0 : ByteArray) (p1 : Int) (p2 : Int) (r : Aw) (h : F9 p0 p1 p2 = some r) : FnOK Tryz.prog 72 [sv p0,i64 p1,i64 p2] [] (.agg (Aw.pvs r)) [] [] := by
 refine fI Tryz.func72 rfl fun E gv R hR => ?_
 refine At.sR [0,1,2,6] [0] [] ?_
 refine At.seq ?_
 refine At.seqJ (S := Bool) (fun s => ⟨[(0,sv p0),(1,i64 p1),(2,i64 p2),(6,.ptr 0 0),(18,bo s)],[.blk 100 [i64 0,sv (⟨#[]⟩ : ByteArray),i64 0,i64 0,i64 0,i64 0]]⟩) (fun s => D5 p0 p1 p2 s = some r) ?_ ?_
 · obtain ⟨y51,hy51,h⟩ := bs h
   rcases cs h with ⟨b52,h⟩ | ⟨b52,h⟩
   · exact At.rK [0,1,2,6,18] [0] [sT 2 hy51,bT 4 b52] fun _ _ i => ⟨(decide ((w64 (p1 + 1)) < p2)),h,i⟩
   · exact At.rK [0,1,2,6,18] [0] [sT 2 hy51,bT 4 b52] fun _ _ i => ⟨false,h,i⟩
 · intro x9 h
   refine At.cd h (fun b10 h => ?_) (fun b10 h => ?_)
   · refine At.sR [6] [0] [] ?_
     obtain rfl := sq h
     exact At.ret (At.rR hR [])
   · refine At.nR [0,1,2,6] [0] ?_
     refine At.skip (norm ?_)
     refine At.seq ?_
     refine At.sR [0,1,2,6,24] [0] [] ?_
     refine At.cd h (fun b12 h => ?_) (fun b12 h => ?_)
     · refine At.sR [6] [0] [] ?_
       obtain rfl := sq h
       exact At.ret (At.rR hR [])
     · refine At.nR [0,1,2,6] [0] ?_
       refine At.skip (norm ?_)
       refine At.seq ?_
       refine At.seqJ (S := Bool) (fun s => ⟨[(0,sv p0),(1,i64 p1),(2,i64 p2),(6,.ptr 0 0),(36,bo s)],[.blk 100 [i64 0,sv (⟨#[]⟩ : ByteArray),i64 0,i64 0,i64 0,i64 0]]⟩) (fun s => D4 p0 p1 p2 s = some r) ?_ ?_
       · rcases cs h with ⟨b48,h⟩ | ⟨b48,h⟩
         · obtain ⟨y49,hy49,h⟩ := bs h
           obtain ⟨y50,hy50,h⟩ := bs h
           exact At.rK [0,1,2,6,36] [0] [bT 4 b48,sT 7 hy49,c0 8 (C6 y49 y50 hy50)] fun _ _ i => ⟨y50,h,i⟩
         · exact At.rK [0,1,2,6,36] [0] [bT 4 b48] fun _ _ i => ⟨false,h,i⟩
       · intro x24 h
         refine At.cd h (fun b25 h => ?_) (fun b25 h => ?_)
         · refine At.sR [6] [0] [] ?_
           obtain rfl := sq h
           exact At.ret (At.rR hR [])
         · refine At.nR [0,1,2,6] [0] ?_
           refine At.skip (norm ?_)
           refine At.sR [0,1,2,6,7] [0] [] ?_
           refine At.seq ?_
           refine At.sR [0,1,2,6,7,8] [0] [] ?_
           refine At.block ?_
           refine At.nK (st' := ⟨[(0,sv p0),(1,i64 p1),(2,i64 p2),(6,.ptr 0 0),(7,i64 0),(8,i64 p1)],[.blk 100 [i64 0,sv (⟨#[]⟩ : ByteArray),i64 0,i64 0,i64 0,i64 0]]⟩) [0,1,2,6,7,8] [0] ?_
           refine At.lp (fun s : (Int × Int) => ⟨[(0,sv p0),(1,i64 p1),(2,i64 p2),(6,.ptr 0 0),(7,i64 s.1),(8,i64 s.2)],[.blk 100 [i64 0,sv (⟨#[]⟩ : ByteArray),i64 0,i64 0,i64 0,i64 0]]⟩) h ?_
           rintro ⟨x36,x37⟩ oo38 h f39
           replace h : D3 p0 p1 p2 x36 x37 = some oo38 := h
           refine At.seq ?_
           refine At.sR [0,1,2,6,7,8,42] [0] [] ?_
           refine At.cd h (fun b41 h => ?_) (fun b41 h => ?_)
           · refine At.nR [0,1,2,6,7,8] [0] ?_
             refine At.skip (norm ?_)
             refine At.seq ?_
             refine At.block ?_
             obtain ⟨y43,hy43,h⟩ := bs h
             refine At.rG [0,1,2,6,7,8] [0] [sT 4 hy43] (norm ?_)
             exact At.rK [0,1,2,6,7,8] [0] [] fun _ _ i => ⟨_,li h,i⟩
           · refine At.nR [0,1,2,6,7] [0] ?_
             obtain ⟨r44,h,e45⟩ := mr h
             rw [f39 _ e45] at h
             refine At.exit (norm ?_)
             obtain ⟨g47,h⟩ := gs h
             refine At.sR [6] [0] [oT 3 g47] ?_
             obtain rfl := sq h
             exact At.ret (At.rR hR [])
theorem II  (r : (List ByteArray)) (h : Dq  = some r) : FnOK Tryz.prog 75 [] [] (.row 0 (r).length) [.row 9 1 (encL eStr r)] [] := by
 refine fI Tryz.func75 rfl fun E gv R hR => ?_
 refine At.sR [] [] [] ?_
 refine At.sR [0] [0] [] ?_
 obtain rfl := sq h
 exact At.ret (At.rR hR [0])
theorem Jx (p1 : ByteArray) (o0 : (List ByteArray)) (r : Bool) (h : D6 p1 o0 = some r) : FnOK Tryz.prog 74 [.row 0 (o0).length,sv p1] [.row 9 1 (encL eStr o0)] (bo r) [.row 9 1 (encL eStr o0)] [0] := by
 refine fI Tryz.func74 rfl fun E gv R hR => ?_
 refine At.sR [0,1] [0,1] [] ?_
 refine At.seq ?_
 refine At.sR [0,1,5] [0,1] [] ?_
 refine At.block ?_
 refine At.nK (st' := ⟨[(0,.row 0 (o0).length),(1,sv p1),(5,i64 0)],[.row 9 1 (encL eStr o0),.ghost (gv 0) (.row 0 0)]⟩) [0,1,5] [0,1] ?_
 refine At.lp (fun s : (Int) => ⟨[(0,.row 0 (o0).length),(1,sv p1),(5,i64 s)],[.row 9 1 (encL eStr o0),.ghost (gv 0) (.row 0 0)]⟩) h ?_
 intro x16 oo17 h f18
 replace h : Fi p1 o0 x16 = some oo17 := h
 refine At.seq ?_
 refine At.sR [0,1,5,9] [0,1] [] ?_
 refine At.cd h (fun b20 h => ?_) (fun b20 h => ?_)
 · refine At.nR [0,1,5] [0,1] ?_
   refine At.skip (norm ?_)
   refine At.seq ?_
   refine At.block ?_
   obtain ⟨y25,hy25,h⟩ := bs h
   refine At.sR [0,1,5,17] [0,1] [oT 2 ((AZ G6 (d := .str y25) hy25 rfl).1),vT 3 (.str y25) ((AZ G6 (d := .str y25) hy25 rfl).2)] ?_
   refine At.cd h (fun b26 h => ?_) (fun b26 h => ?_)
   · refine At.sR [4] [0,1] [] ?_
     obtain ⟨r27,h,e28⟩ := mr h
     rw [f18 _ e28] at h
     obtain rfl := sq h
     exact At.ret (At.rR hR [0])
   · refine At.nR [0,1,5] [0,1] ?_
     refine At.skip (norm ?_)
     exact At.rK [0,1,5] [0,1] [] fun _ _ i => ⟨_,li h,i⟩
 · refine At.nR [] [0,1] ?_
   obtain ⟨r29,h,e30⟩ := mr h
   rw [f18 _ e30] at h
   refine At.exit (norm ?_)
   refine At.sR [4] [0,1] [] ?_
   obtain rfl := sq h
   exact At.ret (At.rR hR [0])
theorem KK  (r : (List ByteArray)) (h : HE  = some r) : FnOK Tryz.prog 76 [] [] (.row 0 (r).length) [.row 9 1 (encL eStr r)] [] := by
 refine fI Tryz.func76 rfl fun E gv R hR => ?_
 refine At.sR [] [] [] ?_
 refine At.sR [0] [0] [] ?_
 obtain rfl := sq h
 exact At.ret (At.rR hR [0])
theorem K6 (p0 : ByteArray) (p1 : Int) (r : Aw) (h : GS p0 p1 = some r) : FnOK Tryz.prog 41 [sv p0,i64 p1] [] (.agg (Aw.pvs r)) [] [] := by
 refine fI Tryz.func41 rfl fun E gv R hR => ?_
 refine At.sR [0,1,4] [0] [] ?_
 refine At.seq ?_
 refine At.seqJ (S := Bool) (fun s => ⟨[(0,sv p0),(1,i64 p1),(4,.ptr 0 0),(18,bo s)],[.blk 100 [i64 0,sv (⟨#[]⟩ : ByteArray),i64 0,i64 0,i64 0,i64 0]]⟩) (fun s => EP p0 p1 s = some r) ?_ ?_
 · rcases cs h with ⟨b358,h⟩ | ⟨b358,h⟩
   · exact At.rK [0,1,4,18] [0] [bT 2 b358] fun _ _ i => ⟨true,h,i⟩
   · exact At.rK [0,1,4,18] [0] [bT 2 b358] fun _ _ i => ⟨(decide ((p0.size : Int) < p1)),h,i⟩
 · intro x6 h
   refine At.cd h (fun b7 h => ?_) (fun b7 h => ?_)
   · refine At.sR [4] [0] [] ?_
     obtain rfl := sq h
     exact At.ret (At.rR hR [])
   · refine At.nR [0,1,4] [0] ?_
     refine At.skip (norm ?_)
     obtain ⟨y9,hy9,h⟩ := bs h
     refine At.sR [0,4,5] [0] [c0 2 (KJ p0 p1 y9 hy9)] ?_
     refine At.seq ?_
     refine At.sR [0,4,5,26] [0] [] ?_
     refine At.cd h (fun b11 h => ?_) (fun b11 h => ?_)
     · refine At.sR [4] [0] [] ?_
       obtain rfl := sq h
       exact At.ret (At.rR hR [])
     · refine At.nR [0,4,5] [0] ?_
       refine At.skip (norm ?_)
       refine At.sR [0,4,5,6] [0] [] ?_
       refine At.seq ?_
       refine At.seq ?_
       obtain ⟨y63,hy63,h⟩ := bs h
       obtain ⟨y64,hy64,h⟩ := bs h
       refine At.rK (st' := ⟨[(0,sv p0),(4,.ptr 0 0),(5,i64 y9),(6,i64 y9),(35,bo y64)],[.blk 100 [i64 0,sv (⟨#[]⟩ : ByteArray),i64 0,i64 0,i64 0,i64 0]]⟩) [0,4,5,6,35] [0] [sT 2 hy63,c0 3 (Gu y63 y64 hy64)] (norm ?_)
       refine At.cd h (fun b65 h => ?_) (fun b65 h => ?_)
       · refine At.seq ?_
         refine At.block ?_
         refine At.nK (st' := ⟨[(0,sv p0),(4,.ptr 0 0),(5,i64 y9),(6,i64 y9)],[.blk 100 [i64 0,sv (⟨#[]⟩ : ByteArray),i64 0,i64 0,i64 0,i64 0]]⟩) [0,4,5,6] [0] ?_
         refine At.lp (fun s : (Int) => ⟨[(0,sv p0),(4,.ptr 0 0),(5,i64 y9),(6,i64 s)],[.blk 100 [i64 0,sv (⟨#[]⟩ : ByteArray),i64 0,i64 0,i64 0,i64 0]]⟩) h ?_
         intro x87 oo88 h f89
         replace h : G3 p0 y9 x87 = some oo88 := h
         refine At.seq ?_
         refine At.seqJ (S := Bool) (fun s => ⟨[(0,sv p0),(4,.ptr 0 0),(5,i64 y9),(6,i64 x87),(45,bo s)],[.blk 100 [i64 0,sv (⟨#[]⟩ : ByteArray),i64 0,i64 0,i64 0,i64 0]]⟩) (fun s => EO p0 y9 x87 s = some oo88) ?_ ?_
         · rcases cs h with ⟨b107,h⟩ | ⟨b107,h⟩
           · obtain ⟨y108,hy108,h⟩ := bs h
             obtain ⟨y109,hy109,h⟩ := bs h
             exact At.rK [0,4,5,6,45] [0] [bT 4 b107,sT 7 hy108,c0 8 (Gu y108 y109 hy109)] fun _ _ i => ⟨y109,h,i⟩
           · exact At.rK [0,4,5,6,45] [0] [bT 4 b107] fun _ _ i => ⟨false,h,i⟩
         · intro x101 h
           refine At.cd h (fun b102 h => ?_) (fun b102 h => ?_)
           · refine At.nR [0,4,5,6] [0] ?_
             refine At.skip (norm ?_)
             refine At.block ?_
             exact At.rK [0,4,5,6] [0] [] fun _ _ i => ⟨_,li h,i⟩
           · refine At.nR [0,4,5,6] [0] ?_
             obtain ⟨r103,h,e104⟩ := mr h
             rw [f89 _ e104] at h
             refine At.exit (norm ?_)
             obtain ⟨y106,hy106,h⟩ := bs h
             refine At.sR [4] [0] [c0 3 (Kl p0 y9 x87 y106 hy106)] ?_
             obtain rfl := sq h
             exact At.ret (At.rR hR [])
       · refine At.nR [0,4,5,6] [0] ?_
         refine At.skip (norm ?_)
         refine At.seq ?_
         obtain ⟨y202,hy202,h⟩ := bs h
         obtain ⟨y203,hy203,h⟩ := bs h
         refine At.sR [0,4,5,6,55] [0] [sT 2 hy202,c0 3 (C6 y202 y203 hy203)] ?_
         refine At.cd h (fun b204 h => ?_) (fun b204 h => ?_)
         · refine At.seq ?_
           refine At.block ?_
           refine At.nK (st' := ⟨[(0,sv p0),(4,.ptr 0 0),(5,i64 y9),(6,i64 y9)],[.blk 100 [i64 0,sv (⟨#[]⟩ : ByteArray),i64 0,i64 0,i64 0,i64 0]]⟩) [0,4,5,6] [0] ?_
           refine At.lp (fun s : (Int) => ⟨[(0,sv p0),(4,.ptr 0 0),(5,i64 y9),(6,i64 s)],[.blk 100 [i64 0,sv (⟨#[]⟩ : ByteArray),i64 0,i64 0,i64 0,i64 0]]⟩) h ?_
           intro x238 oo239 h f240
           replace h : G2 p0 y9 x238 = some oo239 := h
           refine At.seq ?_
           refine At.seqJ (S := Bool) (fun s => ⟨[(0,sv p0),(4,.ptr 0 0),(5,i64 y9),(6,i64 x238),(71,bo s)],[.blk 100 [i64 0,sv (⟨#[]⟩ : ByteArray),i64 0,i64 0,i64 0,i64 0]]⟩) (fun s => DC p0 y9 x238 s = some oo239) ?_ ?_
           · rcases cs h with ⟨b284,h⟩ | ⟨b284,h⟩
             · obtain ⟨y285,hy285,h⟩ := bs h
               obtain ⟨y286,hy286,h⟩ := bs h
               rcases cs h with ⟨b287,h⟩ | ⟨b287,h⟩
               · exact At.rK [0,4,5,6,71] [0] [bT 4 b284,sT 7 hy285,c0 8 (C6 y285 y286 hy286),bT 9 b287] fun _ _ i => ⟨true,h,i⟩
               · obtain ⟨y288,hy288,h⟩ := bs h
                 obtain ⟨y289,hy289,h⟩ := bs h
                 exact At.rK [0,4,5,6,71] [0] [bT 4 b284,sT 7 hy285,c0 8 (C6 y285 y286 hy286),bT 9 b287,sT 12 hy288,c0 13 (Gu y288 y289 hy289)] fun _ _ i => ⟨y289,h,i⟩
             · exact At.rK [0,4,5,6,71] [0] [bT 4 b284] fun _ _ i => ⟨false,h,i⟩
           · intro x261 h
             refine At.cd h (fun b262 h => ?_) (fun b262 h => ?_)
             · refine At.nR [0,4,5,6] [0] ?_
               refine At.skip (norm ?_)
               refine At.block ?_
               exact At.rK [0,4,5,6] [0] [] fun _ _ i => ⟨_,li h,i⟩
             · refine At.nR [0,4,5,6] [0] ?_
               obtain ⟨r263,h,e264⟩ := mr h
               rw [f240 _ e264] at h
               refine At.exit (norm ?_)
               refine At.seq ?_
               refine At.sR [0,4,5,6,77] [0] [] ?_
               refine At.cd h (fun b266 h => ?_) (fun b266 h => ?_)
               · refine At.sR [4] [0] [] ?_
                 obtain rfl := sq h
                 exact At.ret (At.rR hR [])
               · refine At.nR [0,4,5,6] [0] ?_
                 refine At.skip (norm ?_)
                 refine At.sR [0,4,5,6,7] [0] [] ?_
                 refine At.seqJ (S := Int) (fun s => ⟨[(0,sv p0),(4,.ptr 0 0),(5,i64 y9),(6,i64 x238),(7,i64 s)],[.blk 100 [i64 0,sv (⟨#[]⟩ : ByteArray),i64 0,i64 0,i64 0,i64 0]]⟩) (fun s => EN p0 y9 x238 s = some r) ?_ ?_
                 · obtain ⟨y280,hy280,h⟩ := bs h
                   obtain ⟨g281,h⟩ := gs h
                   obtain ⟨y282,hy282,h⟩ := bs h
                   refine At.sD 1 [0,4,5,6,7,85] [0] [cT 0 0 [1] (II y280 hy280),oT 4 g281,cT 5 1 [1] (Jx (p0.extract (Int.toNat y9) (Int.toNat x238)) y280 y282 hy282)] ?_
                   refine At.cd h (fun b283 h => ?_) (fun b283 h => ?_)
                   · exact At.rK [0,4,5,6,7] [0] [] fun _ _ i => ⟨3,h,i⟩
                   · refine At.nK (st' := ⟨[(0,sv p0),(4,.ptr 0 0),(5,i64 y9),(6,i64 x238),(7,i64 1)],[.blk 100 [i64 0,sv (⟨#[]⟩ : ByteArray),i64 0,i64 0,i64 0,i64 0]]⟩) [0,4,5,6,7] [0] ?_
                     refine At.skip (fun _ _ i => ⟨1,h,i⟩)
                 · intro x274 h
                   obtain ⟨g276,h⟩ := gs h
                   refine At.sR [4] [0] [oT 4 g276] ?_
                   obtain rfl := sq h
                   exact At.ret (At.rR hR [])
         · refine At.nR [0,4,5] [0] ?_
           refine At.skip (norm ?_)
           obtain ⟨y291,hy291,h⟩ := bs h
           refine At.sR [0,4,5,8] [0,1] [cT 0 0 [1] (KK y291 hy291)] ?_
           refine At.seq ?_
           refine At.sR [0,4,5,8,9] [0,1] [] ?_
           refine At.block ?_
           refine At.nK (st' := ⟨[(0,sv p0),(4,.ptr 0 0),(5,i64 y9),(8,.row 1 (y291).length),(9,i64 0)],[.blk 100 [i64 0,sv (⟨#[]⟩ : ByteArray),i64 0,i64 0,i64 0,i64 0],.row 9 1 (encL eStr y291)]⟩) [0,4,5,8,9] [0,1] ?_
           refine At.lp (fun s : (Int) => ⟨[(0,sv p0),(4,.ptr 0 0),(5,i64 y9),(8,.row 1 (y291).length),(9,i64 s)],[.blk 100 [i64 0,sv (⟨#[]⟩ : ByteArray),i64 0,i64 0,i64 0,i64 0],.row 9 1 (encL eStr y291)]⟩) h ?_
           intro x325 oo326 h f327
           replace h : G1 p0 y9 y291 x325 = some oo326 := h
           refine At.seq ?_
           refine At.sR [0,4,5,8,9,99] [0,1] [] ?_
           refine At.cd h (fun b329 h => ?_) (fun b329 h => ?_)
           · refine At.nR [0,4,5,8,9] [0,1] ?_
             refine At.skip (norm ?_)
             refine At.seq ?_
             refine At.block ?_
             obtain ⟨y343,hy343,h⟩ := bs h
             refine At.sR [0,4,5,8,9,10] [0,1] [oT 2 ((AZ G6 (d := .str y343) hy343 rfl).1),vT 3 (.str y343) ((AZ G6 (d := .str y343) hy343 rfl).2)] ?_
             refine At.seqJ (S := Bool) (fun s => ⟨[(0,sv p0),(4,.ptr 0 0),(5,i64 y9),(8,.row 1 (y291).length),(9,i64 x325),(10,i64 (y343.size : Int)),(125,bo s)],[.blk 100 [i64 0,sv (⟨#[]⟩ : ByteArray),i64 0,i64 0,i64 0,i64 0],.row 9 1 (encL eStr y291)]⟩) (fun s => EM y9 y291 x325 y343 s = some oo326) ?_ ?_
             · rcases cs h with ⟨b353,h⟩ | ⟨b353,h⟩
               · obtain ⟨g354,h⟩ := gs h
                 obtain ⟨y355,hy355,h⟩ := bs h
                 exact At.dK 0 [0,4,5,8,9,10,125] [0,1] [bT 6 b353,oT 12 g354,oT 15 ((AZ G6 (d := .str y355) hy355 rfl).1),vT 16 (.str y355) ((AZ G6 (d := .str y355) hy355 rfl).2)] fun _ _ i => ⟨((p0.extract (Int.toNat y9) (Int.toNat (w64 (y9 + (y343.size : Int))))).toList == y355.toList),h,i⟩
               · exact At.dK 0 [0,4,5,8,9,10,125] [0,1] [bT 6 b353] fun _ _ i => ⟨false,h,i⟩
             · intro x347 h
               refine At.cd h (fun b348 h => ?_) (fun b348 h => ?_)
               · obtain ⟨y350,hy350,h⟩ := bs h
                 refine At.sR [4] [0] [oT 2 ((AZ G6 (d := .str y350) hy350 rfl).1),vT 3 (.str y350) ((AZ G6 (d := .str y350) hy350 rfl).2)] ?_
                 obtain ⟨r351,h,e352⟩ := mr h
                 rw [f327 _ e352] at h
                 obtain rfl := sq h
                 exact At.ret (At.rR hR [])
               · refine At.nR [0,4,5,8,9] [0,1] ?_
                 refine At.skip (norm ?_)
                 exact At.rK [0,4,5,8,9] [0,1] [] fun _ _ i => ⟨_,li h,i⟩
           · refine At.nR [4,5] [0] ?_
             obtain ⟨r356,h,e357⟩ := mr h
             rw [f327 _ e357] at h
             refine At.exit (norm ?_)
             refine At.sR [4] [0] [] ?_
             obtain rfl := sq h
             exact At.ret (At.rR hR [])
theorem Ls (p0 : ByteArray) (r : A6) (h : Hb p0 = some r) : FnOK Tryz.prog 22 [sv p0] [] (.agg (A6.pvs r)) [] [] := by
 refine fI Tryz.func22 rfl fun E gv R hR => ?_
 refine At.sR [0,2] [0] [] ?_
 refine At.seq ?_
 refine At.sR [0,2,8] [0] [] ?_
 refine At.cd h (fun b2 h => ?_) (fun b2 h => ?_)
 · refine At.sR [2] [0] [] ?_
   refine At.eN [.loO 0] [2] [0] ?_
   obtain rfl := sq h
   exact At.ret (At.rR hR [])
 · refine At.nR [0,2] [0] ?_
   refine At.skip (norm ?_)
   refine At.sR [0,2,3] [0,1] [] ?_
   refine At.sR [0,2,3,4] [0,1] [] ?_
   refine At.block ?_
   refine At.nK (st' := ⟨[(0,sv p0),(2,.ptr 0 0),(3,.ptr 1 0),(4,i64 0)],[.blk 77 [.d (.list true 0 []),i64 0,i64 0],.blk 77 [.d (.list true 0 []),i64 0,i64 0]]⟩) [0,2,3,4] [0,1] ?_
   refine At.edNar [.ownO 1 0 81 4] [0,2,3,4] [0,1,2] (st' := ⟨[(0,sv p0),(2,.ptr 0 0),(3,.ptr 1 0),(4,i64 0)],[.blk 77 [.d (.list true 0 []),i64 0,i64 0],.blk 77 [.row 2 ([] : List Af).length,i64 0,i64 0],.row 81 4 (encL Af.enc ([]))]⟩) (by kernel_rfl) ?_
   refine At.lp (fun s : (Int × Int × (List Af)) => ⟨[(0,sv p0),(2,.ptr 0 0),(3,.ptr 1 0),(4,i64 s.1)],[.blk 77 [.d (.list true 0 []),i64 0,i64 0],.blk 77 [.row 2 (s.2.2).length,i64 s.2.1,i64 0],.row 81 4 (encL Af.enc s.2.2)]⟩) h ?_
   rintro ⟨x3,x4,x5⟩ oo6 h f7
   replace h : Ga p0 x3 x4 x5 = some oo6 := h
   refine At.block ?_
   obtain ⟨y9,hy9,h⟩ := bs h
   refine At.sR [0,2,3,5] [0,1,2,3] [c0 2 (K6 p0 x3 y9 hy9)] ?_
   refine At.seq ?_
   refine At.sR [0,2,3,5,15] [0,1,2,3] [] ?_
   refine At.cd h (fun b11 h => ?_) (fun b11 h => ?_)
   · refine At.sR [2] [0] [] ?_
     obtain ⟨r12,h,e13⟩ := mr h
     rw [f7 _ e13] at h
     refine At.eN [.loO 0] [2] [0] ?_
     obtain rfl := sq h
     exact At.ret (At.rR hR [])
   · refine At.nR [0,2,3,5] [0,1,2,3] ?_
     refine At.skip (norm ?_)
     obtain ⟨g15,h⟩ := gs h
     refine At.sR [0,2,3,5] [0,1,2,3] [aT Af.enc_len 5 x5 ([y9.T]) rfl g15] ?_
     refine At.sR [0,2,3,5] [0,1,2,3] [] ?_
     refine At.seq ?_
     refine At.seq ?_
     refine At.rK (st' := ⟨[(0,sv p0),(2,.ptr 0 0),(3,.ptr 1 0),(5,.ptr 3 0),(35,bo (y9.T.Kind == 0))],[.blk 77 [.d (.list true 0 []),i64 0,i64 0],.blk 77 [.row 2 ((x5 ++ [y9.T])).length,i64 y9.T.At,i64 0],.row 81 4 (encL Af.enc (x5 ++ [y9.T])),.blk 100 (Aw.pvs y9)]⟩) [0,2,3,5,35] [0,1,2,3] [] (norm ?_)
     refine At.cd h (fun b17 h => ?_) (fun b17 h => ?_)
     · refine At.sR [2] [0,2] [] ?_
       obtain ⟨r18,h,e19⟩ := mr h
       rw [f7 _ e19] at h
       refine At.eN [.settle 1] [2] [0] ?_
       obtain rfl := sq h
       exact At.ret (At.rR hR [])
     · refine At.nR [0,2,3,5] [0,1,2,3] ?_
       refine At.skip (norm ?_)
       exact At.rK [0,2,3,4] [0,1,2] [] fun _ _ i => ⟨_,li h,i⟩
theorem BO (p0 : Int) (r : Ad) (h : Bs p0 = some r) : FnOK Tryz.prog 42 [i64 p0] [] (.agg (Ad.pvs r)) [] [] := by
 refine fI Tryz.func42 rfl fun E gv R hR => ?_
 refine At.sR [0,2] [0] [] ?_
 refine At.sR [2] [0] [] ?_
 refine At.eN [.loO 0] [2] [0] ?_
 obtain rfl := sq h
 exact At.ret (At.rR hR [])
theorem BB (p0 : (List Af)) (p1 : Int) (r : Af) (h : A7 p0 p1 = some r) : FnOK Tryz.prog 43 [lv Af.enc p0,i64 p1] [] (.agg (Af.pvs r)) [] [] := by
 refine fI Tryz.func43 rfl fun E gv R hR => ?_
 refine At.sR [0,1,4] [0] [] ?_
 refine At.seq ?_
 refine At.sR [0,1,4,8] [0] [] ?_
 refine At.cd h (fun b4 h => ?_) (fun b4 h => ?_)
 · obtain ⟨y6,hy6,h⟩ := bs h
   refine At.sR [4] [0] [eT Af.enc_len 2 hy6] ?_
   obtain rfl := sq h
   exact At.ret (At.rR hR [])
 · refine At.nR [4] [0] ?_
   refine At.skip (norm ?_)
   refine At.sR [4] [0] [] ?_
   obtain rfl := sq h
   exact At.ret (At.rR hR [])
theorem AW (p0 : (List Af)) (p1 : Int) (p2 : ByteArray) (r : Bool) (h : AM p0 p1 p2 = some r) : FnOK Tryz.prog 77 [lv Af.enc p0,i64 p1,sv p2] [] (bo r) [] [] := by
 refine fI Tryz.func77 rfl fun E gv R hR => ?_
 refine At.sR [0,1,2] [] [] ?_
 obtain ⟨y2,hy2,h⟩ := bs h
 refine At.sR [2,7] [0] [c0 2 (BB p0 p1 y2 hy2)] ?_
 refine At.seqJ (S := Bool) (fun s => ⟨[(6,bo s)],[]⟩) (fun s => Gp s = some r) ?_ ?_
 · rcases cs h with ⟨b6,h⟩ | ⟨b6,h⟩
   · exact At.rK [6] [] [bT 3 b6] fun _ _ i => ⟨(y2.Text.toList == p2.toList),h,i⟩
   · rcases cs h with ⟨b7,h⟩ | ⟨b7,h⟩
     · exact At.rK [6] [] [bT 3 b6,bT 8 b7] fun _ _ i => ⟨(y2.Text.toList == p2.toList),h,i⟩
     · exact At.rK [6] [] [bT 3 b6,bT 8 b7] fun _ _ i => ⟨false,h,i⟩
 · intro x5 h
   obtain rfl := sq h
   exact At.ret (At.rR hR [])
theorem Am (p0 : Ad) (p1 : (List Af)) (p2 : ByteArray) (r : Ad) (h : Ai p0 p1 p2 = some r) : FnOK Tryz.prog 78 [.agg (Ad.pvs p0),lv Af.enc p1,sv p2] [] (.agg (Ad.pvs r)) [] [] := by
 refine fI Tryz.func78 rfl fun E gv R hR => ?_
 refine At.sR [1,2,3,6] [0,1] [] ?_
 refine At.seqJ (S := Int) (fun s => ⟨[(3,.ptr 0 0),(6,.ptr 1 0)],[.blk 103 [lv Aa.enc p0.l,i64 p0.n,i64 p0.at_,i64 s],.blk 103 [.d (.list true 0 []),i64 0,i64 0,i64 0]]⟩) (fun s => CL p0 s = some r) ?_ ?_
 · refine At.seqJ (S := Bool) (fun s => ⟨[(3,.ptr 0 0),(6,.ptr 1 0),(17,bo s)],[.blk 103 (Ad.pvs p0),.blk 103 [.d (.list true 0 []),i64 0,i64 0,i64 0]]⟩) (fun s => B3 p0 s = some r) ?_ ?_
   · rcases cs h with ⟨b15,h⟩ | ⟨b15,h⟩
     · obtain ⟨y16,hy16,h⟩ := bs h
       exact At.rK [3,6,17] [0,1] [bT 3 b15,c0 8 (AW p1 p0.at_ p2 y16 hy16)] fun _ _ i => ⟨(!y16),h,i⟩
     · exact At.rK [3,6,17] [0,1] [bT 3 b15] fun _ _ i => ⟨false,h,i⟩
   · intro x13 h
     refine At.cd h (fun b14 h => ?_) (fun b14 h => ?_)
     · exact At.rK [3,6] [0,1] [] fun _ _ i => ⟨11,h,i⟩
     · refine At.nR [3,6] [0,1] ?_
       refine At.skip (fun _ _ i => ⟨p0.e,h,i.en [] [3,6] [0,1]⟩)
 · intro x7 h
   refine At.seqJ (S := Int) (fun s => ⟨[(3,.ptr 0 0),(6,.ptr 1 0)],[.blk 103 [lv Aa.enc p0.l,i64 p0.n,i64 s,i64 x7],.blk 103 [.d (.list true 0 []),i64 0,i64 0,i64 0]]⟩) (fun s => EW p0 x7 s = some r) ?_ ?_
   · refine At.sR [3,6,21] [0,1] [] ?_
     refine At.cd h (fun b10 h => ?_) (fun b10 h => ?_)
     · exact At.rK [3,6] [0,1] [] fun _ _ i => ⟨(w64 (p0.at_ + 1)),h,i⟩
     · refine At.nR [3,6] [0,1] ?_
       refine At.skip (fun _ _ i => ⟨p0.at_,h,i.en [] [3,6] [0,1]⟩)
   · intro x9 h
     refine At.sR [6] [1] [] ?_
     obtain rfl := sq h
     exact At.ret (At.rR hR [])
theorem B0 (p0 : Ad) (p1 : (List Af)) (r : Ad × ByteArray) (h : Bf p0 p1 = some r) : FnOK Tryz.prog 79 [.agg (Ad.pvs p0),lv Af.enc p1] [] (.tup [.agg (Ad.pvs r.1),sv r.2]) [] [] := by
 refine fI Tryz.func79 rfl fun E gv R hR => ?_
 refine At.sR [1,2,4] [0,1] [] ?_
 obtain ⟨y2,hy2,h⟩ := bs h
 refine At.sR [2,4,6] [0,1,2] [c0 3 (BB p1 p0.at_ y2 hy2)] ?_
 refine At.seqJ (S := Int) (fun s => ⟨[(2,.ptr 0 0),(4,.ptr 1 0),(6,.ptr 2 0)],[.blk 103 [lv Aa.enc p0.l,i64 p0.n,i64 p0.at_,i64 s],.blk 103 [.d (.list true 0 []),i64 0,i64 0,i64 0],.blk 81 (Af.pvs y2)]⟩) (fun s => Dk p0 y2 s = some r) ?_ ?_
 · refine At.seqJ (S := Bool) (fun s => ⟨[(2,.ptr 0 0),(4,.ptr 1 0),(6,.ptr 2 0),(18,bo s)],[.blk 103 (Ad.pvs p0),.blk 103 [.d (.list true 0 []),i64 0,i64 0,i64 0],.blk 81 (Af.pvs y2)]⟩) (fun s => Dj p0 y2 s = some r) ?_ ?_
   · rcases cs h with ⟨b13,h⟩ | ⟨b13,h⟩
     · exact At.rK [2,4,6,18] [0,1,2] [bT 3 b13] fun _ _ i => ⟨(y2.Kind != 1),h,i⟩
     · exact At.rK [2,4,6,18] [0,1,2] [bT 3 b13] fun _ _ i => ⟨false,h,i⟩
   · intro x11 h
     refine At.cd h (fun b12 h => ?_) (fun b12 h => ?_)
     · exact At.rK [2,4,6] [0,1,2] [] fun _ _ i => ⟨11,h,i⟩
     · refine At.nR [2,4,6] [0,1,2] ?_
       refine At.skip (fun _ _ i => ⟨p0.e,h,i.en [] [2,4,6] [0,1,2]⟩)
 · intro x7 h
   refine At.seq ?_
   refine At.sR [2,4,6,22] [0,1,2] [] ?_
   refine At.cd h (fun b9 h => ?_) (fun b9 h => ?_)
   · refine At.sR [4,5] [1] [] ?_
     obtain rfl := sq h
     exact At.ret (At.rR hR [])
   · refine At.nR [2,4,6] [0,1,2] ?_
     refine At.skip (norm ?_)
     refine At.sR [2,4,6] [0,1,2] [] ?_
     refine At.sD 0 [4,5] [1] [] ?_
     obtain rfl := sq h
     exact At.ret (At.rR hR [])
theorem JO (p0 : Ad) (p1 : (List Af)) (r : Ad × Int) (h : Fp p0 p1 = some r) : FnOK Tryz.prog 80 [.agg (Ad.pvs p0),lv Af.enc p1] [] (.tup [.agg (Ad.pvs r.1),i64 r.2]) [] [] := by
 refine fI Tryz.func80 rfl fun E gv R hR => ?_
 refine At.sR [1,2,4] [0,1] [] ?_
 obtain ⟨y2,hy2,h⟩ := bs h
 refine At.sR [2,4,6] [0,1,2] [c0 3 (BB p1 p0.at_ y2 hy2)] ?_
 refine At.seqJ (S := Int) (fun s => ⟨[(2,.ptr 0 0),(4,.ptr 1 0),(6,.ptr 2 0)],[.blk 103 [lv Aa.enc p0.l,i64 p0.n,i64 p0.at_,i64 s],.blk 103 [.d (.list true 0 []),i64 0,i64 0,i64 0],.blk 81 (Af.pvs y2)]⟩) (fun s => Di p0 y2 s = some r) ?_ ?_
 · refine At.seqJ (S := Bool) (fun s => ⟨[(2,.ptr 0 0),(4,.ptr 1 0),(6,.ptr 2 0),(18,bo s)],[.blk 103 (Ad.pvs p0),.blk 103 [.d (.list true 0 []),i64 0,i64 0,i64 0],.blk 81 (Af.pvs y2)]⟩) (fun s => Dg p0 y2 s = some r) ?_ ?_
   · rcases cs h with ⟨b26,h⟩ | ⟨b26,h⟩
     · exact At.rK [2,4,6,18] [0,1,2] [bT 3 b26] fun _ _ i => ⟨(y2.Kind != 2),h,i⟩
     · exact At.rK [2,4,6,18] [0,1,2] [bT 3 b26] fun _ _ i => ⟨false,h,i⟩
   · intro x24 h
     refine At.cd h (fun b25 h => ?_) (fun b25 h => ?_)
     · exact At.rK [2,4,6] [0,1,2] [] fun _ _ i => ⟨11,h,i⟩
     · refine At.nR [2,4,6] [0,1,2] ?_
       refine At.skip (fun _ _ i => ⟨p0.e,h,i.en [] [2,4,6] [0,1,2]⟩)
 · intro x7 h
   refine At.seqJ (S := Int) (fun s => ⟨[(2,.ptr 0 0),(4,.ptr 1 0),(6,.ptr 2 0)],[.blk 103 [lv Aa.enc p0.l,i64 p0.n,i64 p0.at_,i64 s],.blk 103 [.d (.list true 0 []),i64 0,i64 0,i64 0],.blk 81 (Af.pvs y2)]⟩) (fun s => Dh p0 y2 s = some r) ?_ ?_
   · refine At.seqJ (S := Bool) (fun s => ⟨[(2,.ptr 0 0),(4,.ptr 1 0),(6,.ptr 2 0),(32,bo s)],[.blk 103 [lv Aa.enc p0.l,i64 p0.n,i64 p0.at_,i64 x7],.blk 103 [.d (.list true 0 []),i64 0,i64 0,i64 0],.blk 81 (Af.pvs y2)]⟩) (fun s => Cs p0 y2 x7 s = some r) ?_ ?_
     · rcases cs h with ⟨b21,h⟩ | ⟨b21,h⟩
       · rcases cs h with ⟨b22,h⟩ | ⟨b22,h⟩
         · exact At.rK [2,4,6,32] [0,1,2] [bT 3 b21,bT 7 b22] fun _ _ i => ⟨true,h,i⟩
         · exact At.rK [2,4,6,32] [0,1,2] [bT 3 b21,bT 7 b22] fun _ _ i => ⟨(decide (16 < y2.N)),h,i⟩
       · exact At.rK [2,4,6,32] [0,1,2] [bT 3 b21] fun _ _ i => ⟨false,h,i⟩
     · intro x19 h
       refine At.cd h (fun b20 h => ?_) (fun b20 h => ?_)
       · exact At.rK [2,4,6] [0,1,2] [] fun _ _ i => ⟨6,h,i⟩
       · refine At.nR [2,4,6] [0,1,2] ?_
         refine At.skip (fun _ _ i => ⟨x7,h,i.en [] [2,4,6] [0,1,2]⟩)
   · intro x14 h
     refine At.seq ?_
     refine At.sR [2,4,6,36] [0,1,2] [] ?_
     refine At.cd h (fun b16 h => ?_) (fun b16 h => ?_)
     · refine At.sR [4,5] [1] [] ?_
       obtain rfl := sq h
       exact At.ret (At.rR hR [])
     · refine At.nR [2,4,6] [0,1,2] ?_
       refine At.skip (norm ?_)
       refine At.sR [2,4,6] [0,1,2] [] ?_
       refine At.sD 0 [4,5] [1] [] ?_
       obtain rfl := sq h
       exact At.ret (At.rR hR [])
theorem Az (p0 : Ad) (p1 : Aa) (r : Ad) (h : Av p0 p1 = some r) : FnOK Tryz.prog 46 [.agg (Ad.pvs p0),.agg (Aa.pvs p1)] [] (.agg (Ad.pvs r)) [] [] := by
 refine fI Tryz.func46 rfl fun E gv R hR => ?_
 refine At.sR [2,3,4] [0,1,2] [] ?_
 refine At.sR [2,3,4] [0,1,2] [] ?_
 obtain ⟨g2,h⟩ := gs h
 refine At.sR [2,4] [0,3,2] [aT Aa.enc_len 4 ([(⟨p1.Op,p1.Name,p1.N,p0.n,p1.At⟩ : Aa)]) p0.l rfl g2] ?_
 refine At.sR [2,4] [0,1,2] [] ?_
 refine At.sR [4] [2,1] [] ?_
 refine At.eN [.settle 1] [4] [0] ?_
 obtain rfl := sq h
 exact At.ret (At.rR hR [])
theorem Cg (p0 : Ad) (p1 : Ad) (r : Ad) (h : AR p0 p1 = some r) : FnOK Tryz.prog 44 [.agg (Ad.pvs p0),.agg (Ad.pvs p1)] [] (.agg (Ad.pvs r)) [] [] := by
 refine fI Tryz.func44 rfl fun E gv R hR => ?_
 refine At.sR [2,3,4] [0,1,2] [] ?_
 refine At.seq ?_
 refine At.sR [2,3,4,7] [0,1,2] [] ?_
 refine At.cd h (fun b2 h => ?_) (fun b2 h => ?_)
 · refine At.sR [4] [2] [] ?_
   obtain rfl := sq h
   exact At.ret (At.rR hR [])
 · refine At.nR [2,3,4] [0,1,2] ?_
   refine At.skip (norm ?_)
   obtain ⟨g5,h⟩ := gs h
   obtain ⟨g6,h⟩ := gs h
   refine At.sD 1 [4] [2,3] [aT Aa.enc_len 3 ([] : List Aa) p0.l rfl g5,aT Aa.enc_len 6 (([] : List Aa) ++ p0.l) p1.l rfl g6] ?_
   refine At.eN [.settle 1] [4] [0] ?_
   obtain rfl := sq h
   exact At.ret (At.rR hR [])
theorem HW (p0 : Ad) (p1 : (List Af)) (r : Ad) (h : CZ p0 p1 = some r) : FnOK Tryz.prog 81 [.agg (Ad.pvs p0),lv Af.enc p1] [] (.agg (Ad.pvs r)) [] [] := by
 refine fI Tryz.func81 rfl fun E gv R hR => ?_
 refine At.sR [1,2,4] [0,1] [] ?_
 refine At.seq ?_
 refine At.sR [1,2,4,9] [0,1] [] ?_
 refine At.cd h (fun b2 h => ?_) (fun b2 h => ?_)
 · refine At.sR [4] [1] [] ?_
   obtain rfl := sq h
   exact At.ret (At.rR hR [])
 · refine At.nR [1,2,4] [0,1] ?_
   refine At.skip (norm ?_)
   obtain ⟨y5,hy5,h⟩ := bs h
   obtain ⟨y6,hy6,h⟩ := bs h
   refine At.sR [1,2,4,5,6] [0,1,2] [c0 2 (BO p0.at_ y5 hy5),c0 4 (B0 y5 p1 y6 hy6)] ?_
   obtain ⟨y10,hy10,h⟩ := bs h
   obtain ⟨y11,hy11,h⟩ := bs h
   obtain ⟨y12,hy12,h⟩ := bs h
   refine At.sD 0 [4] [1] [c0 6 (BB p1 p0.at_ y10 hy10),c0 9 (Az y6.1 (⟨39,y6.2,0,0,y10.At⟩ : Aa) y11 hy11),c0 10 (Cg p0 y11 y12 hy12)] ?_
   obtain rfl := sq h
   exact At.ret (At.rR hR [])
theorem Jv (p0 : ByteArray) (r : Int) (h : GA p0 = some r) : FnOK Tryz.prog 124 [sv p0] [] (i64 r) [] [] := by
 refine fI Tryz.func124 rfl fun E gv R hR => ?_
 refine At.sR [0] [] [] ?_
 refine At.sR [0,3] [0] [] ?_
 refine At.seq ?_
 refine At.sR [0,3,4] [0] [] ?_
 refine At.block ?_
 refine At.nK (st' := ⟨[(0,sv p0),(3,.row 0 ([(⟨#[43]⟩ : ByteArray),(⟨#[45]⟩ : ByteArray),(⟨#[42]⟩ : ByteArray),(⟨#[47]⟩ : ByteArray),(⟨#[37]⟩ : ByteArray),(⟨#[61,61]⟩ : ByteArray),(⟨#[33,61]⟩ : ByteArray),(⟨#[60]⟩ : ByteArray),(⟨#[60,61]⟩ : ByteArray),(⟨#[62]⟩ : ByteArray),(⟨#[62,61]⟩ : ByteArray),(⟨#[38,38]⟩ : ByteArray),(⟨#[124,124]⟩ : ByteArray)]).length),(4,i64 0)],[.row 9 1 (encL eStr ([(⟨#[43]⟩ : ByteArray),(⟨#[45]⟩ : ByteArray),(⟨#[42]⟩ : ByteArray),(⟨#[47]⟩ : ByteArray),(⟨#[37]⟩ : ByteArray),(⟨#[61,61]⟩ : ByteArray),(⟨#[33,61]⟩ : ByteArray),(⟨#[60]⟩ : ByteArray),(⟨#[60,61]⟩ : ByteArray),(⟨#[62]⟩ : ByteArray),(⟨#[62,61]⟩ : ByteArray),(⟨#[38,38]⟩ : ByteArray),(⟨#[124,124]⟩ : ByteArray)]))]⟩) [0,3,4] [0] ?_
 refine At.lp (fun s : (Int) => ⟨[(0,sv p0),(3,.row 0 ([(⟨#[43]⟩ : ByteArray),(⟨#[45]⟩ : ByteArray),(⟨#[42]⟩ : ByteArray),(⟨#[47]⟩ : ByteArray),(⟨#[37]⟩ : ByteArray),(⟨#[61,61]⟩ : ByteArray),(⟨#[33,61]⟩ : ByteArray),(⟨#[60]⟩ : ByteArray),(⟨#[60,61]⟩ : ByteArray),(⟨#[62]⟩ : ByteArray),(⟨#[62,61]⟩ : ByteArray),(⟨#[38,38]⟩ : ByteArray),(⟨#[124,124]⟩ : ByteArray)]).length),(4,i64 s)],[.row 9 1 (encL eStr ([(⟨#[43]⟩ : ByteArray),(⟨#[45]⟩ : ByteArray),(⟨#[42]⟩ : ByteArray),(⟨#[47]⟩ : ByteArray),(⟨#[37]⟩ : ByteArray),(⟨#[61,61]⟩ : ByteArray),(⟨#[33,61]⟩ : ByteArray),(⟨#[60]⟩ : ByteArray),(⟨#[60,61]⟩ : ByteArray),(⟨#[62]⟩ : ByteArray),(⟨#[62,61]⟩ : ByteArray),(⟨#[38,38]⟩ : ByteArray),(⟨#[124,124]⟩ : ByteArray)]))]⟩) h ?_
 intro x16 oo17 h f18
 replace h : HA p0 x16 = some oo17 := h
 refine At.seq ?_
 refine At.sR [0,3,4,9] [0] [] ?_
 refine At.cd h (fun b20 h => ?_) (fun b20 h => ?_)
 · refine At.nR [0,3,4] [0] ?_
   refine At.skip (norm ?_)
   refine At.seq ?_
   refine At.block ?_
   obtain ⟨y25,hy25,h⟩ := bs h
   refine At.sR [0,3,4,17] [0] [oT 2 ((AZ G6 (d := .str y25) hy25 rfl).1),vT 3 (.str y25) ((AZ G6 (d := .str y25) hy25 rfl).2)] ?_
   refine At.cd h (fun b26 h => ?_) (fun b26 h => ?_)
   · refine At.sR [2] [] [] ?_
     obtain ⟨r27,h,e28⟩ := mr h
     rw [f18 _ e28] at h
     obtain rfl := sq h
     exact At.ret (At.rR hR [])
   · refine At.nR [0,3,4] [0] ?_
     refine At.skip (norm ?_)
     exact At.rK [0,3,4] [0] [] fun _ _ i => ⟨_,li h,i⟩
 · refine At.nR [] [] ?_
   obtain ⟨r29,h,e30⟩ := mr h
   rw [f18 _ e30] at h
   refine At.exit (norm ?_)
   refine At.sR [2] [] [] ?_
   obtain rfl := sq h
   exact At.ret (At.rR hR [])
theorem KD  (r : (List (List ByteArray))) (h : Hz  = some r) : FnOK Tryz.prog 126 [] [] (.row 0 (r).length) [.row 68 1 (encL (LX eStr) r)] [] := by
 refine fI Tryz.func126 rfl fun E gv R hR => ?_
 refine At.sR [] [] [] ?_
 refine At.sR [0] [5] [tT 5 ({ settle := [0,1,2,3,4] }) all0] ?_
 obtain rfl := sq h
 exact At.ret (At.rR hR [0])
theorem KF (p0 : Int) (r : Int) (h : Gr p0 = some r) : FnOK Tryz.prog 125 [i64 p0] [] (i64 r) [] [] := by
 refine fI Tryz.func125 rfl fun E gv R hR => ?_
 refine At.sR [0] [] [] ?_
 refine At.seq ?_
 refine At.seqJ (S := Bool) (fun s => ⟨[(0,i64 p0),(11,bo s)],[]⟩) (fun s => Ek p0 s = some r) ?_ ?_
 · rcases cs h with ⟨b144,h⟩ | ⟨b144,h⟩
   · exact At.rK [0,11] [] [bT 2 b144] fun _ _ i => ⟨true,h,i⟩
   · exact At.rK [0,11] [] [bT 2 b144] fun _ _ i => ⟨(p0 == 2),h,i⟩
 · intro x6 h
   refine At.cd h (fun b7 h => ?_) (fun b7 h => ?_)
   · refine At.sR [2] [] [] ?_
     obtain rfl := sq h
     exact At.ret (At.rR hR [])
   · refine At.nR [0] [] ?_
     refine At.skip (norm ?_)
     refine At.seq ?_
     refine At.seqJ (S := Bool) (fun s => ⟨[(0,i64 p0),(17,bo s)],[]⟩) (fun s => Ej p0 s = some r) ?_ ?_
     · rcases cs h with ⟨b143,h⟩ | ⟨b143,h⟩
       · exact At.rK [0,17] [] [bT 2 b143] fun _ _ i => ⟨true,h,i⟩
       · exact At.rK [0,17] [] [bT 2 b143] fun _ _ i => ⟨(p0 == 4),h,i⟩
     · intro x13 h
       refine At.cd h (fun b14 h => ?_) (fun b14 h => ?_)
       · refine At.sR [2] [] [] ?_
         obtain rfl := sq h
         exact At.ret (At.rR hR [])
       · refine At.nR [0] [] ?_
         refine At.skip (norm ?_)
         obtain ⟨y16,hy16,h⟩ := bs h
         refine At.sR [0,3] [0] [cT 0 0 [0] (KD y16 hy16)] ?_
         refine At.seq ?_
         refine At.sR [0,3,4] [0] [] ?_
         refine At.block ?_
         refine At.nK (st' := ⟨[(0,i64 p0),(3,.row 0 (y16).length),(4,i64 0)],[.row 68 1 (encL (LX eStr) y16)]⟩) [0,3,4] [0] ?_
         refine At.lp (fun s : (Int) => ⟨[(0,i64 p0),(3,.row 0 (y16).length),(4,i64 s)],[.row 68 1 (encL (LX eStr) y16)]⟩) h ?_
         intro x80 oo81 h f82
         replace h : GQ p0 y16 x80 = some oo81 := h
         refine At.seq ?_
         refine At.sR [0,3,4,22] [0] [] ?_
         refine At.cd h (fun b84 h => ?_) (fun b84 h => ?_)
         · refine At.nR [0,3,4] [0] ?_
           refine At.skip (norm ?_)
           refine At.seq ?_
           refine At.block ?_
           refine At.sR [0,3,4,5] [0] [] ?_
           refine At.block ?_
           refine At.nK (st' := ⟨[(0,i64 p0),(3,.row 0 (y16).length),(4,i64 x80),(5,i64 0)],[.row 68 1 (encL (LX eStr) y16)]⟩) [0,3,4,5] [0] ?_
           refine At.lp (fun s : (Int) => ⟨[(0,i64 p0),(3,.row 0 (y16).length),(4,i64 x80),(5,i64 s)],[.row 68 1 (encL (LX eStr) y16)]⟩) h ?_
           intro x112 oo113 h f114
           replace h : GR p0 y16 x80 x112 = some oo113 := h
           refine At.seq ?_
           obtain ⟨y119,hy119,h⟩ := bs h
           refine At.sR [0,3,4,5,31] [0] [oT 3 ((AZ (IT eStr) (d := .list false (y119).length (encL eStr y119)) hy119 rfl).1),vT 4 (.list false (y119).length (encL eStr y119)) ((AZ (IT eStr) (d := .list false (y119).length (encL eStr y119)) hy119 rfl).2)] ?_
           refine At.cd h (fun b120 h => ?_) (fun b120 h => ?_)
           · refine At.nR [0,3,4,5] [0] ?_
             refine At.skip (norm ?_)
             refine At.seq ?_
             refine At.block ?_
             obtain ⟨y131,hy131,h⟩ := bs h
             obtain ⟨y132,hy132,h⟩ := bs h
             obtain ⟨y133,hy133,h⟩ := bs h
             refine At.sR [0,3,4,5,43] [0] [oT 2 ((AZ (IT eStr) (d := .list false (y131).length (encL eStr y131)) hy131 rfl).1),vT 3 (.list false (y131).length (encL eStr y131)) ((AZ (IT eStr) (d := .list false (y131).length (encL eStr y131)) hy131 rfl).2),eT G6 5 hy132,c0 7 (Jv y132 y133 hy133)] ?_
             refine At.cd h (fun b134 h => ?_) (fun b134 h => ?_)
             · refine At.sR [2] [] [] ?_
               obtain ⟨r135,h,e136⟩ := mr h
               rw [f114 _ e136] at h
               obtain ⟨r137,h,e138⟩ := mr h
               rw [f82 _ e138] at h
               obtain rfl := sq h
               exact At.ret (At.rR hR [])
             · refine At.nR [0,3,4,5] [0] ?_
               refine At.skip (norm ?_)
               exact At.rK [0,3,4,5] [0] [] fun _ _ i => ⟨_,li h,i⟩
           · refine At.nR [0,3,4] [0] ?_
             obtain ⟨r139,h,e140⟩ := mr h
             rw [f114 _ e140] at h
             refine At.exit (norm ?_)
             exact At.rK [0,3,4] [0] [] fun _ _ i => ⟨_,li h,i⟩
         · refine At.nR [] [] ?_
           obtain ⟨r141,h,e142⟩ := mr h
           rw [f82 _ e142] at h
           refine At.exit (norm ?_)
           refine At.sR [2] [] [] ?_
           obtain rfl := sq h
           exact At.ret (At.rR hR [])
theorem KB (sf1 : (List Af) → Int → Int → Int → Option (Ag)) (sf2 : (List Af) → Int → Int → Option (Ag)) (hf1 : ∀ (p0 : (List Af)) (p1 : Int) (p2 : Int) (p3 : Int) (r : Ag),sf1 p0 p1 p2 p3 = some r → FnOK Tryz.prog 122 [lv Af.enc p0,i64 p1,i64 p2,i64 p3] [] (.agg (Ag.pvs r)) [] []) (hf2 : ∀ (p0 : (List Af)) (p1 : Int) (p2 : Int) (r : Ag),sf2 p0 p1 p2 = some r → FnOK Tryz.prog 123 [lv Af.enc p0,i64 p1,i64 p2] [] (.agg (Ag.pvs r)) [] []) (p0 : (List Af)) (p1 : Int) (p2 : Int) (r : Ag) (h : Gq sf1 sf2 p0 p1 p2 = some r) : FnOK Tryz.prog 123 [lv Af.enc p0,i64 p1,i64 p2] [] (.agg (Ag.pvs r)) [] [] := by
 refine fI Tryz.func123 rfl fun E gv R hR => ?_
 refine At.sR [0,1,2,6] [0] [] ?_
 obtain ⟨y2,hy2,h⟩ := bs h
 refine At.sR [0,1,2,6,7] [0,1] [c0 2 (BB p0 p1 y2 hy2)] ?_
 refine At.seq ?_
 refine At.sR [0,1,2,6,7,17] [0,1] [] ?_
 refine At.cd h (fun b4 h => ?_) (fun b4 h => ?_)
 · refine At.sR [6] [0,2] [] ?_
   refine At.eN [.settle 1] [6] [0] ?_
   obtain rfl := sq h
   exact At.ret (At.rR hR [])
 · refine At.nR [0,1,2,6,7] [0,1] ?_
   refine At.skip (norm ?_)
   refine At.seq ?_
   refine At.sR [0,1,2,6,7,29] [0,1] [] ?_
   refine At.cd h (fun b6 h => ?_) (fun b6 h => ?_)
   · refine At.seq ?_
     refine At.rK (st' := ⟨[(6,.ptr 0 0)],[.blk 50 [.row 1 ([(⟨2,y2.Text,0,0,y2.At⟩ : Aa)]).length,i64 (w64 (p1 + 1)),i64 0],.row 67 5 (encL Aa.enc ([(⟨2,y2.Text,0,0,y2.At⟩ : Aa)]))]⟩) [6] [0,2] [] (norm ?_)
     refine At.eN [.settle 1] [6] [0] ?_
     obtain rfl := sq h
     exact At.ret (At.rR hR [])
   · refine At.nK (st' := ⟨[(0,lv Af.enc p0),(1,i64 p1),(2,i64 p2),(6,.ptr 0 0),(7,.ptr 1 0)],[.blk 50 [.d (.list true 0 []),i64 0,i64 0],.blk 81 (Af.pvs y2)]⟩) [0,1,2,6,7] [0,1] ?_
     refine At.skip (norm ?_)
     refine At.seq ?_
     refine At.seqJ (S := Bool) (fun s => ⟨[(0,lv Af.enc p0),(1,i64 p1),(2,i64 p2),(6,.ptr 0 0),(7,.ptr 1 0),(56,bo s)],[.blk 50 [.d (.list true 0 []),i64 0,i64 0],.blk 81 (Af.pvs y2)]⟩) (fun s => C2 sf1 sf2 p0 p1 p2 y2 s = some r) ?_ ?_
     · rcases cs h with ⟨b65,h⟩ | ⟨b65,h⟩
       · exact At.rK [0,1,2,6,7,56] [0,1] [bT 3 b65] fun _ _ i => ⟨true,h,i⟩
       · rcases cs h with ⟨b66,h⟩ | ⟨b66,h⟩
         · rcases cs h with ⟨b67,h⟩ | ⟨b67,h⟩
           · exact At.rK [0,1,2,6,7,56] [0,1] [bT 3 b65,bT 7 b66,bT 12 b67] fun _ _ i => ⟨(!(y2.Text.toList == (⟨#[40]⟩ : ByteArray).toList)),h,i⟩
           · exact At.rK [0,1,2,6,7,56] [0,1] [bT 3 b65,bT 7 b66,bT 12 b67] fun _ _ i => ⟨false,h,i⟩
         · exact At.rK [0,1,2,6,7,56] [0,1] [bT 3 b65,bT 7 b66] fun _ _ i => ⟨false,h,i⟩
     · intro x18 h
       refine At.cd h (fun b19 h => ?_) (fun b19 h => ?_)
       · refine At.sR [6] [0] [] ?_
         refine At.eN [.loO 0] [6] [0] ?_
         obtain rfl := sq h
         exact At.ret (At.rR hR [])
       · refine At.nR [0,1,2,6,7] [0,1] ?_
         refine At.skip (norm ?_)
         refine At.seq ?_
         refine At.sR [0,1,2,6,7,60] [0,1] [] ?_
         refine At.cd h (fun b21 h => ?_) (fun b21 h => ?_)
         · refine At.sR [6] [0] [] ?_
           refine At.eN [.loO 0] [6] [0] ?_
           obtain rfl := sq h
           exact At.ret (At.rR hR [])
         · refine At.nR [0,1,2,6,7] [0,1] ?_
           refine At.skip (norm ?_)
           refine At.seq ?_
           refine At.sR [0,1,2,6,7,65] [0,1] [] ?_
           refine At.cd h (fun b39 h => ?_) (fun b39 h => ?_)
           · obtain ⟨y41,hy41,h⟩ := bs h
             refine At.sR [0,6,8] [0,2] [c0 5 (hf1 p0 (w64 (p1 + 1)) 1 (w64 (p2 + 1)) y41 hy41)] ?_
             refine At.seq ?_
             refine At.seq ?_
             refine At.rK (st' := ⟨[(0,lv Af.enc p0),(6,.ptr 0 0),(8,.ptr 1 0),(74,bo (y41.E != 0))],[.blk 50 [.d (.list true 0 []),i64 0,i64 0],.blk 50 (Ag.pvs y41)]⟩) [0,6,8,74] [0,1] [] (norm ?_)
             refine At.cd h (fun b43 h => ?_) (fun b43 h => ?_)
             · refine At.sR [6] [0] [] ?_
               obtain rfl := sq h
               exact At.ret (At.rR hR [])
             · refine At.nR [0,6,8] [0,1] ?_
               refine At.skip (norm ?_)
               refine At.seq ?_
               obtain ⟨y51,hy51,h⟩ := bs h
               refine At.sR [6,8,9] [0,1,2] [c0 3 (BB p0 y41.At y51 hy51)] ?_
               refine At.seqJ (S := Bool) (fun s => ⟨[(6,.ptr 0 0),(8,.ptr 1 0),(87,bo s)],[.blk 50 [.d (.list true 0 []),i64 0,i64 0],.blk 50 (Ag.pvs y41)]⟩) (fun s => E1 sf1 sf2 y41 s = some r) ?_ ?_
               · rcases cs h with ⟨b55,h⟩ | ⟨b55,h⟩
                 · exact At.rK [6,8,87] [0,1] [bT 3 b55] fun _ _ i => ⟨true,h,i⟩
                 · exact At.rK [6,8,87] [0,1] [bT 3 b55] fun _ _ i => ⟨(!(y51.Text.toList == (⟨#[41]⟩ : ByteArray).toList)),h,i⟩
               · intro x53 h
                 refine At.cd h (fun b54 h => ?_) (fun b54 h => ?_)
                 · refine At.sR [6] [0] [] ?_
                   refine At.eN [.loO 0] [6] [0] ?_
                   obtain rfl := sq h
                   exact At.ret (At.rR hR [])
                 · refine At.nR [6,8] [0,1] ?_
                   refine At.skip (norm ?_)
                   refine At.sR [6] [0] [] ?_
                   obtain rfl := sq h
                   exact At.ret (At.rR hR [])
           · refine At.nR [0,1,2,6,7] [0,1] ?_
             refine At.skip (norm ?_)
             refine At.seq ?_
             obtain ⟨y57,hy57,h⟩ := bs h
             refine At.rK (st' := ⟨[(6,.ptr 0 0),(7,.ptr 1 0),(10,.ptr 2 0)],[.blk 50 [.d (.list true 0 []),i64 0,i64 0],.blk 81 (Af.pvs y2),.blk 50 (Ag.pvs y57)]⟩) [6,7,10] [0,1,2] [c0 5 (hf2 p0 (w64 (p1 + 1)) (w64 (p2 + 1)) y57 hy57)] (norm ?_)
             refine At.seq ?_
             refine At.sR [6,7,10,105] [0,1,2] [] ?_
             refine At.cd h (fun b59 h => ?_) (fun b59 h => ?_)
             · refine At.sR [6] [0] [] ?_
               obtain rfl := sq h
               exact At.ret (At.rR hR [])
             · refine At.nR [6,7,10] [0,1,2] ?_
               refine At.skip (norm ?_)
               refine At.sR [6,7,10,11] [0,1,2] [] ?_
               refine At.seqJ (S := Int) (fun s => ⟨[(6,.ptr 0 0),(7,.ptr 1 0),(10,.ptr 2 0),(11,i64 s)],[.blk 50 [.d (.list true 0 []),i64 0,i64 0],.blk 81 (Af.pvs y2),.blk 50 (Ag.pvs y57)]⟩) (fun s => E0 sf1 sf2 y2 y57 s = some r) ?_ ?_
               · refine At.sR [6,7,10,11,109] [0,1,2] [] ?_
                 refine At.cd h (fun b64 h => ?_) (fun b64 h => ?_)
                 · exact At.rK [6,7,10,11] [0,1,2] [] fun _ _ i => ⟨4,h,i⟩
                 · refine At.nR [6,7,10,11] [0,1,2] ?_
                   refine At.skip (fun _ _ i => ⟨3,h,i.en [] [6,7,10,11] [0,1,2]⟩)
               · intro x61 h
                 obtain ⟨g63,h⟩ := gs h
                 refine At.sD 1 [6] [0,3] [aT Aa.enc_len 7 ([(⟨x61,(⟨#[]⟩ : ByteArray),0,1,y2.At⟩ : Aa)]) y57.L rfl g63] ?_
                 refine At.eN [.settle 1] [6] [0] ?_
                 obtain rfl := sq h
                 exact At.ret (At.rR hR [])
theorem JX (sf1 : (List Af) → Int → Int → Int → Option (Ag)) (sf2 : (List Af) → Int → Int → Option (Ag)) (hf1 : ∀ (p0 : (List Af)) (p1 : Int) (p2 : Int) (p3 : Int) (r : Ag),sf1 p0 p1 p2 p3 = some r → FnOK Tryz.prog 122 [lv Af.enc p0,i64 p1,i64 p2,i64 p3] [] (.agg (Ag.pvs r)) [] []) (hf2 : ∀ (p0 : (List Af)) (p1 : Int) (p2 : Int) (r : Ag),sf2 p0 p1 p2 = some r → FnOK Tryz.prog 123 [lv Af.enc p0,i64 p1,i64 p2] [] (.agg (Ag.pvs r)) [] []) (p0 : (List Af)) (p1 : Int) (p2 : Int) (p3 : Int) (r : Ag) (h : FS sf1 sf2 p0 p1 p2 p3 = some r) : FnOK Tryz.prog 122 [lv Af.enc p0,i64 p1,i64 p2,i64 p3] [] (.agg (Ag.pvs r)) [] [] := by
 refine fI Tryz.func122 rfl fun E gv R hR => ?_
 refine At.sR [0,1,2,3,8] [0] [] ?_
 refine At.seq ?_
 refine At.sR [0,1,2,3,8,15] [0] [] ?_
 refine At.cd h (fun b4 h => ?_) (fun b4 h => ?_)
 · obtain ⟨y6,hy6,h⟩ := bs h
   refine At.sR [8] [0] [c0 3 (hf2 p0 p1 p3 y6 hy6)] ?_
   obtain rfl := sq h
   exact At.ret (At.rR hR [])
 · refine At.nR [0,1,2,3,8] [0] ?_
   refine At.skip (norm ?_)
   obtain ⟨y8,hy8,h⟩ := bs h
   refine At.sR [0,2,3,8,9] [0,1] [c0 5 (hf1 p0 p1 (w64 (p2 + 1)) p3 y8 hy8)] ?_
   refine At.seq ?_
   refine At.block ?_
   refine At.nK (st' := ⟨[(0,lv Af.enc p0),(2,i64 p2),(3,i64 p3),(8,.ptr 0 0),(9,.ptr 1 0)],[.blk 50 [.d (.list true 0 []),i64 0,i64 0],.blk 50 (Ag.pvs y8)]⟩) [0,2,3,8,9] [0,1] ?_
   refine At.lp (fun s : ((List Aa) × Int × Int) => ⟨[(0,lv Af.enc p0),(2,i64 p2),(3,i64 p3),(8,.ptr 0 0),(9,.ptr 1 0)],[.blk 50 [.d (.list true 0 []),i64 0,i64 0],.blk 50 [lv Aa.enc s.1,i64 s.2.1,i64 s.2.2]]⟩) h ?_
   rintro ⟨x53,x54,x55⟩ oo56 h f57
   replace h : Ft sf1 sf2 p0 p2 p3 x53 x54 x55 = some oo56 := h
   refine At.seq ?_
   refine At.sR [0,2,3,8,9,28] [0,1] [] ?_
   refine At.cd h (fun b59 h => ?_) (fun b59 h => ?_)
   · refine At.nR [0,2,3,8,9] [0,1] ?_
     refine At.skip (norm ?_)
     refine At.block ?_
     obtain ⟨y61,hy61,h⟩ := bs h
     refine At.sR [0,2,3,8,9,10] [0,1,2] [c0 3 (BB p0 x54 y61 hy61)] ?_
     obtain ⟨y63,hy63,h⟩ := bs h
     refine At.sR [0,2,3,8,9,10,11] [0,1,2] [c0 2 (Jv y61.Text y63 hy63)] ?_
     refine At.seq ?_
     refine At.seqJ (S := Bool) (fun s => ⟨[(0,lv Af.enc p0),(2,i64 p2),(3,i64 p3),(8,.ptr 0 0),(9,.ptr 1 0),(10,.ptr 2 0),(11,i64 y63),(48,bo s)],[.blk 50 [.d (.list true 0 []),i64 0,i64 0],.blk 50 [lv Aa.enc x53,i64 x54,i64 x55],.blk 81 (Af.pvs y61)]⟩) (fun s => Dc sf1 sf2 p0 p2 p3 x53 x54 x55 y61 y63 s = some oo56) ?_ ?_
     · rcases cs h with ⟨b92,h⟩ | ⟨b92,h⟩
       · exact At.rK [0,2,3,8,9,10,11,48] [0,1,2] [bT 3 b92] fun _ _ i => ⟨true,h,i⟩
       · rcases cs h with ⟨b93,h⟩ | ⟨b93,h⟩
         · exact At.rK [0,2,3,8,9,10,11,48] [0,1,2] [bT 3 b92,bT 7 b93] fun _ _ i => ⟨true,h,i⟩
         · obtain ⟨y94,hy94,h⟩ := bs h
           exact At.rK [0,2,3,8,9,10,11,48] [0,1,2] [bT 3 b92,bT 7 b93,c0 9 (KF y63 y94 hy94)] fun _ _ i => ⟨(y94 != p2),h,i⟩
     · intro x75 h
       refine At.cd h (fun b76 h => ?_) (fun b76 h => ?_)
       · refine At.sR [8] [0] [] ?_
         obtain ⟨r77,h,e78⟩ := mr h
         rw [f57 _ e78] at h
         obtain rfl := sq h
         exact At.ret (At.rR hR [])
       · refine At.nR [0,2,3,8,9,10,11] [0,1,2] ?_
         refine At.skip (norm ?_)
         obtain ⟨y80,hy80,h⟩ := bs h
         refine At.sR [0,2,3,8,9,10,11,12] [0,1,2,3] [c0 7 (hf1 p0 (w64 (x54 + 1)) (w64 (p2 + 1)) p3 y80 hy80)] ?_
         refine At.seq ?_
         refine At.sR [0,2,3,8,9,10,11,12,60] [0,1,2,3] [] ?_
         refine At.cd h (fun b82 h => ?_) (fun b82 h => ?_)
         · refine At.sR [8] [0] [] ?_
           obtain ⟨r83,h,e84⟩ := mr h
           rw [f57 _ e84] at h
           obtain rfl := sq h
           exact At.ret (At.rR hR [])
         · refine At.nR [0,2,3,8,9,10,11,12] [0,1,2,3] ?_
           refine At.skip (norm ?_)
           refine At.sR [0,2,3,8,9,12,13] [0,1,3,4] [] ?_
           refine At.seq ?_
           obtain ⟨g86,h⟩ := gs h
           refine At.rK (st' := ⟨[(0,lv Af.enc p0),(2,i64 p2),(3,i64 p3),(8,.ptr 0 0),(9,.ptr 1 0),(12,.ptr 2 0),(13,.row 3 (([(⟨y63,(⟨#[]⟩ : ByteArray),0,2,y61.At⟩ : Aa)] ++ x53)).length)],[.blk 50 [.d (.list true 0 []),i64 0,i64 0],.blk 50 [lv Aa.enc x53,i64 x54,i64 x55],.blk 50 (Ag.pvs y80),.row 67 5 (encL Aa.enc ([(⟨y63,(⟨#[]⟩ : ByteArray),0,2,y61.At⟩ : Aa)] ++ x53))]⟩) [0,2,3,8,9,12,13] [0,1,2,3] [aT Aa.enc_len 3 ([(⟨y63,(⟨#[]⟩ : ByteArray),0,2,y61.At⟩ : Aa)]) x53 rfl g86] (norm ?_)
           obtain ⟨g88,h⟩ := gs h
           refine At.sD 0 [0,2,3,8,9] [0,1,3] [aT Aa.enc_len 3 ([(⟨y63,(⟨#[]⟩ : ByteArray),0,2,y61.At⟩ : Aa)] ++ x53) y80.L rfl g88] ?_
           refine At.sR [0,2,3,8,9,79] [0,1,2] [] ?_
           refine At.cd h (fun b89 h => ?_) (fun b89 h => ?_)
           · refine At.sR [8] [0,2] [] ?_
             obtain ⟨r90,h,e91⟩ := mr h
             rw [f57 _ e91] at h
             refine At.eN [.settle 1] [8] [0] ?_
             obtain rfl := sq h
             exact At.ret (At.rR hR [])
           · refine At.nR [0,2,3,8,9] [0,1,2] ?_
             refine At.skip (fun _ _ i => ⟨_,li h,i.en [.settle 2] [0,2,3,8,9] [0,1]⟩)
   · refine At.nR [8,9] [0,1] ?_
     obtain ⟨r95,h,e96⟩ := mr h
     rw [f57 _ e96] at h
     refine At.exit (norm ?_)
     refine At.sR [8] [0] [] ?_
     obtain rfl := sq h
     exact At.ret (At.rR hR [])
theorem ES : ∀ n : Nat,(∀ (p0 : (List Af)) (p1 : Int) (p2 : Int) (p3 : Int) (r : Ag),(A2 n).1 p0 p1 p2 p3 = some r → FnOK Tryz.prog 122 [lv Af.enc p0,i64 p1,i64 p2,i64 p3] [] (.agg (Ag.pvs r)) [] []) ∧ (∀ (p0 : (List Af)) (p1 : Int) (p2 : Int) (r : Ag),(A2 n).2 p0 p1 p2 = some r → FnOK Tryz.prog 123 [lv Af.enc p0,i64 p1,i64 p2] [] (.agg (Ag.pvs r)) [] [])
 | 0 => ⟨(fun _ _ _ _ _ h => by cases h),(fun _ _ _ _ h => by cases h)⟩
 | n + 1 => ⟨JX (A2 n).1 (A2 n).2 (ES n).1 (ES n).2,KB (A2 n).1 (A2 n).2 (ES n).1 (ES n).2⟩
theorem KC (p0 : (List Af)) (p1 : Int) (p2 : Int) (p3 : Int) (r : Ag) (h : IE p0 p1 p2 p3 = some r) : FnOK Tryz.prog 122 [lv Af.enc p0,i64 p1,i64 p2,i64 p3] [] (.agg (Ag.pvs r)) [] [] :=
 (ES 4000).1 p0 p1 p2 p3 r h
theorem KE (p0 : (List Af)) (p1 : Int) (r : Ag) (h : Fg p0 p1 = some r) : FnOK Tryz.prog 121 [lv Af.enc p0,i64 p1] [] (.agg (Ag.pvs r)) [] [] := by
 refine fI Tryz.func121 rfl fun E gv R hR => ?_
 refine At.sR [0,1,4] [0] [] ?_
 refine At.seq ?_
 refine At.sR [0,1,4,6] [0] [] ?_
 refine At.cd h (fun b2 h => ?_) (fun b2 h => ?_)
 · refine At.sR [4] [0] [] ?_
   refine At.eN [.loO 0] [4] [0] ?_
   obtain rfl := sq h
   exact At.ret (At.rR hR [])
 · refine At.nR [0,1,4] [0] ?_
   refine At.skip (norm ?_)
   obtain ⟨y4,hy4,h⟩ := bs h
   refine At.sR [4] [0] [c0 2 (KC p0 p1 1 0 y4 hy4)] ?_
   obtain rfl := sq h
   exact At.ret (At.rR hR [])
theorem AT (p0 : Ad) (p1 : (List Af)) (r : Ad) (h : AC p0 p1 = some r) : FnOK Tryz.prog 117 [.agg (Ad.pvs p0),lv Af.enc p1] [] (.agg (Ad.pvs r)) [] [] := by
 refine fI Tryz.func117 rfl fun E gv R hR => ?_
 refine At.sR [1,2,4] [0,1] [] ?_
 refine At.seq ?_
 refine At.sR [1,2,4,8] [0,1] [] ?_
 refine At.cd h (fun b2 h => ?_) (fun b2 h => ?_)
 · refine At.sR [4] [1] [] ?_
   obtain rfl := sq h
   exact At.ret (At.rR hR [])
 · refine At.nR [1,2,4] [0,1] ?_
   refine At.skip (norm ?_)
   obtain ⟨y4,hy4,h⟩ := bs h
   refine At.sR [2,4,5] [0,1,2] [c0 3 (KE p1 p0.at_ y4 hy4)] ?_
   obtain ⟨y6,hy6,h⟩ := bs h
   refine At.sR [4] [1] [c0 8 (Cg p0 (⟨y4.L,0,y4.At,y4.E⟩ : Ad) y6 hy6)] ?_
   obtain rfl := sq h
   exact At.ret (At.rR hR [])
theorem Lq (p0 : (List Af)) (p1 : Int) (p2 : Aa) (r : Ad) (h : G9 p0 p1 p2 = some r) : FnOK Tryz.prog 115 [lv Af.enc p0,i64 p1,.agg (Aa.pvs p2)] [] (.agg (Ad.pvs r)) [] [] := by
 refine fI Tryz.func115 rfl fun E gv R hR => ?_
 refine At.sR [0,1,5,6] [0,1] [] ?_
 obtain ⟨y3,hy3,h⟩ := bs h
 obtain ⟨y4,hy4,h⟩ := bs h
 refine At.sR [0,5,6,7,8] [0,1,2] [c0 1 (BO p1 y3 hy3),c0 3 (B0 y3 p0 y4 hy4)] ?_
 obtain ⟨y6,hy6,h⟩ := bs h
 refine At.sR [0,5,6,7,8] [0,1,2] [c0 2 (Am y4.1 p0 (⟨#[61]⟩ : ByteArray) y6 hy6)] ?_
 refine At.sR [0,5,6,7] [0,1,2] [] ?_
 refine At.seqJ (S := Int × (List Aa) × Int × Int × Int) (fun s => ⟨[(0,lv Af.enc p0),(5,.ptr 0 0),(6,.ptr 1 0),(7,.ptr 2 0)],[.blk 67 [i64 s.1,sv y4.2,i64 p2.N,i64 p2.Kids,i64 p2.At],.blk 103 [.d (.list true 0 []),i64 0,i64 0,i64 0],.blk 103 [lv Aa.enc s.2.1,i64 s.2.2.1,i64 s.2.2.2.1,i64 s.2.2.2.2]]⟩) (fun s => DV p0 p2 y4 s.1 s.2.1 s.2.2.1 s.2.2.2.1 s.2.2.2.2 = some r) ?_ ?_
 · refine At.seqJ (S := Bool) (fun s => ⟨[(0,lv Af.enc p0),(5,.ptr 0 0),(6,.ptr 1 0),(7,.ptr 2 0),(30,bo s)],[.blk 67 [i64 19,sv y4.2,i64 p2.N,i64 p2.Kids,i64 p2.At],.blk 103 [.d (.list true 0 []),i64 0,i64 0,i64 0],.blk 103 (Ad.pvs y6)]⟩) (fun s => EX p0 p2 y4 y6 s = some r) ?_ ?_
   · rcases cs h with ⟨b36,h⟩ | ⟨b36,h⟩
     · obtain ⟨y37,hy37,h⟩ := bs h
       exact At.rK [0,5,6,7,30] [0,1,2] [bT 3 b36,c0 7 (AW p0 y6.at_ (⟨#[114,97,110,100,111,109]⟩ : ByteArray) y37 hy37)] fun _ _ i => ⟨y37,h,i⟩
     · exact At.rK [0,5,6,7,30] [0,1,2] [bT 3 b36] fun _ _ i => ⟨false,h,i⟩
   · intro x29 h
     refine At.cd h (fun b30 h => ?_) (fun b30 h => ?_)
     · refine At.sR [0,5,6,7] [0,1,2] [] ?_
       obtain ⟨y31,hy31,h⟩ := bs h
       obtain ⟨y32,hy32,h⟩ := bs h
       obtain ⟨y33,hy33,h⟩ := bs h
       obtain ⟨y34,hy34,h⟩ := bs h
       exact At.rK [0,5,6,7] [0,1,2] [c0 2 (Am y6 p0 (⟨#[114,97,110,100,111,109]⟩ : ByteArray) y31 hy31),c0 4 (Am y31 p0 (⟨#[40]⟩ : ByteArray) y32 hy32),c0 6 (AT y32 p0 y33 hy33),c0 8 (Am y33 p0 (⟨#[41]⟩ : ByteArray) y34 hy34)] fun _ _ i => ⟨(20,y34.l,y34.n,y34.at_,y34.e),h,i⟩
     · obtain ⟨y35,hy35,h⟩ := bs h
       exact At.rK [0,5,6,7] [0,1,2] [c0 2 (AT y6 p0 y35 hy35)] fun _ _ i => ⟨(19,y35.l,y35.n,y35.at_,y35.e),h,i⟩
 · rintro ⟨x18,x19,x20,x21,x22⟩ h
   replace h : DV p0 p2 y4 x18 x19 x20 x21 x22 = some r := h
   obtain ⟨y25,hy25,h⟩ := bs h
   obtain ⟨y26,hy26,h⟩ := bs h
   refine At.sD 0 [6] [1] [c0 2 (Am (⟨x19,x20,x21,x22⟩ : Ad) p0 (⟨#[59]⟩ : ByteArray) y25 hy25),c0 4 (Az y25 (⟨x18,y4.2,p2.N,p2.Kids,p2.At⟩ : Aa) y26 hy26)] ?_
   obtain rfl := sq h
   exact At.ret (At.rR hR [])
theorem Lr (p0 : (List Af)) (p1 : Int) (r : Ad) (h : Ha p0 p1 = some r) : FnOK Tryz.prog 120 [lv Af.enc p0,i64 p1] [] (.agg (Ad.pvs r)) [] [] := by
 refine fI Tryz.func120 rfl fun E gv R hR => ?_
 refine At.sR [0,1,4] [0] [] ?_
 obtain ⟨y3,hy3,h⟩ := bs h
 obtain ⟨y4,hy4,h⟩ := bs h
 refine At.sR [0,1,4,5,6] [0,1] [c0 1 (BO p1 y3 hy3),c0 3 (B0 y3 p0 y4 hy4)] ?_
 refine At.seqJ (S := (List Aa) × Int × Int × Int) (fun s => ⟨[(0,lv Af.enc p0),(1,i64 p1),(4,.ptr 0 0),(5,.ptr 1 0),(6,sv y4.2)],[.blk 103 [.d (.list true 0 []),i64 0,i64 0,i64 0],.blk 103 [lv Aa.enc s.1,i64 s.2.1,i64 s.2.2.1,i64 s.2.2.2]]⟩) (fun s => DW p0 p1 y4 s.1 s.2.1 s.2.2.1 s.2.2.2 = some r) ?_ ?_
 · refine At.seqJ (S := Bool) (fun s => ⟨[(0,lv Af.enc p0),(1,i64 p1),(4,.ptr 0 0),(5,.ptr 1 0),(6,sv y4.2),(22,bo s)],[.blk 103 [.d (.list true 0 []),i64 0,i64 0,i64 0],.blk 103 (Ad.pvs y4.1)]⟩) (fun s => EY p0 p1 y4 s = some r) ?_ ?_
   · rcases cs h with ⟨b29,h⟩ | ⟨b29,h⟩
     · obtain ⟨y30,hy30,h⟩ := bs h
       exact At.rK [0,1,4,5,6,22] [0,1] [bT 3 b29,c0 7 (AW p0 y4.1.at_ (⟨#[91]⟩ : ByteArray) y30 hy30)] fun _ _ i => ⟨y30,h,i⟩
     · exact At.rK [0,1,4,5,6,22] [0,1] [bT 3 b29] fun _ _ i => ⟨false,h,i⟩
   · intro x24 h
     refine At.cd h (fun b25 h => ?_) (fun b25 h => ?_)
     · obtain ⟨y26,hy26,h⟩ := bs h
       obtain ⟨y27,hy27,h⟩ := bs h
       obtain ⟨y28,hy28,h⟩ := bs h
       exact At.rK [0,1,4,5,6] [0,1] [c0 2 (Am y4.1 p0 (⟨#[91]⟩ : ByteArray) y26 hy26),c0 4 (AT y26 p0 y27 hy27),c0 6 (Am y27 p0 (⟨#[93]⟩ : ByteArray) y28 hy28)] fun _ _ i => ⟨(y28.l,y28.n,y28.at_,y28.e),h,i⟩
     · refine At.nR [0,1,4,5,6] [0,1] ?_
       refine At.skip (fun _ _ i => ⟨(y4.1.l,y4.1.n,y4.1.at_,y4.1.e),h,i.en [] [0,1,4,5,6] [0,1]⟩)
 · rintro ⟨x14,x15,x16,x17⟩ h
   replace h : DW p0 p1 y4 x14 x15 x16 x17 = some r := h
   obtain ⟨y20,hy20,h⟩ := bs h
   obtain ⟨y21,hy21,h⟩ := bs h
   refine At.sD 0 [4] [0] [c0 4 (BB p0 p1 y20 hy20),c0 7 (Az (⟨x14,x15,x16,x17⟩ : Ad) (⟨33,y4.2,0,0,y20.At⟩ : Aa) y21 hy21)] ?_
   obtain rfl := sq h
   exact At.ret (At.rR hR [])
theorem H7 (p0 : Ad) (p1 : (List Af)) (p2 : Int) (p3 : Int) (r : Ad × Int × ByteArray) (h : Ef p0 p1 p2 p3 = some r) : FnOK Tryz.prog 116 [.agg (Ad.pvs p0),lv Af.enc p1,i64 p2,i64 p3] [] (.tup [.agg (Ad.pvs r.1),i64 r.2.1,sv r.2.2]) [] [] := by
 refine fI Tryz.func116 rfl fun E gv R hR => ?_
 refine At.sR [1,2,3,4,8] [0,1] [] ?_
 refine At.seq ?_
 refine At.sR [1,2,3,4,8,14] [0,1] [] ?_
 refine At.cd h (fun b2 h => ?_) (fun b2 h => ?_)
 · refine At.sR [8,9,10] [1] [] ?_
   obtain rfl := sq h
   exact At.ret (At.rR hR [])
 · refine At.nR [1,2,3,4,8] [0,1] ?_
   refine At.skip (norm ?_)
   obtain ⟨y5,hy5,h⟩ := bs h
   obtain ⟨y6,hy6,h⟩ := bs h
   refine At.sD 0 [1,2,3,4,8] [0,1] [c0 4 (Lr p1 p0.at_ y5 hy5),c0 5 (Cg p0 y5 y6 hy6)] ?_
   refine At.seq ?_
   refine At.seqJ (S := Bool) (fun s => ⟨[(1,lv Af.enc p1),(2,i64 p2),(3,i64 p3),(4,.ptr 0 0),(8,.ptr 1 0),(30,bo s)],[.blk 103 (Ad.pvs y6),.blk 103 [.d (.list true 0 []),i64 0,i64 0,i64 0]]⟩) (fun s => Dl p1 p2 p3 y6 s = some r) ?_ ?_
   · rcases cs h with ⟨b29,h⟩ | ⟨b29,h⟩
     · obtain ⟨y30,hy30,h⟩ := bs h
       exact At.rK [1,2,3,4,8,30] [0,1] [bT 3 b29,c0 7 (AW p1 y6.at_ (⟨#[33]⟩ : ByteArray) y30 hy30)] fun _ _ i => ⟨y30,h,i⟩
     · exact At.rK [1,2,3,4,8,30] [0,1] [bT 3 b29] fun _ _ i => ⟨false,h,i⟩
   · intro x19 h
     refine At.cd h (fun b20 h => ?_) (fun b20 h => ?_)
     · obtain ⟨y23,hy23,h⟩ := bs h
       obtain ⟨y24,hy24,h⟩ := bs h
       refine At.sR [8,9,10] [1] [c0 2 (Am y6 p1 (⟨#[33]⟩ : ByteArray) y23 hy23),c0 4 (AT y23 p1 y24 hy24)] ?_
       obtain rfl := sq h
       exact At.ret (At.rR hR [])
     · refine At.nR [1,3,4,8] [0,1] ?_
       refine At.skip (norm ?_)
       obtain ⟨y27,hy27,h⟩ := bs h
       obtain ⟨y28,hy28,h⟩ := bs h
       refine At.sR [3,4,8,11] [0,1] [c0 2 (Am y6 p1 (⟨#[63]⟩ : ByteArray) y27 hy27),c0 4 (B0 y27 p1 y28 hy28)] ?_
       refine At.sR [8,9,10] [1] [] ?_
       obtain rfl := sq h
       exact At.ret (At.rR hR [])
theorem JQ (p0 : Ad) (p1 : (List Af)) (r : Ad) (h : Fr p0 p1 = some r) : FnOK Tryz.prog 118 [.agg (Ad.pvs p0),lv Af.enc p1] [] (.agg (Ad.pvs r)) [] [] := by
 refine fI Tryz.func118 rfl fun E gv R hR => ?_
 refine At.sR [1,2,4] [0,1] [] ?_
 obtain ⟨y2,hy2,h⟩ := bs h
 refine At.sR [1,2,4] [0,1] [c0 2 (Am p0 p1 (⟨#[40]⟩ : ByteArray) y2 hy2)] ?_
 refine At.seqJ (S := (List Aa) × Int × Int × Int) (fun s => ⟨[(1,lv Af.enc p1),(2,.ptr 0 0),(4,.ptr 1 0)],[.blk 103 [lv Aa.enc s.1,i64 s.2.1,i64 s.2.2.1,i64 s.2.2.2],.blk 103 [.d (.list true 0 []),i64 0,i64 0,i64 0]]⟩) (fun s => Ct p1 s.1 s.2.1 s.2.2.1 s.2.2.2 = some r) ?_ ?_
 · refine At.seqJ (S := Bool) (fun s => ⟨[(1,lv Af.enc p1),(2,.ptr 0 0),(4,.ptr 1 0),(17,bo s)],[.blk 103 (Ad.pvs y2),.blk 103 [.d (.list true 0 []),i64 0,i64 0,i64 0]]⟩) (fun s => Do p1 y2 s = some r) ?_ ?_
   · rcases cs h with ⟨b67,h⟩ | ⟨b67,h⟩
     · obtain ⟨y68,hy68,h⟩ := bs h
       exact At.rK [1,2,4,17] [0,1] [bT 3 b67,c0 7 (AW p1 y2.at_ (⟨#[41]⟩ : ByteArray) y68 hy68)] fun _ _ i => ⟨(!y68),h,i⟩
     · exact At.rK [1,2,4,17] [0,1] [bT 3 b67] fun _ _ i => ⟨false,h,i⟩
   · intro x41 h
     refine At.cd h (fun b42 h => ?_) (fun b42 h => ?_)
     · obtain ⟨y44,hy44,h⟩ := bs h
       refine At.sR [1,2,4] [0,1] [c0 2 (AT y2 p1 y44 hy44)] ?_
       refine At.block ?_
       refine At.nK (st' := ⟨[(1,lv Af.enc p1),(2,.ptr 0 0),(4,.ptr 1 0)],[.blk 103 (Ad.pvs y44),.blk 103 [.d (.list true 0 []),i64 0,i64 0,i64 0]]⟩) [1,2,4] [0,1] ?_
       refine At.lp (fun s : ((List Aa) × Int × Int × Int) => ⟨[(1,lv Af.enc p1),(2,.ptr 0 0),(4,.ptr 1 0)],[.blk 103 [lv Aa.enc s.1,i64 s.2.1,i64 s.2.2.1,i64 s.2.2.2],.blk 103 [.d (.list true 0 []),i64 0,i64 0,i64 0]]⟩) h ?_
       rintro ⟨x45,x46,x47,x48⟩ oo49 h f50
       replace h : Dm p1 x45 x46 x47 x48 = some oo49 := h
       refine At.seq ?_
       refine At.seqJ (S := Bool) (fun s => ⟨[(1,lv Af.enc p1),(2,.ptr 0 0),(4,.ptr 1 0),(29,bo s)],[.blk 103 [lv Aa.enc x45,i64 x46,i64 x47,i64 x48],.blk 103 [.d (.list true 0 []),i64 0,i64 0,i64 0]]⟩) (fun s => Dn p1 x45 x46 x47 x48 s = some oo49) ?_ ?_
       · rcases cs h with ⟨b65,h⟩ | ⟨b65,h⟩
         · obtain ⟨y66,hy66,h⟩ := bs h
           exact At.rK [1,2,4,29] [0,1] [bT 3 b65,c0 7 (AW p1 x47 (⟨#[44]⟩ : ByteArray) y66 hy66)] fun _ _ i => ⟨y66,h,i⟩
         · exact At.rK [1,2,4,29] [0,1] [bT 3 b65] fun _ _ i => ⟨false,h,i⟩
       · intro x59 h
         refine At.cd h (fun b60 h => ?_) (fun b60 h => ?_)
         · refine At.nR [1,2,4] [0,1] ?_
           refine At.skip (norm ?_)
           refine At.block ?_
           obtain ⟨y61,hy61,h⟩ := bs h
           obtain ⟨y62,hy62,h⟩ := bs h
           exact At.rK [1,2,4] [0,1] [c0 2 (Am (⟨x45,x46,x47,x48⟩ : Ad) p1 (⟨#[44]⟩ : ByteArray) y61 hy61),c0 4 (AT y61 p1 y62 hy62)] fun _ _ i => ⟨_,li h,i⟩
         · refine At.nR [1,2,4] [0,1] ?_
           obtain ⟨r63,h,e64⟩ := mr h
           rw [f50 _ e64] at h
           refine At.exit (fun _ _ i => ⟨(x45,x46,x47,x48),h,i.en [] [1,2,4] [0,1]⟩)
     · refine At.nR [1,2,4] [0,1] ?_
       refine At.skip (fun _ _ i => ⟨(y2.l,y2.n,y2.at_,y2.e),h,i.en [] [1,2,4] [0,1]⟩)
 · rintro ⟨x33,x34,x35,x36⟩ h
   replace h : Ct p1 x33 x34 x35 x36 = some r := h
   obtain ⟨y38,hy38,h⟩ := bs h
   refine At.sR [4] [1] [c0 2 (Am (⟨x33,x34,x35,x36⟩ : Ad) p1 (⟨#[41]⟩ : ByteArray) y38 hy38)] ?_
   obtain rfl := sq h
   exact At.ret (At.rR hR [])
theorem H8 (sf1 : Ad → (List Af) → Int → Option (Ad)) (hf1 : ∀ (p0 : Ad) (p1 : (List Af)) (p2 : Int) (r : Ad),sf1 p0 p1 p2 = some r → FnOK Tryz.prog 82 [.agg (Ad.pvs p0),lv Af.enc p1,i64 p2] [] (.agg (Ad.pvs r)) [] []) (p0 : (List Af)) (p1 : Int) (p2 : Int) (r : Ad) (h : Eg sf1 p0 p1 p2 = some r) : FnOK Tryz.prog 119 [lv Af.enc p0,i64 p1,i64 p2] [] (.agg (Ad.pvs r)) [] [] := by
 refine fI Tryz.func119 rfl fun E gv R hR => ?_
 refine At.sR [0,1,2,6] [0] [] ?_
 obtain ⟨y2,hy2,h⟩ := bs h
 refine At.sR [0,1,2,6,7] [0,1] [c0 2 (BB p0 p1 y2 hy2)] ?_
 refine At.seq ?_
 obtain ⟨y15,hy15,h⟩ := bs h
 refine At.sR [0,1,2,6,7,16] [0,1] [c0 2 (AW p0 p1 (⟨#[101,108,115,101]⟩ : ByteArray) y15 hy15)] ?_
 refine At.cd h (fun b16 h => ?_) (fun b16 h => ?_)
 · refine At.sR [0,1,2,6,7] [0,1] [] ?_
   obtain ⟨y21,hy21,h⟩ := bs h
   obtain ⟨y22,hy22,h⟩ := bs h
   obtain ⟨y23,hy23,h⟩ := bs h
   obtain ⟨y24,hy24,h⟩ := bs h
   refine At.sD 0 [6] [0] [c0 1 (BO p1 y21 hy21),c0 3 (Am y21 p0 (⟨#[101,108,115,101]⟩ : ByteArray) y22 hy22),c0 7 (hf1 y22 p0 (w64 (p2 + 1)) y23 hy23),c0 9 (Az y23 (⟨37,(⟨#[]⟩ : ByteArray),0,0,y2.At⟩ : Aa) y24 hy24)] ?_
   obtain rfl := sq h
   exact At.ret (At.rR hR [])
 · refine At.nR [0,1,2,6,7] [0,1] ?_
   refine At.skip (norm ?_)
   obtain ⟨y27,hy27,h⟩ := bs h
   obtain ⟨y28,hy28,h⟩ := bs h
   refine At.sR [0,2,6,7,8] [0,1,2] [c0 1 (BO p1 y27 hy27),c0 3 (Am y27 p0 (⟨#[99,97,115,101]⟩ : ByteArray) y28 hy28)] ?_
   refine At.seqJ (S := Int × (List Aa) × Int × Int × Int) (fun s => ⟨[(0,lv Af.enc p0),(2,i64 p2),(6,.ptr 0 0),(7,.ptr 1 0),(8,.ptr 2 0)],[.blk 103 [.d (.list true 0 []),i64 0,i64 0,i64 0],.blk 67 [i64 0,sv (⟨#[]⟩ : ByteArray),i64 s.1,i64 0,i64 y2.At],.blk 103 [lv Aa.enc s.2.1,i64 s.2.2.1,i64 s.2.2.2.1,i64 s.2.2.2.2]]⟩) (fun s => C1 sf1 p0 p2 y2 s.1 s.2.1 s.2.2.1 s.2.2.2.1 s.2.2.2.2 = some r) ?_ ?_
   · refine At.seqJ (S := Bool) (fun s => ⟨[(0,lv Af.enc p0),(2,i64 p2),(6,.ptr 0 0),(7,.ptr 1 0),(8,.ptr 2 0),(40,bo s)],[.blk 103 [.d (.list true 0 []),i64 0,i64 0,i64 0],.blk 67 [i64 0,sv (⟨#[]⟩ : ByteArray),i64 0,i64 0,i64 y2.At],.blk 103 (Ad.pvs y28)]⟩) (fun s => DX sf1 p0 p2 y2 y28 s = some r) ?_ ?_
     · rcases cs h with ⟨b78,h⟩ | ⟨b78,h⟩
       · obtain ⟨y79,hy79,h⟩ := bs h
         exact At.rK [0,2,6,7,8,40] [0,1,2] [bT 3 b78,c0 7 (AW p0 y28.at_ (⟨#[119,104,101,110]⟩ : ByteArray) y79 hy79)] fun _ _ i => ⟨y79,h,i⟩
       · exact At.rK [0,2,6,7,8,40] [0,1,2] [bT 3 b78] fun _ _ i => ⟨false,h,i⟩
     · intro x73 h
       refine At.cd h (fun b74 h => ?_) (fun b74 h => ?_)
       · refine At.sR [0,2,6,7,8] [0,1,2] [] ?_
         obtain ⟨y75,hy75,h⟩ := bs h
         obtain ⟨y76,hy76,h⟩ := bs h
         obtain ⟨y77,hy77,h⟩ := bs h
         exact At.rK [0,2,6,7,8] [0,1,2] [c0 2 (Am y28 p0 (⟨#[119,104,101,110]⟩ : ByteArray) y75 hy75),c0 4 (AT y75 p0 y76 hy76),c0 6 (Am y76 p0 (⟨#[58]⟩ : ByteArray) y77 hy77)] fun _ _ i => ⟨(1,y77.l,y77.n,y77.at_,y77.e),h,i⟩
       · refine At.nR [0,2,6,7,8] [0,1,2] ?_
         refine At.skip (fun _ _ i => ⟨(0,y28.l,y28.n,y28.at_,y28.e),h,i.en [] [0,2,6,7,8] [0,1,2]⟩)
   · rintro ⟨x38,x39,x40,x41,x42⟩ h
     replace h : C1 sf1 p0 p2 y2 x38 x39 x40 x41 x42 = some r := h
     refine At.seqJ (S := Int × ByteArray × (List Aa) × Int × Int × Int) (fun s => ⟨[(0,lv Af.enc p0),(2,i64 p2),(6,.ptr 0 0),(7,.ptr 1 0),(8,.ptr 2 0)],[.blk 103 [.d (.list true 0 []),i64 0,i64 0,i64 0],.blk 67 [i64 s.1,sv s.2.1,i64 x38,i64 0,i64 y2.At],.blk 103 [lv Aa.enc s.2.2.1,i64 s.2.2.2.1,i64 s.2.2.2.2.1,i64 s.2.2.2.2.2]]⟩) (fun s => C0 sf1 p0 p2 y2 x38 s.1 s.2.1 s.2.2.1 s.2.2.2.1 s.2.2.2.2.1 s.2.2.2.2.2 = some r) ?_ ?_
     · refine At.seqJ (S := Bool) (fun s => ⟨[(0,lv Af.enc p0),(2,i64 p2),(6,.ptr 0 0),(7,.ptr 1 0),(8,.ptr 2 0),(57,bo s)],[.blk 103 [.d (.list true 0 []),i64 0,i64 0,i64 0],.blk 67 [i64 0,sv (⟨#[]⟩ : ByteArray),i64 x38,i64 0,i64 y2.At],.blk 103 [lv Aa.enc x39,i64 x40,i64 x41,i64 x42]]⟩) (fun s => DY sf1 p0 p2 y2 x38 x39 x40 x41 x42 s = some r) ?_ ?_
       · rcases cs h with ⟨b69,h⟩ | ⟨b69,h⟩
         · obtain ⟨y70,hy70,h⟩ := bs h
           exact At.rK [0,2,6,7,8,57] [0,1,2] [bT 3 b69,c0 7 (AW p0 x41 (⟨#[97,102,116,101,114]⟩ : ByteArray) y70 hy70)] fun _ _ i => ⟨y70,h,i⟩
         · exact At.rK [0,2,6,7,8,57] [0,1,2] [bT 3 b69] fun _ _ i => ⟨false,h,i⟩
       · intro x64 h
         refine At.cd h (fun b65 h => ?_) (fun b65 h => ?_)
         · refine At.sR [0,2,6,7,8] [0,1,2] [] ?_
           obtain ⟨y66,hy66,h⟩ := bs h
           obtain ⟨y67,hy67,h⟩ := bs h
           exact At.rK [0,2,6,7,8] [0,1,2] [c0 2 (Am (⟨x39,x40,x41,x42⟩ : Ad) p0 (⟨#[97,102,116,101,114]⟩ : ByteArray) y66 hy66),c0 4 (AT y66 p0 y67 hy67)] fun _ _ i => ⟨(36,(⟨#[]⟩ : ByteArray),y67.l,y67.n,y67.at_,y67.e),h,i⟩
         · obtain ⟨y68,hy68,h⟩ := bs h
           exact At.rK [0,2,6,7,8] [0,1,2] [c0 2 (H7 (⟨x39,x40,x41,x42⟩ : Ad) p0 35 34 y68 hy68)] fun _ _ i => ⟨(y68.2.1,y68.2.2,y68.1.l,y68.1.n,y68.1.at_,y68.1.e),h,i⟩
     · rintro ⟨x52,x53,x54,x55,x56,x57⟩ h
       replace h : C0 sf1 p0 p2 y2 x38 x52 x53 x54 x55 x56 x57 = some r := h
       obtain ⟨y60,hy60,h⟩ := bs h
       obtain ⟨y61,hy61,h⟩ := bs h
       refine At.sD 0 [6] [0] [c0 4 (hf1 (⟨x54,x55,x56,x57⟩ : Ad) p0 (w64 (p2 + 1)) y60 hy60),c0 6 (Az y60 (⟨x52,x53,x38,0,y2.At⟩ : Aa) y61 hy61)] ?_
       obtain rfl := sq h
       exact At.ret (At.rR hR [])
theorem Ki (sf1 : Ad → (List Af) → Int → Option (Ad)) (hf1 : ∀ (p0 : Ad) (p1 : (List Af)) (p2 : Int) (r : Ad),sf1 p0 p1 p2 = some r → FnOK Tryz.prog 82 [.agg (Ad.pvs p0),lv Af.enc p1,i64 p2] [] (.agg (Ad.pvs r)) [] []) (p0 : (List Af)) (p1 : Int) (p2 : Int) (r : Ad) (h : F7 sf1 p0 p1 p2 = some r) : FnOK Tryz.prog 113 [lv Af.enc p0,i64 p1,i64 p2] [] (.agg (Ad.pvs r)) [] [] := by
 refine fI Tryz.func113 rfl fun E gv R hR => ?_
 refine At.sR [0,1,2,6] [0] [] ?_
 obtain ⟨y2,hy2,h⟩ := bs h
 refine At.sR [0,1,2,6,7] [0,1] [c0 2 (BB p0 p1 y2 hy2)] ?_
 refine At.sR [0,1,2,6,7,8] [0,1,2] [] ?_
 obtain ⟨y4,hy4,h⟩ := bs h
 refine At.sR [0,1,2,6,7,8,9] [0,1,2,3] [c0 1 (BO p1 y4 hy4)] ?_
 refine At.seq ?_
 refine At.seqJ (S := Bool) (fun s => ⟨[(0,lv Af.enc p0),(1,i64 p1),(2,i64 p2),(6,.ptr 0 0),(7,.ptr 1 0),(8,.ptr 2 0),(9,.ptr 3 0),(26,bo s)],[.blk 103 [.d (.list true 0 []),i64 0,i64 0,i64 0],.blk 81 (Af.pvs y2),.blk 67 [i64 0,sv (⟨#[]⟩ : ByteArray),i64 0,i64 0,i64 y2.At],.blk 103 (Ad.pvs y4)]⟩) (fun s => EH sf1 p0 p1 p2 y2 y4 s = some r) ?_ ?_
 · rcases cs h with ⟨b367,h⟩ | ⟨b367,h⟩
   · obtain ⟨y368,hy368,h⟩ := bs h
     exact At.rK [0,1,2,6,7,8,9,26] [0,1,2,3] [bT 3 b367,c0 7 (AW p0 (w64 (p1 + 1)) (⟨#[61]⟩ : ByteArray) y368 hy368)] fun _ _ i => ⟨y368,h,i⟩
   · exact At.rK [0,1,2,6,7,8,9,26] [0,1,2,3] [bT 3 b367] fun _ _ i => ⟨false,h,i⟩
 · intro x15 h
   refine At.cd h (fun b16 h => ?_) (fun b16 h => ?_)
   · obtain ⟨y18,hy18,h⟩ := bs h
     refine At.sR [6] [0] [c0 3 (Lq p0 p1 (⟨0,(⟨#[]⟩ : ByteArray),0,0,y2.At⟩ : Aa) y18 hy18)] ?_
     obtain rfl := sq h
     exact At.ret (At.rR hR [])
   · refine At.nR [0,2,6,7,8,9] [0,1,2,3] ?_
     refine At.skip (norm ?_)
     refine At.seq ?_
     refine At.sR [0,2,6,7,8,9,33] [0,1,2,3] [] ?_
     refine At.cd h (fun b26 h => ?_) (fun b26 h => ?_)
     · obtain ⟨y28,hy28,h⟩ := bs h
       refine At.sR [0,6,8,9] [0,2,3] [c0 2 (H7 y4 p0 21 22 y28 hy28)] ?_
       obtain ⟨y31,hy31,h⟩ := bs h
       obtain ⟨y32,hy32,h⟩ := bs h
       refine At.sD 0 [6] [0] [c0 2 (Am y28.1 p0 (⟨#[59]⟩ : ByteArray) y31 hy31),c0 4 (Az y31 (⟨y28.2.1,y28.2.2,0,0,y2.At⟩ : Aa) y32 hy32)] ?_
       obtain rfl := sq h
       exact At.ret (At.rR hR [])
     · refine At.nR [0,2,6,7,8,9] [0,1,2,3] ?_
       refine At.skip (norm ?_)
       refine At.seq ?_
       refine At.sR [0,2,6,7,8,9,50] [0,1,2,3] [] ?_
       refine At.cd h (fun b34 h => ?_) (fun b34 h => ?_)
       · refine At.sR [6,9] [0,3] [] ?_
         refine At.seq ?_
         refine At.rK (st' := ⟨[(6,.ptr 0 0)],[.blk 103 [lv Aa.enc y4.l,i64 y4.n,i64 y4.at_,i64 11]]⟩) [6] [0] [] (norm ?_)
         obtain rfl := sq h
         exact At.ret (At.rR hR [])
       · refine At.nR [0,2,6,7,8,9] [0,1,2,3] ?_
         refine At.skip (norm ?_)
         refine At.seq ?_
         refine At.seq ?_
         refine At.rK (st' := ⟨[(0,lv Af.enc p0),(2,i64 p2),(6,.ptr 0 0),(8,.ptr 1 0),(9,.ptr 2 0),(54,sv y2.Text)],[.blk 103 [.d (.list true 0 []),i64 0,i64 0,i64 0],.blk 67 [i64 0,sv (⟨#[]⟩ : ByteArray),i64 0,i64 0,i64 y2.At],.blk 103 (Ad.pvs y4)]⟩) [0,2,6,8,9,54] [0,2,3] [] (norm ?_)
         refine At.block ?_
         refine At.sR [0,2,6,8,9,54,55] [0,1,2] [] ?_
         refine At.cd h (fun b201 h => ?_) (fun b201 h => ?_)
         · refine At.sR [0,6,8,9] [0,1,2] [] ?_
           obtain ⟨y204,hy204,h⟩ := bs h
           obtain ⟨y205,hy205,h⟩ := bs h
           refine At.sR [0,6,8,9] [0,1,2] [c0 2 (Am y4 p0 (⟨#[118,97,114]⟩ : ByteArray) y204 hy204),c0 4 (B0 y204 p0 y205 hy205)] ?_
           obtain ⟨y210,hy210,h⟩ := bs h
           obtain ⟨y211,hy211,h⟩ := bs h
           obtain ⟨y212,hy212,h⟩ := bs h
           obtain ⟨y213,hy213,h⟩ := bs h
           refine At.sD 0 [6] [0] [c0 2 (Am y205.1 p0 (⟨#[61]⟩ : ByteArray) y210 hy210),c0 4 (AT y210 p0 y211 hy211),c0 6 (Am y211 p0 (⟨#[59]⟩ : ByteArray) y212 hy212),c0 8 (Az y212 (⟨18,y205.2,0,0,y2.At⟩ : Aa) y213 hy213)] ?_
           obtain rfl := sq h
           exact At.ret (At.rR hR [])
         · refine At.sR [0,2,6,8,9,54,76] [0,1,2] [] ?_
           refine At.cd h (fun b214 h => ?_) (fun b214 h => ?_)
           · refine At.sR [0,6,8,9] [0,1,2] [] ?_
             obtain ⟨y217,hy217,h⟩ := bs h
             obtain ⟨y218,hy218,h⟩ := bs h
             refine At.sR [0,6,8,9] [0,1,2] [c0 2 (Am y4 p0 (⟨#[115,116,97,114,116]⟩ : ByteArray) y217 hy217),c0 4 (B0 y217 p0 y218 hy218)] ?_
             obtain ⟨y222,hy222,h⟩ := bs h
             obtain ⟨y223,hy223,h⟩ := bs h
             obtain ⟨y224,hy224,h⟩ := bs h
             refine At.sD 0 [6] [0] [c0 2 (JQ y218.1 p0 y222 hy222),c0 4 (Am y222 p0 (⟨#[59]⟩ : ByteArray) y223 hy223),c0 6 (Az y223 (⟨26,y218.2,0,0,y2.At⟩ : Aa) y224 hy224)] ?_
             obtain rfl := sq h
             exact At.ret (At.rR hR [])
           · refine At.sR [0,2,6,8,9,54,95] [0,1,2] [] ?_
             refine At.cd h (fun b225 h => ?_) (fun b225 h => ?_)
             · refine At.sR [0,6,8,9] [0,1,2] [] ?_
               obtain ⟨y230,hy230,h⟩ := bs h
               obtain ⟨y231,hy231,h⟩ := bs h
               obtain ⟨y232,hy232,h⟩ := bs h
               obtain ⟨y233,hy233,h⟩ := bs h
               refine At.sD 0 [6] [0] [c0 2 (Am y4 p0 (⟨#[115,108,101,101,112]⟩ : ByteArray) y230 hy230),c0 4 (AT y230 p0 y231 hy231),c0 6 (Am y231 p0 (⟨#[59]⟩ : ByteArray) y232 hy232),c0 8 (Az y232 (⟨27,(⟨#[]⟩ : ByteArray),0,0,y2.At⟩ : Aa) y233 hy233)] ?_
               obtain rfl := sq h
               exact At.ret (At.rR hR [])
             · refine At.sR [0,2,6,8,9,54,107] [0,1,2] [] ?_
               refine At.cd h (fun b234 h => ?_) (fun b234 h => ?_)
               · refine At.sR [0,6,8,9] [0,1,2] [] ?_
                 refine At.seq ?_
                 obtain ⟨y239,hy239,h⟩ := bs h
                 obtain ⟨y240,hy240,h⟩ := bs h
                 obtain ⟨y241,hy241,h⟩ := bs h
                 obtain ⟨y242,hy242,h⟩ := bs h
                 refine At.dK (st' := ⟨[(6,.ptr 0 0)],[.blk 103 (Ad.pvs y242)]⟩) 0 [6] [0] [c0 2 (Am y4 p0 (⟨#[112,114,105,110,116]⟩ : ByteArray) y239 hy239),c0 4 (AT y239 p0 y240 hy240),c0 6 (Am y240 p0 (⟨#[59]⟩ : ByteArray) y241 hy241),c0 8 (Az y241 (⟨28,(⟨#[]⟩ : ByteArray),0,0,y2.At⟩ : Aa) y242 hy242)] (norm ?_)
                 obtain rfl := sq h
                 exact At.ret (At.rR hR [])
               · refine At.sR [0,2,6,8,9,54,119] [0,1,2] [] ?_
                 refine At.cd h (fun b243 h => ?_) (fun b243 h => ?_)
                 · refine At.seq ?_
                   refine At.rK (st' := ⟨[(0,lv Af.enc p0),(6,.ptr 0 0),(8,.ptr 1 0),(9,.ptr 2 0)],[.blk 103 [.d (.list true 0 []),i64 0,i64 0,i64 0],.blk 67 [i64 29,sv (⟨#[]⟩ : ByteArray),i64 0,i64 0,i64 y2.At],.blk 103 (Ad.pvs y4)]⟩) [0,6,8,9] [0,1,2] [] (norm ?_)
                   obtain ⟨y248,hy248,h⟩ := bs h
                   obtain ⟨y249,hy249,h⟩ := bs h
                   obtain ⟨y250,hy250,h⟩ := bs h
                   obtain ⟨y251,hy251,h⟩ := bs h
                   refine At.sD 0 [6] [0] [c0 2 (Am y4 p0 (⟨#[97,115,115,101,114,116]⟩ : ByteArray) y248 hy248),c0 4 (AT y248 p0 y249 hy249),c0 6 (Am y249 p0 (⟨#[59]⟩ : ByteArray) y250 hy250),c0 8 (Az y250 (⟨29,(⟨#[]⟩ : ByteArray),0,0,y2.At⟩ : Aa) y251 hy251)] ?_
                   obtain rfl := sq h
                   exact At.ret (At.rR hR [])
                 · refine At.seq ?_
                   refine At.rK (st' := ⟨[(0,lv Af.enc p0),(2,i64 p2),(6,.ptr 0 0),(8,.ptr 1 0),(9,.ptr 2 0),(54,sv y2.Text),(131,bo (y2.Text.toList == (⟨#[115,107,105,112]⟩ : ByteArray).toList))],[.blk 103 [.d (.list true 0 []),i64 0,i64 0,i64 0],.blk 67 [i64 0,sv (⟨#[]⟩ : ByteArray),i64 0,i64 0,i64 y2.At],.blk 103 (Ad.pvs y4)]⟩) [0,2,6,8,9,54,131] [0,1,2] [] (norm ?_)
                   refine At.cd h (fun b252 h => ?_) (fun b252 h => ?_)
                   · refine At.sR [0,6,8,9] [0,1,2] [] ?_
                     obtain ⟨y256,hy256,h⟩ := bs h
                     obtain ⟨y257,hy257,h⟩ := bs h
                     obtain ⟨y258,hy258,h⟩ := bs h
                     refine At.sD 0 [6] [0] [c0 2 (Am y4 p0 (⟨#[115,107,105,112]⟩ : ByteArray) y256 hy256),c0 4 (Am y256 p0 (⟨#[59]⟩ : ByteArray) y257 hy257),c0 6 (Az y257 (⟨30,(⟨#[]⟩ : ByteArray),0,0,y2.At⟩ : Aa) y258 hy258)] ?_
                     obtain rfl := sq h
                     exact At.ret (At.rR hR [])
                   · refine At.sR [0,2,6,8,9,54,141] [0,1,2] [] ?_
                     refine At.cd h (fun b259 h => ?_) (fun b259 h => ?_)
                     · refine At.sR [0,6,8,9] [0,1,2] [] ?_
                       obtain ⟨y263,hy263,h⟩ := bs h
                       obtain ⟨y264,hy264,h⟩ := bs h
                       obtain ⟨y265,hy265,h⟩ := bs h
                       refine At.sD 0 [6] [0] [c0 2 (Am y4 p0 (⟨#[115,116,111,112]⟩ : ByteArray) y263 hy263),c0 4 (Am y263 p0 (⟨#[59]⟩ : ByteArray) y264 hy264),c0 6 (Az y264 (⟨31,(⟨#[]⟩ : ByteArray),0,0,y2.At⟩ : Aa) y265 hy265)] ?_
                       obtain rfl := sq h
                       exact At.ret (At.rR hR [])
                     · refine At.sR [0,2,6,8,9,54,151] [0,1,2] [] ?_
                       refine At.cd h (fun b266 h => ?_) (fun b266 h => ?_)
                       · refine At.sR [0,2,6,8,9] [0,1,2] [] ?_
                         obtain ⟨y271,hy271,h⟩ := bs h
                         obtain ⟨y272,hy272,h⟩ := bs h
                         obtain ⟨y273,hy273,h⟩ := bs h
                         obtain ⟨y274,hy274,h⟩ := bs h
                         refine At.sD 0 [6] [0] [c0 2 (Am y4 p0 (⟨#[119,104,105,108,101]⟩ : ByteArray) y271 hy271),c0 4 (AT y271 p0 y272 hy272),c0 8 (hf1 y272 p0 (w64 (p2 + 1)) y273 hy273),c0 10 (Az y273 (⟨24,(⟨#[]⟩ : ByteArray),0,0,y2.At⟩ : Aa) y274 hy274)] ?_
                         obtain rfl := sq h
                         exact At.ret (At.rR hR [])
                       · refine At.sR [0,2,6,8,9,54,165] [0,1,2] [] ?_
                         refine At.cd h (fun b275 h => ?_) (fun b275 h => ?_)
                         · refine At.sR [0,2,6,8,9] [0,1,2] [] ?_
                           obtain ⟨y279,hy279,h⟩ := bs h
                           obtain ⟨y280,hy280,h⟩ := bs h
                           obtain ⟨y281,hy281,h⟩ := bs h
                           refine At.sR [0,2,6,8,9] [0,1,2] [c0 2 (Am y4 p0 (⟨#[105,102]⟩ : ByteArray) y279 hy279),c0 4 (AT y279 p0 y280 hy280),c0 8 (hf1 y280 p0 (w64 (p2 + 1)) y281 hy281)] ?_
                           refine At.seqJ (S := (List Aa) × Int × Int × Int) (fun s => ⟨[(6,.ptr 0 0),(8,.ptr 1 0),(9,.ptr 2 0)],[.blk 103 [.d (.list true 0 []),i64 0,i64 0,i64 0],.blk 67 [i64 23,sv (⟨#[]⟩ : ByteArray),i64 0,i64 0,i64 y2.At],.blk 103 [lv Aa.enc s.1,i64 s.2.1,i64 s.2.2.1,i64 s.2.2.2]]⟩) (fun s => Dz sf1 y2 s.1 s.2.1 s.2.2.1 s.2.2.2 = some r) ?_ ?_
                           · refine At.seqJ (S := Bool) (fun s => ⟨[(0,lv Af.enc p0),(2,i64 p2),(6,.ptr 0 0),(8,.ptr 1 0),(9,.ptr 2 0),(185,bo s)],[.blk 103 [.d (.list true 0 []),i64 0,i64 0,i64 0],.blk 67 [i64 23,sv (⟨#[]⟩ : ByteArray),i64 0,i64 0,i64 y2.At],.blk 103 (Ad.pvs y281)]⟩) (fun s => EG sf1 p0 p2 y2 y281 s = some r) ?_ ?_
                             · rcases cs h with ⟨b302,h⟩ | ⟨b302,h⟩
                               · obtain ⟨y303,hy303,h⟩ := bs h
                                 exact At.rK [0,2,6,8,9,185] [0,1,2] [bT 3 b302,c0 7 (AW p0 y281.at_ (⟨#[101,108,115,101]⟩ : ByteArray) y303 hy303)] fun _ _ i => ⟨y303,h,i⟩
                               · exact At.rK [0,2,6,8,9,185] [0,1,2] [bT 3 b302] fun _ _ i => ⟨false,h,i⟩
                             · intro x298 h
                               refine At.cd h (fun b299 h => ?_) (fun b299 h => ?_)
                               · obtain ⟨y300,hy300,h⟩ := bs h
                                 obtain ⟨y301,hy301,h⟩ := bs h
                                 exact At.rK [6,8,9] [0,1,2] [c0 2 (Am y281 p0 (⟨#[101,108,115,101]⟩ : ByteArray) y300 hy300),c0 6 (hf1 y300 p0 (w64 (p2 + 1)) y301 hy301)] fun _ _ i => ⟨(y301.l,y301.n,y301.at_,y301.e),h,i⟩
                               · refine At.nR [6,8,9] [0,1,2] ?_
                                 refine At.skip (fun _ _ i => ⟨(y281.l,y281.n,y281.at_,y281.e),h,i.en [] [6,8,9] [0,1,2]⟩)
                           · rintro ⟨x290,x291,x292,x293⟩ h
                             replace h : Dz sf1 y2 x290 x291 x292 x293 = some r := h
                             obtain ⟨y295,hy295,h⟩ := bs h
                             refine At.sR [6] [0] [c0 2 (Az (⟨x290,x291,x292,x293⟩ : Ad) (⟨23,(⟨#[]⟩ : ByteArray),0,0,y2.At⟩ : Aa) y295 hy295)] ?_
                             obtain rfl := sq h
                             exact At.ret (At.rR hR [])
                         · refine At.sR [0,2,6,8,9,196] [0,1,2] [] ?_
                           refine At.cd h (fun b304 h => ?_) (fun b304 h => ?_)
                           · refine At.sR [0,2,6,8,9] [0,1,2] [] ?_
                             refine At.seq ?_
                             obtain ⟨y307,hy307,h⟩ := bs h
                             obtain ⟨y308,hy308,h⟩ := bs h
                             refine At.rK (st' := ⟨[(0,lv Af.enc p0),(2,i64 p2),(6,.ptr 0 0),(8,.ptr 1 0),(9,.ptr 2 0)],[.blk 103 [.d (.list true 0 []),i64 0,i64 0,i64 0],.blk 67 [i64 25,sv (⟨#[]⟩ : ByteArray),i64 0,i64 0,i64 y2.At],.blk 103 (Ad.pvs y308)]⟩) [0,2,6,8,9] [0,1,2] [c0 2 (Am y4 p0 (⟨#[115,101,108,101,99,116]⟩ : ByteArray) y307 hy307),c0 4 (Am y307 p0 (⟨#[123]⟩ : ByteArray) y308 hy308)] (norm ?_)
                             refine At.seqJ (S := (List Aa) × Int × Int × Int) (fun s => ⟨[(0,lv Af.enc p0),(2,i64 p2),(6,.ptr 0 0),(8,.ptr 1 0),(9,.ptr 2 0)],[.blk 103 [.d (.list true 0 []),i64 0,i64 0,i64 0],.blk 67 [i64 25,sv (⟨#[]⟩ : ByteArray),i64 0,i64 0,i64 y2.At],.blk 103 [lv Aa.enc s.1,i64 s.2.1,i64 s.2.2.1,i64 s.2.2.2]]⟩) (fun s => Dy sf1 p0 p2 y2 s.1 s.2.1 s.2.2.1 s.2.2.2 = some r) ?_ ?_
                             · refine At.sR [0,2,6,8,9,206] [0,1,2] [] ?_
                               refine At.cd h (fun b364 h => ?_) (fun b364 h => ?_)
                               · obtain ⟨y365,hy365,h⟩ := bs h
                                 obtain ⟨y366,hy366,h⟩ := bs h
                                 exact At.dK 0 [0,2,6,8,9] [0,1,2] [c0 5 (H8 sf1 hf1 p0 y308.at_ p2 y365 hy365),c0 6 (Cg y308 y365 y366 hy366)] fun _ _ i => ⟨(y366.l,y366.n,y366.at_,y366.e),h,i⟩
                               · refine At.nR [0,2,6,8,9] [0,1,2] ?_
                                 refine At.skip (fun _ _ i => ⟨(y308.l,y308.n,y308.at_,y308.e),h,i.en [] [0,2,6,8,9] [0,1,2]⟩)
                             · rintro ⟨x312,x313,x314,x315⟩ h
                               replace h : Dy sf1 p0 p2 y2 x312 x313 x314 x315 = some r := h
                               refine At.seq ?_
                               refine At.block ?_
                               refine At.lp (fun s : ((List Aa) × Int × Int × Int) => ⟨[(0,lv Af.enc p0),(2,i64 p2),(6,.ptr 0 0),(8,.ptr 1 0),(9,.ptr 2 0)],[.blk 103 [.d (.list true 0 []),i64 0,i64 0,i64 0],.blk 67 [i64 25,sv (⟨#[]⟩ : ByteArray),i64 0,i64 0,i64 y2.At],.blk 103 [lv Aa.enc s.1,i64 s.2.1,i64 s.2.2.1,i64 s.2.2.2]]⟩) h ?_
                               rintro ⟨x338,x339,x340,x341⟩ oo342 h f343
                               replace h : FN sf1 p0 p2 y2 x338 x339 x340 x341 = some oo342 := h
                               refine At.seq ?_
                               refine At.seqJ (S := Bool) (fun s => ⟨[(0,lv Af.enc p0),(2,i64 p2),(6,.ptr 0 0),(8,.ptr 1 0),(9,.ptr 2 0),(223,bo s)],[.blk 103 [.d (.list true 0 []),i64 0,i64 0,i64 0],.blk 67 [i64 25,sv (⟨#[]⟩ : ByteArray),i64 0,i64 0,i64 y2.At],.blk 103 [lv Aa.enc x338,i64 x339,i64 x340,i64 x341]]⟩) (fun s => EF sf1 p0 p2 y2 x338 x339 x340 x341 s = some oo342) ?_ ?_
                               · rcases cs h with ⟨b362,h⟩ | ⟨b362,h⟩
                                 · obtain ⟨y363,hy363,h⟩ := bs h
                                   exact At.rK [0,2,6,8,9,223] [0,1,2] [bT 3 b362,c0 7 (AW p0 x340 (⟨#[125]⟩ : ByteArray) y363 hy363)] fun _ _ i => ⟨(!y363),h,i⟩
                                 · exact At.rK [0,2,6,8,9,223] [0,1,2] [bT 3 b362] fun _ _ i => ⟨false,h,i⟩
                               · intro x352 h
                                 refine At.cd h (fun b353 h => ?_) (fun b353 h => ?_)
                                 · refine At.nR [0,2,6,8,9] [0,1,2] ?_
                                   refine At.skip (norm ?_)
                                   refine At.block ?_
                                   obtain ⟨y354,hy354,h⟩ := bs h
                                   obtain ⟨y355,hy355,h⟩ := bs h
                                   exact At.dK 0 [0,2,6,8,9] [0,1,2] [c0 5 (H8 sf1 hf1 p0 x340 p2 y354 hy354),c0 6 (Cg (⟨x338,x339,x340,x341⟩ : Ad) y354 y355 hy355)] fun _ _ i => ⟨_,li h,i⟩
                                 · refine At.nR [0,6,8,9] [0,1,2] ?_
                                   obtain ⟨r356,h,e357⟩ := mr h
                                   rw [f343 _ e357] at h
                                   refine At.exit (norm ?_)
                                   obtain ⟨y360,hy360,h⟩ := bs h
                                   obtain ⟨y361,hy361,h⟩ := bs h
                                   refine At.sD 0 [6] [0] [c0 2 (Am (⟨x338,x339,x340,x341⟩ : Ad) p0 (⟨#[125]⟩ : ByteArray) y360 hy360),c0 4 (Az y360 (⟨25,(⟨#[]⟩ : ByteArray),0,0,y2.At⟩ : Aa) y361 hy361)] ?_
                                   obtain rfl := sq h
                                   exact At.ret (At.rR hR [])
                           · refine At.nR [6,9] [0,2] ?_
                             refine At.skip (norm ?_)
                             refine At.seq ?_
                             refine At.rK (st' := ⟨[(6,.ptr 0 0),(9,.ptr 1 0)],[.blk 103 [.d (.list true 0 []),i64 0,i64 0,i64 0],.blk 103 [lv Aa.enc y4.l,i64 y4.n,i64 y4.at_,i64 11]]⟩) [6,9] [0,1] [] (norm ?_)
                             refine At.sR [6] [0] [] ?_
                             obtain rfl := sq h
                             exact At.ret (At.rR hR [])
theorem JW (sf1 : Ad → (List Af) → Int → Option (Ad)) (hf1 : ∀ (p0 : Ad) (p1 : (List Af)) (p2 : Int) (r : Ad),sf1 p0 p1 p2 = some r → FnOK Tryz.prog 82 [.agg (Ad.pvs p0),lv Af.enc p1,i64 p2] [] (.agg (Ad.pvs r)) [] []) (p0 : (List Af)) (p1 : Int) (p2 : Int) (r : Ad) (h : FP sf1 p0 p1 p2 = some r) : FnOK Tryz.prog 99 [lv Af.enc p0,i64 p1,i64 p2] [] (.agg (Ad.pvs r)) [] [] := by
 refine fI Tryz.func99 rfl fun E gv R hR => ?_
 refine At.sR [0,1,2,6] [0] [] ?_
 obtain ⟨y2,hy2,h⟩ := bs h
 refine At.sR [0,1,2,6,7] [0,1] [c0 1 (BO p1 y2 hy2)] ?_
 refine At.seq ?_
 refine At.seqJ (S := Bool) (fun s => ⟨[(0,lv Af.enc p0),(1,i64 p1),(2,i64 p2),(6,.ptr 0 0),(7,.ptr 1 0),(16,bo s)],[.blk 103 [.d (.list true 0 []),i64 0,i64 0,i64 0],.blk 103 (Ad.pvs y2)]⟩) (fun s => Ei sf1 p0 p1 p2 y2 s = some r) ?_ ?_
 · obtain ⟨y65,hy65,h⟩ := bs h
   rcases cs h with ⟨b66,h⟩ | ⟨b66,h⟩
   · exact At.rK [0,1,2,6,7,16] [0,1] [c0 2 (AW p0 p1 (⟨#[123]⟩ : ByteArray) y65 hy65),bT 3 b66] fun _ _ i => ⟨(decide (24 < p2)),h,i⟩
   · exact At.rK [0,1,2,6,7,16] [0,1] [c0 2 (AW p0 p1 (⟨#[123]⟩ : ByteArray) y65 hy65),bT 3 b66] fun _ _ i => ⟨false,h,i⟩
 · intro x11 h
   refine At.cd h (fun b12 h => ?_) (fun b12 h => ?_)
   · refine At.sR [6,7] [0,1] [] ?_
     refine At.sR [6] [0] [] ?_
     obtain rfl := sq h
     exact At.ret (At.rR hR [])
   · refine At.nR [0,1,2,6,7] [0,1] ?_
     refine At.skip (norm ?_)
     obtain ⟨y14,hy14,h⟩ := bs h
     refine At.sR [0,1,2,6,7] [0,1] [c0 2 (Am y2 p0 (⟨#[123]⟩ : ByteArray) y14 hy14)] ?_
     refine At.seq ?_
     refine At.block ?_
     refine At.nK (st' := ⟨[(0,lv Af.enc p0),(1,i64 p1),(2,i64 p2),(6,.ptr 0 0),(7,.ptr 1 0)],[.blk 103 [.d (.list true 0 []),i64 0,i64 0,i64 0],.blk 103 (Ad.pvs y14)]⟩) [0,1,2,6,7] [0,1] ?_
     refine At.lp (fun s : ((List Aa) × Int × Int × Int) => ⟨[(0,lv Af.enc p0),(1,i64 p1),(2,i64 p2),(6,.ptr 0 0),(7,.ptr 1 0)],[.blk 103 [.d (.list true 0 []),i64 0,i64 0,i64 0],.blk 103 [lv Aa.enc s.1,i64 s.2.1,i64 s.2.2.1,i64 s.2.2.2]]⟩) h ?_
     rintro ⟨x37,x38,x39,x40⟩ oo41 h f42
     replace h : Fs sf1 p0 p1 p2 x37 x38 x39 x40 = some oo41 := h
     refine At.seq ?_
     refine At.seqJ (S := Bool) (fun s => ⟨[(0,lv Af.enc p0),(1,i64 p1),(2,i64 p2),(6,.ptr 0 0),(7,.ptr 1 0),(31,bo s)],[.blk 103 [.d (.list true 0 []),i64 0,i64 0,i64 0],.blk 103 [lv Aa.enc x37,i64 x38,i64 x39,i64 x40]]⟩) (fun s => Eh sf1 p0 p1 p2 x37 x38 x39 x40 s = some oo41) ?_ ?_
     · rcases cs h with ⟨b63,h⟩ | ⟨b63,h⟩
       · obtain ⟨y64,hy64,h⟩ := bs h
         exact At.rK [0,1,2,6,7,31] [0,1] [bT 3 b63,c0 7 (AW p0 x39 (⟨#[125]⟩ : ByteArray) y64 hy64)] fun _ _ i => ⟨(!y64),h,i⟩
       · exact At.rK [0,1,2,6,7,31] [0,1] [bT 3 b63] fun _ _ i => ⟨false,h,i⟩
     · intro x51 h
       refine At.cd h (fun b52 h => ?_) (fun b52 h => ?_)
       · refine At.nR [0,1,2,6,7] [0,1] ?_
         refine At.skip (norm ?_)
         refine At.block ?_
         obtain ⟨y53,hy53,h⟩ := bs h
         obtain ⟨y54,hy54,h⟩ := bs h
         exact At.dK 0 [0,1,2,6,7] [0,1] [c0 5 (Ki sf1 hf1 p0 x39 p2 y53 hy53),c0 6 (Cg (⟨x37,x38,x39,x40⟩ : Ad) y53 y54 hy54)] fun _ _ i => ⟨_,li h,i⟩
       · refine At.nR [0,1,6,7] [0,1] ?_
         obtain ⟨r55,h,e56⟩ := mr h
         rw [f42 _ e56] at h
         refine At.exit (norm ?_)
         obtain ⟨y58,hy58,h⟩ := bs h
         refine At.sR [0,1,6,7] [0,1] [c0 2 (Am (⟨x37,x38,x39,x40⟩ : Ad) p0 (⟨#[125]⟩ : ByteArray) y58 hy58)] ?_
         obtain ⟨y61,hy61,h⟩ := bs h
         obtain ⟨y62,hy62,h⟩ := bs h
         refine At.sD 0 [6] [0] [c0 3 (BB p0 p1 y61 hy61),c0 6 (Az y58 (⟨32,(⟨#[]⟩ : ByteArray),0,0,y61.At⟩ : Aa) y62 hy62)] ?_
         obtain rfl := sq h
         exact At.ret (At.rR hR [])
theorem JP (sf1 : Ad → (List Af) → Int → Option (Ad)) (hf1 : ∀ (p0 : Ad) (p1 : (List Af)) (p2 : Int) (r : Ad),sf1 p0 p1 p2 = some r → FnOK Tryz.prog 82 [.agg (Ad.pvs p0),lv Af.enc p1,i64 p2] [] (.agg (Ad.pvs r)) [] []) (p0 : Ad) (p1 : (List Af)) (p2 : Int) (r : Ad) (h : Fq sf1 p0 p1 p2 = some r) : FnOK Tryz.prog 82 [.agg (Ad.pvs p0),lv Af.enc p1,i64 p2] [] (.agg (Ad.pvs r)) [] [] := by
 refine fI Tryz.func82 rfl fun E gv R hR => ?_
 refine At.sR [1,2,3,6] [0,1] [] ?_
 refine At.seq ?_
 refine At.sR [1,2,3,6,9] [0,1] [] ?_
 refine At.cd h (fun b2 h => ?_) (fun b2 h => ?_)
 · refine At.sR [6] [1] [] ?_
   obtain rfl := sq h
   exact At.ret (At.rR hR [])
 · refine At.nR [1,2,3,6] [0,1] ?_
   refine At.skip (norm ?_)
   obtain ⟨y5,hy5,h⟩ := bs h
   obtain ⟨y6,hy6,h⟩ := bs h
   refine At.sD 0 [6] [1] [c0 5 (JW sf1 hf1 p1 p0.at_ p2 y5 hy5),c0 6 (Cg p0 y5 y6 hy6)] ?_
   obtain rfl := sq h
   exact At.ret (At.rR hR [])
theorem H6 : ∀ n : Nat,(∀ (p0 : Ad) (p1 : (List Af)) (p2 : Int) (r : Ad),(CE n) p0 p1 p2 = some r → FnOK Tryz.prog 82 [.agg (Ad.pvs p0),lv Af.enc p1,i64 p2] [] (.agg (Ad.pvs r)) [] [])
 | 0 => fun _ _ _ _ h => by cases h
 | n + 1 => JP (CE n) (H6 n)
theorem IC (p0 : Ad) (p1 : (List Af)) (p2 : Int) (r : Ad) (h : EZ p0 p1 p2 = some r) : FnOK Tryz.prog 82 [.agg (Ad.pvs p0),lv Af.enc p1,i64 p2] [] (.agg (Ad.pvs r)) [] [] :=
 (H6 4000) p0 p1 p2 r h
theorem K4 (p0 : (List Af)) (p1 : Int) (r : Ad) (h : GN p0 p1 = some r) : FnOK Tryz.prog 45 [lv Af.enc p0,i64 p1] [] (.agg (Ad.pvs r)) [] [] := by
 refine fI Tryz.func45 rfl fun E gv R hR => ?_
 refine At.sR [0,1,4] [0] [] ?_
 obtain ⟨y2,hy2,h⟩ := bs h
 refine At.sR [0,1,4,5] [0,1] [c0 2 (BB p0 p1 y2 hy2)] ?_
 refine At.seq ?_
 obtain ⟨y44,hy44,h⟩ := bs h
 refine At.sR [0,1,4,5,17] [0,1] [c0 2 (AW p0 p1 (⟨#[99,104,97,110]⟩ : ByteArray) y44 hy44)] ?_
 refine At.cd h (fun b45 h => ?_) (fun b45 h => ?_)
 · refine At.sR [0,1,4,5] [0,1] [] ?_
   obtain ⟨y49,hy49,h⟩ := bs h
   obtain ⟨y50,hy50,h⟩ := bs h
   obtain ⟨y51,hy51,h⟩ := bs h
   refine At.sR [0,4,5,6,7] [0,1,2] [c0 1 (BO p1 y49 hy49),c0 3 (Am y49 p0 (⟨#[99,104,97,110]⟩ : ByteArray) y50 hy50),c0 5 (B0 y50 p0 y51 hy51)] ?_
   refine At.seq ?_
   refine At.rK (st' := ⟨[(0,lv Af.enc p0),(4,.ptr 0 0),(5,.ptr 1 0),(6,.ptr 2 0)],[.blk 103 [.d (.list true 0 []),i64 0,i64 0,i64 0],.blk 67 [i64 38,sv y51.2,i64 0,i64 0,i64 y2.At],.blk 103 (Ad.pvs y51.1)]⟩) [0,4,5,6] [0,1,2] [] (norm ?_)
   refine At.seqJ (S := Int × (List Aa) × Int × Int × Int) (fun s => ⟨[(0,lv Af.enc p0),(4,.ptr 0 0),(5,.ptr 1 0),(6,.ptr 2 0)],[.blk 103 [.d (.list true 0 []),i64 0,i64 0,i64 0],.blk 67 [i64 38,sv y51.2,i64 s.1,i64 0,i64 y2.At],.blk 103 [lv Aa.enc s.2.1,i64 s.2.2.1,i64 s.2.2.2.1,i64 s.2.2.2.2]]⟩) (fun s => DB p0 y2 y51 s.1 s.2.1 s.2.2.1 s.2.2.2.1 s.2.2.2.2 = some r) ?_ ?_
   · refine At.seqJ (S := Bool) (fun s => ⟨[(0,lv Af.enc p0),(4,.ptr 0 0),(5,.ptr 1 0),(6,.ptr 2 0),(38,bo s)],[.blk 103 [.d (.list true 0 []),i64 0,i64 0,i64 0],.blk 67 [i64 38,sv y51.2,i64 0,i64 0,i64 y2.At],.blk 103 (Ad.pvs y51.1)]⟩) (fun s => EK p0 y2 y51 s = some r) ?_ ?_
     · rcases cs h with ⟨b81,h⟩ | ⟨b81,h⟩
       · obtain ⟨y82,hy82,h⟩ := bs h
         exact At.rK [0,4,5,6,38] [0,1,2] [bT 3 b81,c0 7 (AW p0 y51.1.at_ (⟨#[91]⟩ : ByteArray) y82 hy82)] fun _ _ i => ⟨y82,h,i⟩
       · exact At.rK [0,4,5,6,38] [0,1,2] [bT 3 b81] fun _ _ i => ⟨false,h,i⟩
     · intro x74 h
       refine At.cd h (fun b75 h => ?_) (fun b75 h => ?_)
       · obtain ⟨y78,hy78,h⟩ := bs h
         obtain ⟨y79,hy79,h⟩ := bs h
         refine At.sR [0,4,5,6] [0,1,2] [c0 2 (Am y51.1 p0 (⟨#[91]⟩ : ByteArray) y78 hy78),c0 4 (JO y78 p0 y79 hy79)] ?_
         obtain ⟨y80,hy80,h⟩ := bs h
         exact At.rK [0,4,5,6] [0,1,2] [c0 2 (Am y79.1 p0 (⟨#[93]⟩ : ByteArray) y80 hy80)] fun _ _ i => ⟨(y79.2,y80.l,y80.n,y80.at_,y80.e),h,i⟩
       · refine At.nR [0,4,5,6] [0,1,2] ?_
         refine At.skip (fun _ _ i => ⟨(0,y51.1.l,y51.1.n,y51.1.at_,y51.1.e),h,i.en [] [0,4,5,6] [0,1,2]⟩)
   · rintro ⟨x63,x64,x65,x66,x67⟩ h
     replace h : DB p0 y2 y51 x63 x64 x65 x66 x67 = some r := h
     obtain ⟨y70,hy70,h⟩ := bs h
     obtain ⟨y71,hy71,h⟩ := bs h
     refine At.sD 0 [4] [0] [c0 2 (Am (⟨x64,x65,x66,x67⟩ : Ad) p0 (⟨#[59]⟩ : ByteArray) y70 hy70),c0 4 (Az y70 (⟨38,y51.2,x63,0,y2.At⟩ : Aa) y71 hy71)] ?_
     obtain rfl := sq h
     exact At.ret (At.rR hR [])
 · refine At.nR [0,1,4,5] [0,1] ?_
   refine At.skip (norm ?_)
   refine At.seq ?_
   obtain ⟨y165,hy165,h⟩ := bs h
   refine At.sR [0,1,4,5,58] [0,1] [c0 2 (AW p0 p1 (⟨#[112,114,111,99]⟩ : ByteArray) y165 hy165)] ?_
   refine At.cd h (fun b166 h => ?_) (fun b166 h => ?_)
   · refine At.seq ?_
     refine At.rK (st' := ⟨[(0,lv Af.enc p0),(1,i64 p1),(4,.ptr 0 0),(5,.ptr 1 0)],[.blk 103 [.d (.list true 0 []),i64 0,i64 0,i64 0],.blk 67 [i64 40,sv (⟨#[]⟩ : ByteArray),i64 0,i64 0,i64 y2.At]]⟩) [0,1,4,5] [0,1] [] (norm ?_)
     obtain ⟨y170,hy170,h⟩ := bs h
     obtain ⟨y171,hy171,h⟩ := bs h
     obtain ⟨y172,hy172,h⟩ := bs h
     refine At.sR [0,4,5,8,9] [0,1,2] [c0 1 (BO p1 y170 hy170),c0 3 (Am y170 p0 (⟨#[112,114,111,99]⟩ : ByteArray) y171 hy171),c0 5 (B0 y171 p0 y172 hy172)] ?_
     refine At.sR [0,4,5,8] [0,1,2] [] ?_
     obtain ⟨y174,hy174,h⟩ := bs h
     refine At.sR [0,4,5,8] [0,1,2] [c0 2 (Am y172.1 p0 (⟨#[40]⟩ : ByteArray) y174 hy174)] ?_
     refine At.seqJ (S := (List Aa) × Int × Int × Int) (fun s => ⟨[(0,lv Af.enc p0),(4,.ptr 0 0),(5,.ptr 1 0),(8,.ptr 2 0)],[.blk 103 [.d (.list true 0 []),i64 0,i64 0,i64 0],.blk 67 [i64 40,sv y172.2,i64 0,i64 0,i64 y2.At],.blk 103 [lv Aa.enc s.1,i64 s.2.1,i64 s.2.2.1,i64 s.2.2.2]]⟩) (fun s => DA p0 y2 y172 s.1 s.2.1 s.2.2.1 s.2.2.2 = some r) ?_ ?_
     · refine At.seqJ (S := Bool) (fun s => ⟨[(0,lv Af.enc p0),(4,.ptr 0 0),(5,.ptr 1 0),(8,.ptr 2 0),(83,bo s)],[.blk 103 [.d (.list true 0 []),i64 0,i64 0,i64 0],.blk 67 [i64 40,sv y172.2,i64 0,i64 0,i64 y2.At],.blk 103 (Ad.pvs y174)]⟩) (fun s => EJ p0 y2 y172 y174 s = some r) ?_ ?_
       · rcases cs h with ⟨b243,h⟩ | ⟨b243,h⟩
         · obtain ⟨y244,hy244,h⟩ := bs h
           exact At.rK [0,4,5,8,83] [0,1,2] [bT 3 b243,c0 7 (AW p0 y174.at_ (⟨#[41]⟩ : ByteArray) y244 hy244)] fun _ _ i => ⟨(!y244),h,i⟩
         · exact At.rK [0,4,5,8,83] [0,1,2] [bT 3 b243] fun _ _ i => ⟨false,h,i⟩
       · intro x217 h
         refine At.cd h (fun b218 h => ?_) (fun b218 h => ?_)
         · obtain ⟨y220,hy220,h⟩ := bs h
           refine At.sR [0,4,5,8] [0,1,2] [c0 2 (HW y174 p0 y220 hy220)] ?_
           refine At.block ?_
           refine At.nK (st' := ⟨[(0,lv Af.enc p0),(4,.ptr 0 0),(5,.ptr 1 0),(8,.ptr 2 0)],[.blk 103 [.d (.list true 0 []),i64 0,i64 0,i64 0],.blk 67 [i64 40,sv y172.2,i64 0,i64 0,i64 y2.At],.blk 103 (Ad.pvs y220)]⟩) [0,4,5,8] [0,1,2] ?_
           refine At.lp (fun s : ((List Aa) × Int × Int × Int) => ⟨[(0,lv Af.enc p0),(4,.ptr 0 0),(5,.ptr 1 0),(8,.ptr 2 0)],[.blk 103 [.d (.list true 0 []),i64 0,i64 0,i64 0],.blk 67 [i64 40,sv y172.2,i64 0,i64 0,i64 y2.At],.blk 103 [lv Aa.enc s.1,i64 s.2.1,i64 s.2.2.1,i64 s.2.2.2]]⟩) h ?_
           rintro ⟨x221,x222,x223,x224⟩ oo225 h f226
           replace h : FO p0 y2 y172 x221 x222 x223 x224 = some oo225 := h
           refine At.seq ?_
           refine At.seqJ (S := Bool) (fun s => ⟨[(0,lv Af.enc p0),(4,.ptr 0 0),(5,.ptr 1 0),(8,.ptr 2 0),(95,bo s)],[.blk 103 [.d (.list true 0 []),i64 0,i64 0,i64 0],.blk 67 [i64 40,sv y172.2,i64 0,i64 0,i64 y2.At],.blk 103 [lv Aa.enc x221,i64 x222,i64 x223,i64 x224]]⟩) (fun s => EI p0 y2 y172 x221 x222 x223 x224 s = some oo225) ?_ ?_
           · rcases cs h with ⟨b241,h⟩ | ⟨b241,h⟩
             · obtain ⟨y242,hy242,h⟩ := bs h
               exact At.rK [0,4,5,8,95] [0,1,2] [bT 3 b241,c0 7 (AW p0 x223 (⟨#[44]⟩ : ByteArray) y242 hy242)] fun _ _ i => ⟨y242,h,i⟩
             · exact At.rK [0,4,5,8,95] [0,1,2] [bT 3 b241] fun _ _ i => ⟨false,h,i⟩
           · intro x235 h
             refine At.cd h (fun b236 h => ?_) (fun b236 h => ?_)
             · refine At.nR [0,4,5,8] [0,1,2] ?_
               refine At.skip (norm ?_)
               refine At.block ?_
               obtain ⟨y237,hy237,h⟩ := bs h
               obtain ⟨y238,hy238,h⟩ := bs h
               exact At.rK [0,4,5,8] [0,1,2] [c0 2 (Am (⟨x221,x222,x223,x224⟩ : Ad) p0 (⟨#[44]⟩ : ByteArray) y237 hy237),c0 4 (HW y237 p0 y238 hy238)] fun _ _ i => ⟨_,li h,i⟩
             · refine At.nR [0,4,5,8] [0,1,2] ?_
               obtain ⟨r239,h,e240⟩ := mr h
               rw [f226 _ e240] at h
               refine At.exit (fun _ _ i => ⟨(x221,x222,x223,x224),h,i.en [] [0,4,5,8] [0,1,2]⟩)
         · refine At.nR [0,4,5,8] [0,1,2] ?_
           refine At.skip (fun _ _ i => ⟨(y174.l,y174.n,y174.at_,y174.e),h,i.en [] [0,4,5,8] [0,1,2]⟩)
     · rintro ⟨x205,x206,x207,x208⟩ h
       replace h : DA p0 y2 y172 x205 x206 x207 x208 = some r := h
       obtain ⟨y212,hy212,h⟩ := bs h
       obtain ⟨y213,hy213,h⟩ := bs h
       obtain ⟨y214,hy214,h⟩ := bs h
       refine At.sD 0 [4] [0] [c0 2 (Am (⟨x205,x206,x207,x208⟩ : Ad) p0 (⟨#[41]⟩ : ByteArray) y212 hy212),c0 4 (IC y212 p0 1 y213 hy213),c0 6 (Az y213 (⟨40,y172.2,0,0,y2.At⟩ : Aa) y214 hy214)] ?_
       obtain rfl := sq h
       exact At.ret (At.rR hR [])
   · refine At.nK (st' := ⟨[(0,lv Af.enc p0),(1,i64 p1),(4,.ptr 0 0),(5,.ptr 1 0)],[.blk 103 [.d (.list true 0 []),i64 0,i64 0,i64 0],.blk 67 [i64 0,sv (⟨#[]⟩ : ByteArray),i64 0,i64 0,i64 y2.At]]⟩) [0,1,4,5] [0,1] ?_
     refine At.skip (norm ?_)
     refine At.sR [0,1,4,5] [0,1] [] ?_
     obtain ⟨y249,hy249,h⟩ := bs h
     obtain ⟨y250,hy250,h⟩ := bs h
     obtain ⟨y251,hy251,h⟩ := bs h
     obtain ⟨y252,hy252,h⟩ := bs h
     refine At.sD 0 [4] [0] [c0 1 (BO p1 y249 hy249),c0 3 (Am y249 p0 (⟨#[109,97,105,110]⟩ : ByteArray) y250 hy250),c0 5 (IC y250 p0 1 y251 hy251),c0 7 (Az y251 (⟨41,(⟨#[]⟩ : ByteArray),0,0,y2.At⟩ : Aa) y252 hy252)] ?_
     obtain rfl := sq h
     exact At.ret (At.rR hR [])
end Go.Ab
