/- A call of the reference compiler, run through. -/
import Derived.Test.YtholdfpblliiiaaGreatAbCon3
import Derived.Test.YtholdfpblliiiaaGreatProg
namespace Go.Ab
open Go.Proofs
set_option maxRecDepth 100000
def entText_81_0 : Ent := ⟨81, [.d (.str ⟨#[109, 97, 105, 110, 32, 123, 32, 118, 97, 114, 32, 120, 32, 61, 32, 49, 32, 47, 32, 48, 59, 32, 125]⟩), .d (.int .i64 0)], [], .agg [.d (.int .i64 3), .d (.str ⟨#[109, 97, 105, 110]⟩), .d (.int .i64 0), .d (.int .i64 0), .d (.int .i64 4), .d (.int .i64 0)], [], []⟩
theorem runText_81_0 : cF Tryz.prog [] 60 true entText_81_0.f entText_81_0.A = some (entText_81_0.res, []) := by kernel_rfl
def tblText_0 : Tbl := entText_81_0 :: []
theorem okText_0 : TblOK Tryz.prog tblText_0 := tbl_cons tbl_nil runText_81_0
def entText_81_4 : Ent := ⟨81, [.d (.str ⟨#[109, 97, 105, 110, 32, 123, 32, 118, 97, 114, 32, 120, 32, 61, 32, 49, 32, 47, 32, 48, 59, 32, 125]⟩), .d (.int .i64 4)], [], .agg [.d (.int .i64 4), .d (.str ⟨#[123]⟩), .d (.int .i64 0), .d (.int .i64 5), .d (.int .i64 6), .d (.int .i64 0)], [], []⟩
theorem runText_81_4 : cF Tryz.prog tblText_0 60 true entText_81_4.f entText_81_4.A = some (entText_81_4.res, []) := by kernel_rfl
def tblText_1 : Tbl := entText_81_4 :: tblText_0
theorem okText_1 : TblOK Tryz.prog tblText_1 := tbl_cons okText_0 runText_81_4
def entText_81_6 : Ent := ⟨81, [.d (.str ⟨#[109, 97, 105, 110, 32, 123, 32, 118, 97, 114, 32, 120, 32, 61, 32, 49, 32, 47, 32, 48, 59, 32, 125]⟩), .d (.int .i64 6)], [], .agg [.d (.int .i64 3), .d (.str ⟨#[118, 97, 114]⟩), .d (.int .i64 0), .d (.int .i64 7), .d (.int .i64 10), .d (.int .i64 0)], [], []⟩
theorem runText_81_6 : cF Tryz.prog tblText_1 60 true entText_81_6.f entText_81_6.A = some (entText_81_6.res, []) := by kernel_rfl
def tblText_2 : Tbl := entText_81_6 :: tblText_1
theorem okText_2 : TblOK Tryz.prog tblText_2 := tbl_cons okText_1 runText_81_6
def entText_81_10 : Ent := ⟨81, [.d (.str ⟨#[109, 97, 105, 110, 32, 123, 32, 118, 97, 114, 32, 120, 32, 61, 32, 49, 32, 47, 32, 48, 59, 32, 125]⟩), .d (.int .i64 10)], [], .agg [.d (.int .i64 1), .d (.str ⟨#[120]⟩), .d (.int .i64 0), .d (.int .i64 11), .d (.int .i64 12), .d (.int .i64 0)], [], []⟩
theorem runText_81_10 : cF Tryz.prog tblText_2 60 true entText_81_10.f entText_81_10.A = some (entText_81_10.res, []) := by kernel_rfl
def tblText_3 : Tbl := entText_81_10 :: tblText_2
theorem okText_3 : TblOK Tryz.prog tblText_3 := tbl_cons okText_2 runText_81_10
def entText_81_12 : Ent := ⟨81, [.d (.str ⟨#[109, 97, 105, 110, 32, 123, 32, 118, 97, 114, 32, 120, 32, 61, 32, 49, 32, 47, 32, 48, 59, 32, 125]⟩), .d (.int .i64 12)], [], .agg [.d (.int .i64 4), .d (.str ⟨#[61]⟩), .d (.int .i64 0), .d (.int .i64 13), .d (.int .i64 14), .d (.int .i64 0)], [], []⟩
theorem runText_81_12 : cF Tryz.prog tblText_3 60 true entText_81_12.f entText_81_12.A = some (entText_81_12.res, []) := by kernel_rfl
def tblText_4 : Tbl := entText_81_12 :: tblText_3
theorem okText_4 : TblOK Tryz.prog tblText_4 := tbl_cons okText_3 runText_81_12
def entText_81_14 : Ent := ⟨81, [.d (.str ⟨#[109, 97, 105, 110, 32, 123, 32, 118, 97, 114, 32, 120, 32, 61, 32, 49, 32, 47, 32, 48, 59, 32, 125]⟩), .d (.int .i64 14)], [], .agg [.d (.int .i64 2), .d (.str ⟨#[49]⟩), .d (.int .i64 1), .d (.int .i64 15), .d (.int .i64 16), .d (.int .i64 0)], [], []⟩
theorem runText_81_14 : cF Tryz.prog tblText_4 60 true entText_81_14.f entText_81_14.A = some (entText_81_14.res, []) := by kernel_rfl
def tblText_5 : Tbl := entText_81_14 :: tblText_4
theorem okText_5 : TblOK Tryz.prog tblText_5 := tbl_cons okText_4 runText_81_14
def entText_81_16 : Ent := ⟨81, [.d (.str ⟨#[109, 97, 105, 110, 32, 123, 32, 118, 97, 114, 32, 120, 32, 61, 32, 49, 32, 47, 32, 48, 59, 32, 125]⟩), .d (.int .i64 16)], [], .agg [.d (.int .i64 4), .d (.str ⟨#[47]⟩), .d (.int .i64 0), .d (.int .i64 17), .d (.int .i64 18), .d (.int .i64 0)], [], []⟩
theorem runText_81_16 : cF Tryz.prog tblText_5 60 true entText_81_16.f entText_81_16.A = some (entText_81_16.res, []) := by kernel_rfl
def tblText_6 : Tbl := entText_81_16 :: tblText_5
theorem okText_6 : TblOK Tryz.prog tblText_6 := tbl_cons okText_5 runText_81_16
def entText_81_18 : Ent := ⟨81, [.d (.str ⟨#[109, 97, 105, 110, 32, 123, 32, 118, 97, 114, 32, 120, 32, 61, 32, 49, 32, 47, 32, 48, 59, 32, 125]⟩), .d (.int .i64 18)], [], .agg [.d (.int .i64 2), .d (.str ⟨#[48]⟩), .d (.int .i64 0), .d (.int .i64 19), .d (.int .i64 20), .d (.int .i64 0)], [], []⟩
theorem runText_81_18 : cF Tryz.prog tblText_6 60 true entText_81_18.f entText_81_18.A = some (entText_81_18.res, []) := by kernel_rfl
def tblText_7 : Tbl := entText_81_18 :: tblText_6
theorem okText_7 : TblOK Tryz.prog tblText_7 := tbl_cons okText_6 runText_81_18
def entText_81_20 : Ent := ⟨81, [.d (.str ⟨#[109, 97, 105, 110, 32, 123, 32, 118, 97, 114, 32, 120, 32, 61, 32, 49, 32, 47, 32, 48, 59, 32, 125]⟩), .d (.int .i64 20)], [], .agg [.d (.int .i64 4), .d (.str ⟨#[59]⟩), .d (.int .i64 0), .d (.int .i64 20), .d (.int .i64 21), .d (.int .i64 0)], [], []⟩
theorem runText_81_20 : cF Tryz.prog tblText_7 60 true entText_81_20.f entText_81_20.A = some (entText_81_20.res, []) := by kernel_rfl
def tblText_8 : Tbl := entText_81_20 :: tblText_7
theorem okText_8 : TblOK Tryz.prog tblText_8 := tbl_cons okText_7 runText_81_20
def entText_81_21 : Ent := ⟨81, [.d (.str ⟨#[109, 97, 105, 110, 32, 123, 32, 118, 97, 114, 32, 120, 32, 61, 32, 49, 32, 47, 32, 48, 59, 32, 125]⟩), .d (.int .i64 21)], [], .agg [.d (.int .i64 4), .d (.str ⟨#[125]⟩), .d (.int .i64 0), .d (.int .i64 22), .d (.int .i64 23), .d (.int .i64 0)], [], []⟩
theorem runText_81_21 : cF Tryz.prog tblText_8 60 true entText_81_21.f entText_81_21.A = some (entText_81_21.res, []) := by kernel_rfl
def tblText_9 : Tbl := entText_81_21 :: tblText_8
theorem okText_9 : TblOK Tryz.prog tblText_9 := tbl_cons okText_8 runText_81_21
def entText_81_23 : Ent := ⟨81, [.d (.str ⟨#[109, 97, 105, 110, 32, 123, 32, 118, 97, 114, 32, 120, 32, 61, 32, 49, 32, 47, 32, 48, 59, 32, 125]⟩), .d (.int .i64 23)], [], .agg [.d (.int .i64 0), .d (.str ⟨#[]⟩), .d (.int .i64 0), .d (.int .i64 23), .d (.int .i64 23), .d (.int .i64 0)], [], []⟩
theorem runText_81_23 : cF Tryz.prog tblText_9 60 true entText_81_23.f entText_81_23.A = some (entText_81_23.res, []) := by kernel_rfl
def tblText_10 : Tbl := entText_81_23 :: tblText_9
theorem okText_10 : TblOK Tryz.prog tblText_10 := tbl_cons okText_9 runText_81_23
def entText_45 : Ent := ⟨45, [.d (.str ⟨#[109, 97, 105, 110, 32, 123, 32, 118, 97, 114, 32, 120, 32, 61, 32, 49, 32, 47, 32, 48, 59, 32, 125]⟩)], [], .agg [.d (.list false 11 [.int .i64 3, .str ⟨#[109, 97, 105, 110]⟩, .int .i64 0, .int .i64 0, .int .i64 4, .str ⟨#[123]⟩, .int .i64 0, .int .i64 5, .int .i64 3, .str ⟨#[118, 97, 114]⟩, .int .i64 0, .int .i64 7, .int .i64 1, .str ⟨#[120]⟩, .int .i64 0, .int .i64 11, .int .i64 4, .str ⟨#[61]⟩, .int .i64 0, .int .i64 13, .int .i64 2, .str ⟨#[49]⟩, .int .i64 1, .int .i64 15, .int .i64 4, .str ⟨#[47]⟩, .int .i64 0, .int .i64 17, .int .i64 2, .str ⟨#[48]⟩, .int .i64 0, .int .i64 19, .int .i64 4, .str ⟨#[59]⟩, .int .i64 0, .int .i64 20, .int .i64 4, .str ⟨#[125]⟩, .int .i64 0, .int .i64 22, .int .i64 0, .str ⟨#[]⟩, .int .i64 0, .int .i64 23]), .d (.int .i64 23), .d (.int .i64 0)], [], []⟩
theorem runText_45 : cF Tryz.prog tblText_10 60 true entText_45.f entText_45.A = some (entText_45.res, []) := by kernel_rfl
def tblText_11 : Tbl := entText_45 :: tblText_10
theorem okText_11 : TblOK Tryz.prog tblText_11 := tbl_cons okText_10 runText_45
def entText_46 : Ent := ⟨46, [.d (.list false 11 [.int .i64 3, .str ⟨#[109, 97, 105, 110]⟩, .int .i64 0, .int .i64 0, .int .i64 4, .str ⟨#[123]⟩, .int .i64 0, .int .i64 5, .int .i64 3, .str ⟨#[118, 97, 114]⟩, .int .i64 0, .int .i64 7, .int .i64 1, .str ⟨#[120]⟩, .int .i64 0, .int .i64 11, .int .i64 4, .str ⟨#[61]⟩, .int .i64 0, .int .i64 13, .int .i64 2, .str ⟨#[49]⟩, .int .i64 1, .int .i64 15, .int .i64 4, .str ⟨#[47]⟩, .int .i64 0, .int .i64 17, .int .i64 2, .str ⟨#[48]⟩, .int .i64 0, .int .i64 19, .int .i64 4, .str ⟨#[59]⟩, .int .i64 0, .int .i64 20, .int .i64 4, .str ⟨#[125]⟩, .int .i64 0, .int .i64 22, .int .i64 0, .str ⟨#[]⟩, .int .i64 0, .int .i64 23])], [], .agg [.d (.list false 7 [.int .i64 42, .str ⟨#[]⟩, .int .i64 0, .int .i64 1, .int .i64 0, .int .i64 41, .str ⟨#[]⟩, .int .i64 0, .int .i64 1, .int .i64 0, .int .i64 32, .str ⟨#[]⟩, .int .i64 0, .int .i64 1, .int .i64 5, .int .i64 18, .str ⟨#[120]⟩, .int .i64 0, .int .i64 1, .int .i64 7, .int .i64 8, .str ⟨#[]⟩, .int .i64 0, .int .i64 2, .int .i64 17, .int .i64 1, .str ⟨#[]⟩, .int .i64 1, .int .i64 0, .int .i64 15, .int .i64 1, .str ⟨#[]⟩, .int .i64 0, .int .i64 0, .int .i64 19]), .d (.int .i64 0), .d (.int .i64 0)], [], []⟩
theorem runText_46 : cF Tryz.prog tblText_11 60 true entText_46.f entText_46.A = some (entText_46.res, []) := by kernel_rfl
def tblText_12 : Tbl := entText_46 :: tblText_11
theorem okText_12 : TblOK Tryz.prog tblText_12 := tbl_cons okText_11 runText_46
def entText_22 : Ent := ⟨22, [.d (.str ⟨#[109, 97, 105, 110, 32, 123, 32, 118, 97, 114, 32, 120, 32, 61, 32, 49, 32, 47, 32, 48, 59, 32, 125]⟩)], [], .agg [.d (.list false 7 [.int .i64 42, .str ⟨#[]⟩, .int .i64 0, .int .i64 1, .int .i64 0, .int .i64 41, .str ⟨#[]⟩, .int .i64 0, .int .i64 1, .int .i64 0, .int .i64 32, .str ⟨#[]⟩, .int .i64 0, .int .i64 1, .int .i64 5, .int .i64 18, .str ⟨#[120]⟩, .int .i64 0, .int .i64 1, .int .i64 7, .int .i64 8, .str ⟨#[]⟩, .int .i64 0, .int .i64 2, .int .i64 17, .int .i64 1, .str ⟨#[]⟩, .int .i64 1, .int .i64 0, .int .i64 15, .int .i64 1, .str ⟨#[]⟩, .int .i64 0, .int .i64 0, .int .i64 19]), .d (.int .i64 0), .d (.int .i64 0)], [], []⟩
theorem runText_22 : cF Tryz.prog tblText_12 60 true entText_22.f entText_22.A = some (entText_22.res, []) := by kernel_rfl
def tblText_13 : Tbl := entText_22 :: tblText_12
theorem okText_13 : TblOK Tryz.prog tblText_13 := tbl_cons okText_12 runText_22
def entText_40 : Ent := ⟨40, [.d (.list false 7 [.int .i64 42, .str ⟨#[]⟩, .int .i64 0, .int .i64 1, .int .i64 0, .int .i64 41, .str ⟨#[]⟩, .int .i64 0, .int .i64 1, .int .i64 0, .int .i64 32, .str ⟨#[]⟩, .int .i64 0, .int .i64 1, .int .i64 5, .int .i64 18, .str ⟨#[120]⟩, .int .i64 0, .int .i64 1, .int .i64 7, .int .i64 8, .str ⟨#[]⟩, .int .i64 0, .int .i64 2, .int .i64 17, .int .i64 1, .str ⟨#[]⟩, .int .i64 1, .int .i64 0, .int .i64 15, .int .i64 1, .str ⟨#[]⟩, .int .i64 0, .int .i64 0, .int .i64 19])], [], .agg [.d (.list true 0 []), .d (.list false 1 [.str ⟨#[109, 97, 105, 110]⟩, .int .i64 1, .int .i64 0, .list false 1 [.str ⟨#[120]⟩]]), .d (.int .i64 0), .d (.list false 7 [.int .i64 (-1), .int .i64 0, .int .i64 (-1), .int .i64 0, .int .i64 (-1), .int .i64 (-1), .int .i64 (-1)]), .d (.int .i64 0), .d (.int .i64 0)], [], []⟩
theorem runText_40 : cF Tryz.prog tblText_13 60 true entText_40.f entText_40.A = some (entText_40.res, []) := by kernel_rfl
def tblText_14 : Tbl := entText_40 :: tblText_13
theorem okText_14 : TblOK Tryz.prog tblText_14 := tbl_cons okText_13 runText_40
theorem ran_Text : cF Tryz.prog tblText_14 60 true 7 [.d (.str ⟨#[109, 97, 105, 110, 32, 123, 32, 118, 97, 114, 32, 120, 32, 61, 32, 49, 32, 47, 32, 48, 59, 32, 125]⟩)] = some (.agg [.d (.list false 6 [.int .i64 1, .int .i64 0, .int .i64 0, .int .i64 2, .int .i64 1, .int .i64 0, .int .i64 2, .int .i64 0, .int .i64 0, .int .i64 5, .int .i64 8, .int .i64 0, .int .i64 4, .int .i64 0, .int .i64 0, .int .i64 24, .int .i64 0, .int .i64 0]), .d (.list false 1 [.str ⟨#[109, 97, 105, 110]⟩, .int .i64 0, .int .i64 0, .int .i64 1]), .d (.list true 0 []), .d (.int .i64 0), .d (.int .i64 1), .d (.int .i64 0), .d (.int .i64 0)], []) := by kernel_rfl
end Go.Ab
