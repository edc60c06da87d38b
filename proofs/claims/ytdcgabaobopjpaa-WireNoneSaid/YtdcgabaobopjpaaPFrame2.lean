/- The laws of frames, plainly: puts, next. -/
import Derived.Test.YtdcgabaobopjpaaPFrame
import Derived.Test.YtdcgabaobopjpaaGDX
namespace Go.Ab
set_option linter.unusedVariables false

def hdrB (k : Int) (d : ByteArray) : ByteArray := strOfNums [k] ++ strOfNums (numL d.size) ++ d
def frB (f : T_api_Frame) : ByteArray := hdrB f.Kind f.Data ++ strOfNums (leN (moreN 0 (hdrB f.Kind f.Data)))
theorem hdr_size (k : Int) (d : ByteArray) : (hdrB k d).size = 1 + (numL d.size).length + d.size := by
  unfold hdrB; rw [ByteArray.size_append, ByteArray.size_append, num_size, num_size]; rfl
def putV (f : T_api_Frame) : ByteArray × Int := if f.Kind < 0 ∨ 255 < f.Kind then (⟨#[]⟩, 1) else (frB f, 0)
theorem wu64n {n : Nat} (h : n ≤ 18446744073709551615) : wu64 (n : Int) = n := wu64_of (by omega) (by omega)
theorem wu8i {n : Int} (h0 : 0 ≤ n) (h1 : n ≤ 255) : wu8 n = n := wu8_of h0 (by omega)

theorem F_putF (f : T_api_Frame) (hs : f.Data.size ≤ 900000) : F_frame_Put f = some (putV f) := by
  unfold F_frame_Put
  by_cases h0 : f.Kind < 0
  · rw [dct h0, cond_true]; unfold F_frame_Put_J1 putV; rw [cond_true, if_pos (.inl h0)]
  rw [dcf h0, cond_false]
  by_cases h1 : 255 < f.Kind
  · rw [dct h1]; unfold F_frame_Put_J1 putV; rw [cond_true, if_pos (.inr h1)]
  rw [dcf h1]
  unfold F_frame_Put_J1 putV
  rw [cond_false, if_neg (by omega), dcf (by omega), cond_false, wu8i (by omega) (by omega), wu64n (by omega)]
  have hn := (numL_len (f.Data.size : Int)).1
  rw [F_put _ (by rw [num_size]; simp) (by omega) (by omega)]
  simp only [Option.bind_some]
  rw [grd_t (by rw [ByteArray.size_append, num_size, num_size]; simp; omega)]
  have := hdr_size f.Kind f.Data
  unfold hdrB at this
  rw [F_seal _ (by rw [this]; omega)]
  rfl
theorem F_putL (k : Int) (d : ByteArray) (h0 : 0 ≤ k) (h1 : k ≤ 255) (hs : 1048576 < d.size) : F_frame_Put ⟨k, d⟩ = some (⟨#[]⟩, 5) := by
  unfold F_frame_Put
  rw [dcf (by show ¬ k < 0; omega), cond_false, dcf (by show ¬ 255 < k; omega)]
  unfold F_frame_Put_J1
  rw [cond_false, dct (by show (1048576 : Int) < (d.size : Int); omega), cond_true]
theorem F_bytesF (f : T_api_Frame) (hs : f.Data.size ≤ 900000) : F_retraceref04_Bytes f = some (putV f) := by
  unfold F_retraceref04_Bytes
  by_cases h0 : f.Kind < 0
  · rw [dct h0, cond_true]; unfold F_retraceref04_Bytes_J1 putV; rw [cond_true, if_pos (.inl h0)]
  rw [dcf h0, cond_false]
  by_cases h1 : 255 < f.Kind
  · rw [dct h1]; unfold F_retraceref04_Bytes_J1 putV; rw [cond_true, if_pos (.inr h1)]
  rw [dcf h1]
  unfold F_retraceref04_Bytes_J1 putV
  rw [cond_false, if_neg (by omega), dcf (by omega), cond_false, wu8i (by omega) (by omega), wu64n (by omega)]
  have hn := (numL_len (f.Data.size : Int)).1
  rw [F_num (by omega) (by omega)]
  simp only [Option.bind_some]
  have := hdr_size f.Kind f.Data
  unfold hdrB at this
  rw [grd_t (by rw [num_size, num_size]; simp; omega), grd_t (by rw [ByteArray.size_append, num_size, num_size]; simp; omega), F_sumR _ (by rw [this]; omega)]
  simp only [Option.bind_some]
  rw [F_bytesR _ (moreN_lt (by decide) _)]
  simp only [Option.bind_some]
  rw [grd_t (by rw [this, leN_size]; omega)]
  rfl

theorem law_fnext (s : ByteArray) (p : Int) : F_retracelaw04_FrameNext s p = some true := by
  unfold F_retracelaw04_FrameNext
  by_cases h : 3000 < (s.size : Int)
  · rw [dct h, cond_true, ev_retracelaw04_live]; rfl
  · rw [dcf h, cond_false, F_next s p (by omega), F_nextR s p (by omega)]
    simp only [Option.bind_some, ev_retracelaw04_live, F_retracelaw04_FrameNext_J1]
    simp
theorem law_fputs (f : T_api_Frame) (m : Int) (h0 : 0 ≤ m) (h1 : m ≤ 255) : F_retracelaw04_FramePuts f m = some true := by
  unfold F_retracelaw04_FramePuts
  by_cases h : 2000 < (f.Data.size : Int)
  · rw [dct h, cond_true, ev_retracelaw04_live]; rfl
  · rw [dcf h, cond_false, F_putF f (by omega), F_bytesF f (by omega)]
    simp only [Option.bind_some]
    rw [w64i (n := m) (by omega) (by omega), w64i (n := 1048577 + m) (by omega) (by omega), grd_t (by omega), F_putL 5 _ (by decide) (by decide) (by rw [num_size, List.length_replicate]; omega)]
    simp only [Option.bind_some, ev_retracelaw04_live, F_retracelaw04_FramePuts_J1]
    simp
end Go.Ab
