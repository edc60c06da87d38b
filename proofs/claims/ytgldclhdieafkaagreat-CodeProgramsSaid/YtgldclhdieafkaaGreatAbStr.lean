/- Strings as rows of numbers. -/
import Derived.Test.YtgldclhdieafkaaGreatAbLib
import Derived.Laws.BitsLemmas
import Derived.Laws.BitsAllLaws
import Derived.Lib.Bytes
namespace Go.Ab
open Go.RowKit
theorem data_inj {a b : ByteArray} (h : a.data.toList = b.data.toList) : a = b := by
 cases a; cases b; simp at h; simp [h]
theorem sB_len (s : ByteArray) : (sB s).length = s.size := (Th s).symm
theorem RZ {s : ByteArray} {x : Int} (h : x ∈ sB s) : 0 ≤ x ∧ x ≤ 255 := by
 simp only [sB,List.mem_map] at h
 obtain ⟨b,_,rfl⟩ := h
 have := b.toNat_lt
 omega
theorem R0 (s : ByteArray) (i : Int) : sAt s i = lAt (sB s) i := by
 unfold sAt lAt sB
 split
 · simp [List.getElem?_map]
   rfl
 · rfl
theorem toL (s : ByteArray) : s.toList = s.data.toList := ByteArray.toList_eq s
theorem eqS (a b : ByteArray) : (a.toList == b.toList) = decide (a = b) := by
 rw [toL,toL]
 by_cases h : a = b
 · subst h; simp
 · have : ¬ a.data.toList = b.data.toList := fun e => h (data_inj e)
   rw [decide_eq_false h]
   exact beq_false_of_ne this
end Go.Ab
