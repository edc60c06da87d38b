/- Strings as rows of numbers. -/
import Derived.Test.YtkkaknlijebppaaAbLib
import Derived.Laws.BitsLemmas
import Derived.Laws.BitsAllLaws
import Derived.Lib.Bytes
namespace Go.Ab
open Go.RowKit

theorem data_inj {a b : ByteArray} (h : a.data.toList = b.data.toList) : a = b := by
  cases a; cases b; simp at h; simp [h]
theorem sB_inj {a b : ByteArray} (h : sB a = sB b) : a = b := by
  apply data_inj
  have := (List.map_inj_right (f := fun b : UInt8 => (b.toNat : Int)) (fun x y hxy => by
    have : x.toNat = y.toNat := Int.ofNat.inj hxy
    exact UInt8.toNat_inj.1 this)).1 h
  exact this
theorem sB_len (s : ByteArray) : (sB s).length = s.size := (len_sB s).symm
theorem sB_mem {s : ByteArray} {x : Int} (h : x ∈ sB s) : 0 ≤ x ∧ x ≤ 255 := by
  simp only [sB, List.mem_map] at h
  obtain ⟨b, _, rfl⟩ := h
  have := b.toNat_lt
  omega
theorem sB_app (a b : ByteArray) : sB (a ++ b) = sB a ++ sB b := by
  simp [sB]
theorem sB_cut (s : ByteArray) (i j : Nat) : sB (s.extract i j) = ((sB s).take j).drop i := by
  have : (s.extract i j).data.toList = (s.data.toList.take j).drop i := by
    rw [ByteArray.data_extract, Array.toList_extract, List.extract_eq_take_drop, List.drop_take]
  simp only [sB, this, List.map_take, List.map_drop]
theorem sB_num {l : List Int} (h : ∀ x ∈ l, 0 ≤ x ∧ x ≤ 255) : sB (strOfNums l) = l := by
  simp only [sB, strOfNums]
  simp
  have : l.map ((fun b : UInt8 => (b.toNat : Int)) ∘ fun n : Int => UInt8.ofNat n.toNat) = l.map id := by
    apply List.map_congr_left
    intro x hx
    have := h x hx
    simp
    omega
  rw [List.map_id] at this
  simpa using this
theorem num_sB (s : ByteArray) : strOfNums (sB s) = s := by
  apply data_inj
  show ((sB s).map fun n => UInt8.ofNat n.toNat) = s.data.toList
  rw [sB, List.map_map]
  conv => rhs; rw [← List.map_id s.data.toList]
  apply List.map_congr_left
  intro x _
  simp
theorem num_size (l : List Int) : (strOfNums l).size = l.length := by simp [strOfNums, ByteArray.size]
theorem num_app (a b : List Int) : strOfNums (a ++ b) = strOfNums a ++ strOfNums b := by
  apply data_inj
  simp [strOfNums]
theorem sAt_eq (s : ByteArray) (i : Int) : sAt s i = lAt (sB s) i := by
  unfold sAt lAt sB
  split
  · simp [List.getElem?_map]
    rfl
  · rfl
theorem lAt_nat {α : Type} (l : List α) (i : Nat) : lAt l (i : Int) = l[i]? := by simp [lAt]
theorem toL (s : ByteArray) : s.toList = s.data.toList := ByteArray.toList_eq s
theorem eqS (a b : ByteArray) : (a.toList == b.toList) = decide (a = b) := by
  rw [toL, toL]
  by_cases h : a = b
  · subst h; simp
  · have : ¬ a.data.toList = b.data.toList := fun e => h (data_inj e)
    rw [decide_eq_false h]
    exact beq_false_of_ne this
end Go.Ab
