/- How loads, stores and appends run. -/
import Derived.Test.YtgldclhdieafkaaGreatAbMem
import Derived.Laws.AppendOwn
import Derived.Laws.Cells
import Derived.Laws.Tables
namespace Go.Ab
open Go.RowKit
theorem GW (g off n : Nat) : (⟨g,off,none⟩ : Addr).add n = ⟨g,off + n,none⟩ := by
 unfold Addr.add; split <;> simp_all
section
variable {P : Program}
theorem HZ (g o : Nat) (t : TypeId) (fr : Nat × Nat) : ∀ (vs : List Value) (i : Nat) (cur : Array Value) (w : World),w.heap[g]? = some (.cells cur t fr) →
    (∀ j,j < cur.size → ¬ (fr.1 ≤ j ∧ j < fr.2)) → o + i + vs.length ≤ cur.size → (∀ v ∈ vs,v.oneCell' = true) →
    (storeCells ⟨g,o,none⟩ vs i).run P w = .ok () (w.setRow g (cur.toList.take (o + i) ++ vs ++ cur.toList.drop (o + i + vs.length)).toArray)
 | [],i,cur,w,hg,_,_,_ => by
   simp only [storeCells,List.append_nil,List.length_nil,Nat.add_zero,List.take_append_drop,Array.toArray_toList]
   rw [setRow_self w g cur t fr hg]
   rfl
 | v :: rest,i,cur,w,hg,hf,hl,h1 => by
   have hi : o + i < cur.size := by simp at hl; omega
   have hcell : w.cell? ⟨g,o + i,none⟩ = some cur[o + i] := by simp [World.cell?,hg,hi]
   have hfro : w.frozen? ⟨g,o + i,none⟩ = false := by
    have := hf (o + i) hi
    simp only [World.frozen?,hg]
    rw [Bool.and_eq_false_iff]
    by_cases h : fr.1 ≤ o + i
    · right; simp; omega
    · left; simp; omega
   have hst : (store ((⟨g,o,none⟩ : Addr).add i) v).run P w = .ok () (w.setRow g (cur.setIfInBounds (o + i) v)) := by
    rw [GW,run_store P w _ v _ (h1 v (by simp)),hcell]
    simp [hfro,setCell_eq_setRow w g (o + i) cur t fr v hg]
   have ih := HZ g o t fr rest (i + 1) (cur.setIfInBounds (o + i) v) (w.setRow g (cur.setIfInBounds (o + i) v)) (setRow_heap w g cur _ t _ hg) (by simpa using hf) (by simp at hl ⊢; omega) (fun x hx => h1 x (by simp [hx]))
   simp only [storeCells,Sem.run_bind,hst,Result.andThen_ok,ih,setRow_setRow]
   congr 3
   have e := list_seg_step cur.toList (o + i) v rest (by simp at hl ⊢; omega)
   simpa [Array.toList_setIfInBounds,Nat.add_assoc] using e
theorem LV {ty : TypeId} {i : TypeInfo} (hi : P.info? ty = some i) (v : Value) (hs : v.cells.size = i.size) (g o : Nat) (t : TypeId) (fr : Nat × Nat) (cur : Array Value) (w : World) (hg : w.heap[g]? = some (.cells cur t fr))
    (hf : ∀ j,j < cur.size → ¬ (fr.1 ≤ j ∧ j < fr.2)) (hl : o + v.cells.size ≤ cur.size) (h1 : ∀ u ∈ v.cells.toList,u.oneCell' = true) :
    (storeVar ty ⟨g,o,none⟩ v).run P w = .ok () (w.setRow g (cur.toList.take o ++ v.cells.toList ++ cur.toList.drop (o + v.cells.size)).toArray) := by
 have := HZ (P := P) g o t fr v.cells.toList 0 cur w hg hf (by simpa using hl) h1
 unfold storeVar
 simp [sizeOf,typeInfo,hi,hs]
 simpa [hs] using this
theorem Ly (g o : Nat) (t : TypeId) (fr : Nat × Nat) (cur : Array Value) (n : Nat) (w : World) (hg : w.heap[g]? = some (.cells cur t fr)) (hl : o + n ≤ cur.size) :
    (loadCells ⟨g,o,none⟩ n).run P w = .ok (cur.extract o (o + n)) w := by
 have hlen : ((cur.toList.drop o).take n).length = n := by simp; omega
 have := run_loadCells_list (P := P) w ⟨g,o,none⟩ ((cur.toList.drop o).take n) (fun j v hj => by
  rw [GW]
  rw [List.getElem?_take] at hj
  split at hj
  · rw [List.getElem?_drop] at hj
    simp only [World.cell?,hg]
    simpa using hj
  · cases hj)
 rw [hlen] at this
 rw [this]
 congr 1
 apply Array.ext'
 simp [List.take_drop]
theorem NR (g o : Nat) (t : TypeId) (fr : Nat × Nat) (cur : Array Value) (w : World) (hg : w.heap[g]? = some (.cells cur t fr)) (hl : o < cur.size) :
    (load ⟨g,o,none⟩).run P w = .ok (cur.getD o undef) w := by
 have hc : w.cell? ⟨g,o,none⟩ = some cur[o] := by simp [World.cell?,hg,hl]
 rw [run_load,hc]
 simp [hl]
def MH (P : Program) (w : World) (size : Nat) (x : Value) (m : Nat) (news : List Value) : Prop :=
 (Builtin.lenOf x).run P w = .ok m w ∧ ∀ w',w'.heap = w.heap → (Builtin.firstCells size m x).run P w' = .ok news.toArray w'
theorem Oa (w : World) (s : ByteArray) : MH P w 1 (.string s) s.size (s.data.toList.map fun b => Value.int .u8 b.toNat) := by
 refine ⟨rfl,fun w' _ => ?_⟩
 simp only [Builtin.firstCells,Sem.run_pure]
 congr 1
 apply Array.ext'
 have : s.extract 0 s.size = s := by
  apply ByteArray.ext
  simp
 rw [this]
 simp
theorem JG (w : World) (size : Nat) (g o : Nat) (t : TypeId) (fr : Nat × Nat) (cur : Array Value) (m c : Nat) (news : List Value) (hg : w.heap[g]? = some (.cells cur t fr)) (hn : news.length = m * size)
    (h : ∀ j v,news[j]? = some v → cur[o + j]? = some v) : MH P w size (.slice (some ⟨g,o,none⟩) m c) m news := by
 refine ⟨rfl,fun w' hw => ?_⟩
 simp only [Builtin.firstCells,← hn]
 refine run_loadCells_list w' _ news (fun j v hj => ?_)
 rw [GW]
 simp only [World.cell?,hw,hg]
 simpa using h j v hj
theorem Js (w : World) (size : Nat) (a : Option Addr) (c : Nat) : MH P w size (.slice a 0 c) 0 [] := by
 refine ⟨rfl,fun w' _ => ?_⟩
 cases a with
 | none => rfl
 | some ad => simp only [Builtin.firstCells,Nat.zero_mul]; rfl
def OB (P : Program) (u : TypeId) : Prop := (∃ e,P.underlying u = some (.slice e)) ∨ P.underlying u = some .string
theorem KT (w : World) (t u ty e : TypeId) (i : TypeInfo) (ht : P.underlying t = some (.slice e)) (hu : OB P u) (hi : P.info? e = some i)
    (g n cap : Nat) (fr : Nat × Nat) (cur : Array Value) (hg : w.heap[g]? = some (.cells cur e fr)) (hf : ∀ j,j < cur.size → ¬ (fr.1 ≤ j ∧ j < fr.2))
    (x : Value) (m : Nat) (news : List Value) (hx : MH P w i.size x m news) (h1 : ∀ v ∈ news,v.oneCell' = true) (hroom : n + m ≤ cap) (hfit : n * i.size + news.length ≤ cur.size) :
    (Builtin.append_ #[t,u] ty #[.slice (some ⟨g,0,none⟩) n cap,x]).run P w =
     .ok (.slice (some ⟨g,0,none⟩) (n + m) cap) (w.setRow g (cur.toList.take (n * i.size) ++ news ++ cur.toList.drop (n * i.size + news.length)).toArray) := by
 have hst := HZ (P := P) g (n * i.size) e fr news 0 cur w hg hf (by simpa using hfit) h1
 have hfc := hx.2 w rfl
 rcases hu with ⟨e',hu⟩ | hu
 all_goals
  simp [Builtin.append_,run_underlying ht,run_underlying hu,sizeOf,typeInfo,hi,hx.1,hroom,hfc,GW]
  simp at hst
  rw [hst]
  simp
theorem PZ {need cap : Nat} (h : cap < need) : Builtin.nextslicecap need cap ≤ 2 * need := by
 unfold Builtin.nextslicecap
 split
 · omega
 · split
   · omega
   · rename_i h1 h2
     have key : ∀ r c,c < 2 * need → 256 ≤ c → Builtin.growBy need r c ≤ 2 * need := by
      intro r
      induction r with
      | zero => intro c hc _; simp [Builtin.growBy]; omega
      | succ r ih =>
        intro c hc h256
        simp only [Builtin.growBy]
        split
        · omega
        · rename_i hlt
          exact ih _ (by omega) (by omega)
     exact key 4 cap (by omega) (by omega)
theorem HL (w : World) (t u ty e : TypeId) (i : TypeInfo) (z : Value) (ht : P.underlying t = some (.slice e)) (hu : OB P u) (hi : P.info? e = some i) (hz : i.zero = some z)
    (s : Option Addr) (n cap : Nat) (olds : List Value) (hs : MH P w i.size (.slice s n cap) n olds)
    (x : Value) (m : Nat) (news : List Value) (hx : MH P w i.size x m news) (hroom : cap < n + m) (h63 : n + m ≤ 9223372036854775807) (hb : (n + m) * i.bytes ≤ 140737488355328) :
    (Builtin.append_ #[t,u] ty #[.slice s n cap,x]).run P w =
     .ok (.slice (some ⟨w.heap.size,0,none⟩) (n + m) (grownCap w (n + m) cap e))
      (w.drew.alloc (.cells (olds.toArray ++ news.toArray ++ Builtin.zeroCells z.cells (grownCap w (n + m) cap e - (n + m))) e)) := by
 have hn : ¬ (n + m ≤ cap) := by omega
 have h63' : ¬ (9223372036854775807 < ((n : Int) + (m : Int))) := by omega
 have h48' : ¬ (281474976710656 < Builtin.nextslicecap (n + m) cap * i.bytes) := by
  have := Nat.mul_le_mul_right i.bytes (PZ hroom)
  have e2 : 2 * (n + m) * i.bytes = 2 * ((n + m) * i.bytes) := Nat.mul_assoc _ _ _
  omega
 have hf := hx.2 w.drew rfl
 have hfo := hs.2 w.drew rfl
 rcases hu with ⟨e',hu⟩ | hu
 all_goals
  simp [Builtin.append_,run_underlying ht,run_underlying hu,sizeOf,typeInfo,zeroValue,hi,hz,hx.1,hn,h63',h48',Question.forced,hf,hfo,newRow,grownCap]
  congr 2
  apply Array.ext'
  simp [List.append_assoc]
end
end Go.Ab
