/- Arguments that are data: what they hold, cell by cell. -/
import Derived.Test.YtgldclhdieafkaaGreatAbLaw
import Derived.ChangeArms
import Derived.ChangeOld
import Derived.Carry
import Derived.WideShapes
namespace Go.Ab
open Go.RowKit
inductive All2 {α β : Type} (R : α → β → Prop) : List α → List β → Prop where
 | nil : All2 R [] []
 | cons {a : α} {b : β} {l : List α} {m : List β} (h : R a b) (t : All2 R l m) : All2 R (a :: l) (b :: m)
theorem All2.len {α β : Type} {R : α → β → Prop} {l : List α} {m : List β} (h : All2 R l m) : l.length = m.length := by
 induction h with
 | nil => rfl
 | cons _ _ ih => simp [ih]
theorem All2.append {α β : Type} {R : α → β → Prop} {l l' : List α} {m m' : List β} (h : All2 R l m) (h' : All2 R l' m') : All2 R (l ++ l') (m ++ m') := by
 induction h with
 | nil => exact h'
 | cons h _ ih => exact .cons h ih
theorem All2.get {α β : Type} {R : α → β → Prop} {l : List α} {m : List β} (h : All2 R l m) : ∀ (j : Nat) (b : β),m[j]? = some b → ∃ a,l[j]? = some a ∧ R a b := by
 induction h with
 | nil => intro j b hj; simp at hj
 | cons h _ ih =>
   intro j b hj
   cases j with
   | zero => simp at hj; subst hj; exact ⟨_,rfl,h⟩
   | succ j => simpa using ih j b (by simpa using hj)
inductive WFD (P : Program) : TypeId → List D → Prop where
 | int {t : TypeId} {k : IntKind} {n : Int} (hu : P.underlying t = some (.int k)) (h : (Lit.int k n).wf = true) : WFD P t [.int k n]
 | bool {t : TypeId} {b : Bool} (hu : P.underlying t = some .bool) : WFD P t [.bool b]
 | str {t : TypeId} {s : ByteArray} (hu : P.underlying t = some .string) (h : s.size ≤ maxLen) : WFD P t [.str s]
 | list {t e : TypeId} {n : Nat} {xs : List D} (hu : P.underlying t = some (.slice e)) (hn : n ≤ maxLen) (hl : xs.length = n * P.cellsOf e)
     (h : ∀ i,i < n → WFD P e ((xs.drop (i * P.cellsOf e)).take (P.cellsOf e))) : WFD P t [.list false n xs]
 | struct {t : TypeId} {fs : Array Field} {ds : List D} (hu : P.underlying t = some (.struct fs)) (hl : ds.length = P.cellsOf t)
     (h : ∀ (i : Nat) (f : Field),fs[i]? = some f → WFD P f.type ((ds.drop f.offset).take (P.cellsOf f.type))) : WFD P t ds
section
variable {P : Program} {H : Type} {enc : TypeId × Value → H} {w : World} {sp : Nat → Bool} {held : Bool} {hz : Hp}
end
section
variable {P : Program} {t e : TypeId}
theorem WFD.fieldAt {fs : Array Field} {ds : List D} (h : WFD P t ds) (hu : P.underlying t = some (.struct fs)) (i t' off sz : Nat)
    (hq : (match fs[i]? with | some f => Nat.beq f.type t' && Nat.beq f.offset off && Nat.beq (P.cellsOf f.type) sz | none => false) = true) : WFD P t' ((ds.drop off).take sz) := by
 split at hq
 · rename_i f hf
   simp only [Bool.and_eq_true] at hq
   obtain ⟨⟨e1,e2⟩,e3⟩ := hq
   have e1 := Nat.eq_of_beq_eq_true e1
   have e2 := Nat.eq_of_beq_eq_true e2
   have e3 := Nat.eq_of_beq_eq_true e3
   cases h with
   | int hu' hw => rw [hu] at hu'; cases hu'
   | bool hu' => rw [hu] at hu'; cases hu'
   | str hu' hs => rw [hu] at hu'; cases hu'
   | list hu' => rw [hu] at hu'; cases hu'
   | struct hu' hl hw =>
     rw [hu] at hu'; cases hu'
     have := hw i f hf
     rw [e2,e3] at this
     rw [← e1]; exact this
 · cases hq
theorem WFD.len {fs : Array Field} {ds : List D} (h : WFD P t ds) (hu : P.underlying t = some (.struct fs)) (n : Nat) (hn : Nat.beq (P.cellsOf t) n = true) : ds.length = n := by
 have hn := Nat.eq_of_beq_eq_true hn
 cases h with
 | int hu' hw => rw [hu] at hu'; cases hu'
 | bool hu' => rw [hu] at hu'; cases hu'
 | str hu' hs => rw [hu] at hu'; cases hu'
 | list hu' => rw [hu] at hu'; cases hu'
 | struct hu' hl hw => exact hl.trans hn
end
end Go.Ab
