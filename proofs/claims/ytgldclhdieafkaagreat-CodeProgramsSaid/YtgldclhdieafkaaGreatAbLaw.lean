/- From a contract to what a law's statement asks. -/
import Derived.Test.YtgldclhdieafkaaGreatAbLib
import Derived.Below
namespace Go.Ab
open Go.RowKit
def snap (w : World) : Hp := fun g => w.heap[g]?
def RelA (hz : Hp) (vs : List Value) (xs : List PV) : Prop := vs.length = xs.length ∧ ∀ (j : Nat) (x : PV),xs[j]? = some x → RelV hz PY (vs.getD j undef) x
theorem RelA.nil {hz : Hp} : RelA hz [] [] := ⟨rfl,fun j x h => by simp at h⟩
theorem RelA.cons {hz : Hp} {v : Value} {x : PV} {vs : List Value} {xs : List PV} (h : RelV hz PY v x) (r : RelA hz vs xs) : RelA hz (v :: vs) (x :: xs) := by
 refine ⟨by simp [r.1],fun j y hj => ?_⟩
 match j,hj with
 | 0,hj => simp at hj; subst hj; exact h
 | j + 1,hj => simpa using r.2 j y (by simpa using hj)
theorem Ti {P : Program} {f : FuncId} {args : List PV} {vals : List Value} (h : FnOK P f args [] (bo true) [] []) (w : World) (hr : RelA (snap w) vals args) :
    Calls P f vals.toArray w fun e w' => e = .returned (.bool true) ∧ Below w.heap.size w w' := by
 have hM : Mem ⟨w,snap w,fun _ => False⟩ (snap w) PY [] w :=
  { knows := fun g o hg => hg
    objs := fun i o h => by simp at h
    inj := fun i j oi oj g c c' h => by simp at h
    new := fun i o g c h => by simp at h
    dom := fun i _ => rfl
    caps := fun i g c h => by cases h
    os := rfl,tape := rfl,output := rfl
    size := Nat.le_refl _
    kept := fun _ _ _ => rfl
    hle := Hp.le_refl _
    hnew := fun g o hg => .inl hg }
 refine (h w (snap w) (fun _ => False) PY vals.toArray hM ⟨by simpa using hr.1,fun j x hj => ?_⟩).mono ?_
 · have := hr.2 j x hj
   simpa [List.getD,Array.getD_eq_getD_getElem?] using this
 · rintro e w' ⟨v,hz',φ',rfl,hv,hM',_⟩
   have := hv.inv_bool; subst this
   refine ⟨rfl,?_⟩
   exact ⟨hM'.os,hM'.tape,hM'.output,hM'.size,fun k hk => hM'.kept k hk (fun h => h)⟩
end Go.Ab
