/- Computable twins: what is reckoned with fuel is so without. -/
import Derived.Test.YtgldclhdieafkaaGreatAbLib
namespace Go.Ab
def Le {α : Type} (x y : Option α) : Prop := ∀ r,x = some r → y = some r
def TD {S R : Type} (step : S → Option (S ⊕ R)) (s : S) : Option R := iter step 5000 s
theorem Le.rf {α : Type} (x : Option α) : Le x x := fun _ h => h
theorem Le.tr {α : Type} {x y z : Option α} (h : Le x y) (k : Le y z) : Le x z := fun r e => k r (h r e)
theorem Le.non {α : Type} (x : Option α) : Le none x := fun _ h => by cases h
theorem Le.grd {α : Type} {p : Prop} [Decidable p] {x y : Option α} (h : Le x y) : Le (grd p x) (grd p y) := by
 intro r e
 unfold Go.Ab.grd at *
 split at e
 · rename_i hp; rw [if_pos hp]; exact h r e
 · cases e
theorem Le.bind {α β : Type} {x y : Option α} {f g : α → Option β} (h : Le x y) (k : ∀ a,Le (f a) (g a)) : Le (x.bind f) (y.bind g) := by
 intro r e
 obtain ⟨a,ha,he⟩ := bind_some e
 rw [h a ha]; exact k a r he
theorem Le.cond {α : Type} {b : Bool} {x y x' y' : Option α} (h : Le x x') (k : Le y y') : Le (cond b x y) (cond b x' y') := by
 cases b
 · exact k
 · exact h
theorem Le.map {α β : Type} {f : α → β} {x y : Option α} (h : Le x y) : Le (x.map f) (y.map f) := by
 intro r e
 obtain ⟨a,ha,he⟩ := Option.map_eq_some_iff.1 e
 rw [h a ha]; exact congrArg some he
theorem Le.elim {α β γ : Type} {f f' : α → Option γ} {g g' : β → Option γ} {s : α ⊕ β} (h : ∀ a,Le (f a) (f' a)) (k : ∀ b,Le (g b) (g' b)) : Le (Sum.elim f g s) (Sum.elim f' g' s) := by
 cases s
 · exact h _
 · exact k _
theorem iter_le {S R : Type} {step step' : S → Option (S ⊕ R)} (h : ∀ s,Le (step s) (step' s)) : ∀ (n : Nat) (s : S),Le (iter step n s) (iter step' n s)
 | 0,s => Le.non _
 | n + 1,s => by
   intro r e
   simp only [iter] at e ⊢
   split at e
   · rename_i s' hs; rw [h s _ hs]; exact iter_le h n s' r e
   · rename_i q hs; rw [h s _ hs]; exact e
   · cases e
theorem Le.loop {S R : Type} {step step' : S → Option (S ⊕ R)} {s : S} (h : ∀ s,Le (step s) (step' s)) : Le (TD step s) (Loop step' s) := fun r e => Loop_of 5000 (iter_le h 5000 s r e)
theorem Le.loopF {S R : Type} {step step' : S → Option (S ⊕ R)} {s : S} (h : ∀ s,Le (step s) (step' s)) : Le (Loop step s) (Loop step' s) := fun r e => by
 obtain ⟨n,hn⟩ := Ke e
 exact Loop_of n (iter_le h n s r hn)
theorem Le.lt {α β : Type} {e : α} {k k' : α → Option β} (h : ∀ y,Le (k y) (k' y)) : Le (Let e k) (Let e k') := h e
end Go.Ab
