/- AbTot -/
import Derived.Test.YtgldclhdieafkaaGreatAbPlain
import Derived.Test.YtgldclhdieafkaaGreatAbStr
namespace Go.Ab
set_option linter.unusedVariables false
def OkP {α : Type} (x : Option α) (P : α → Prop) : Prop := ∃ a,x = some a ∧ P a
abbrev Ok {α : Type} (x : Option α) : Prop := OkP x (fun _ => True)
section
variable {α β : Type} {P : α → Prop} {Q : β → Prop}
theorem OkP.ret {a : α} (h : P a) : OkP (some a) P := ⟨a,rfl,h⟩
theorem OkP.rett (a : α) : Ok (some a) := ⟨a,rfl,trivial⟩
theorem OkP.mono {P' : α → Prop} {x : Option α} (h : OkP x P) (hp : ∀ a,x = some a → P a → P' a) : OkP x P' := by
 obtain ⟨a,e,p⟩ := h; exact ⟨a,e,hp a e p⟩
theorem OkP.ok {x : Option α} (h : OkP x P) : Ok x := by obtain ⟨a,e,p⟩ := h; exact ⟨a,e,trivial⟩
theorem OkP.get {x : Option α} {a : α} (h : OkP x P) (e : x = some a) : P a := by
 obtain ⟨b,e',p⟩ := h; rw [e] at e'; cases e'; exact p
theorem OkP.condB {b : Bool} {x y : Option α} (h1 : b = true → OkP x P) (h2 : b = false → OkP y P) : OkP (cond b x y) P := by
 cases b
 · exact h2 rfl
 · exact h1 rfl
theorem OkP.condN {b : Bool} {x y : Option α} (h1 : b = false → OkP x P) (h2 : b = true → OkP y P) : OkP (cond (!b) x y) P := by
 cases b
 · exact h1 rfl
 · exact h2 rfl
theorem OkP.condD {p : Prop} [Decidable p] {x y : Option α} (h1 : p → OkP x P) (h2 : ¬ p → OkP y P) : OkP (cond (decide p) x y) P :=
 OkP.condB (fun h => h1 (of_decide_eq_true h)) (fun h => h2 (of_decide_eq_false h))
theorem OkP.condE {i j : Int} {x y : Option α} (h1 : i = j → OkP x P) (h2 : ¬ i = j → OkP y P) : OkP (cond (i == j) x y) P :=
 OkP.condB (fun h => h1 (by simpa using h)) (fun h => h2 (by simpa using h))
theorem OkP.condNE {i j : Int} {x y : Option α} (h1 : ¬ i = j → OkP x P) (h2 : i = j → OkP y P) : OkP (cond (i != j) x y) P :=
 OkP.condB (fun h => h1 (by simpa using h)) (fun h => h2 (by simpa using h))
theorem OkP.bind {x : Option β} {f : β → Option α} (h : OkP x Q) (h2 : ∀ a,x = some a → Q a → OkP (f a) P) : OkP (x.bind f) P := by
 obtain ⟨a,e,q⟩ := h; rw [e]; exact h2 a e q
theorem OkP.map {x : Option β} {f : β → α} (h : OkP x (fun b => P (f b))) : OkP (x.map f) P := by
 obtain ⟨a,e,q⟩ := h; rw [e]; exact ⟨_,rfl,q⟩
theorem OkP.grd {p : Prop} [Decidable p] {x : Option α} (hp : p) (h : OkP x P) : OkP (grd p x) P := by rw [JF hp]; exact h
theorem QL {l : List α} {i : Int} (h0 : 0 ≤ i) (h1 : i < l.length) : OkP (lAt l i) (fun a => a ∈ l) := by
 obtain ⟨k,rfl⟩ := Int.eq_ofNat_of_zero_le h0
 exact ⟨_,Gw (by omega),List.getElem_mem _⟩
theorem OJ {l : List α} {i : Int} {a : α} (h : lAt l i = some a) : a ∈ l := by
 unfold lAt at h
 split at h
 · exact List.mem_of_getElem? h
 · cases h
theorem lAt_rng {l : List α} {i : Int} {a : α} (h : lAt l i = some a) : 0 ≤ i ∧ i < l.length := by
 unfold lAt at h
 split at h
 · rename_i h0
   have := (List.getElem?_eq_some_iff.mp h).1
   omega
 · cases h
theorem OkP.at {l : List β} {i : Int} {f : β → Option α} (h0 : 0 ≤ i) (h1 : i < l.length) (h2 : ∀ a,lAt l i = some a → OkP (f a) P) : OkP ((lAt l i).bind f) P :=
 OkP.bind (QL h0 h1) fun a e _ => h2 a e
theorem Qr {s : ByteArray} {i : Int} (h0 : 0 ≤ i) (h1 : i < s.size) : Ok (sAt s i) := by
 rw [R0]
 refine (QL h0 ?_).ok
 simpa [sB] using h1
theorem OkP.sat {s : ByteArray} {i : Int} {f : Int → Option α} (h0 : 0 ≤ i) (h1 : i < s.size) (h2 : ∀ a,sAt s i = some a → OkP (f a) P) : OkP ((sAt s i).bind f) P :=
 OkP.bind (Qr h0 h1) fun a e _ => h2 a e
end
theorem Fm {S R : Type} {step : S → Option (S ⊕ R)} (I : S → Prop) (m : S → Nat) {Q : R → Prop} (h : ∀ s,I s → OkP (step s) (Sum.elim (fun s' => I s' ∧ m s' < m s) Q)) (s : S) (hs : I s) : OkP (Loop step s) Q :=
 Loop_ex I m Q (fun s hs => by
  obtain ⟨t,e,q⟩ := h s hs
  cases t with
  | inl s' => exact .inl ⟨s',e,q⟩
  | inr r => exact .inr ⟨r,e,q⟩) s hs
theorem I0 {R : Type} {step : Int → Option (Int ⊕ R)} (n : Nat) (hn : n < 9223372036854775808) (J : Int → Prop) {Q : R → Prop} (h : ∀ i : Int,0 ≤ i → i ≤ (n : Int) → J i → OkP (step i) (Sum.elim (fun j => i < (n : Int) ∧ j = w64 (i + 1) ∧ J (i + 1)) Q)) (h0 : J 0) : OkP (Loop step 0) Q :=
 Fm (S := Int) (fun i : Int => 0 ≤ i ∧ i ≤ (n : Int) ∧ J i) (fun i : Int => ((n : Int) - i).toNat) (fun i ⟨a,b,c⟩ => (h i a b c).mono fun t _ ht => by
  cases t with
  | inl s' =>
    obtain ⟨h1,h2,h3⟩ := ht
    rw [w64i (by omega) (by omega)] at h2
    subst h2
    exact ⟨⟨by omega,by omega,h3⟩,by omega⟩
  | inr r => exact ht) 0 ⟨by omega,by omega,h0⟩
end Go.Ab
