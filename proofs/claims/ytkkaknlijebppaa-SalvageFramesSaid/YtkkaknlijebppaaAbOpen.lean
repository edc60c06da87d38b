/- Arguments that are data: what they hold, cell by cell. -/
import Derived.Test.YtkkaknlijebppaaAbLaw
import Derived.ChangeArms
import Derived.ChangeOld
import Derived.Carry
import Derived.WideShapes
namespace Go.Ab
open Go.RowKit

inductive All2 {α β : Type} (R : α → β → Prop) : List α → List β → Prop where
  | nil : All2 R [] []
  | cons {a : α} {b : β} {l : List α} {m : List β} (h : R a b) (t : All2 R l m) : All2 R (a :: l) (b :: m)
theorem All2.len {α β : Type} {R : α → β → Prop} {l : List α} {m : List β} (h : All2 R l m) : l.length = m.length := by
  induction h with
  | nil => rfl
  | cons _ _ ih => simp [ih]
theorem All2.append {α β : Type} {R : α → β → Prop} {l l' : List α} {m m' : List β} (h : All2 R l m) (h' : All2 R l' m') : All2 R (l ++ l') (m ++ m') := by
  induction h with
  | nil => exact h'
  | cons h _ ih => exact .cons h ih
theorem All2.get {α β : Type} {R : α → β → Prop} {l : List α} {m : List β} (h : All2 R l m) : ∀ (j : Nat) (b : β), m[j]? = some b → ∃ a, l[j]? = some a ∧ R a b := by
  induction h with
  | nil => intro j b hj; simp at hj
  | cons h _ ih =>
    intro j b hj
    cases j with
    | zero => simp at hj; subst hj; exact ⟨_, rfl, h⟩
    | succ j => simpa using ih j b (by simpa using hj)

/-- Data of a type. -/
inductive WFD (P : Program) : TypeId → List D → Prop where
  | int {t : TypeId} {k : IntKind} {n : Int} (hu : P.underlying t = some (.int k)) (h : (Lit.int k n).wf = true) : WFD P t [.int k n]
  | bool {t : TypeId} {b : Bool} (hu : P.underlying t = some .bool) : WFD P t [.bool b]
  | str {t : TypeId} {s : ByteArray} (hu : P.underlying t = some .string) (h : s.size ≤ maxLen) : WFD P t [.str s]
  | list {t e : TypeId} {n : Nat} {xs : List D} (hu : P.underlying t = some (.slice e)) (hn : n ≤ maxLen) (hl : xs.length = n * P.cellsOf e)
      (h : ∀ i, i < n → WFD P e ((xs.drop (i * P.cellsOf e)).take (P.cellsOf e))) : WFD P t [.list false n xs]
  | struct {t : TypeId} {fs : Array Field} {ds : List D} (hu : P.underlying t = some (.struct fs)) (hl : ds.length = P.cellsOf t)
      (h : ∀ (i : Nat) (f : Field), fs[i]? = some f → WFD P f.type ((ds.drop f.offset).take (P.cellsOf f.type))) : WFD P t ds

def tiles (P : Program) : List Field → Nat → Option Nat
  | [], k => some k
  | f :: l, k => if f.offset = k then tiles P l (k + P.cellsOf f.type) else none
def dataT (P : Program) : Nat → TypeId → Bool
  | 0, _ => false
  | m + 1, t => match P.underlying t with
    | some (.int _) | some .bool | some .string => true
    | some (.slice e) => Nat.blt 0 (P.cellsOf e) && dataT P m e
    | some (.struct fs) => (match tiles P fs.toList 0 with | some k => Nat.beq k (P.cellsOf t) | none => false) && fs.toList.all fun f => dataT P m f.type
    | _ => false

section
variable {P : Program} {H : Type} {enc : TypeId × Value → H} {w : World} {sp : Nat → Bool} {held : Bool} {hz : Hp}

theorem fields_wfd {cs : List Value} : ∀ (l : List Field) (k m : Nat), tiles P l k = some m → m ≤ cs.length →
    (∀ f ∈ l, ∃ ds, All2 (RelD hz) ((cs.drop f.offset).take (P.cellsOf f.type)) ds ∧ WFD P f.type ds) →
    ∃ ds, All2 (RelD hz) ((cs.drop k).take (m - k)) ds ∧ k ≤ m ∧ ∀ f ∈ l, k ≤ f.offset ∧ WFD P f.type ((ds.drop (f.offset - k)).take (P.cellsOf f.type))
  | [], k, m, h, hm, _ => by
    simp [tiles] at h; subst h
    exact ⟨[], by simp; exact .nil, Nat.le_refl _, by simp⟩
  | f :: l, k, m, h, hm, hf => by
    simp only [tiles] at h
    split at h
    · rename_i hk
      obtain ⟨ds2, a2, hle, hd2⟩ := fields_wfd l (k + P.cellsOf f.type) m h hm (fun g hg => hf g (by simp [hg]))
      obtain ⟨ds1, a1, hd1⟩ := hf f (by simp)
      rw [hk] at a1
      have l1 : ds1.length = P.cellsOf f.type := by rw [← a1.len]; simp; omega
      refine ⟨ds1 ++ ds2, ?_, by omega, ?_⟩
      · have e : (cs.drop k).take (m - k) = (cs.drop k).take (P.cellsOf f.type) ++ (cs.drop (k + P.cellsOf f.type)).take (m - (k + P.cellsOf f.type)) := by
          rw [show m - k = P.cellsOf f.type + (m - (k + P.cellsOf f.type)) by omega, List.take_add, List.drop_drop]
        rw [e]; exact a1.append a2
      · intro g hg
        rcases List.mem_cons.1 hg with rfl | hg
        · refine ⟨by omega, ?_⟩
          rw [hk, Nat.sub_self, List.drop_zero, ← l1, List.take_left']
          · exact hd1
          · rfl
        · obtain ⟨q1, q2⟩ := hd2 g hg
          refine ⟨by omega, ?_⟩
          rw [List.drop_append, List.drop_eq_nil_of_le (by omega), List.nil_append, l1, show g.offset - k - P.cellsOf f.type = g.offset - (k + P.cellsOf f.type) by omega]
          exact q2
    · cases h

theorem cells_get {a : Addr} {n : Nat} {cs : List Value} (h : w.cells? 0 a n = some cs) : cs.length = n ∧ ∀ j, j < n → w.cell? (a.add j) = cs[j]? := by
  unfold World.cells? at h
  rw [if_pos (Nat.zero_le _)] at h
  refine ⟨by simpa using mapM_some_length h, fun j hj => mapM_some_get h j j (by simp [hj])⟩

theorem row_wfd {e : TypeId} {a : Addr} {sz : Nat} (hsz : P.cellsOf e = sz) : ∀ (n : Nat), (∀ i, i < n → ∃ c ds, w.cells? 0 (a.add (i * sz)) sz = some c ∧ All2 (RelD (snap w)) c ds ∧ WFD P e ds) →
    ∃ xs : List D, xs.length = n * sz ∧ (∀ i, i < n → WFD P e ((xs.drop (i * sz)).take sz)) ∧ ∀ (j : Nat) (x : D), xs[j]? = some x → ∃ (i r : Nat) (v : Value), r < sz ∧ j = i * sz + r ∧ w.cell? ((a.add (i * sz)).add r) = some v ∧ RelD (snap w) v x
  | 0, _ => ⟨[], by simp, by simp, by simp⟩
  | n + 1, h => by
    obtain ⟨xs, h1, h2, h3⟩ := row_wfd hsz n (fun i hi => h i (by omega))
    obtain ⟨c, ds, g1, g2, g3⟩ := h n (by omega)
    obtain ⟨c1, c2⟩ := cells_get g1
    have ld : ds.length = sz := by rw [← g2.len]; exact c1
    refine ⟨xs ++ ds, by rw [List.length_append, h1, ld, Nat.succ_mul], ?_, ?_⟩
    · intro i hi
      by_cases hin : i < n
      · have hle : i * sz + sz ≤ xs.length := by
          rw [h1, ← Nat.succ_mul]; exact Nat.mul_le_mul_right _ hin
        rw [List.drop_append_of_le_length (by omega), List.take_append_of_le_length (by simp; omega)]
        exact h2 i hin
      · have : i = n := by omega
        subst this
        rw [← h1, List.drop_append, List.drop_eq_nil_of_le (Nat.le_refl _), Nat.sub_self, List.drop_zero, List.nil_append, ← ld, List.take_length]
        exact g3
    · intro j x hj
      rw [List.getElem?_append] at hj
      split at hj
      · exact h3 j x hj
      · rename_i hge
        obtain ⟨v, hv, hr⟩ := g2.get _ _ hj
        have hlt := lt_of_getL hj
        refine ⟨n, j - xs.length, v, by omega, by omega, ?_, hr⟩
        rw [c2 _ (by omega)]; exact hv

theorem trod_wfd : ∀ (m fuel : Nat) (t : TypeId) (cs : List Value) (x : DataW H × List MemPlace), DataW.trod enc P w 0 sp held fuel t cs = some x → dataT P m t = true →
    ∃ ds, All2 (RelD (snap w)) cs ds ∧ WFD P t ds
  | 0, _, _, _, _, _, h => by cases h
  | m + 1, fuel, t, cs, x, h, hd => by
    unfold dataT at hd
    split at hd
    · rename_i k hu
      obtain ⟨n, rfl, _, hw⟩ := DataW.trod_int hu h
      exact ⟨[.int k n], .cons (.int _ _) .nil, .int hu hw⟩
    · rename_i hu
      obtain ⟨b, rfl, _⟩ := DataW.trod_bool hu h
      exact ⟨[.bool b], .cons (.bool _) .nil, .bool hu⟩
    · rename_i hu
      obtain ⟨s, rfl, _, hs⟩ := DataW.trod_string hu h
      exact ⟨[.str s], .cons (.str _) .nil, .str hu hs⟩
    · rename_i e hu
      simp only [Bool.and_eq_true] at hd
      have hpos : 0 < P.cellsOf e := Nat.le_of_ble_eq_true hd.1
      rcases DataW.trod_slice hu h with ⟨rfl, _⟩ | ⟨a, len, cap, elems, rest, n, _, rfl, _, _, hl, hc, hlen, hel, _, _⟩
      · exact ⟨[.list false 0 []], .cons (.list0 none 0 false (fun h => by cases h) (Nat.zero_le _)) .nil, .list hu (Nat.zero_le _) (by simp) (fun i hi => by omega)⟩
      · obtain ⟨xs, h1, h2, h3⟩ := row_wfd (P := P) (w := w) (e := e) (a := a) rfl len (fun i hi => by
          have := hel i hi
          have hsome : elems[i]? = some elems[i] := by simp [hlen, hi]
          rw [hsome] at this
          obtain ⟨c, hc1, hc2⟩ := Option.bind_eq_some_iff.1 this
          obtain ⟨ds, q1, q2⟩ := trod_wfd m n e c _ hc2 hd.2
          exact ⟨c, ds, hc1, q1, q2⟩)
        refine ⟨[.list false len xs], .cons ?_ .nil, .list hu (Nat.le_trans hl hc) h1 h2⟩
        rcases Nat.eq_zero_or_pos len with h0 | h0
        · subst h0
          have : xs = [] := by simpa using h1
          subst this
          exact .list0 _ cap false (fun h => by cases h) hc
        · have hx0 : 0 < xs.length := by rw [h1]; exact Nat.mul_pos h0 hpos
          obtain ⟨i0, r0, v0, _, hz0, hv0, _⟩ := h3 0 xs[0] (by simp [hx0])
          obtain ⟨g, off, spot⟩ := a
          cases spot with
          | some s =>
            exfalso
            have z1 : i0 * P.cellsOf e = 0 := by omega
            have z2 : r0 = 0 := by omega
            rw [z1, z2] at hv0
            simp only [Addr.add, if_true] at hv0
            unfold World.cell? at hv0
            split at hv0
            · simp at hv0
            · cases hv0
          | none =>
            have hadd : ∀ p q : Nat, ((⟨g, off, none⟩ : Addr).add p).add q = ⟨g, off + p + q, none⟩ := fun p q => by rw [add_plain, add_plain]
            have hcell : ∀ (o : Nat) (v : Value), w.cell? ⟨g, o, none⟩ = some v → ∃ arr t fr, w.heap[g]? = some (.cells arr t fr) ∧ arr[o]? = some v := by
              intro o v hv
              unfold World.cell? at hv
              split at hv
              · rename_i c t fr hg
                exact ⟨c, t, fr, hg, by simpa using hv⟩
              · cases hv
            rw [hadd] at hv0
            obtain ⟨arr, t0, fr, hg, _⟩ := hcell _ _ hv0
            refine .list g off len cap false xs arr t0 fr (fun j => (arr[off + j]?).getD undef) hg hl hc (fun h => by cases h) ?_ ?_
            · intro j x hj
              obtain ⟨i, r, v, _, rfl, hv, _⟩ := h3 j x hj
              rw [hadd] at hv
              obtain ⟨arr', t', fr', hg', hv'⟩ := hcell _ _ hv
              rw [hg] at hg'; cases hg'
              rw [← Nat.add_assoc, hv']; rfl
            · intro j x hj
              obtain ⟨i, r, v, _, rfl, hv, hr⟩ := h3 j x hj
              rw [hadd] at hv
              obtain ⟨arr', t', fr', hg', hv'⟩ := hcell _ _ hv
              rw [hg] at hg'; cases hg'
              simp only [← Nat.add_assoc, hv', Option.getD_some]; exact hr
    · rename_i fs hu
      simp only [Bool.and_eq_true] at hd
      obtain ⟨ht, hall⟩ := hd
      split at ht
      · rename_i k hk
        have hk2 := Nat.eq_of_beq_eq_true ht
        obtain ⟨xs, n, _, _, hlen, hxs, hf⟩ := DataW.trod_struct hu h
        obtain ⟨ds, a1, _, hd⟩ := fields_wfd (P := P) (hz := snap w) (cs := cs) fs.toList 0 k hk (by omega) (fun f hfm => by
          obtain ⟨i, hi⟩ := List.getElem?_of_mem hfm
          have hi' : fs[i]? = some f := by simpa using hi
          have := hf i f hi'
          have hil : i < xs.length := by rw [hxs]; simpa using lt_of_getL hi
          rw [List.getElem?_eq_getElem hil] at this
          exact trod_wfd m n f.type _ _ this (List.all_eq_true.1 hall f hfm))
        have ecs : (cs.drop 0).take (k - 0) = cs := by rw [List.drop_zero, Nat.sub_zero, List.take_of_length_le (by omega)]
        rw [ecs] at a1
        refine ⟨ds, a1, .struct hu (by rw [← a1.len]; exact hlen) (fun i f hi => ?_)⟩
        have := (hd f (List.mem_of_getElem? (by simpa using hi))).2
        simpa using this
      · cases ht
    · cases hd

theorem open_sl {t e : TypeId} {v : Value} {d : DataW H} {ps : List MemPlace} {r : Reach} {b0 : Nat} (hu : P.underlying t = some (.slice e)) (hd : dataT P 32 t = true) (hval : Value.okWide P w r b0 t v)
    (h : DataW.Trod enc P w 0 sp held t v d ps) : ∃ x, RelV (snap w) noPhi v (.d x) ∧ WFD P t [x] := by
  obtain ⟨a, len, cap, rfl⟩ := WideShapes.okWide_slice hu hval
  obtain ⟨fuel, hf⟩ := h
  obtain ⟨ds, h1, h2⟩ := trod_wfd 32 fuel t _ _ hf hd
  simp only [Value.cells] at h1
  cases h1 with
  | cons hr ht => cases ht; exact ⟨_, .d hr, h2⟩
theorem keep_arg {t : TypeId} {W W' : World} {v : Value} {d : DataW H} {ps : List MemPlace} (hl : laidOutB P = true) (hr : P.readableRec t = true) (hrow : t < P.types.size)
    (h : DataW.Trod enc P W 0 (fun _ => true) true t v d ps) (hb : Below W.heap.size W W') : DataW.Trod enc P W' 0 (fun b => decide (b < W.heap.size)) true t v d ps :=
  Below.trod hl hr hrow h hb (by obtain ⟨fuel, hf⟩ := h; exact DataW.trod_lt fuel _ _ _ hf)
end

/-- Data as a typed value. -/
def DecT {α : Type} (P : Program) (t : TypeId) (enc : α → List D) (ok : α → Prop) : Prop := ∀ ds, WFD P t ds → ∃ x, ds = enc x ∧ ok x
section
variable {P : Program} {t e : TypeId}
theorem decInt {k : IntKind} (hu : P.underlying t = some (.int k)) : DecT P t (eInt k) (fun n => k.min ≤ n ∧ n ≤ k.max) := by
  intro ds h
  cases h with
  | int hu' hw => rw [hu] at hu'; cases hu'; exact ⟨_, rfl, lit_wf hw⟩
  | bool hu' => rw [hu] at hu'; cases hu'
  | str hu' => rw [hu] at hu'; cases hu'
  | list hu' => rw [hu] at hu'; cases hu'
  | struct hu' => rw [hu] at hu'; cases hu'
theorem decStr (hu : P.underlying t = some .string) : DecT P t eStr (fun s => s.size ≤ maxLen) := by
  intro ds h
  cases h with
  | int hu' hw => rw [hu] at hu'; cases hu'
  | bool hu' => rw [hu] at hu'; cases hu'
  | str hu' hs => exact ⟨_, rfl, hs⟩
  | list hu' => rw [hu] at hu'; cases hu'
  | struct hu' => rw [hu] at hu'; cases hu'
theorem chunks {α : Type} {enc : α → List D} {ok : α → Prop} {sz : Nat} (h : DecT P e enc ok) : ∀ (n : Nat) (xs : List D), xs.length = n * sz → (∀ i, i < n → WFD P e ((xs.drop (i * sz)).take sz)) → ∃ l : List α, l.length = n ∧ xs = encL enc l ∧ ∀ x ∈ l, ok x
  | 0, xs, hl, _ => ⟨[], rfl, (List.length_eq_zero_iff.1 (by simpa using hl) : xs = []), by simp⟩
  | n + 1, xs, hl, hw => by
    obtain ⟨x, hx, hok⟩ := h _ (hw 0 (by omega))
    simp only [Nat.zero_mul, List.drop_zero] at hx
    obtain ⟨l, h1, h2, h3⟩ := chunks (sz := sz) h n (xs.drop sz) (by rw [List.length_drop, hl, Nat.succ_mul]; omega) (fun i hi => by
      have := hw (i + 1) (by omega)
      rw [List.drop_drop, show sz + i * sz = (i + 1) * sz by rw [Nat.succ_mul]; omega]
      exact this)
    refine ⟨x :: l, by simp [h1], ?_, fun y hy => ?_⟩
    · unfold encL at *
      rw [List.flatMap_cons, ← hx, ← h2, List.take_append_drop]
    · rcases List.mem_cons.1 hy with rfl | hy
      · exact hok
      · exact h3 y hy
theorem decList {α : Type} {enc : α → List D} {ok : α → Prop} (hu : P.underlying t = some (.slice e)) (h : DecT P e enc ok) : DecT P t (eList enc) (fun l => l.length ≤ maxLen ∧ ∀ x ∈ l, ok x) := by
  intro ds hd
  cases hd with
  | int hu' hw => rw [hu] at hu'; cases hu'
  | bool hu' => rw [hu] at hu'; cases hu'
  | str hu' hs => rw [hu] at hu'; cases hu'
  | list hu' hn hl hw =>
    rw [hu] at hu'; cases hu'
    obtain ⟨l, h1, h2, h3⟩ := chunks h _ _ hl hw
    subst h1; subst h2
    exact ⟨l, rfl, hn, h3⟩
  | struct hu' => rw [hu] at hu'; cases hu'
theorem WFD.fieldAt {fs : Array Field} {ds : List D} (h : WFD P t ds) (hu : P.underlying t = some (.struct fs)) (i t' off sz : Nat)
    (hq : (match fs[i]? with | some f => Nat.beq f.type t' && Nat.beq f.offset off && Nat.beq (P.cellsOf f.type) sz | none => false) = true) : WFD P t' ((ds.drop off).take sz) := by
  split at hq
  · rename_i f hf
    simp only [Bool.and_eq_true] at hq
    obtain ⟨⟨e1, e2⟩, e3⟩ := hq
    have e1 := Nat.eq_of_beq_eq_true e1
    have e2 := Nat.eq_of_beq_eq_true e2
    have e3 := Nat.eq_of_beq_eq_true e3
    cases h with
    | int hu' hw => rw [hu] at hu'; cases hu'
    | bool hu' => rw [hu] at hu'; cases hu'
    | str hu' hs => rw [hu] at hu'; cases hu'
    | list hu' => rw [hu] at hu'; cases hu'
    | struct hu' hl hw =>
      rw [hu] at hu'; cases hu'
      have := hw i f hf
      rw [e2, e3] at this
      rw [← e1]; exact this
  · cases hq
theorem WFD.len {fs : Array Field} {ds : List D} (h : WFD P t ds) (hu : P.underlying t = some (.struct fs)) (n : Nat) (hn : Nat.beq (P.cellsOf t) n = true) : ds.length = n := by
  have hn := Nat.eq_of_beq_eq_true hn
  cases h with
  | int hu' hw => rw [hu] at hu'; cases hu'
  | bool hu' => rw [hu] at hu'; cases hu'
  | str hu' hs => rw [hu] at hu'; cases hu'
  | list hu' => rw [hu] at hu'; cases hu'
  | struct hu' hl hw => exact hl.trans hn
end
end Go.Ab
