/- Calls of data, run through: what a function answers is reckoned, not printed. -/
import Derived.Test.YtjdkbdiagjlaiaaGreatAbStr
import Derived.Test.YtjdkbdiagjlaiaaGreatAbNil
namespace Go.Ab
open Go.RowKit

/-! ### what an operation is told, and what it asks -/
def u8eq : List UInt8 → List UInt8 → Bool
  | [], [] => true
  | a :: l, b :: m => Nat.beq a.toNat b.toNat && u8eq l m
  | _, _ => false
theorem u8eq_iff : ∀ {l m : List UInt8}, u8eq l m = true ↔ l = m
  | [], [] => by simp [u8eq]
  | [], b :: m => by simp [u8eq]
  | a :: l, [] => by simp [u8eq]
  | a :: l, b :: m => by
    simp only [u8eq, Bool.and_eq_true, u8eq_iff, List.cons.injEq]
    constructor
    · rintro ⟨h, rfl⟩; exact ⟨UInt8.toNat_inj.1 (Nat.eq_of_beq_eq_true h), rfl⟩
    · rintro ⟨rfl, rfl⟩; exact ⟨Nat.beq_refl _, rfl⟩
def sEq (a b : ByteArray) : Bool := u8eq a.data.toList b.data.toList
theorem sEq_ok (a b : ByteArray) : (a.toList == b.toList) = sEq a b := by
  rw [eqS]
  by_cases h : a = b
  · subst h; rw [decide_eq_true rfl]; exact (u8eq_iff.2 rfl).symm
  · rw [decide_eq_false h]
    cases hq : sEq a b with
    | false => rfl
    | true => exact absurd (data_inj (u8eq_iff.1 hq)) h

def numsOf : List D → Option (List Int)
  | [] => some []
  | .int .u8 n :: l => (numsOf l).map (n :: ·)
  | _ :: _ => none
theorem numsOf_ok : ∀ {xs : List D} {l : List Int}, numsOf xs = some l → xs = l.map (D.int .u8)
  | [], l, h => by simp [numsOf] at h; subst h; rfl
  | x :: xs, l, h => by
    unfold numsOf at h
    split at h
    · rename_i e; cases e
    · rename_i n m e
      cases e
      obtain ⟨k, hk, rfl⟩ := Option.map_eq_some_iff.1 h
      rw [numsOf_ok hk]; rfl
    · cases h

def cellOrc (size : Nat) (ag : Bool) (cs : List D) (off : Nat) : Orc := if ag then .cells ((cs.drop off).take size) else match cs[off]? with | some y => .val y | none => .no
def cellChk (size : Nat) (ag : Bool) (cs : List D) (off : Nat) : Bool := if ag then Nat.ble (off + size) cs.length else true
def loadOrc (P : Program) (T : TypeId) (x : PV) (σ : List AObj) : Orc :=
  match P.underlying T, P.info? T, x with
  | some desc, some info, .ptr i off =>
    match σ[i]? with
    | some (.dblk _ cs) | some (.row _ _ cs) => cellOrc info.size (isAggD desc) cs off
    | _ => .no
  | _, _, _ => .no
def loadChk (P : Program) (T : TypeId) (x : PV) (σ : List AObj) : Bool :=
  match P.underlying T, P.info? T, x with
  | some desc, some info, .ptr i off =>
    match σ[i]? with
    | some (.dblk _ cs) | some (.row _ _ cs) => cellChk info.size (isAggD desc) cs off
    | _ => true
  | _, _, _ => true
theorem dLoad_obl {size off : Nat} {ag : Bool} {cs : List D} {σ : List AObj} {out : Out} (h : dLoad size ag cs off σ (cellOrc size ag cs off) = some out) (hc : cellChk size ag cs off = true) : ∀ p ∈ out.obl, p := by
  cases ag with
  | true =>
    simp only [cellOrc, cellChk, if_true] at h hc
    unfold dLoad at h
    simp only [if_true, Option.some.injEq] at h; subst h
    exact allc ⟨Nat.le_of_ble_eq_true hc, rfl⟩ all0
  | false =>
    simp only [cellOrc, Bool.false_eq_true, if_false] at h
    cases hq : cs[off]? with
    | none => rw [hq] at h; simp [dLoad] at h
    | some y =>
      rw [hq] at h
      simp only [dLoad, Bool.false_eq_true, if_false, Option.some.injEq] at h; subst h
      exact allc hq all0
theorem load_obl {P : Program} {T : TypeId} {x : PV} {σ : List AObj} {out : Out} (h : aLoad P T x σ (loadOrc P T x σ) = some out) (hc : loadChk P T x σ = true) : ∀ p ∈ out.obl, p := by
  unfold aLoad at h
  split at h
  · rename_i desc info i off hu hi
    simp only [loadOrc, loadChk, hu, hi] at h hc
    split at h
    · repeat' split at h
      all_goals first | (cases h; done) | (cases h; exact all0)
    · rename_i t cs ho
      simp only [ho] at h hc
      exact dLoad_obl h hc
    · rename_i e sz cs ho
      simp only [ho] at h hc
      split at h
      · cases h
      · exact dLoad_obl h hc
    · cases h
  · split at h
    · split at h
      · cases h; exact all0
      · cases h
    · split at h
      · cases h; exact all0
      · cases h
  · cases h

def fitChk (v : PV) (cs : List D) (off : Nat) : Bool := match v.cells with | some vs => Nat.ble (off + vs.length) cs.length | none => true
def storeChk (P : Program) (T : TypeId) (x v : PV) (σ : List AObj) : Bool :=
  match P.info? T, x with
  | some info, .ptr i off =>
    match σ[i]? with
    | some (.dblk _ cs) => (match v with | .dagg ds => Nat.beq ds.length info.size && Nat.beq cs.length info.size | _ => fitChk v cs off)
    | some (.row _ _ cs) => fitChk v cs off
    | _ => true
  | _, _ => true
theorem fit_ok {v : PV} {cs : List D} {off : Nat} {vs : List PV} {ds : List D} (hc : fitChk v cs off = true) (hv : v.cells = some vs) (hd : toDs vs = some ds) : off + ds.length ≤ cs.length := by
  rw [fitChk, hv] at hc
  rw [(toDs_get hd).1]; exact Nat.le_of_ble_eq_true hc
theorem store_obl {P : Program} {T : TypeId} {x v : PV} {σ : List AObj} {out : Out} (h : aStore P T x v σ = some out) (hc : storeChk P T x v σ = true) : ∀ p ∈ out.obl, p := by
  unfold aStore at h
  split at h
  · rename_i info i off hi
    simp only [storeChk, hi] at hc
    split at h
    · rename_i t cs ds ho
      simp only [ho, Bool.and_eq_true] at hc
      split at h
      · simp only [Option.some.injEq] at h; subst h
        exact allc (Nat.eq_of_beq_eq_true hc.1) (allc (Nat.eq_of_beq_eq_true hc.2) all0)
      · cases h
    · rename_i v x0 v0 o ho hne
      rw [ho] at hc
      split at h
      · rename_i vs hv
        split at h
        · split at h
          · split at h
            · cases h; exact all0
            · cases h
          · rename_i t cs
            split at h
            · rename_i ds hds
              cases h
              have hc' : fitChk v cs off = true := by
                cases v with
                | dagg ds => exact (hne _ _ _ rfl rfl).elim
                | _ => exact hc
              exact allc (fit_ok hc' hv hds) all0
            · cases h
          · split at h
            · rename_i ds hds
              cases h
              exact allc (fit_ok hc hv hds) all0
            · cases h
          · cases h
        · cases h
      · cases h
    · cases h
  · cases h

def within (i : Int) (n : Nat) : Bool := decide (0 ≤ i) && decide (i < (n : Int))
theorem within_ok {i : Int} {n : Nat} (h : within i n = true) : Within i n := by
  simp only [within, Bool.and_eq_true, decide_eq_true_eq] at h; exact h
def ixaOrc (P : Program) (T : TypeId) (x ix : PV) : Orc :=
  match P.underlying T, ix with
  | some (.slice e), .d (.int _ i) =>
    match P.info? e, x with
    | some info, .d (.list _ _ xs) => .cells ((xs.drop (i.toNat * info.size)).take info.size)
    | _, _ => .no
  | _, _ => .no
def ixaChk (P : Program) (T : TypeId) (x ix : PV) : Bool :=
  match P.underlying T, ix with
  | some (.slice _), .d (.int _ i) =>
    (match x with
    | .d (.list _ n _) => within i n
    | .row _ n => within i n
    | .view _ _ n => within i n
    | _ => true)
  | some (.array len _), .d (.int _ i) => within i len
  | _, _ => true
theorem ixa_obl {P : Program} {T : TypeId} {x ix : PV} {σ : List AObj} {out : Out} (h : aIndexAddr P T x ix σ (ixaOrc P T x ix) = some out) (hc : ixaChk P T x ix = true) : ∀ p ∈ out.obl, p := by
  unfold aIndexAddr at h
  split at h
  · rename_i e k i hu
    simp only [ixaOrc, ixaChk, hu] at h hc
    cases hi : P.info? e with
    | none => rw [hi] at h; simp at h
    | some info =>
      rw [hi] at h
      cases x with
      | d y =>
        cases y with
        | list t n xs =>
          simp only [Option.some.injEq] at h; subst h
          have := within_ok hc
          exact allc ⟨this.1, this.2, rfl⟩ all0
        | _ => simp at h
      | row r n => simp only [Option.some.injEq] at h; subst h; exact allc (within_ok hc) all0
      | view r o n => simp only [Option.some.injEq] at h; subst h; exact allc (within_ok hc) all0
      | _ => simp at h
  · rename_i len e k i hu
    simp only [ixaChk, hu] at hc
    split at h
    · cases h; exact allc (within_ok hc) all0
    · cases h
  · cases h

def idxOrc (P : Program) (T : TypeId) (x ix : PV) : Orc :=
  match P.underlying T, x, ix with
  | some .string, .d (.str s), .d (.int _ i) => (match sAt s i with | some b => .val (.int .u8 b) | none => .no)
  | some (.array _ _), .dagg cs, .d (.int _ i) => (match cs[i.toNat]? with | some y => .val y | none => .no)
  | _, _, _ => .no
def idxChk (P : Program) (T : TypeId) (x ix : PV) : Bool :=
  match P.underlying T, x, ix with
  | some (.array len _), .dagg _, .d (.int _ i) => within i len
  | some (.array len e), .agg cs, .d (.int _ i) => within i len && (match P.info? e with | some info => Nat.ble (i.toNat * info.size + info.size) cs.length | none => false)
  | _, _, _ => true
theorem idx_obl {P : Program} {T : TypeId} {x ix : PV} {σ : List AObj} {out : Out} (h : aIndex P T x ix σ (idxOrc P T x ix) = some out) (hc : idxChk P T x ix = true) : ∀ p ∈ out.obl, p := by
  unfold aIndex at h
  split at h
  · rename_i s k i hu
    simp only [idxOrc, hu] at h
    cases hs : sAt s i with
    | none => rw [hs] at h; simp at h
    | some b => rw [hs] at h; simp only [Option.some.injEq] at h; subst h; exact allc trivial all0
  · rename_i len e cs k i hu
    simp only [idxOrc, idxChk, hu] at h hc
    cases hs : cs[i.toNat]? with
    | none => rw [hs] at h; split at h <;> first | (rename_i hq; cases hq; done) | (cases h; done)
    | some y =>
      rw [hs] at h
      split at h
      · rename_i hq
        cases hq
        split at h
        · cases h
        · cases h; exact allc (within_ok hc) (allc rfl all0)
      · rename_i hq; cases hq
      · cases h
  · rename_i len e cs k i hu
    simp only [idxOrc, idxChk, hu, Bool.and_eq_true] at h hc
    cases hi : P.info? e with
    | none => rw [hi] at h; simp at h
    | some info =>
      rw [hi] at h
      have hc2 := hc.2
      rw [hi] at hc2
      have hc2 := Nat.le_of_ble_eq_true hc2
      split at h
      · split at h
        · cases h; exact allc (within_ok hc.1) (allc (by rename_i e1 _ _; cases e1; exact hc2) all0)
        · split at h
          · cases h; exact allc (within_ok hc.1) all0
          · cases h
      · cases h
  · cases h

def cutChk (n : Int) (l h : Int) (m : Option Int) : Bool := decide (0 ≤ l) && decide (l ≤ h) && decide (h ≤ n) && (match m with | none => true | some m => decide (m = h))
theorem cut_obl {sz n : Nat} {xs : List D} {l h : Int} {m : Option Int} (hc : cutChk n l h m = true) : ∀ p ∈ (cutD sz n xs l h m).2, p := by
  simp only [cutChk, Bool.and_eq_true, decide_eq_true_eq] at hc
  obtain ⟨⟨⟨h1, h2⟩, h3⟩, h4⟩ := hc
  cases m with
  | none => exact allc ⟨h1, h2, h3⟩ all0
  | some m => simp only [decide_eq_true_eq] at h4; exact allc ⟨h1, h2, h3, h4⟩ all0
def slcChk (x : PV) (lo hi mx : Option PV) : Bool :=
  match x with
  | .d (.str s) => (match optInt lo 0, optInt hi s.size with | some l, some h => cutChk s.size l h none | _, _ => false)
  | .d (.list _ n _) => (match optInt lo 0, optInt hi n, optInt mx 0 with | some l, some h, some m => cutChk n l h (if mx.isSome then some m else none) | _, _, _ => false)
  | .row _ n => (match optInt lo 0, optInt hi n, optInt mx 0 with | some l, some h, some m => cutChk n l h (if mx.isSome then some m else none) | _, _, _ => false)
  | _ => true
theorem slc_obl {P : Program} {T : TypeId} {x : PV} {lo hi mx : Option PV} {σ : List AObj} {out : Out} (h : aSlice P T x lo hi mx σ = some out) (hc : slcChk x lo hi mx = true) : ∀ p ∈ out.obl, p := by
  unfold aSlice at h
  split at h
  · rename_i s hu
    split at h
    · rename_i l hh e1 e2
      simp only [slcChk, e1, e2] at hc
      cases h
      exact cut_obl (sz := 0) (xs := []) hc
    · cases h
  · rename_i e t n xs hu
    split at h
    · rename_i info l hh b m hi e1 e2 e3 e4
      simp only [slcChk, e2, e3, e4] at hc
      split at h
      · cases h
      · cases h
        exact cut_obl hc
    · cases h
  · rename_i e i n hu
    split at h
    · split at h
      · rename_i info l hh b m hi e1 e2 e3 e4
        simp only [slcChk, e2, e3, e4] at hc
        split at h
        · cases h
        · cases h
          exact cut_obl hc
      · cases h
    · cases h
  · cases h

def srcChk (σ : List AObj) (size : Nat) : PV → Bool
  | .d (.list _ n xs) => Nat.beq xs.length (n * size)
  | .row i n => (match σ[i]? with | some (.row _ _ cs) => Nat.beq cs.length (n * size) | _ => false)
  | _ => true
theorem src_obl {σ : List AObj} {size m : Nat} {x : PV} {ys : List D} {obl : List Prop} (h : srcD σ size x = some (m, ys, obl)) (hc : srcChk σ size x = true) : ∀ p ∈ obl, p := by
  unfold srcD at h
  split at h
  · cases h; exact allc (Nat.eq_of_beq_eq_true hc) all0
  · split at h
    · cases h; exact all0
    · cases h
  · split at h
    · rename_i i n e sz cs ho
      simp only [srcChk, ho] at hc
      cases h; exact allc (Nat.eq_of_beq_eq_true hc) all0
    · cases h
  · cases h
def appChk (P : Program) (t : TypeId) (s x : PV) (σ : List AObj) : Bool :=
  match P.underlying t with
  | some (.slice e) =>
    match P.info? e with
    | some info =>
      match srcD σ info.size x with
      | some (m, _, _) =>
        srcChk σ info.size x && (match s with
        | .row i n => (match σ[i]? with | some (.row _ _ cs) => Nat.beq cs.length (n * info.size) && Nat.ble (n + m) 281474976710656 && Nat.ble ((n + m) * info.bytes) 140737488355328 | _ => false)
        | .d (.list _ n xs) => Nat.beq xs.length (n * info.size) && (Nat.blt 0 m || Nat.beq n 0) && Nat.ble (n + m) 281474976710656 && Nat.ble ((n + m) * info.bytes) 140737488355328
        | _ => false)
      | none => false
    | none => false
  | _ => false
theorem app_obl {P : Program} {t u : TypeId} {s x : PV} {σ : List AObj} {out : Out} (h : aAppend P t u s x σ = some out) (hc : appChk P t s x σ = true) : ∀ p ∈ out.obl, p := by
  unfold aAppend at h
  split at h
  · rename_i e hu
    simp only [appChk, hu] at hc
    split at h
    · rename_i info hi
      simp only [hi] at hc
      split at h
      · rename_i z m ys obl hz hs
        simp only [hs, Bool.and_eq_true] at hc
        have ho := src_obl hs hc.1
        split at h
        · split at h
          · rename_i i n
            split at h
            · rename_i e' sz cs hi'
              have hc2 := hc.2
              simp only [hi', Bool.and_eq_true] at hc2
              split at h
              · cases h
                exact allc ⟨Nat.eq_of_beq_eq_true hc2.1.1, Nat.le_of_ble_eq_true hc2.1.2, Nat.le_of_ble_eq_true hc2.2⟩ ho
              · cases h
            · cases h
          · rename_i n xs
            have hc2 := hc.2
            simp only [Bool.and_eq_true, Bool.or_eq_true] at hc2
            cases h
            refine allc ⟨Nat.eq_of_beq_eq_true hc2.1.1.1, ?_, Nat.le_of_ble_eq_true hc2.1.2, Nat.le_of_ble_eq_true hc2.2⟩ ho
            rcases hc2.1.1.2 with h1 | h1
            · exact .inl (Nat.le_of_ble_eq_true h1)
            · exact .inr (Nat.eq_of_beq_eq_true h1)
          · cases h
        · cases h
      · cases h
    · cases h
  · cases h

def mkChk (P : Program) (T : TypeId) (l c : PV) : Bool :=
  match P.underlying T, l, c with
  | some (.slice e), .d (.int _ l), .d (.int _ c) => (match P.info? e with | some info => decide (0 ≤ l) && decide (l ≤ c) && decide (c ≤ 281474976710656) && decide (info.bytes * c ≤ 281474976710656) | none => false)
  | _, _, _ => false
theorem mk_obl {P : Program} {T : TypeId} {l c : PV} {σ : List AObj} {out : Out} (h : aMakeSlice P T l c σ = some out) (hc : mkChk P T l c = true) : ∀ p ∈ out.obl, p := by
  unfold aMakeSlice at h
  split at h
  · rename_i e k l k' c hu
    simp only [mkChk, hu] at hc
    split at h
    · rename_i info hi
      simp only [hi, Bool.and_eq_true, decide_eq_true_eq] at hc
      obtain ⟨⟨⟨h1, h2⟩, h3⟩, h4⟩ := hc
      repeat' split at h
      all_goals first | (cases h; done) | (cases h; exact allc ⟨h1, h2, h3, h4⟩ all0)
    · cases h
  · cases h

def cnvOrc (x : PV) (σ : List AObj) : Orc :=
  match x with
  | .row i _ => (match σ[i]? with | some (.row _ _ cs) => (match numsOf cs with | some l => .nums l | none => .no) | _ => .no)
  | .d (.list _ _ xs) => (match numsOf xs with | some l => .nums l | none => .no)
  | _ => .no
def cnvChk (x : PV) (σ : List AObj) : Bool :=
  match x with
  | .row i n => (match σ[i]? with | some (.row _ _ cs) => (match numsOf cs with | some l => Nat.beq l.length n | none => false) | _ => false)
  | .d (.list _ n xs) => (match numsOf xs with | some l => Nat.beq l.length n | none => false)
  | .d (.str b) => Nat.ble b.size 281474976710656
  | _ => true
theorem cnv_obl {P : Program} {s d : TypeId} {x : PV} {σ : List AObj} {out : Out} (h : aConvert P s d x σ (cnvOrc x σ) = some out) (hc : cnvChk x σ = true) : ∀ p ∈ out.obl, p := by
  unfold aConvert at h
  split at h
  · cases h; exact all0
  · rename_i e b hu1 hu2
    split at h
    · split at h
      · cases h; exact allc (Nat.le_of_ble_eq_true hc) all0
      · cases h
    · cases h
  · rename_i e i n hu1 hu2
    split at h
    · rename_i cs l _ ho hq
      simp only [cnvOrc, cnvChk, ho] at hq hc
      cases hn : numsOf cs with
      | none => rw [hn] at hq; cases hq
      | some l' =>
        rw [hn] at hq hc; cases hq
        cases h; exact allc (numsOf_ok hn) (allc (Nat.eq_of_beq_eq_true hc) all0)
    · cases h
  · rename_i e t n xs hu1 hu2
    split at h
    · rename_i l _ hq
      simp only [cnvOrc, cnvChk] at hq hc
      cases hn : numsOf xs with
      | none => rw [hn] at hq; cases hq
      | some l' =>
        rw [hn] at hq hc; cases hq
        cases h; exact allc (numsOf_ok hn) (allc (Nat.eq_of_beq_eq_true hc) all0)
    · cases h
  · cases h; exact all0
  · cases h

def binOrc (op : BinOp) (x y : PV) : Orc :=
  match x, y with
  | .d (.str a), .d (.str b) => (match op with | .eql => .val (.bool (sEq a b)) | .neq => .val (.bool !(sEq a b)) | _ => .no)
  | _, _ => .no
def binChk (op : BinOp) (x y : PV) : Bool :=
  match x, y with
  | .d (.int _ _), .d (.int _ b) => (match op with | .quo | .rem => !decide (b = 0) | .shl | .shr => decide (0 ≤ b) | _ => true)
  | .d (.str a), .d (.str b) => Nat.ble (a.size + b.size) 9223372036854775807
  | .dagg _, _ => false
  | _, _ => true
theorem bin_obl {P : Program} {op : BinOp} {T : TypeId} {x y : PV} {σ : List AObj} {out : Out} (h : aBinO P op T x y σ (binOrc op x y) = some out) (hc : binChk op x y = true) : ∀ p ∈ out.obl, p := by
  unfold aBinO at h
  have hx : ∀ r, aEqX P op T x y = some r → ∀ p ∈ r.2, p := by
    intro r hr
    unfold aEqX at hr
    split at hr
    · rename_i r' he
      cases hr
      unfold aEq at he
      repeat' split at he
      all_goals first | (cases he; done) | (cases he; exact all0)
    · split at hr
      · rename_i r' he
        cases hr
        unfold aEqS at he
        repeat' split at he
        all_goals first | (cases he; done) | (cases he; exact all0)
      · unfold aEqA at hr
        split at hr
        · cases hc
        · cases hr
  split at h
  · rename_i r hr
    have ho : ∀ p ∈ r.2, p := by
      split at hr
      · rename_i r' hb
        cases hr
        unfold aBin at hb
        split at hb
        · rename_i k a k' b
          split at hb
          · obtain ⟨q, hq, rfl⟩ := Option.map_eq_some_iff.1 hb
            simp only [shiftI, Option.some.injEq] at hq; subst hq
            exact allc (by simpa [binChk] using hc) all0
          · obtain ⟨q, hq, rfl⟩ := Option.map_eq_some_iff.1 hb
            simp only [shiftI, Option.some.injEq] at hq; subst hq
            exact allc (by simpa [binChk] using hc) all0
          · split at hb
            · obtain ⟨q, hq, rfl⟩ := Option.map_eq_some_iff.1 hb
              unfold binI at hq
              split at hq
              all_goals first | (cases hq; done) | (cases hq; exact all0) | (cases hq; exact allc (by simpa [binChk] using hc) all0)
            · cases hb
        · rename_i a b
          obtain ⟨q, hq, rfl⟩ := Option.map_eq_some_iff.1 hb
          unfold binS at hq
          split at hq
          all_goals first | (cases hq; done) | (cases hq; exact all0) | (cases hq; exact allc (Nat.le_of_ble_eq_true hc) all0)
        · cases hb
      · exact hx r hr
    split at h
    · rename_i z y' hz hy
      cases h
      refine allc ?_ ho
      unfold binOrc at hz
      split at hz
      · rename_i a b
        split at hr
        · rename_i r' hb
          cases hr
          split at hz
          · cases hz
            simp only [aBin, binS, Option.map_some, Option.some.injEq] at hb; subst hb
            cases hy; rw [sEq_ok]
          · cases hz
            simp only [aBin, binS, Option.map_some, Option.some.injEq] at hb; subst hb
            cases hy; rw [sEq_ok]
          · cases hz
        · rename_i hb
          split at hz
          · simp [aBin, binS] at hb
          · simp [aBin, binS] at hb
          · cases hz
      · cases hz
    · cases h; exact ho
    · cases h
  · cases h
end Go.Ab
