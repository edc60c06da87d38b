/- Whether values, objects are the same: by reckoning. -/
import Derived.Test.YtjdkbdiagjlaiaaGreatAbCon
namespace Go.Ab

def intEq : Int → Int → Bool
  | .ofNat a, .ofNat b => Nat.beq a b
  | .negSucc a, .negSucc b => Nat.beq a b
  | _, _ => false
theorem intEq_ok : ∀ {a b : Int}, intEq a b = true → a = b
  | .ofNat a, .ofNat b, h => congrArg Int.ofNat (Nat.eq_of_beq_eq_true h)
  | .negSucc a, .negSucc b, h => congrArg Int.negSucc (Nat.eq_of_beq_eq_true h)
  | .ofNat _, .negSucc _, h => by cases h
  | .negSucc _, .ofNat _, h => by cases h
def boolEq : Bool → Bool → Bool
  | true, true => true
  | false, false => true
  | _, _ => false
theorem boolEq_ok : ∀ {a b : Bool}, boolEq a b = true → a = b
  | true, true, _ => rfl
  | false, false, _ => rfl
  | true, false, h => by cases h
  | false, true, h => by cases h
mutual
def D.eqb : D → D → Bool
  | .int k n, .int k' n' => decide (k = k') && intEq n n'
  | .bool a, .bool b => boolEq a b
  | .str a, .str b => u8eq a.data.toList b.data.toList
  | .list t n xs, .list t' n' ys => boolEq t t' && (Nat.beq n n' && D.eqbs xs ys)
  | .nilP, .nilP => true
  | .nilF, .nilF => true
  | _, _ => false
def D.eqbs : List D → List D → Bool
  | [], [] => true
  | x :: l, y :: m => D.eqb x y && D.eqbs l m
  | _, _ => false
end
mutual
theorem D.eqb_ok : ∀ {x y : D}, D.eqb x y = true → x = y
  | .int k n, y, h => by
    cases y <;> simp only [D.eqb, Bool.and_eq_true, decide_eq_true_eq, Bool.false_eq_true] at h
    obtain ⟨rfl, h⟩ := h; rw [intEq_ok h]
  | .bool a, y, h => by
    cases y <;> simp only [D.eqb, Bool.false_eq_true] at h
    rw [boolEq_ok h]
  | .str a, y, h => by
    cases y <;> simp only [D.eqb, Bool.false_eq_true] at h
    rw [data_inj (u8eq_iff.1 h)]
  | .list t n xs, y, h => by
    cases y <;> simp only [D.eqb, Bool.and_eq_true, Bool.false_eq_true] at h
    obtain ⟨h1, h2, h3⟩ := h
    rw [boolEq_ok h1, Nat.eq_of_beq_eq_true h2, D.eqbs_ok h3]
  | .nilP, y, h => by cases y <;> simp only [D.eqb, Bool.false_eq_true] at h; rfl
  | .nilF, y, h => by cases y <;> simp only [D.eqb, Bool.false_eq_true] at h; rfl
theorem D.eqbs_ok : ∀ {l m : List D}, D.eqbs l m = true → l = m
  | [], m, h => by cases m <;> simp only [D.eqbs, Bool.false_eq_true] at h; rfl
  | x :: l, m, h => by
    cases m with
    | nil => simp only [D.eqbs, Bool.false_eq_true] at h
    | cons y m =>
      simp only [D.eqbs, Bool.and_eq_true] at h
      rw [D.eqb_ok h.1, D.eqbs_ok h.2]
end

def fnEq : Fn → Fn → Bool
  | .func a, .func b => Nat.beq a b
  | _, _ => false
theorem fnEq_ok {a b : Fn} (h : fnEq a b = true) : a = b := by
  unfold fnEq at h
  split at h
  · rw [Nat.eq_of_beq_eq_true h]
  · cases h
mutual
def PV.eqb : PV → PV → Bool
  | .d x, .d y => D.eqb x y
  | .ptr i o, .ptr j q => Nat.beq i j && Nat.beq o q
  | .row i n, .row j m => Nat.beq i j && Nat.beq n m
  | .mapv i, .mapv j => Nat.beq i j
  | .pp cs, .pp ds => D.eqbs cs ds
  | .fn f a b, .fn g a2 b2 => fnEq f g && (PV.eqbs a a2 && PV.eqbs b b2)
  | .agg cs, .agg ds => PV.eqbs cs ds
  | .dagg cs, .dagg ds => D.eqbs cs ds
  | .tup cs, .tup ds => PV.eqbs cs ds
  | .undef, .undef => true
  | _, _ => false
def PV.eqbs : List PV → List PV → Bool
  | [], [] => true
  | x :: l, y :: m => PV.eqb x y && PV.eqbs l m
  | _, _ => false
end
mutual
theorem PV.eqb_ok : ∀ {x y : PV}, PV.eqb x y = true → x = y
  | .d x, y, h => by
    cases y <;> simp only [PV.eqb, Bool.false_eq_true] at h
    rw [D.eqb_ok h]
  | .ptr i o, y, h => by
    cases y <;> simp only [PV.eqb, Bool.and_eq_true, Bool.false_eq_true] at h
    rw [Nat.eq_of_beq_eq_true h.1, Nat.eq_of_beq_eq_true h.2]
  | .row i o, y, h => by
    cases y <;> simp only [PV.eqb, Bool.and_eq_true, Bool.false_eq_true] at h
    rw [Nat.eq_of_beq_eq_true h.1, Nat.eq_of_beq_eq_true h.2]
  | .view _ _ _, y, h => by cases y <;> simp only [PV.eqb, Bool.false_eq_true] at h
  | .yld _, y, h => by cases y <;> simp only [PV.eqb, Bool.false_eq_true] at h
  | .mapv i, y, h => by
    cases y <;> simp only [PV.eqb, Bool.false_eq_true] at h
    rw [Nat.eq_of_beq_eq_true h]
  | .pp cs, y, h => by
    cases y <;> simp only [PV.eqb, Bool.false_eq_true] at h
    rw [D.eqbs_ok h]
  | .fn f a b, y, h => by
    cases y <;> simp only [PV.eqb, Bool.and_eq_true, Bool.false_eq_true] at h
    rw [fnEq_ok h.1, PV.eqbs_ok h.2.1, PV.eqbs_ok h.2.2]
  | .agg cs, y, h => by
    cases y <;> simp only [PV.eqb, Bool.false_eq_true] at h
    rw [PV.eqbs_ok h]
  | .dagg cs, y, h => by
    cases y <;> simp only [PV.eqb, Bool.false_eq_true] at h
    rw [D.eqbs_ok h]
  | .tup cs, y, h => by
    cases y <;> simp only [PV.eqb, Bool.false_eq_true] at h
    rw [PV.eqbs_ok h]
  | .undef, y, h => by cases y <;> simp only [PV.eqb, Bool.false_eq_true] at h; rfl
theorem PV.eqbs_ok : ∀ {l m : List PV}, PV.eqbs l m = true → l = m
  | [], m, h => by cases m <;> simp only [PV.eqbs, Bool.false_eq_true] at h; rfl
  | x :: l, m, h => by
    cases m with
    | nil => simp only [PV.eqbs, Bool.false_eq_true] at h
    | cons y m =>
      simp only [PV.eqbs, Bool.and_eq_true] at h
      rw [PV.eqb_ok h.1, PV.eqbs_ok h.2]
end
def AObj.eqb : AObj → AObj → Bool
  | .blk t cs, .blk u ds => Nat.beq t u && PV.eqbs cs ds
  | .dblk t cs, .dblk u ds => Nat.beq t u && D.eqbs cs ds
  | .row t n cs, .row u m ds => Nat.beq t u && (Nat.beq n m && D.eqbs cs ds)
  | .mp ks vs, .mp ls ws => D.eqbs ks ls && PV.eqbs vs ws
  | .dead, .dead => true
  | _, _ => false
theorem AObj.eqb_ok : ∀ {x y : AObj}, AObj.eqb x y = true → x = y := by
  intro x y h
  unfold AObj.eqb at h
  split at h
  · simp only [Bool.and_eq_true] at h; rw [Nat.eq_of_beq_eq_true h.1, PV.eqbs_ok h.2]
  · simp only [Bool.and_eq_true] at h; rw [Nat.eq_of_beq_eq_true h.1, D.eqbs_ok h.2]
  · simp only [Bool.and_eq_true] at h; rw [Nat.eq_of_beq_eq_true h.1, Nat.eq_of_beq_eq_true h.2.1, D.eqbs_ok h.2.2]
  · simp only [Bool.and_eq_true] at h; rw [D.eqbs_ok h.1, PV.eqbs_ok h.2]
  · rfl
  · cases h
def AObj.eqbs : List AObj → List AObj → Bool
  | [], [] => true
  | x :: l, y :: m => AObj.eqb x y && AObj.eqbs l m
  | _, _ => false
theorem AObj.eqbs_ok : ∀ {l m : List AObj}, AObj.eqbs l m = true → l = m
  | [], m, h => by cases m <;> simp only [AObj.eqbs, Bool.false_eq_true] at h; rfl
  | x :: l, m, h => by
    cases m with
    | nil => simp only [AObj.eqbs, Bool.false_eq_true] at h
    | cons y m =>
      simp only [AObj.eqbs, Bool.and_eq_true] at h
      rw [AObj.eqb_ok h.1, AObj.eqbs_ok h.2]
end Go.Ab
