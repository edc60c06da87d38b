/- What single operations make of abstract values: those that leave memory alone. -/
import Derived.Test.YtgldclhdieafkaaGreatAbBase
import Derived.Laws.Entries
import Derived.WalkLawsBesides
namespace Go.Ab
open Go.RowKit
inductive Orc where
 | no
 | val (x : D)
 | cells (cs : List D)
 | nums (l : List Int)
 | pcells (cs : List PV)
 | ents (es : List (D × List D))
def Kb : Value → Option PV
 | .int k n => some (.d (.int k n))
 | .bool b => some (.d (.bool b))
 | .string s => some (.d (.str s))
 | .pointer none => some (.d .nilP)
 | .nilFunc => some (.d .nilF)
 | .slice none 0 0 => some (.d (.list true 0 []))
 | _ => some .undef
theorem Ig {hz : Hp} {φ : Phi} {v : Value} {x : PV} (h : Kb v = some x) : RelV hz φ v x := by
 unfold Kb at h
 split at h <;> simp at h <;> subst h
 · exact .d (.int _ _)
 · exact .d (.bool _)
 · exact .d (.str _)
 · exact .d .nilP
 · exact .d .nilF
 · exact .d (.list0 none 0 true (fun _ => rfl) (Nat.zero_le _))
 · exact .undef _
def binI (op : BinOp) (k : IntKind) (a b : Int) : Option (D × List Prop) :=
 match op with
 | .add => some (.int k (k.wrap (a + b)),[])
 | .sub => some (.int k (k.wrap (a - b)),[])
 | .mul => some (.int k (k.wrap (a * b)),[])
 | .quo => some (.int k (k.wrap (a.tdiv b)),[b ≠ 0])
 | .rem => some (.int k (a.tmod b),[b ≠ 0])
 | .and => some (.int k (bits .and k a b),[])
 | .or => some (.int k (bits .or k a b),[])
 | .xor => some (.int k (bits .xor k a b),[])
 | .eql => some (.bool (a == b),[])
 | .neq => some (.bool (a != b),[])
 | .lss => some (.bool (a < b),[])
 | .leq => some (.bool (a ≤ b),[])
 | .gtr => some (.bool (b < a),[])
 | .geq => some (.bool (b ≤ a),[])
 | _ => none
def shiftI (op : BinOp) (k : IntKind) (a b : Int) : Option (D × List Prop) :=
 match op with
 | .shl => some (.int k (k.wrap (a * 2 ^ (min b.toNat k.bits))),[0 ≤ b])
 | .shr => some (.int k (a.fdiv (2 ^ (min b.toNat k.bits))),[0 ≤ b])
 | _ => none
def binS (op : BinOp) (a b : ByteArray) : Option (D × List Prop) :=
 match op with
 | .add => some (.str (a ++ b),[a.size + b.size ≤ 9223372036854775807])
 | .eql => some (.bool (a.toList == b.toList),[])
 | .neq => some (.bool !(a.toList == b.toList),[])
 | .lss => some (.bool (Op.bytesLess a.toList b.toList),[])
 | _ => none
def aBin (op : BinOp) : PV → PV → Option (PV × List Prop)
 | .d (.int k a),.d (.int k' b) =>
   match op with
   | .shl | .shr => (shiftI op k a b).map fun r => (.d r.1,r.2)
   | _ => if k = k' then (binI op k a b).map fun r => (.d r.1,r.2) else none
 | .d (.str a),.d (.str b) => (binS op a b).map fun r => (.d r.1,r.2)
 | _,_ => none
def aUn (op : UnOp) : PV → Option PV
 | .d (.int k n) =>
   match op with
   | .neg => some (.d (.int k (k.wrap (0 - n))))
   | .xor => some (.d (.int k (bits .xor k (if k.signed then -1 else k.max) n)))
   | _ => none
 | .d (.bool b) => match op with | .not => some (.d (.bool !b)) | _ => none
 | _ => none
theorem RelV.inv_int {hz : Hp} {φ : Phi} {v : Value} {k : IntKind} {n : Int} (h : RelV hz φ v (.d (.int k n))) : v = .int k n := by
 cases h with | d h => cases h; rfl
theorem RelV.inv_bool {hz : Hp} {φ : Phi} {v : Value} {b : Bool} (h : RelV hz φ v (.d (.bool b))) : v = .bool b := by
 cases h with | d h => cases h; rfl
theorem RelV.inv_str {hz : Hp} {φ : Phi} {v : Value} {s : ByteArray} (h : RelV hz φ v (.d (.str s))) : v = .string s := by
 cases h with | d h => cases h; rfl
theorem Ma {P : Program} {w : World} (op : BinOp) (t : TypeId) (x y : Operand) (k k' : IntKind) (a b : Int) :
    (eqGuard op t x y (.int k a) (.int k' b)).run P w = .ok () w := by
 unfold eqGuard; split <;> rfl
theorem L9 {P : Program} {w : World} (op : BinOp) (t : TypeId) (x y : Operand) (a b : ByteArray) :
    (eqGuard op t x y (.string a) (.string b)).run P w = .ok () w := by
 unfold eqGuard; split <;> rfl
section
variable {P : Program} {w : World} {hz : Hp} {φ : Phi}
theorem RS {op : BinOp} {k : IntKind} {a b : Int} {r : D × List Prop} (t : TypeId) (hop : op ≠ .shl ∧ op ≠ .shr) (h : binI op k a b = some r) (ho : ∀ p ∈ r.2,p) :
    ∃ v,(binOp op t (.int k a) (.int k b)).run P w = .ok v w ∧ RelD hz v r.1 := by
 have e : (binOp op t (.int k a) (.int k b)) = (match op with
  | .add | .sub | .mul => Op.intArith op k a b
  | .quo | .rem => Op.intDiv op k a b
  | .and | .or | .xor | .andNot => Op.intBits op k a b
  | _ => Op.intCmp op a b) := by
  cases op <;> first | (exact absurd rfl hop.1) | (exact absurd rfl hop.2) | (simp only [binOp,ne_eq,not_true_eq_false,if_false])
 rw [e]
 cases op <;> simp [binI] at h <;> subst h
 all_goals first
  | exact ⟨_,rfl,.int _ _⟩
  | exact ⟨_,rfl,.bool _⟩
  | (have hb : b ≠ 0 := ho _ (by simp)
     refine ⟨_,?_,.int _ _⟩
     simp only [Op.intDiv,hb,if_false]
     rfl)
theorem PO {op : BinOp} {k k' : IntKind} {a b : Int} {r : D × List Prop} (t : TypeId) (h : shiftI op k a b = some r) (ho : ∀ p ∈ r.2,p) :
    ∃ v,(binOp op t (.int k a) (.int k' b)).run P w = .ok v w ∧ RelD hz v r.1 := by
 cases op <;> simp [shiftI] at h <;> subst h
 all_goals
  have hb : ¬ b < 0 := by have := ho (0 ≤ b) (by simp); omega
  refine ⟨_,?_,.int _ _⟩
  simp only [binOp,Op.shift,hb,if_false]
  rfl
theorem RR {op : BinOp} {a b : ByteArray} {r : D × List Prop} (t : TypeId) (h : binS op a b = some r) (ho : ∀ p ∈ r.2,p) :
    ∃ v,(binOp op t (.string a) (.string b)).run P w = .ok v w ∧ RelD hz v r.1 := by
 cases op <;> simp [binS] at h <;> subst h
 · have hb : a.size + b.size ≤ 9223372036854775807 := ho _ (by simp)
   refine ⟨.string (a ++ b),?_,.str _⟩
   have hn : ¬ (((a.size + b.size : Nat) : Int) > IntKind.i64.max) := by
    show ¬ (((a.size + b.size : Nat) : Int) > 9223372036854775807)
    omega
   simp only [binOp,Op.stringOp,hn,if_false]
   rfl
 · exact ⟨_,rfl,.bool _⟩
 · exact ⟨_,rfl,.bool _⟩
 · exact ⟨_,rfl,.bool _⟩
theorem aBin_run {op : BinOp} {x y : Value} {px py : PV} {r : PV × List Prop} (t : TypeId) (xo yo : Operand) (hx : RelV hz φ x px) (hy : RelV hz φ y py) (h : aBin op px py = some r) (ho : ∀ p ∈ r.2,p) :
    ∃ v,(do eqGuard op t xo yo x y; binOp op t x y : Sem Value).run P w = .ok v w ∧ RelV hz φ v r.1 := by
 unfold aBin at h
 split at h
 · rename_i k a k' b
   have := hx.inv_int; subst this
   have := hy.inv_int; subst this
   rw [Sem.run_bind,Ma]
   simp only [Result.andThen_ok]
   by_cases hs : op = .shl ∨ op = .shr
   · have h' : ((shiftI op k a b).map fun r => (PV.d r.1,r.2)) = some r := by rcases hs with rfl | rfl <;> exact h
     obtain ⟨q,hq,rfl⟩ := Option.map_eq_some_iff.1 h'
     obtain ⟨v,h1,h2⟩ := PO (P := P) (w := w) (hz := hz) (k' := k') t hq ho
     exact ⟨v,h1,.d h2⟩
   · have h' : (if k = k' then (binI op k a b).map fun r => (PV.d r.1,r.2) else none) = some r := by
       cases op <;> first | exact h | (exact absurd (Or.inl rfl) hs) | (exact absurd (Or.inr rfl) hs)
     by_cases hk : k = k'
     · subst hk
       rw [if_pos rfl] at h'
       obtain ⟨q,hq,rfl⟩ := Option.map_eq_some_iff.1 h'
       obtain ⟨v,h1,h2⟩ := RS (P := P) (w := w) (hz := hz) t ⟨fun e => hs (.inl e),fun e => hs (.inr e)⟩ hq ho
       exact ⟨v,h1,.d h2⟩
     · rw [if_neg hk] at h'; cases h'
 · rename_i a b
   have := hx.inv_str; subst this
   have := hy.inv_str; subst this
   rw [Sem.run_bind,L9]
   simp only [Result.andThen_ok]
   obtain ⟨q,hq,rfl⟩ := Option.map_eq_some_iff.1 h
   obtain ⟨v,h1,h2⟩ := RR (P := P) (w := w) (hz := hz) t hq ho
   exact ⟨v,h1,.d h2⟩
 · cases h
theorem aUn_run {op : UnOp} {x : Value} {px r : PV} (hx : RelV hz φ x px) (h : aUn op px = some r) : ∃ v,(Op.unary op x).run P w = .ok v w ∧ RelV hz φ v r := by
 unfold aUn at h
 split at h
 · have := hx.inv_int; subst this
   cases op <;> simp only [Option.some.injEq,reduceCtorEq] at h <;> subst h
   · exact ⟨_,rfl,.d (.int _ _)⟩
   · exact ⟨_,rfl,.d (.int _ _)⟩
 · have := hx.inv_bool; subst this
   cases op <;> simp only [Option.some.injEq,reduceCtorEq] at h <;> subst h
   exact ⟨_,rfl,.d (.bool _)⟩
 · cases h
end
end Go.Ab
