import Derived.Test.YthjalpodmnagnaaGDm
import Derived.Test.YthjalpodmnagnaaAbScan
namespace Go.Ab
set_option linter.unusedVariables false
theorem lt_getq {α : Type} {l : List α} {k : Nat} {x : α} (h : l[k]? = some x) : k < l.length := (List.getElem?_eq_some_iff.mp h).1
theorem sameI_eq (a b : List Int) (hl : a.length < 1000000000) (d : Bool) (hd : d = true ↔ a = b) : F_retraceref03_Same a b = some d := by
  unfold F_retraceref03_Same
  by_cases h : a.length = b.length
  · have : (((a.length : Int)) != ((b.length : Int))) = false := by simp; omega
    rw [this, cond_false]
    refine Loop_same a b h (fun x y => (x == y)) (fun x y => by simp) (by omega) (fun k x y hx hy => ?_) ?_ d hd
    · have hk := lt_getq hx
      show F_retraceref03_Same_L1 a b (k : Int) = _
      unfold F_retraceref03_Same_L1
      rw [lAtn, lAtn, hx, hy, dct (by omega), cond_true]
      simp only [Option.bind_some, bne]
      cases (x == y) <;> rfl
    · show F_retraceref03_Same_L1 a b (a.length : Int) = _
      unfold F_retraceref03_Same_L1
      simp
  · have : (((a.length : Int)) != ((b.length : Int))) = true := by simp; omega
    rw [this, cond_true]
    cases d with
    | false => rfl
    | true => have := hd.1 rfl; subst this; exact absurd rfl h
theorem sameA_eq (a b : List T_api_Alt) (hl : a.length < 1000000000) (d : Bool) (hd : d = true ↔ a = b) : F_retraceref22_Alts a b = some d := by
  unfold F_retraceref22_Alts
  by_cases h : a.length = b.length
  · have : (((a.length : Int)) != ((b.length : Int))) = false := by simp; omega
    rw [this, cond_false]
    refine Loop_same a b h (fun x y => ((x.Kind == y.Kind) && ((x.Chan == y.Chan) && ((x.Val == y.Val) && ((x.Slot == y.Slot) && ((x.Goto == y.Goto) && true)))))) (fun x y => ?_) (by omega) (fun k x y hx hy => ?_) ?_ d hd
    · cases x; cases y; simp
    · have hk := lt_getq hx
      show F_retraceref22_Alts_L1 a b (k : Int) = _
      unfold F_retraceref22_Alts_L1
      rw [lAtn, lAtn, hx, hy, dct (by omega), cond_true]
      simp only [Option.bind_some]
      cases ((x.Kind == y.Kind) && ((x.Chan == y.Chan) && ((x.Val == y.Val) && ((x.Slot == y.Slot) && ((x.Goto == y.Goto) && true))))) <;> rfl
    · show F_retraceref22_Alts_L1 a b (a.length : Int) = _
      unfold F_retraceref22_Alts_L1
      simp
  · have : (((a.length : Int)) != ((b.length : Int))) = true := by simp; omega
    rw [this, cond_true]
    cases d with
    | false => rfl
    | true => have := hd.1 rfl; subst this; exact absurd rfl h
theorem sameP_eq (a b : T_api_Proc) (hv : a.Vars.length < 1000000000) (ha : a.Alts.length < 1000000000) (d : Bool) (hd : d = true ↔ a = b) : F_retraceref22_Same a b = some d := by
  have e1 := sameI_eq a.Vars b.Vars hv (decide (a.Vars = b.Vars)) (by simp)
  classical
  have e2 := sameA_eq a.Alts b.Alts ha (decide (a.Alts = b.Alts)) (by simp)
  have key : F_retraceref22_Same a b = some ((a.Def == b.Def) && ((a.At == b.At) && ((a.Fuel == b.Fuel) && ((a.Mode == b.Mode) && ((a.Chan == b.Chan) && ((a.Val == b.Val) && ((a.Slot == b.Slot) && ((a.Until == b.Until) && ((a.Since == b.Since) && (decide (a.Vars = b.Vars) && decide (a.Alts = b.Alts))))))))))) := by
    unfold F_retraceref22_Same F_retraceref22_Same_J1 F_retraceref22_Same_J2
    rw [e1, e2]
    simp only [bne, Option.bind_some]
    cases (a.Def == b.Def) with
    | false => rfl
    | true =>
    cases (a.At == b.At) with
    | false => rfl
    | true =>
    cases (a.Fuel == b.Fuel) with
    | false => rfl
    | true =>
    cases (a.Mode == b.Mode) with
    | false => rfl
    | true =>
    cases (a.Chan == b.Chan) with
    | false => rfl
    | true =>
    cases (a.Val == b.Val) with
    | false => rfl
    | true =>
    cases (a.Slot == b.Slot) <;> cases (a.Until == b.Until) <;> cases (a.Since == b.Since) <;> cases decide (a.Vars = b.Vars) <;> rfl
  rw [key]
  congr 1
  rw [Bool.eq_iff_iff, hd]
  cases a; cases b
  simp only [T_api_Proc.mk.injEq, Bool.and_eq_true, beq_iff_eq, decide_eq_true_eq]
  exact ⟨fun ⟨a1, a2, a3, a4, a5, a6, a7, a8, a9, b1, b2⟩ => ⟨a1, a2, b1, a3, a4, a5, a6, a7, a8, a9, b2⟩, fun ⟨a1, a2, b1, a3, a4, a5, a6, a7, a8, a9, b2⟩ => ⟨a1, a2, a3, a4, a5, a6, a7, a8, a9, b1, b2⟩⟩
theorem same_self (p : T_api_Proc) (hv : p.Vars.length < 1000000000) (ha : p.Alts.length < 1000000000) : F_retraceref22_Same p p = some true := sameP_eq p p hv ha true (by simp)

end Go.Ab
