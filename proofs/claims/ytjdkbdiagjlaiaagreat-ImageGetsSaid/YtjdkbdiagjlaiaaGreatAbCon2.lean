/- Calls of data, run through: operations, regions. -/
import Derived.Test.YtjdkbdiagjlaiaaGreatAbCon
namespace Go.Ab
open Go.RowKit

def cOrc (P : Program) (ev : Operand → Option PV) (o : Oper) (σ : List AObj) : Orc :=
  match o.op with
  | .load T a => (match ev a with | some y => loadOrc P T y σ | none => .no)
  | .binOp op _ x y _ => (match ev x, ev y with | some a, some b => binOrc op a b | _, _ => .no)
  | .convert _ _ x => (match ev x with | some y => cnvOrc y σ | none => .no)
  | .indexAddr T x i => (match ev x, ev i with | some y, some z => ixaOrc P T y z | _, _ => .no)
  | .index T x i => (match ev x, ev i with | some y, some z => idxOrc P T y z | _, _ => .no)
  | _ => .no
def cChk (P : Program) (ev : Operand → Option PV) (o : Oper) (σ : List AObj) : Bool :=
  match o.op with
  | .move _ => true
  | .assign _ => true
  | .pick _ _ _ => true
  | .alloc _ => true
  | .box _ _ => true
  | .build _ _ => true
  | .buildSlice _ _ _ => true
  | .nilCheck _ => true
  | .unOp _ _ _ => true
  | .fieldAddr _ _ _ => true
  | .field _ _ _ => true
  | .extract _ _ => true
  | .load T a => (match ev a with | some y => loadChk P T y σ | none => false)
  | .store T a x => (match ev a, ev x with | some y, some z => storeChk P T y z σ | _, _ => false)
  | .binOp op _ x y _ => (match ev x, ev y with | some a, some b => binChk op a b | _, _ => false)
  | .convert _ _ x => (match ev x with | some y => cnvChk y σ | none => false)
  | .makeSlice T l c => (match ev l, ev c with | some y, some z => mkChk P T y z | _, _ => false)
  | .slice _ x lo hi mx => (match ev x, evOpt ev lo, evOpt ev hi, evOpt ev mx with | some y, some l, some h, some m => slcChk y l h m | _, _, _, _ => false)
  | .indexAddr T x i => (match ev x, ev i with | some y, some z => ixaChk P T y z | _, _ => false)
  | .index T x i => (match ev x, ev i with | some y, some z => idxChk P T y z | _, _ => false)
  | .call { callee := .builtin .len, .. } => true
  | .call { callee := .builtin .max, .. } => true
  | .call { callee := .builtin .min, .. } => true
  | .call { callee := .builtin .append, args, argTypes } =>
    (match args.toList, argTypes.toList with
    | [s, x], [t, _] => (match ev s, ev x with | some y, some z => appChk P t y z σ | _, _ => false)
    | _, _ => false)
  | _ => false

theorem build_obl {P : Program} {T : TypeId} {parts : List (Nat × PV)} {σ : List AObj} {out : Out} (h : aBuildX P T parts σ = some out) : out.obl = [] := by
  unfold aBuildX at h
  split at h
  · rename_i o he
    cases h
    unfold aBuild at he
    repeat' split at he
    all_goals first | (cases he; done) | (cases he; rfl)
  · unfold aBuildA at h
    repeat' split at h
    all_goals first | (cases h; done) | (cases h; rfl)

theorem cop_ok {P : Program} {ev : Operand → Option PV} {o : Oper} {σ : List AObj} {out : Out} (h : aop P ev o σ (cOrc P ev o σ) = some out) (hc : cChk P ev o σ = true) : ∀ p ∈ out.obl, p := by
  have nil : out.obl = [] → ∀ p ∈ out.obl, p := fun e => by rw [e]; exact all0
  unfold aop at h
  split at h
  case h_1 hop =>
    simp only [cOrc, hop] at h
    obtain ⟨y, _, rfl⟩ := Option.map_eq_some_iff.1 h; exact all0
  case h_2 hop =>
    simp only [cOrc, hop] at h
    obtain ⟨y, _, rfl⟩ := Option.map_eq_some_iff.1 h; exact all0
  case h_3 hop =>
    split at h
    · obtain ⟨y, _, rfl⟩ := Option.map_eq_some_iff.1 h; exact all0
    · obtain ⟨y, _, rfl⟩ := Option.map_eq_some_iff.1 h; exact all0
    · cases h
  case h_4 hop =>
    refine nil ?_
    unfold aAlloc at h
    repeat' split at h
    all_goals first | (cases h; done) | (cases h; rfl)
  case h_5 hop =>
    obtain ⟨y, _, h⟩ := Option.bind_eq_some_iff.1 h
    refine nil ?_
    unfold aBox at h
    repeat' split at h
    all_goals first | (cases h; done) | (cases h; rfl)
  case h_6 hop =>
    obtain ⟨y, _, h⟩ := Option.bind_eq_some_iff.1 h
    exact nil (build_obl h)
  case h_7 hop =>
    obtain ⟨y, _, h⟩ := Option.bind_eq_some_iff.1 h
    refine nil ?_
    unfold aBuildSlice at h
    repeat' split at h
    all_goals first | (cases h; done) | (cases h; rfl)
  case h_8 hop =>
    obtain ⟨y, hy, h⟩ := Option.bind_eq_some_iff.1 h
    simp only [cOrc, cChk, hop, hy] at h hc
    exact load_obl h hc
  case h_9 hop =>
    obtain ⟨y, hy, h⟩ := Option.bind_eq_some_iff.1 h
    obtain ⟨z, hz, h⟩ := Option.bind_eq_some_iff.1 h
    simp only [cChk, hop, hy, hz] at hc
    exact store_obl h hc
  case h_10 hop =>
    obtain ⟨y, _, h⟩ := Option.bind_eq_some_iff.1 h
    refine nil ?_
    unfold aNilCheck at h
    split at h
    all_goals first | (cases h; done) | (cases h; rfl)
  case h_11 hop =>
    obtain ⟨y, hy, h⟩ := Option.bind_eq_some_iff.1 h
    obtain ⟨z, hz, h⟩ := Option.bind_eq_some_iff.1 h
    simp only [cOrc, cChk, hop, hy, hz] at h hc
    exact bin_obl h hc
  case h_12 hop =>
    obtain ⟨y, _, h⟩ := Option.bind_eq_some_iff.1 h
    obtain ⟨z, _, rfl⟩ := Option.map_eq_some_iff.1 h; exact all0
  case h_13 hop =>
    obtain ⟨y, hy, h⟩ := Option.bind_eq_some_iff.1 h
    simp only [cOrc, cChk, hop, hy] at h hc
    exact cnv_obl h hc
  case h_14 hop => simp only [cChk, hop] at hc; cases hc
  case h_15 hop =>
    obtain ⟨y, hy, h⟩ := Option.bind_eq_some_iff.1 h
    obtain ⟨z, hz, h⟩ := Option.bind_eq_some_iff.1 h
    simp only [cChk, hop, hy, hz] at hc
    exact mk_obl h hc
  case h_16 hop =>
    obtain ⟨y, hy, h⟩ := Option.bind_eq_some_iff.1 h
    obtain ⟨l, hl, h⟩ := Option.bind_eq_some_iff.1 h
    obtain ⟨u, hu, h⟩ := Option.bind_eq_some_iff.1 h
    obtain ⟨m, hm, h⟩ := Option.bind_eq_some_iff.1 h
    simp only [cOrc, cChk, hop, hy, hl, hu, hm] at h hc
    exact slc_obl h hc
  case h_17 hop =>
    obtain ⟨y, _, h⟩ := Option.bind_eq_some_iff.1 h
    refine nil ?_
    unfold aFieldAddr at h
    repeat' split at h
    all_goals first | (cases h; done) | (cases h; rfl)
  case h_18 hop =>
    obtain ⟨y, _, h⟩ := Option.bind_eq_some_iff.1 h
    refine nil ?_
    unfold aField at h
    repeat' split at h
    all_goals first | (cases h; done) | (cases h; rfl)
  case h_19 hop =>
    obtain ⟨y, hy, h⟩ := Option.bind_eq_some_iff.1 h
    obtain ⟨z, hz, h⟩ := Option.bind_eq_some_iff.1 h
    simp only [cOrc, cChk, hop, hy, hz] at h hc
    exact ixa_obl h hc
  case h_20 hop =>
    obtain ⟨y, hy, h⟩ := Option.bind_eq_some_iff.1 h
    obtain ⟨z, hz, h⟩ := Option.bind_eq_some_iff.1 h
    simp only [cOrc, cChk, hop, hy, hz] at h hc
    exact idx_obl h hc
  case h_21 hop =>
    obtain ⟨y, _, h⟩ := Option.bind_eq_some_iff.1 h
    refine nil ?_
    unfold aExtract at h
    repeat' split at h
    all_goals first | (cases h; done) | (cases h; rfl)
  case h_22 hop =>
    split at h
    · obtain ⟨y, _, h⟩ := Option.bind_eq_some_iff.1 h
      refine nil ?_
      unfold aLen at h
      split at h
      all_goals first | (cases h; done) | (cases h; rfl)
    · cases h
  case h_23 hop =>
    split at h
    · rename_i s x t u ha ht
      obtain ⟨y, hy, h⟩ := Option.bind_eq_some_iff.1 h
      obtain ⟨z, hz, h⟩ := Option.bind_eq_some_iff.1 h
      simp only [cChk, hop, ha, ht, hy, hz] at hc
      exact app_obl h hc
    · cases h
  case h_24 hop =>
    split at h
    · obtain ⟨y, _, h⟩ := Option.bind_eq_some_iff.1 h
      obtain ⟨z, _, h⟩ := Option.bind_eq_some_iff.1 h
      refine nil ?_
      unfold aMax at h
      split at h
      all_goals first | (cases h; done) | (cases h; rfl)
    · cases h
  case h_25 hop =>
    split at h
    · obtain ⟨y, _, h⟩ := Option.bind_eq_some_iff.1 h
      obtain ⟨z, _, h⟩ := Option.bind_eq_some_iff.1 h
      refine nil ?_
      unfold aMax at h
      split at h
      all_goals first | (cases h; done) | (cases h; rfl)
    · cases h
  case h_26 hop => simp only [cChk, hop] at hc; cases hc
  case h_27 hop => simp only [cChk, hop] at hc; cases hc
  case h_28 hop => simp only [cChk, hop] at hc; cases hc
  case h_29 hop => simp only [cChk, hop] at hc; cases hc
  case h_30 => cases h
end Go.Ab
