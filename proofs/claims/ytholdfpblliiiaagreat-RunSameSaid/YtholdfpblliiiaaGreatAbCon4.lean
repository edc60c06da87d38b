/- Calls with objects, run through. -/
import Derived.Test.YtholdfpblliiiaaGreatAbCon3
namespace Go.Ab
open Go.RowKit

/-- Every object keeps its place, rows but their length. -/
def eOf : Nat → List AObj → List Nat
  | _, [] => []
  | i, o :: l => (if isRow o then 2 * i else 2 * i + 1) :: eOf (i + 1) l
def retIx (P : Program) (fn : Func) (n : Nat) (st : St) : List Nat :=
  List.range n ++ ((reach st.σ 6 (List.range n ++ resIx P fn st)).filter fun i => !(Nat.blt i n))
def cObj (P : Program) (call : CallF) (f : FuncId) (A : List PV) (S : List AObj) (e : List Nat) (gv : Nat → Value) : Option (PV × List AObj × List AObj) :=
  match P.funcs[f]? with
  | some fn =>
    match fn.body with
    | some c =>
      if Nat.ble A.length fn.ntmps && (baseE e 0 S && eqN (marksOf (S ++ ghs (fun _ => undef) 0 S)) []) then
        match cC P call fn.ntmps c ⟨argEnv 0 A, S ++ ghs gv 0 S⟩ with
        | some (x, st) =>
          if isRet x && (ident S.length (retIx P fn S.length st) && nodupB (retIx P fn S.length st)) then
            match retF P fn S.length (retIx P fn S.length st) st with
            | some (res, σ', gs, _) => if resChk P st.env (shutM st.σ) fn.results.toList && Nat.beq gs.length S.length then seqP res fun res => seqσ σ' fun σ' => some (res, σ', keepG e 0 S gs) else none
            | none => none
          else none
        | none => none
      else none
    | none => none
  | none => none
theorem obj_ok {P : Program} {call : CallF} (hk : CallOK P call) {f : FuncId} {A : List PV} {S : List AObj} {e : List Nat} {res : PV} {σ' : List AObj} (h : ∀ gv, cObj P call f A S e gv = some (res, σ', wantG gv e 0 S)) : FnOK P f A S res σ' e := by
  have h0 := h fun _ => undef
  unfold cObj at h0
  split at h0
  · rename_i fn hf
    split at h0
    · rename_i c hb
      split at h0
      · rename_i hn
        simp only [Bool.and_eq_true] at hn
        refine FnOK.intro hf hb hn.1 (by simp only [Bool.and_eq_true]; exact hn.2) fun E gv R hR => ?_
        have hg := h gv
        unfold cObj at hg
        simp only [hf, hb] at hg
        split at hg
        · split at hg
          · rename_i x st hc
            split at hg
            · rename_i hx
              simp only [Bool.and_eq_true] at hx
              split at hg
              · rename_i res' σ2 gs obl hr
                split at hg
                · rename_i ho
                  simp only [Bool.and_eq_true] at ho
                  rw [seqP_eq, seqσ_eq] at hg
                  simp only [Option.some.injEq, Prod.mk.injEq] at hg
                  obtain ⟨rfl, rfl, hw⟩ := hg
                  refine cC_ok hk c hc fun a w hs => ?_
                  refine ret_ok hR (ρ := retIx P fn S.length st) (gs := gs) hr ?_ (by simp only [Bool.and_eq_true]; exact hx.2) hw (Nat.eq_of_beq_eq_true ho.2) a w hs x ?_
                  · unfold retF at hr
                    split at hr
                    · rename_i l obl' hl
                      split at hr
                      · split at hr
                        · cases hr; exact res_obl hl ho.1
                        · cases hr
                      · cases hr
                    · cases hr
                  · cases x with
                    | ret => exact .inl rfl
                    | normal => exact .inr rfl
                    | _ => cases hx.1
                · cases hg
              · cases hg
            · cases hg
          · cases hg
        · cases hg
      · cases h0
    · cases h0
  · cases h0
end Go.Ab
