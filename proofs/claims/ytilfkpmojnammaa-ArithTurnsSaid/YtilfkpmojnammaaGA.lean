import Derived.Test.YtilfkpmojnammaaAbLib
import Derived.Test.YtilfkpmojnammaaProg
namespace Go.Ab
open Go.Proofs
set_option linter.unusedVariables false
structure T_retraceref15_Value where
  N : Int
  Fault : Int
abbrev T_retraceref15_Value.enc (x : T_retraceref15_Value) : List D := [.int .i64 x.N, .int .i64 x.Fault]
theorem T_retraceref15_Value.enc_len (x : T_retraceref15_Value) : (T_retraceref15_Value.enc x).length = 2 := rfl
/- arith_bit -/
noncomputable def F_arith_bit (p0 : Bool) : Option (Int) :=
  cond p0 (some 1) (some 0)
/- arith_compared -/
noncomputable def F_arith_compared_J1 (x20 : Int) (x21 : Int) (x22 : Int) (x23 : Int) (x24 : Int) (x25 : Int) (x26 : Int) (x27 : Int) (x28 : Int) : Option (Int × Int × Int × Int × Int × Int × Int × Int × Int) :=
  some (x20, x21, x22, x23, x24, x25, x26, x27, x28)
noncomputable def F_arith_compared (p0 : Int) (p1 : Int) : Option (Int × Int × Int × Int × Int × Int × Int × Int × Int) :=
  (F_arith_bit (p0 == p1)).bind fun y29 => (F_arith_bit (p0 != p1)).bind fun y30 => (F_arith_bit (decide (p0 < p1))).bind fun y31 => (F_arith_bit (decide (p0 ≤ p1))).bind fun y32 => (F_arith_bit (decide (p1 < p0))).bind fun y33 => (F_arith_bit (decide (p1 ≤ p0))).bind fun y34 => cond (p0 != 0) ((F_arith_bit (p1 != 0)).bind fun y36 => cond (p0 != 0) ((F_arith_bit true).bind fun y38 => (F_arith_bit (p0 == 0)).bind fun y39 => F_arith_compared_J1 y29 y30 y31 y32 y33 y34 y36 y38 y39) ((F_arith_bit (p1 != 0)).bind fun y40 => (F_arith_bit (p0 == 0)).bind fun y41 => F_arith_compared_J1 y29 y30 y31 y32 y33 y34 y36 y40 y41)) ((F_arith_bit false).bind fun y42 => cond (p0 != 0) ((F_arith_bit true).bind fun y44 => (F_arith_bit (p0 == 0)).bind fun y45 => F_arith_compared_J1 y29 y30 y31 y32 y33 y34 y42 y44 y45) ((F_arith_bit (p1 != 0)).bind fun y46 => (F_arith_bit (p0 == 0)).bind fun y47 => F_arith_compared_J1 y29 y30 y31 y32 y33 y34 y42 y46 y47))
/- arith_Apply -/
noncomputable def F_arith_Apply_J1 (p0 : Int) (p1 : Int) (p2 : Int) (x24 : Bool) : Option (Int × Int) :=
  cond x24 (cond (p2 == 0) (some (0, 1)) (cond (p0 == 8) (grd (p2 ≠ 0) <| some ((w64 (Int.tdiv p1 p2)), 0)) (grd (p2 ≠ 0) <| some ((Int.tmod p1 p2), 0)))) ((F_arith_compared p1 p2).bind fun y37 => some ((cond (p0 == 10) y37.1 (cond (p0 == 11) y37.2.1 (cond (p0 == 12) y37.2.2.1 (cond (p0 == 13) y37.2.2.2.1 (cond (p0 == 14) y37.2.2.2.2.1 (cond (p0 == 15) y37.2.2.2.2.2.1 (cond (p0 == 16) y37.2.2.2.2.2.2.1 (cond (p0 == 17) y37.2.2.2.2.2.2.2.1 (cond (p0 == 4) y37.2.2.2.2.2.2.2.2 0))))))))), 0))
noncomputable def F_arith_Apply (p0 : Int) (p1 : Int) (p2 : Int) : Option (Int × Int) :=
  cond (p0 == 3) (some ((w64 (0 - p1)), 0)) (cond (p0 == 5) (some ((w64 (p1 + p2)), 0)) (cond (p0 == 6) (some ((w64 (p1 - p2)), 0)) (cond (p0 == 7) (some ((w64 (p1 * p2)), 0)) (cond (p0 == 8) (F_arith_Apply_J1 p0 p1 p2 (p0 == 8)) (F_arith_Apply_J1 p0 p1 p2 (p0 == 9))))))
/- retraceref15_bit -/
noncomputable def F_retraceref15_bit (p0 : Bool) : Option (Int) :=
  cond p0 (some 1) (some 0)
/- retraceref15_size -/
noncomputable def F_retraceref15_size (p0 : Int) : Option (Int) :=
  cond (decide (p0 < 0)) (some (wu64 (0 - (wu64 p0)))) (some (wu64 p0))
/- retraceref15_Quotient -/
noncomputable def F_retraceref15_Quotient (p0 : Int) (p1 : Int) : Option (Int) :=
  (F_retraceref15_size p0).bind fun y4 => (F_retraceref15_size p1).bind fun y5 => grd (y5 ≠ 0) <| cond (!((decide (p0 < 0)) == (decide (p1 < 0)))) (some (w64 (wu64 (0 - (wu64 (Int.tdiv y4 y5)))))) (some (w64 (wu64 (Int.tdiv y4 y5))))
/- retraceref15_Apply -/
noncomputable def F_retraceref15_Apply_J2 (x91 : Int) : Option (T_retraceref15_Value) :=
  some (⟨x91, 0⟩ : T_retraceref15_Value)
noncomputable def F_retraceref15_Apply_J3 (x99 : Int) : Option (T_retraceref15_Value) :=
  some (⟨x99, 0⟩ : T_retraceref15_Value)
noncomputable def F_retraceref15_Apply_J4 (x110 : Int) : Option (T_retraceref15_Value) :=
  some (⟨x110, 0⟩ : T_retraceref15_Value)
noncomputable def F_retraceref15_Apply_J5 (x118 : Int) : Option (T_retraceref15_Value) :=
  some (⟨x118, 0⟩ : T_retraceref15_Value)
noncomputable def F_retraceref15_Apply_J1 (p0 : Int) (p1 : Int) (p2 : Int) (x70 : Bool) : Option (T_retraceref15_Value) :=
  cond x70 (cond (p2 == 0) (some (⟨0, 1⟩ : T_retraceref15_Value)) ((F_retraceref15_Quotient p1 p2).bind fun y75 => cond (p0 == 8) (some (⟨y75, 0⟩ : T_retraceref15_Value)) (some (⟨(w64 (p1 - (w64 (y75 * p2)))), 0⟩ : T_retraceref15_Value)))) (cond (p0 == 10) ((F_retraceref15_bit (p1 == p2)).bind fun y80 => some (⟨y80, 0⟩ : T_retraceref15_Value)) (cond (p0 == 11) ((F_retraceref15_bit (!(p1 == p2))).bind fun y83 => some (⟨y83, 0⟩ : T_retraceref15_Value)) (cond (p0 == 12) ((F_retraceref15_bit (decide (p1 < p2))).bind fun y86 => some (⟨y86, 0⟩ : T_retraceref15_Value)) (cond (p0 == 13) (cond (decide (p1 < p2)) ((F_retraceref15_bit true).bind fun y93 => F_retraceref15_Apply_J2 y93) ((F_retraceref15_bit (p1 == p2)).bind fun y94 => F_retraceref15_Apply_J2 y94)) (cond (p0 == 14) (cond (!(decide (p1 < p2))) ((F_retraceref15_bit (!(p1 == p2))).bind fun y101 => F_retraceref15_Apply_J3 y101) ((F_retraceref15_bit false).bind fun y102 => F_retraceref15_Apply_J3 y102)) (cond (p0 == 15) ((F_retraceref15_bit (!(decide (p1 < p2)))).bind fun y105 => some (⟨y105, 0⟩ : T_retraceref15_Value)) (cond (p0 == 16) (cond (p1 != 0) ((F_retraceref15_bit (p2 != 0)).bind fun y112 => F_retraceref15_Apply_J4 y112) ((F_retraceref15_bit false).bind fun y113 => F_retraceref15_Apply_J4 y113)) (cond (p0 == 17) (cond (p1 != 0) ((F_retraceref15_bit true).bind fun y120 => F_retraceref15_Apply_J5 y120) ((F_retraceref15_bit (p2 != 0)).bind fun y121 => F_retraceref15_Apply_J5 y121)) (some (⟨0, 0⟩ : T_retraceref15_Value))))))))))
noncomputable def F_retraceref15_Apply (p0 : Int) (p1 : Int) (p2 : Int) : Option (T_retraceref15_Value) :=
  cond (p0 == 3) (some (⟨(w64 (0 - p1)), 0⟩ : T_retraceref15_Value)) (cond (p0 == 4) ((F_retraceref15_bit (p1 == 0)).bind fun y65 => some (⟨y65, 0⟩ : T_retraceref15_Value)) (cond (p0 == 5) (some (⟨(w64 (wu64 ((wu64 p1) + (wu64 p2)))), 0⟩ : T_retraceref15_Value)) (cond (p0 == 6) (some (⟨(w64 (wu64 ((wu64 p1) - (wu64 p2)))), 0⟩ : T_retraceref15_Value)) (cond (p0 == 7) (some (⟨(w64 (wu64 ((wu64 p1) * (wu64 p2)))), 0⟩ : T_retraceref15_Value)) (cond (p0 == 8) (F_retraceref15_Apply_J1 p0 p1 p2 (p0 == 8)) (F_retraceref15_Apply_J1 p0 p1 p2 (p0 == 9)))))))
/- arith_Wide -/
noncomputable def F_arith_Wide_J2 (x13 : Bool) : Option (Int) :=
  cond x13 (some 2) (some 0)
noncomputable def F_arith_Wide_J1 (p0 : Int) (x10 : Bool) : Option (Int) :=
  cond x10 (some 1) (cond (decide (5 ≤ p0)) (F_arith_Wide_J2 (decide (p0 ≤ 17))) (F_arith_Wide_J2 false))
noncomputable def F_arith_Wide (p0 : Int) : Option (Int) :=
  cond (p0 == 3) (F_arith_Wide_J1 p0 true) (F_arith_Wide_J1 p0 (p0 == 4))
/- retraceref15_Wide -/
noncomputable def F_retraceref15_Wide_J2 (x13 : Bool) : Option (Int) :=
  cond x13 (some 2) (some 0)
noncomputable def F_retraceref15_Wide_J1 (p0 : Int) (x6 : Bool) : Option (Int) :=
  cond x6 (some 1) (cond (decide (5 ≤ p0)) (F_retraceref15_Wide_J2 (decide (p0 ≤ 17))) (F_retraceref15_Wide_J2 false))
noncomputable def F_retraceref15_Wide (p0 : Int) : Option (Int) :=
  cond (p0 == 3) (F_retraceref15_Wide_J1 p0 true) (F_retraceref15_Wide_J1 p0 (p0 == 4))
/- retracelaw15_live -/
noncomputable def F_retracelaw15_live_J1 (x13 : Bool) : Option (Bool) :=
  some x13
noncomputable def F_retracelaw15_live  : Option (Bool) :=
  (F_arith_Apply 8 (-7) 2).bind fun y2 => (F_arith_Apply 9 (-7) 2).bind fun y4 => (F_arith_Apply 9 1 0).bind fun y6 => cond (y2.1 == (-3)) (cond (y4.1 == (-1)) (cond (y2.2 == 0) (cond (y4.2 == 0) (cond (y6.2 == 1) ((F_arith_Wide 17).bind fun y19 => F_retracelaw15_live_J1 (y19 == 2)) (F_retracelaw15_live_J1 false)) (F_retracelaw15_live_J1 false)) (F_retracelaw15_live_J1 false)) (F_retracelaw15_live_J1 false)) (F_retracelaw15_live_J1 false)
/- retracelaw15_ArithTells -/
noncomputable def F_retracelaw15_ArithTells_J1 (x11 : Bool) : Option (Bool) :=
  some x11
noncomputable def F_retracelaw15_ArithTells (p0 : Int) (p1 : Int) (p2 : Int) : Option (Bool) :=
  (F_arith_Apply p0 p1 p2).bind fun y2 => (F_retraceref15_Apply p0 p1 p2).bind fun y4 => cond (y2.1 == y4.N) (cond (y2.2 == y4.Fault) ((F_arith_Wide p0).bind fun y14 => (F_retraceref15_Wide p0).bind fun y15 => cond (y14 == y15) ((F_retracelaw15_live).bind fun y17 => F_retracelaw15_ArithTells_J1 y17) (F_retracelaw15_ArithTells_J1 false)) (F_retracelaw15_ArithTells_J1 false)) (F_retracelaw15_ArithTells_J1 false)
/- retracelaw15_ArithDivides -/
noncomputable def F_retracelaw15_ArithDivides_J1 (x23 : Bool) : Option (Bool) :=
  some x23
noncomputable def F_retracelaw15_ArithDivides_J3 (x58 : Bool) : Option (Bool) :=
  some x58
noncomputable def F_retracelaw15_ArithDivides_J2 (p0 : Int) (y2 : Int × Int) (y4 : Int × Int) (y32 : Int × Int) (x49 : Bool) : Option (Bool) :=
  cond (y2.2 == 0) (cond (y4.2 == 0) (cond (y32.1 == p0) (cond x49 (cond (y4.1 == 0) ((F_retracelaw15_live).bind fun y64 => F_retracelaw15_ArithDivides_J3 y64) (cond ((decide (y4.1 < 0)) == (decide (p0 < 0))) ((F_retracelaw15_live).bind fun y66 => F_retracelaw15_ArithDivides_J3 y66) (F_retracelaw15_ArithDivides_J3 false))) (F_retracelaw15_ArithDivides_J3 false)) (F_retracelaw15_ArithDivides_J3 false)) (F_retracelaw15_ArithDivides_J3 false)) (F_retracelaw15_ArithDivides_J3 false)
noncomputable def F_retracelaw15_ArithDivides (p0 : Int) (p1 : Int) : Option (Bool) :=
  (F_arith_Apply 8 p0 p1).bind fun y2 => (F_arith_Apply 9 p0 p1).bind fun y4 => cond (p1 == 0) (cond (y2.1 == 0) (cond (y4.1 == 0) (cond (y2.2 == 1) (cond (y4.2 == 1) ((F_retracelaw15_live).bind fun y28 => F_retracelaw15_ArithDivides_J1 y28) (F_retracelaw15_ArithDivides_J1 false)) (F_retracelaw15_ArithDivides_J1 false)) (F_retracelaw15_ArithDivides_J1 false)) (F_retracelaw15_ArithDivides_J1 false)) ((F_arith_Apply 7 y2.1 p1).bind fun y30 => (F_arith_Apply 5 y30.1 y4.1).bind fun y32 => cond (y4.1 == 0) (F_retracelaw15_ArithDivides_J2 p0 y2 y4 y32 true) (cond (decide (0 < p1)) (cond (decide (y4.1 < p1)) (cond (decide ((w64 (0 - p1)) < y4.1)) (F_retracelaw15_ArithDivides_J2 p0 y2 y4 y32 true) (cond (decide (p1 < 0)) (cond (decide (p1 < y4.1)) (cond (decide (y4.1 < 0)) (F_retracelaw15_ArithDivides_J2 p0 y2 y4 y32 true) (cond (decide (y4.1 < (w64 (0 - p1)))) (F_retracelaw15_ArithDivides_J2 p0 y2 y4 y32 true) (F_retracelaw15_ArithDivides_J2 p0 y2 y4 y32 ((w64 (0 - p1)) == p1)))) (F_retracelaw15_ArithDivides_J2 p0 y2 y4 y32 false)) (F_retracelaw15_ArithDivides_J2 p0 y2 y4 y32 false))) (cond (decide (p1 < 0)) (cond (decide (p1 < y4.1)) (cond (decide (y4.1 < 0)) (F_retracelaw15_ArithDivides_J2 p0 y2 y4 y32 true) (cond (decide (y4.1 < (w64 (0 - p1)))) (F_retracelaw15_ArithDivides_J2 p0 y2 y4 y32 true) (F_retracelaw15_ArithDivides_J2 p0 y2 y4 y32 ((w64 (0 - p1)) == p1)))) (F_retracelaw15_ArithDivides_J2 p0 y2 y4 y32 false)) (F_retracelaw15_ArithDivides_J2 p0 y2 y4 y32 false))) (cond (decide (p1 < 0)) (cond (decide (p1 < y4.1)) (cond (decide (y4.1 < 0)) (F_retracelaw15_ArithDivides_J2 p0 y2 y4 y32 true) (cond (decide (y4.1 < (w64 (0 - p1)))) (F_retracelaw15_ArithDivides_J2 p0 y2 y4 y32 true) (F_retracelaw15_ArithDivides_J2 p0 y2 y4 y32 ((w64 (0 - p1)) == p1)))) (F_retracelaw15_ArithDivides_J2 p0 y2 y4 y32 false)) (F_retracelaw15_ArithDivides_J2 p0 y2 y4 y32 false))))
/- retracelaw15_ArithTurns -/
noncomputable def F_retracelaw15_ArithTurns_J1 (x26 : Bool) : Option (Bool) :=
  some x26
noncomputable def F_retracelaw15_ArithTurns (p0 : Int) (p1 : Int) : Option (Bool) :=
  (F_arith_Apply 6 p0 p1).bind fun y2 => (F_arith_Apply 3 p1 p0).bind fun y4 => (F_arith_Apply 5 p0 y4.1).bind fun y6 => (F_arith_Apply 12 p0 p1).bind fun y8 => (F_arith_Apply 15 p0 p1).bind fun y10 => (F_arith_Apply 14 p1 p0).bind fun y12 => (F_arith_Apply 10 p0 p1).bind fun y14 => (F_arith_Apply 11 p0 p1).bind fun y16 => (F_arith_Apply 4 y8.1 p1).bind fun y18 => cond (y2.1 == y6.1) (cond ((w64 (y8.1 + y10.1)) == 1) (cond (y8.1 == y12.1) (cond ((w64 (y14.1 + y16.1)) == 1) (cond (y18.1 == y10.1) (cond ((y14.1 == 1) == (y2.1 == 0)) ((F_retracelaw15_live).bind fun y33 => F_retracelaw15_ArithTurns_J1 y33) (F_retracelaw15_ArithTurns_J1 false)) (F_retracelaw15_ArithTurns_J1 false)) (F_retracelaw15_ArithTurns_J1 false)) (F_retracelaw15_ArithTurns_J1 false)) (F_retracelaw15_ArithTurns_J1 false)) (F_retracelaw15_ArithTurns_J1 false)

theorem mixedOrd : Try.prog.follows .mixedOrders = true := by kernel_rfl
set_option maxRecDepth 100000 in
theorem C_arith_bit (p0 : Bool) (r : Int) (h : F_arith_bit p0 = some r) : FnOK Try.prog 52 [bo p0] [] (i64 r) [] [] := by
  rw [F_arith_bit] at h
  refine FnOK.intro Try.func52 rfl (by kernel_rfl) (by kernel_rfl) fun E gv R hR => ?_
  refine At.seq ?_
  refine At.region_end [0] [] _ (st' := ⟨[(0, bo p0)], []⟩) (tips := []) (by kernel_rfl) all0 (norm ?_)
  refine At.seq ?_
  refine At.seq ?_
  refine At.region_end [3] [] _ (st' := ⟨[(3, bo p0)], []⟩) (tips := []) (by kernel_rfl) all0 (norm ?_)
  refine At.cond p0 (by kernel_rfl) (fun b2 => ?_) (fun b2 => ?_)
  · replace h := cond_t b2 h
    refine At.seq ?_
    refine At.region_end [2] [] _ (st' := ⟨[(2, i64 1)], []⟩) (tips := []) (by kernel_rfl) all0 (norm ?_)
    obtain rfl := some_eq h
    exact At.ret fun a w hs => ret_ok hR (ρ := []) (gs := []) (by kernel_rfl) all0 (by kernel_rfl) rfl rfl a w hs _ (.inl rfl)
  · replace h := cond_f b2 h
    refine At.nar [] [] (st' := ⟨[], []⟩) (by kernel_rfl) ?_
    refine At.skip (norm ?_)
    refine At.seq ?_
    refine At.region_end [2] [] _ (st' := ⟨[(2, i64 0)], []⟩) (tips := []) (by kernel_rfl) all0 (norm ?_)
    obtain rfl := some_eq h
    exact At.ret fun a w hs => ret_ok hR (ρ := []) (gs := []) (by kernel_rfl) all0 (by kernel_rfl) rfl rfl a w hs _ (.inl rfl)
set_option maxRecDepth 100000 in
theorem C_arith_compared (p0 : Int) (p1 : Int) (r : Int × Int × Int × Int × Int × Int × Int × Int × Int) (h : F_arith_compared p0 p1 = some r) : FnOK Try.prog 41 [i64 p0, i64 p1] [] (.mapv 0) [.mp [.int .i64 10, .int .i64 11, .int .i64 12, .int .i64 13, .int .i64 14, .int .i64 15, .int .i64 16, .int .i64 17, .int .i64 4] [i64 r.1, i64 r.2.1, i64 r.2.2.1, i64 r.2.2.2.1, i64 r.2.2.2.2.1, i64 r.2.2.2.2.2.1, i64 r.2.2.2.2.2.2.1, i64 r.2.2.2.2.2.2.2.1, i64 r.2.2.2.2.2.2.2.2]] [] := by
  rw [F_arith_compared] at h
  refine FnOK.intro Try.func41 rfl (by kernel_rfl) (by kernel_rfl) fun E gv R hR => ?_
  refine At.seq ?_
  refine At.region_end [0, 1] [] _ (st' := ⟨[(0, i64 p0), (1, i64 p1)], []⟩) (tips := []) (by kernel_rfl) all0 (norm ?_)
  refine At.seqJ (S := Int × Int × Int × Int × Int × Int × Int × Int × Int) (fun s => ⟨[(4, .mapv 0)], [.mp [.int .i64 10, .int .i64 11, .int .i64 12, .int .i64 13, .int .i64 14, .int .i64 15, .int .i64 16, .int .i64 17, .int .i64 4] [i64 s.1, i64 s.2.1, i64 s.2.2.1, i64 s.2.2.2.1, i64 s.2.2.2.2.1, i64 s.2.2.2.2.2.1, i64 s.2.2.2.2.2.2.1, i64 s.2.2.2.2.2.2.2.1, i64 s.2.2.2.2.2.2.2.2]]⟩) (fun s => F_arith_compared_J1 s.1 s.2.1 s.2.2.1 s.2.2.2.1 s.2.2.2.2.1 s.2.2.2.2.2.1 s.2.2.2.2.2.2.1 s.2.2.2.2.2.2.2.1 s.2.2.2.2.2.2.2.2 = some r) ?_ ?_
  · obtain ⟨y29, hy29, h⟩ := bind_some h
    obtain ⟨y30, hy30, h⟩ := bind_some h
    obtain ⟨y31, hy31, h⟩ := bind_some h
    obtain ⟨y32, hy32, h⟩ := bind_some h
    obtain ⟨y33, hy33, h⟩ := bind_some h
    obtain ⟨y34, hy34, h⟩ := bind_some h
    rcases tf (p0 != 0) with b35 | b35
    · replace h := cond_t b35 h
      obtain ⟨y36, hy36, h⟩ := bind_some h
      rcases tf (p0 != 0) with b37 | b37
      · replace h := cond_t b37 h
        obtain ⟨y38, hy38, h⟩ := bind_some h
        obtain ⟨y39, hy39, h⟩ := bind_some h
        refine At.region_end [4] [0] _ (st' := ⟨[(4, .mapv 0)], [.mp [.int .i64 10, .int .i64 11, .int .i64 12, .int .i64 13, .int .i64 14, .int .i64 15, .int .i64 16, .int .i64 17, .int .i64 4] [i64 y29, i64 y30, i64 y31, i64 y32, i64 y33, i64 y34, i64 y36, i64 y38, i64 y39]]⟩) (tips := [(4, { pc := some { ρ := [], n0 := 0, res := i64 y29, σ' := [], e := [] } }), (9, { pc := some { ρ := [], n0 := 0, res := i64 y30, σ' := [], e := [] } }), (14, { pc := some { ρ := [], n0 := 0, res := i64 y31, σ' := [], e := [] } }), (19, { pc := some { ρ := [], n0 := 0, res := i64 y32, σ' := [], e := [] } }), (24, { pc := some { ρ := [], n0 := 0, res := i64 y33, σ' := [], e := [] } }), (29, { pc := some { ρ := [], n0 := 0, res := i64 y34, σ' := [], e := [] } }), (33, { orc := .val (.bool true) }), (37, { pc := some { ρ := [], n0 := 0, res := i64 y36, σ' := [], e := [] } }), (41, { orc := .val (.bool true) }), (45, { pc := some { ρ := [], n0 := 0, res := i64 y38, σ' := [], e := [] } }), (49, { pc := some { ρ := [], n0 := 0, res := i64 y39, σ' := [], e := [] } })]) (by kernel_rfl) (allc (C_arith_bit (p0 == p1) y29 hy29) (allc (C_arith_bit (p0 != p1) y30 hy30) (allc (C_arith_bit (decide (p0 < p1)) y31 hy31) (allc (C_arith_bit (decide (p0 ≤ p1)) y32 hy32) (allc (C_arith_bit (decide (p1 < p0)) y33 hy33) (allc (C_arith_bit (decide (p1 ≤ p0)) y34 hy34) (allc (congrArg D.bool b35) (allc (C_arith_bit (p1 != 0) y36 hy36) (allc (congrArg D.bool b37) (allc (C_arith_bit true y38 hy38) (allc (C_arith_bit (p0 == 0) y39 hy39) all0))))))))))) (fun a w hs => ⟨(y29, y30, y31, y32, y33, y34, y36, y38, y39), h, hs⟩)
      · replace h := cond_f b37 h
        obtain ⟨y40, hy40, h⟩ := bind_some h
        obtain ⟨y41, hy41, h⟩ := bind_some h
        refine At.region_end [4] [0] _ (st' := ⟨[(4, .mapv 0)], [.mp [.int .i64 10, .int .i64 11, .int .i64 12, .int .i64 13, .int .i64 14, .int .i64 15, .int .i64 16, .int .i64 17, .int .i64 4] [i64 y29, i64 y30, i64 y31, i64 y32, i64 y33, i64 y34, i64 y36, i64 y40, i64 y41]]⟩) (tips := [(4, { pc := some { ρ := [], n0 := 0, res := i64 y29, σ' := [], e := [] } }), (9, { pc := some { ρ := [], n0 := 0, res := i64 y30, σ' := [], e := [] } }), (14, { pc := some { ρ := [], n0 := 0, res := i64 y31, σ' := [], e := [] } }), (19, { pc := some { ρ := [], n0 := 0, res := i64 y32, σ' := [], e := [] } }), (24, { pc := some { ρ := [], n0 := 0, res := i64 y33, σ' := [], e := [] } }), (29, { pc := some { ρ := [], n0 := 0, res := i64 y34, σ' := [], e := [] } }), (33, { orc := .val (.bool true) }), (37, { pc := some { ρ := [], n0 := 0, res := i64 y36, σ' := [], e := [] } }), (41, { orc := .val (.bool false) }), (45, { pc := some { ρ := [], n0 := 0, res := i64 y40, σ' := [], e := [] } }), (49, { pc := some { ρ := [], n0 := 0, res := i64 y41, σ' := [], e := [] } })]) (by kernel_rfl) (allc (C_arith_bit (p0 == p1) y29 hy29) (allc (C_arith_bit (p0 != p1) y30 hy30) (allc (C_arith_bit (decide (p0 < p1)) y31 hy31) (allc (C_arith_bit (decide (p0 ≤ p1)) y32 hy32) (allc (C_arith_bit (decide (p1 < p0)) y33 hy33) (allc (C_arith_bit (decide (p1 ≤ p0)) y34 hy34) (allc (congrArg D.bool b35) (allc (C_arith_bit (p1 != 0) y36 hy36) (allc (congrArg D.bool b37) (allc (C_arith_bit (p1 != 0) y40 hy40) (allc (C_arith_bit (p0 == 0) y41 hy41) all0))))))))))) (fun a w hs => ⟨(y29, y30, y31, y32, y33, y34, y36, y40, y41), h, hs⟩)
    · replace h := cond_f b35 h
      obtain ⟨y42, hy42, h⟩ := bind_some h
      rcases tf (p0 != 0) with b43 | b43
      · replace h := cond_t b43 h
        obtain ⟨y44, hy44, h⟩ := bind_some h
        obtain ⟨y45, hy45, h⟩ := bind_some h
        refine At.region_end [4] [0] _ (st' := ⟨[(4, .mapv 0)], [.mp [.int .i64 10, .int .i64 11, .int .i64 12, .int .i64 13, .int .i64 14, .int .i64 15, .int .i64 16, .int .i64 17, .int .i64 4] [i64 y29, i64 y30, i64 y31, i64 y32, i64 y33, i64 y34, i64 y42, i64 y44, i64 y45]]⟩) (tips := [(4, { pc := some { ρ := [], n0 := 0, res := i64 y29, σ' := [], e := [] } }), (9, { pc := some { ρ := [], n0 := 0, res := i64 y30, σ' := [], e := [] } }), (14, { pc := some { ρ := [], n0 := 0, res := i64 y31, σ' := [], e := [] } }), (19, { pc := some { ρ := [], n0 := 0, res := i64 y32, σ' := [], e := [] } }), (24, { pc := some { ρ := [], n0 := 0, res := i64 y33, σ' := [], e := [] } }), (29, { pc := some { ρ := [], n0 := 0, res := i64 y34, σ' := [], e := [] } }), (33, { orc := .val (.bool false) }), (37, { pc := some { ρ := [], n0 := 0, res := i64 y42, σ' := [], e := [] } }), (41, { orc := .val (.bool true) }), (45, { pc := some { ρ := [], n0 := 0, res := i64 y44, σ' := [], e := [] } }), (49, { pc := some { ρ := [], n0 := 0, res := i64 y45, σ' := [], e := [] } })]) (by kernel_rfl) (allc (C_arith_bit (p0 == p1) y29 hy29) (allc (C_arith_bit (p0 != p1) y30 hy30) (allc (C_arith_bit (decide (p0 < p1)) y31 hy31) (allc (C_arith_bit (decide (p0 ≤ p1)) y32 hy32) (allc (C_arith_bit (decide (p1 < p0)) y33 hy33) (allc (C_arith_bit (decide (p1 ≤ p0)) y34 hy34) (allc (congrArg D.bool b35) (allc (C_arith_bit false y42 hy42) (allc (congrArg D.bool b43) (allc (C_arith_bit true y44 hy44) (allc (C_arith_bit (p0 == 0) y45 hy45) all0))))))))))) (fun a w hs => ⟨(y29, y30, y31, y32, y33, y34, y42, y44, y45), h, hs⟩)
      · replace h := cond_f b43 h
        obtain ⟨y46, hy46, h⟩ := bind_some h
        obtain ⟨y47, hy47, h⟩ := bind_some h
        refine At.region_end [4] [0] _ (st' := ⟨[(4, .mapv 0)], [.mp [.int .i64 10, .int .i64 11, .int .i64 12, .int .i64 13, .int .i64 14, .int .i64 15, .int .i64 16, .int .i64 17, .int .i64 4] [i64 y29, i64 y30, i64 y31, i64 y32, i64 y33, i64 y34, i64 y42, i64 y46, i64 y47]]⟩) (tips := [(4, { pc := some { ρ := [], n0 := 0, res := i64 y29, σ' := [], e := [] } }), (9, { pc := some { ρ := [], n0 := 0, res := i64 y30, σ' := [], e := [] } }), (14, { pc := some { ρ := [], n0 := 0, res := i64 y31, σ' := [], e := [] } }), (19, { pc := some { ρ := [], n0 := 0, res := i64 y32, σ' := [], e := [] } }), (24, { pc := some { ρ := [], n0 := 0, res := i64 y33, σ' := [], e := [] } }), (29, { pc := some { ρ := [], n0 := 0, res := i64 y34, σ' := [], e := [] } }), (33, { orc := .val (.bool false) }), (37, { pc := some { ρ := [], n0 := 0, res := i64 y42, σ' := [], e := [] } }), (41, { orc := .val (.bool false) }), (45, { pc := some { ρ := [], n0 := 0, res := i64 y46, σ' := [], e := [] } }), (49, { pc := some { ρ := [], n0 := 0, res := i64 y47, σ' := [], e := [] } })]) (by kernel_rfl) (allc (C_arith_bit (p0 == p1) y29 hy29) (allc (C_arith_bit (p0 != p1) y30 hy30) (allc (C_arith_bit (decide (p0 < p1)) y31 hy31) (allc (C_arith_bit (decide (p0 ≤ p1)) y32 hy32) (allc (C_arith_bit (decide (p1 < p0)) y33 hy33) (allc (C_arith_bit (decide (p1 ≤ p0)) y34 hy34) (allc (congrArg D.bool b35) (allc (C_arith_bit false y42 hy42) (allc (congrArg D.bool b43) (allc (C_arith_bit (p1 != 0) y46 hy46) (allc (C_arith_bit (p0 == 0) y47 hy47) all0))))))))))) (fun a w hs => ⟨(y29, y30, y31, y32, y33, y34, y42, y46, y47), h, hs⟩)
  · rintro ⟨x20, x21, x22, x23, x24, x25, x26, x27, x28⟩ h
    replace h : F_arith_compared_J1 x20 x21 x22 x23 x24 x25 x26 x27 x28 = some r := h
    rw [F_arith_compared_J1] at h
    obtain rfl := some_eq h
    exact At.ret fun a w hs => ret_ok hR (ρ := [0]) (gs := []) (by kernel_rfl) all0 (by kernel_rfl) rfl rfl a w hs _ (.inl rfl)
set_option maxRecDepth 100000 in
theorem C_arith_Apply (p0 : Int) (p1 : Int) (p2 : Int) (r : Int × Int) (h : F_arith_Apply p0 p1 p2 = some r) : FnOK Try.prog 12 [i64 p0, i64 p1, i64 p2] [] (.tup [i64 r.1, i64 r.2]) [] [] := by
  rw [F_arith_Apply] at h
  refine FnOK.intro Try.func12 rfl (by kernel_rfl) (by kernel_rfl) fun E gv R hR => ?_
  refine At.seq ?_
  refine At.region_end [0, 1, 2] [] _ (st' := ⟨[(0, i64 p0), (1, i64 p1), (2, i64 p2)], []⟩) (tips := []) (by kernel_rfl) all0 (norm ?_)
  refine At.seq ?_
  refine At.seq ?_
  refine At.region_end [0, 1, 2, 8] [] _ (st' := ⟨[(0, i64 p0), (1, i64 p1), (2, i64 p2), (8, i64 p0)], []⟩) (tips := []) (by kernel_rfl) all0 (norm ?_)
  refine At.block ?_
  refine At.seq ?_
  refine At.region_end [0, 1, 2, 8, 9] [] _ (st' := ⟨[(0, i64 p0), (1, i64 p1), (2, i64 p2), (8, i64 p0), (9, bo (p0 == 3))], []⟩) (tips := []) (by kernel_rfl) all0 (norm ?_)
  refine At.cond (p0 == 3) (by kernel_rfl) (fun b19 => ?_) (fun b19 => ?_)
  · replace h := cond_t b19 h
    refine At.seq ?_
    refine At.region_end [6, 7] [] _ (st' := ⟨[(6, i64 (w64 (0 - p1))), (7, i64 0)], []⟩) (tips := []) (by kernel_rfl) all0 (norm ?_)
    obtain rfl := some_eq h
    exact At.ret fun a w hs => ret_ok hR (ρ := []) (gs := []) (by kernel_rfl) all0 (by kernel_rfl) rfl rfl a w hs _ (.inl rfl)
  · replace h := cond_f b19 h
    refine At.seq ?_
    refine At.region_end [0, 1, 2, 8, 13] [] _ (st' := ⟨[(0, i64 p0), (1, i64 p1), (2, i64 p2), (8, i64 p0), (13, bo (p0 == 5))], []⟩) (tips := []) (by kernel_rfl) all0 (norm ?_)
    refine At.cond (p0 == 5) (by kernel_rfl) (fun b20 => ?_) (fun b20 => ?_)
    · replace h := cond_t b20 h
      refine At.seq ?_
      refine At.region_end [6, 7] [] _ (st' := ⟨[(6, i64 (w64 (p1 + p2))), (7, i64 0)], []⟩) (tips := []) (by kernel_rfl) all0 (norm ?_)
      obtain rfl := some_eq h
      exact At.ret fun a w hs => ret_ok hR (ρ := []) (gs := []) (by kernel_rfl) all0 (by kernel_rfl) rfl rfl a w hs _ (.inl rfl)
    · replace h := cond_f b20 h
      refine At.seq ?_
      refine At.region_end [0, 1, 2, 8, 18] [] _ (st' := ⟨[(0, i64 p0), (1, i64 p1), (2, i64 p2), (8, i64 p0), (18, bo (p0 == 6))], []⟩) (tips := []) (by kernel_rfl) all0 (norm ?_)
      refine At.cond (p0 == 6) (by kernel_rfl) (fun b21 => ?_) (fun b21 => ?_)
      · replace h := cond_t b21 h
        refine At.seq ?_
        refine At.region_end [6, 7] [] _ (st' := ⟨[(6, i64 (w64 (p1 - p2))), (7, i64 0)], []⟩) (tips := []) (by kernel_rfl) all0 (norm ?_)
        obtain rfl := some_eq h
        exact At.ret fun a w hs => ret_ok hR (ρ := []) (gs := []) (by kernel_rfl) all0 (by kernel_rfl) rfl rfl a w hs _ (.inl rfl)
      · replace h := cond_f b21 h
        refine At.seq ?_
        refine At.region_end [0, 1, 2, 8, 23] [] _ (st' := ⟨[(0, i64 p0), (1, i64 p1), (2, i64 p2), (8, i64 p0), (23, bo (p0 == 7))], []⟩) (tips := []) (by kernel_rfl) all0 (norm ?_)
        refine At.cond (p0 == 7) (by kernel_rfl) (fun b22 => ?_) (fun b22 => ?_)
        · replace h := cond_t b22 h
          refine At.seq ?_
          refine At.region_end [6, 7] [] _ (st' := ⟨[(6, i64 (w64 (p1 * p2))), (7, i64 0)], []⟩) (tips := []) (by kernel_rfl) all0 (norm ?_)
          obtain rfl := some_eq h
          exact At.ret fun a w hs => ret_ok hR (ρ := []) (gs := []) (by kernel_rfl) all0 (by kernel_rfl) rfl rfl a w hs _ (.inl rfl)
        · replace h := cond_f b22 h
          refine At.seqJ (S := Bool) (fun s => ⟨[(0, i64 p0), (1, i64 p1), (2, i64 p2), (28, bo s)], []⟩) (fun s => F_arith_Apply_J1 p0 p1 p2 s = some r) ?_ ?_
          · refine At.seq ?_
            refine At.region_end [0, 1, 2, 8, 28] [] _ (st' := ⟨[(0, i64 p0), (1, i64 p1), (2, i64 p2), (8, i64 p0), (28, bo (p0 == 8))], []⟩) (tips := []) (by kernel_rfl) all0 (norm ?_)
            refine At.cond (p0 == 8) (by kernel_rfl) (fun b38 => ?_) (fun b38 => ?_)
            · replace h := cond_t b38 h
              refine At.nar [0, 1, 2, 28] [] (st' := ⟨[(0, i64 p0), (1, i64 p1), (2, i64 p2), (28, bo (p0 == 8))], []⟩) (by kernel_rfl) ?_
              refine At.skip (fun a w hs => ⟨(p0 == 8), h, hs⟩)
            · replace h := cond_f b38 h
              refine At.region_end [0, 1, 2, 28] [] _ (st' := ⟨[(0, i64 p0), (1, i64 p1), (2, i64 p2), (28, bo (p0 == 9))], []⟩) (tips := []) (by kernel_rfl) all0 (fun a w hs => ⟨(p0 == 9), h, hs⟩)
          · intro x24 h
            replace h : F_arith_Apply_J1 p0 p1 p2 x24 = some r := h
            rw [F_arith_Apply_J1] at h
            refine At.cond x24 (by kernel_rfl) (fun b25 => ?_) (fun b25 => ?_)
            · replace h := cond_t b25 h
              refine At.seq ?_
              refine At.seq ?_
              refine At.region_end [0, 1, 2, 32] [] _ (st' := ⟨[(0, i64 p0), (1, i64 p1), (2, i64 p2), (32, bo (p2 == 0))], []⟩) (tips := []) (by kernel_rfl) all0 (norm ?_)
              refine At.cond (p2 == 0) (by kernel_rfl) (fun b27 => ?_) (fun b27 => ?_)
              · replace h := cond_t b27 h
                refine At.seq ?_
                refine At.region_end [6, 7] [] _ (st' := ⟨[(6, i64 0), (7, i64 1)], []⟩) (tips := []) (by kernel_rfl) all0 (norm ?_)
                obtain rfl := some_eq h
                exact At.ret fun a w hs => ret_ok hR (ρ := []) (gs := []) (by kernel_rfl) all0 (by kernel_rfl) rfl rfl a w hs _ (.inl rfl)
              · replace h := cond_f b27 h
                refine At.nar [0, 1, 2] [] (st' := ⟨[(0, i64 p0), (1, i64 p1), (2, i64 p2)], []⟩) (by kernel_rfl) ?_
                refine At.skip (norm ?_)
                refine At.seq ?_
                refine At.seq ?_
                refine At.region_end [1, 2, 34] [] _ (st' := ⟨[(1, i64 p1), (2, i64 p2), (34, bo (p0 == 8))], []⟩) (tips := []) (by kernel_rfl) all0 (norm ?_)
                refine At.cond (p0 == 8) (by kernel_rfl) (fun b31 => ?_) (fun b31 => ?_)
                · replace h := cond_t b31 h
                  refine At.seq ?_
                  obtain ⟨g33, h⟩ := grd_some h
                  refine At.region_end [6, 7] [] _ (st' := ⟨[(6, i64 (w64 (Int.tdiv p1 p2))), (7, i64 0)], []⟩) (tips := []) (by kernel_rfl) (allc g33 all0) (norm ?_)
                  obtain rfl := some_eq h
                  exact At.ret fun a w hs => ret_ok hR (ρ := []) (gs := []) (by kernel_rfl) all0 (by kernel_rfl) rfl rfl a w hs _ (.inl rfl)
                · replace h := cond_f b31 h
                  refine At.nar [1, 2] [] (st' := ⟨[(1, i64 p1), (2, i64 p2)], []⟩) (by kernel_rfl) ?_
                  refine At.skip (norm ?_)
                  refine At.seq ?_
                  obtain ⟨g35, h⟩ := grd_some h
                  refine At.region_end [6, 7] [] _ (st' := ⟨[(6, i64 (Int.tmod p1 p2)), (7, i64 0)], []⟩) (tips := []) (by kernel_rfl) (allc g35 all0) (norm ?_)
                  obtain rfl := some_eq h
                  exact At.ret fun a w hs => ret_ok hR (ρ := []) (gs := []) (by kernel_rfl) all0 (by kernel_rfl) rfl rfl a w hs _ (.inl rfl)
            · replace h := cond_f b25 h
              refine At.nar [0, 1, 2] [] (st' := ⟨[(0, i64 p0), (1, i64 p1), (2, i64 p2)], []⟩) (by kernel_rfl) ?_
              refine At.skip (norm ?_)
              refine At.seq ?_
              obtain ⟨y37, hy37, h⟩ := bind_some h
              refine At.region_end [6, 7] [] _ (st' := ⟨[(6, i64 (cond (p0 == 10) y37.1 (cond (p0 == 11) y37.2.1 (cond (p0 == 12) y37.2.2.1 (cond (p0 == 13) y37.2.2.2.1 (cond (p0 == 14) y37.2.2.2.2.1 (cond (p0 == 15) y37.2.2.2.2.2.1 (cond (p0 == 16) y37.2.2.2.2.2.2.1 (cond (p0 == 17) y37.2.2.2.2.2.2.2.1 (cond (p0 == 4) y37.2.2.2.2.2.2.2.2 0)))))))))), (7, i64 0)], []⟩) (tips := [(2, { pc := some { ρ := [0], n0 := 0, res := .mapv 0, σ' := [.mp [.int .i64 10, .int .i64 11, .int .i64 12, .int .i64 13, .int .i64 14, .int .i64 15, .int .i64 16, .int .i64 17, .int .i64 4] [i64 y37.1, i64 y37.2.1, i64 y37.2.2.1, i64 y37.2.2.2.1, i64 y37.2.2.2.2.1, i64 y37.2.2.2.2.2.1, i64 y37.2.2.2.2.2.2.1, i64 y37.2.2.2.2.2.2.2.1, i64 y37.2.2.2.2.2.2.2.2]], e := [] } })]) (by kernel_rfl) (allc (C_arith_compared p1 p2 y37 hy37) all0) (norm ?_)
              obtain rfl := some_eq h
              exact At.ret fun a w hs => ret_ok hR (ρ := []) (gs := []) (by kernel_rfl) all0 (by kernel_rfl) rfl rfl a w hs _ (.inl rfl)
set_option maxRecDepth 100000 in
theorem C_retraceref15_bit (p0 : Bool) (r : Int) (h : F_retraceref15_bit p0 = some r) : FnOK Try.prog 42 [bo p0] [] (i64 r) [] [] := by
  rw [F_retraceref15_bit] at h
  refine FnOK.intro Try.func42 rfl (by kernel_rfl) (by kernel_rfl) fun E gv R hR => ?_
  refine At.seq ?_
  refine At.region_end [0] [] _ (st' := ⟨[(0, bo p0)], []⟩) (tips := []) (by kernel_rfl) all0 (norm ?_)
  refine At.seq ?_
  refine At.seq ?_
  refine At.region_end [3] [] _ (st' := ⟨[(3, bo p0)], []⟩) (tips := []) (by kernel_rfl) all0 (norm ?_)
  refine At.cond p0 (by kernel_rfl) (fun b2 => ?_) (fun b2 => ?_)
  · replace h := cond_t b2 h
    refine At.seq ?_
    refine At.region_end [2] [] _ (st' := ⟨[(2, i64 1)], []⟩) (tips := []) (by kernel_rfl) all0 (norm ?_)
    obtain rfl := some_eq h
    exact At.ret fun a w hs => ret_ok hR (ρ := []) (gs := []) (by kernel_rfl) all0 (by kernel_rfl) rfl rfl a w hs _ (.inl rfl)
  · replace h := cond_f b2 h
    refine At.nar [] [] (st' := ⟨[], []⟩) (by kernel_rfl) ?_
    refine At.skip (norm ?_)
    refine At.seq ?_
    refine At.region_end [2] [] _ (st' := ⟨[(2, i64 0)], []⟩) (tips := []) (by kernel_rfl) all0 (norm ?_)
    obtain rfl := some_eq h
    exact At.ret fun a w hs => ret_ok hR (ρ := []) (gs := []) (by kernel_rfl) all0 (by kernel_rfl) rfl rfl a w hs _ (.inl rfl)
set_option maxRecDepth 100000 in
theorem C_retraceref15_size (p0 : Int) (r : Int) (h : F_retraceref15_size p0 = some r) : FnOK Try.prog 53 [i64 p0] [] (u64 r) [] [] := by
  rw [F_retraceref15_size] at h
  refine FnOK.intro Try.func53 rfl (by kernel_rfl) (by kernel_rfl) fun E gv R hR => ?_
  refine At.seq ?_
  refine At.region_end [0] [] _ (st' := ⟨[(0, i64 p0)], []⟩) (tips := []) (by kernel_rfl) all0 (norm ?_)
  refine At.seq ?_
  refine At.seq ?_
  refine At.region_end [0, 4] [] _ (st' := ⟨[(0, i64 p0), (4, bo (decide (p0 < 0)))], []⟩) (tips := []) (by kernel_rfl) all0 (norm ?_)
  refine At.cond (decide (p0 < 0)) (by kernel_rfl) (fun b2 => ?_) (fun b2 => ?_)
  · replace h := cond_t b2 h
    refine At.seq ?_
    refine At.region_end [2] [] _ (st' := ⟨[(2, u64 (wu64 (0 - (wu64 p0))))], []⟩) (tips := []) (by kernel_rfl) all0 (norm ?_)
    obtain rfl := some_eq h
    exact At.ret fun a w hs => ret_ok hR (ρ := []) (gs := []) (by kernel_rfl) all0 (by kernel_rfl) rfl rfl a w hs _ (.inl rfl)
  · replace h := cond_f b2 h
    refine At.nar [0] [] (st' := ⟨[(0, i64 p0)], []⟩) (by kernel_rfl) ?_
    refine At.skip (norm ?_)
    refine At.seq ?_
    refine At.region_end [2] [] _ (st' := ⟨[(2, u64 (wu64 p0))], []⟩) (tips := []) (by kernel_rfl) all0 (norm ?_)
    obtain rfl := some_eq h
    exact At.ret fun a w hs => ret_ok hR (ρ := []) (gs := []) (by kernel_rfl) all0 (by kernel_rfl) rfl rfl a w hs _ (.inl rfl)
set_option maxRecDepth 100000 in
theorem C_retraceref15_Quotient (p0 : Int) (p1 : Int) (r : Int) (h : F_retraceref15_Quotient p0 p1 = some r) : FnOK Try.prog 43 [i64 p0, i64 p1] [] (i64 r) [] [] := by
  rw [F_retraceref15_Quotient] at h
  refine FnOK.intro Try.func43 rfl (by kernel_rfl) (by kernel_rfl) fun E gv R hR => ?_
  refine At.seq ?_
  refine At.region_end [0, 1] [] _ (st' := ⟨[(0, i64 p0), (1, i64 p1)], []⟩) (tips := []) (by kernel_rfl) all0 (norm ?_)
  refine At.seq ?_
  obtain ⟨y4, hy4, h⟩ := bind_some h
  obtain ⟨y5, hy5, h⟩ := bind_some h
  obtain ⟨g6, h⟩ := grd_some h
  refine At.region_end [0, 1, 5] [] _ (st' := ⟨[(0, i64 p0), (1, i64 p1), (5, u64 (wu64 (Int.tdiv y4 y5)))], []⟩) (tips := [(1, { pc := some { ρ := [], n0 := 0, res := u64 y4, σ' := [], e := [] } }), (3, { pc := some { ρ := [], n0 := 0, res := u64 y5, σ' := [], e := [] } })]) (by kernel_rfl) (allc (C_retraceref15_size p0 y4 hy4) (allc (C_retraceref15_size p1 y5 hy5) (allc g6 all0))) (norm ?_)
  refine At.seq ?_
  refine At.seq ?_
  refine At.region_end [5, 15] [] _ (st' := ⟨[(5, u64 (wu64 (Int.tdiv y4 y5))), (15, bo (!((decide (p0 < 0)) == (decide (p1 < 0)))))], []⟩) (tips := []) (by kernel_rfl) all0 (norm ?_)
  refine At.cond (!((decide (p0 < 0)) == (decide (p1 < 0)))) (by kernel_rfl) (fun b8 => ?_) (fun b8 => ?_)
  · replace h := cond_t b8 h
    refine At.seq ?_
    refine At.region_end [4] [] _ (st' := ⟨[(4, i64 (w64 (wu64 (0 - (wu64 (Int.tdiv y4 y5))))))], []⟩) (tips := []) (by kernel_rfl) all0 (norm ?_)
    obtain rfl := some_eq h
    exact At.ret fun a w hs => ret_ok hR (ρ := []) (gs := []) (by kernel_rfl) all0 (by kernel_rfl) rfl rfl a w hs _ (.inl rfl)
  · replace h := cond_f b8 h
    refine At.nar [5] [] (st' := ⟨[(5, u64 (wu64 (Int.tdiv y4 y5)))], []⟩) (by kernel_rfl) ?_
    refine At.skip (norm ?_)
    refine At.seq ?_
    refine At.region_end [4] [] _ (st' := ⟨[(4, i64 (w64 (wu64 (Int.tdiv y4 y5))))], []⟩) (tips := []) (by kernel_rfl) all0 (norm ?_)
    obtain rfl := some_eq h
    exact At.ret fun a w hs => ret_ok hR (ρ := []) (gs := []) (by kernel_rfl) all0 (by kernel_rfl) rfl rfl a w hs _ (.inl rfl)
set_option maxRecDepth 100000 in
theorem C_retraceref15_Apply (p0 : Int) (p1 : Int) (p2 : Int) (r : T_retraceref15_Value) (h : F_retraceref15_Apply p0 p1 p2 = some r) : FnOK Try.prog 13 [i64 p0, i64 p1, i64 p2] [] (.agg [i64 r.N, i64 r.Fault]) [] [] := by
  rw [F_retraceref15_Apply] at h
  refine FnOK.intro Try.func13 rfl (by kernel_rfl) (by kernel_rfl) fun E gv R hR => ?_
  refine At.seq ?_
  refine At.region_end [0, 1, 2, 6] [0] _ (st' := ⟨[(0, i64 p0), (1, i64 p1), (2, i64 p2), (6, .ptr 0 0)], [.blk 25 [i64 0, i64 0]]⟩) (tips := []) (by kernel_rfl) all0 (norm ?_)
  refine At.seq ?_
  refine At.region_end [0, 1, 2, 6, 7, 8] [0] _ (st' := ⟨[(0, i64 p0), (1, i64 p1), (2, i64 p2), (6, .ptr 0 0), (7, bo (decide (p1 < p2))), (8, bo (p1 == p2))], [.blk 25 [i64 0, i64 0]]⟩) (tips := []) (by kernel_rfl) all0 (norm ?_)
  refine At.seq ?_
  refine At.seq ?_
  refine At.region_end [0, 1, 2, 6, 7, 8, 16] [0] _ (st' := ⟨[(0, i64 p0), (1, i64 p1), (2, i64 p2), (6, .ptr 0 0), (7, bo (decide (p1 < p2))), (8, bo (p1 == p2)), (16, i64 p0)], [.blk 25 [i64 0, i64 0]]⟩) (tips := []) (by kernel_rfl) all0 (norm ?_)
  refine At.block ?_
  refine At.seq ?_
  refine At.region_end [0, 1, 2, 6, 7, 8, 16, 17] [0] _ (st' := ⟨[(0, i64 p0), (1, i64 p1), (2, i64 p2), (6, .ptr 0 0), (7, bo (decide (p1 < p2))), (8, bo (p1 == p2)), (16, i64 p0), (17, bo (p0 == 3))], [.blk 25 [i64 0, i64 0]]⟩) (tips := []) (by kernel_rfl) all0 (norm ?_)
  refine At.cond (p0 == 3) (by kernel_rfl) (fun b62 => ?_) (fun b62 => ?_)
  · replace h := cond_t b62 h
    refine At.seq ?_
    refine At.region_end [6] [0] _ (st' := ⟨[(6, .ptr 0 0)], [.blk 25 [i64 (w64 (0 - p1)), i64 0]]⟩) (tips := []) (by kernel_rfl) all0 (norm ?_)
    obtain rfl := some_eq h
    exact At.ret fun a w hs => ret_ok hR (ρ := []) (gs := []) (by kernel_rfl) all0 (by kernel_rfl) rfl rfl a w hs _ (.inl rfl)
  · replace h := cond_f b62 h
    refine At.seq ?_
    refine At.region_end [0, 1, 2, 6, 7, 8, 16, 22] [0] _ (st' := ⟨[(0, i64 p0), (1, i64 p1), (2, i64 p2), (6, .ptr 0 0), (7, bo (decide (p1 < p2))), (8, bo (p1 == p2)), (16, i64 p0), (22, bo (p0 == 4))], [.blk 25 [i64 0, i64 0]]⟩) (tips := []) (by kernel_rfl) all0 (norm ?_)
    refine At.cond (p0 == 4) (by kernel_rfl) (fun b63 => ?_) (fun b63 => ?_)
    · replace h := cond_t b63 h
      refine At.seq ?_
      obtain ⟨y65, hy65, h⟩ := bind_some h
      refine At.region_end [6] [0] _ (st' := ⟨[(6, .ptr 0 0)], [.blk 25 [i64 y65, i64 0]]⟩) (tips := [(2, { pc := some { ρ := [], n0 := 0, res := i64 y65, σ' := [], e := [] } })]) (by kernel_rfl) (allc (C_retraceref15_bit (p1 == 0) y65 hy65) all0) (norm ?_)
      obtain rfl := some_eq h
      exact At.ret fun a w hs => ret_ok hR (ρ := []) (gs := []) (by kernel_rfl) all0 (by kernel_rfl) rfl rfl a w hs _ (.inl rfl)
    · replace h := cond_f b63 h
      refine At.seq ?_
      refine At.region_end [0, 1, 2, 6, 7, 8, 16, 28] [0] _ (st' := ⟨[(0, i64 p0), (1, i64 p1), (2, i64 p2), (6, .ptr 0 0), (7, bo (decide (p1 < p2))), (8, bo (p1 == p2)), (16, i64 p0), (28, bo (p0 == 5))], [.blk 25 [i64 0, i64 0]]⟩) (tips := []) (by kernel_rfl) all0 (norm ?_)
      refine At.cond (p0 == 5) (by kernel_rfl) (fun b66 => ?_) (fun b66 => ?_)
      · replace h := cond_t b66 h
        refine At.seq ?_
        refine At.region_end [6] [0] _ (st' := ⟨[(6, .ptr 0 0)], [.blk 25 [i64 (w64 (wu64 ((wu64 p1) + (wu64 p2)))), i64 0]]⟩) (tips := []) (by kernel_rfl) all0 (norm ?_)
        obtain rfl := some_eq h
        exact At.ret fun a w hs => ret_ok hR (ρ := []) (gs := []) (by kernel_rfl) all0 (by kernel_rfl) rfl rfl a w hs _ (.inl rfl)
      · replace h := cond_f b66 h
        refine At.seq ?_
        refine At.region_end [0, 1, 2, 6, 7, 8, 16, 37] [0] _ (st' := ⟨[(0, i64 p0), (1, i64 p1), (2, i64 p2), (6, .ptr 0 0), (7, bo (decide (p1 < p2))), (8, bo (p1 == p2)), (16, i64 p0), (37, bo (p0 == 6))], [.blk 25 [i64 0, i64 0]]⟩) (tips := []) (by kernel_rfl) all0 (norm ?_)
        refine At.cond (p0 == 6) (by kernel_rfl) (fun b67 => ?_) (fun b67 => ?_)
        · replace h := cond_t b67 h
          refine At.seq ?_
          refine At.region_end [6] [0] _ (st' := ⟨[(6, .ptr 0 0)], [.blk 25 [i64 (w64 (wu64 ((wu64 p1) - (wu64 p2)))), i64 0]]⟩) (tips := []) (by kernel_rfl) all0 (norm ?_)
          obtain rfl := some_eq h
          exact At.ret fun a w hs => ret_ok hR (ρ := []) (gs := []) (by kernel_rfl) all0 (by kernel_rfl) rfl rfl a w hs _ (.inl rfl)
        · replace h := cond_f b67 h
          refine At.seq ?_
          refine At.region_end [0, 1, 2, 6, 7, 8, 16, 46] [0] _ (st' := ⟨[(0, i64 p0), (1, i64 p1), (2, i64 p2), (6, .ptr 0 0), (7, bo (decide (p1 < p2))), (8, bo (p1 == p2)), (16, i64 p0), (46, bo (p0 == 7))], [.blk 25 [i64 0, i64 0]]⟩) (tips := []) (by kernel_rfl) all0 (norm ?_)
          refine At.cond (p0 == 7) (by kernel_rfl) (fun b68 => ?_) (fun b68 => ?_)
          · replace h := cond_t b68 h
            refine At.seq ?_
            refine At.region_end [6] [0] _ (st' := ⟨[(6, .ptr 0 0)], [.blk 25 [i64 (w64 (wu64 ((wu64 p1) * (wu64 p2)))), i64 0]]⟩) (tips := []) (by kernel_rfl) all0 (norm ?_)
            obtain rfl := some_eq h
            exact At.ret fun a w hs => ret_ok hR (ρ := []) (gs := []) (by kernel_rfl) all0 (by kernel_rfl) rfl rfl a w hs _ (.inl rfl)
          · replace h := cond_f b68 h
            refine At.seqJ (S := Bool) (fun s => ⟨[(0, i64 p0), (1, i64 p1), (2, i64 p2), (6, .ptr 0 0), (7, bo (decide (p1 < p2))), (8, bo (p1 == p2)), (16, i64 p0), (55, bo s)], [.blk 25 [i64 0, i64 0]]⟩) (fun s => F_retraceref15_Apply_J1 p0 p1 p2 s = some r) ?_ ?_
            · refine At.seq ?_
              refine At.region_end [0, 1, 2, 6, 7, 8, 16, 55] [0] _ (st' := ⟨[(0, i64 p0), (1, i64 p1), (2, i64 p2), (6, .ptr 0 0), (7, bo (decide (p1 < p2))), (8, bo (p1 == p2)), (16, i64 p0), (55, bo (p0 == 8))], [.blk 25 [i64 0, i64 0]]⟩) (tips := []) (by kernel_rfl) all0 (norm ?_)
              refine At.cond (p0 == 8) (by kernel_rfl) (fun b122 => ?_) (fun b122 => ?_)
              · replace h := cond_t b122 h
                refine At.skip (fun a w hs => ⟨(p0 == 8), h, hs⟩)
              · replace h := cond_f b122 h
                refine At.region_end [0, 1, 2, 6, 7, 8, 16, 55] [0] _ (st' := ⟨[(0, i64 p0), (1, i64 p1), (2, i64 p2), (6, .ptr 0 0), (7, bo (decide (p1 < p2))), (8, bo (p1 == p2)), (16, i64 p0), (55, bo (p0 == 9))], [.blk 25 [i64 0, i64 0]]⟩) (tips := []) (by kernel_rfl) all0 (fun a w hs => ⟨(p0 == 9), h, hs⟩)
            · intro x70 h
              replace h : F_retraceref15_Apply_J1 p0 p1 p2 x70 = some r := h
              rw [F_retraceref15_Apply_J1] at h
              refine At.cond x70 (by kernel_rfl) (fun b71 => ?_) (fun b71 => ?_)
              · replace h := cond_t b71 h
                refine At.seq ?_
                refine At.seq ?_
                refine At.region_end [0, 1, 2, 6, 59] [0] _ (st' := ⟨[(0, i64 p0), (1, i64 p1), (2, i64 p2), (6, .ptr 0 0), (59, bo (p2 == 0))], [.blk 25 [i64 0, i64 0]]⟩) (tips := []) (by kernel_rfl) all0 (norm ?_)
                refine At.cond (p2 == 0) (by kernel_rfl) (fun b73 => ?_) (fun b73 => ?_)
                · replace h := cond_t b73 h
                  refine At.seq ?_
                  refine At.region_end [6] [0] _ (st' := ⟨[(6, .ptr 0 0)], [.blk 25 [i64 0, i64 1]]⟩) (tips := []) (by kernel_rfl) all0 (norm ?_)
                  obtain rfl := some_eq h
                  exact At.ret fun a w hs => ret_ok hR (ρ := []) (gs := []) (by kernel_rfl) all0 (by kernel_rfl) rfl rfl a w hs _ (.inl rfl)
                · replace h := cond_f b73 h
                  refine At.nar [0, 1, 2, 6] [0] (st' := ⟨[(0, i64 p0), (1, i64 p1), (2, i64 p2), (6, .ptr 0 0)], [.blk 25 [i64 0, i64 0]]⟩) (by kernel_rfl) ?_
                  refine At.skip (norm ?_)
                  refine At.seq ?_
                  obtain ⟨y75, hy75, h⟩ := bind_some h
                  refine At.region_end [0, 1, 2, 6, 9] [0] _ (st' := ⟨[(0, i64 p0), (1, i64 p1), (2, i64 p2), (6, .ptr 0 0), (9, i64 y75)], [.blk 25 [i64 0, i64 0]]⟩) (tips := [(2, { pc := some { ρ := [], n0 := 0, res := i64 y75, σ' := [], e := [] } })]) (by kernel_rfl) (allc (C_retraceref15_Quotient p1 p2 y75 hy75) all0) (norm ?_)
                  refine At.seq ?_
                  refine At.seq ?_
                  refine At.region_end [1, 2, 6, 9, 65] [0] _ (st' := ⟨[(1, i64 p1), (2, i64 p2), (6, .ptr 0 0), (9, i64 y75), (65, bo (p0 == 8))], [.blk 25 [i64 0, i64 0]]⟩) (tips := []) (by kernel_rfl) all0 (norm ?_)
                  refine At.cond (p0 == 8) (by kernel_rfl) (fun b77 => ?_) (fun b77 => ?_)
                  · replace h := cond_t b77 h
                    refine At.seq ?_
                    refine At.region_end [6] [0] _ (st' := ⟨[(6, .ptr 0 0)], [.blk 25 [i64 y75, i64 0]]⟩) (tips := []) (by kernel_rfl) all0 (norm ?_)
                    obtain rfl := some_eq h
                    exact At.ret fun a w hs => ret_ok hR (ρ := []) (gs := []) (by kernel_rfl) all0 (by kernel_rfl) rfl rfl a w hs _ (.inl rfl)
                  · replace h := cond_f b77 h
                    refine At.nar [1, 2, 6, 9] [0] (st' := ⟨[(1, i64 p1), (2, i64 p2), (6, .ptr 0 0), (9, i64 y75)], [.blk 25 [i64 0, i64 0]]⟩) (by kernel_rfl) ?_
                    refine At.skip (norm ?_)
                    refine At.seq ?_
                    refine At.region_end [6] [0] _ (st' := ⟨[(6, .ptr 0 0)], [.blk 25 [i64 (w64 (p1 - (w64 (y75 * p2)))), i64 0]]⟩) (tips := []) (by kernel_rfl) all0 (norm ?_)
                    obtain rfl := some_eq h
                    exact At.ret fun a w hs => ret_ok hR (ρ := []) (gs := []) (by kernel_rfl) all0 (by kernel_rfl) rfl rfl a w hs _ (.inl rfl)
              · replace h := cond_f b71 h
                refine At.seq ?_
                refine At.region_end [1, 2, 6, 7, 8, 16, 74] [0] _ (st' := ⟨[(1, i64 p1), (2, i64 p2), (6, .ptr 0 0), (7, bo (decide (p1 < p2))), (8, bo (p1 == p2)), (16, i64 p0), (74, bo (p0 == 10))], [.blk 25 [i64 0, i64 0]]⟩) (tips := []) (by kernel_rfl) all0 (norm ?_)
                refine At.cond (p0 == 10) (by kernel_rfl) (fun b78 => ?_) (fun b78 => ?_)
                · replace h := cond_t b78 h
                  refine At.seq ?_
                  obtain ⟨y80, hy80, h⟩ := bind_some h
                  refine At.region_end [6] [0] _ (st' := ⟨[(6, .ptr 0 0)], [.blk 25 [i64 y80, i64 0]]⟩) (tips := [(1, { pc := some { ρ := [], n0 := 0, res := i64 y80, σ' := [], e := [] } })]) (by kernel_rfl) (allc (C_retraceref15_bit (p1 == p2) y80 hy80) all0) (norm ?_)
                  obtain rfl := some_eq h
                  exact At.ret fun a w hs => ret_ok hR (ρ := []) (gs := []) (by kernel_rfl) all0 (by kernel_rfl) rfl rfl a w hs _ (.inl rfl)
                · replace h := cond_f b78 h
                  refine At.seq ?_
                  refine At.region_end [1, 2, 6, 7, 8, 16, 79] [0] _ (st' := ⟨[(1, i64 p1), (2, i64 p2), (6, .ptr 0 0), (7, bo (decide (p1 < p2))), (8, bo (p1 == p2)), (16, i64 p0), (79, bo (p0 == 11))], [.blk 25 [i64 0, i64 0]]⟩) (tips := []) (by kernel_rfl) all0 (norm ?_)
                  refine At.cond (p0 == 11) (by kernel_rfl) (fun b81 => ?_) (fun b81 => ?_)
                  · replace h := cond_t b81 h
                    refine At.seq ?_
                    obtain ⟨y83, hy83, h⟩ := bind_some h
                    refine At.region_end [6] [0] _ (st' := ⟨[(6, .ptr 0 0)], [.blk 25 [i64 y83, i64 0]]⟩) (tips := [(2, { pc := some { ρ := [], n0 := 0, res := i64 y83, σ' := [], e := [] } })]) (by kernel_rfl) (allc (C_retraceref15_bit (!(p1 == p2)) y83 hy83) all0) (norm ?_)
                    obtain rfl := some_eq h
                    exact At.ret fun a w hs => ret_ok hR (ρ := []) (gs := []) (by kernel_rfl) all0 (by kernel_rfl) rfl rfl a w hs _ (.inl rfl)
                  · replace h := cond_f b81 h
                    refine At.seq ?_
                    refine At.region_end [1, 2, 6, 7, 8, 16, 85] [0] _ (st' := ⟨[(1, i64 p1), (2, i64 p2), (6, .ptr 0 0), (7, bo (decide (p1 < p2))), (8, bo (p1 == p2)), (16, i64 p0), (85, bo (p0 == 12))], [.blk 25 [i64 0, i64 0]]⟩) (tips := []) (by kernel_rfl) all0 (norm ?_)
                    refine At.cond (p0 == 12) (by kernel_rfl) (fun b84 => ?_) (fun b84 => ?_)
                    · replace h := cond_t b84 h
                      refine At.seq ?_
                      obtain ⟨y86, hy86, h⟩ := bind_some h
                      refine At.region_end [6] [0] _ (st' := ⟨[(6, .ptr 0 0)], [.blk 25 [i64 y86, i64 0]]⟩) (tips := [(1, { pc := some { ρ := [], n0 := 0, res := i64 y86, σ' := [], e := [] } })]) (by kernel_rfl) (allc (C_retraceref15_bit (decide (p1 < p2)) y86 hy86) all0) (norm ?_)
                      obtain rfl := some_eq h
                      exact At.ret fun a w hs => ret_ok hR (ρ := []) (gs := []) (by kernel_rfl) all0 (by kernel_rfl) rfl rfl a w hs _ (.inl rfl)
                    · replace h := cond_f b84 h
                      refine At.seq ?_
                      refine At.region_end [1, 2, 6, 7, 8, 16, 90] [0] _ (st' := ⟨[(1, i64 p1), (2, i64 p2), (6, .ptr 0 0), (7, bo (decide (p1 < p2))), (8, bo (p1 == p2)), (16, i64 p0), (90, bo (p0 == 13))], [.blk 25 [i64 0, i64 0]]⟩) (tips := []) (by kernel_rfl) all0 (norm ?_)
                      refine At.cond (p0 == 13) (by kernel_rfl) (fun b87 => ?_) (fun b87 => ?_)
                      · replace h := cond_t b87 h
                        refine At.seqJ (S := Int) (fun s => ⟨[(6, .ptr 0 0)], [.blk 25 [i64 s, i64 0]]⟩) (fun s => F_retraceref15_Apply_J2 s = some r) ?_ ?_
                        · rcases tf (decide (p1 < p2)) with b92 | b92
                          · replace h := cond_t b92 h
                            obtain ⟨y93, hy93, h⟩ := bind_some h
                            refine At.region_end [6] [0] _ (st' := ⟨[(6, .ptr 0 0)], [.blk 25 [i64 y93, i64 0]]⟩) (tips := [(1, { orc := .val (.bool true) }), (4, { pc := some { ρ := [], n0 := 0, res := i64 y93, σ' := [], e := [] } })]) (by kernel_rfl) (allc (congrArg D.bool b92) (allc (C_retraceref15_bit true y93 hy93) all0)) (fun a w hs => ⟨y93, h, hs⟩)
                          · replace h := cond_f b92 h
                            obtain ⟨y94, hy94, h⟩ := bind_some h
                            refine At.region_end [6] [0] _ (st' := ⟨[(6, .ptr 0 0)], [.blk 25 [i64 y94, i64 0]]⟩) (tips := [(1, { orc := .val (.bool false) }), (4, { pc := some { ρ := [], n0 := 0, res := i64 y94, σ' := [], e := [] } })]) (by kernel_rfl) (allc (congrArg D.bool b92) (allc (C_retraceref15_bit (p1 == p2) y94 hy94) all0)) (fun a w hs => ⟨y94, h, hs⟩)
                        · intro x91 h
                          replace h : F_retraceref15_Apply_J2 x91 = some r := h
                          rw [F_retraceref15_Apply_J2] at h
                          obtain rfl := some_eq h
                          exact At.ret fun a w hs => ret_ok hR (ρ := []) (gs := []) (by kernel_rfl) all0 (by kernel_rfl) rfl rfl a w hs _ (.inl rfl)
                      · replace h := cond_f b87 h
                        refine At.seq ?_
                        refine At.region_end [1, 2, 6, 7, 8, 16, 98] [0] _ (st' := ⟨[(1, i64 p1), (2, i64 p2), (6, .ptr 0 0), (7, bo (decide (p1 < p2))), (8, bo (p1 == p2)), (16, i64 p0), (98, bo (p0 == 14))], [.blk 25 [i64 0, i64 0]]⟩) (tips := []) (by kernel_rfl) all0 (norm ?_)
                        refine At.cond (p0 == 14) (by kernel_rfl) (fun b95 => ?_) (fun b95 => ?_)
                        · replace h := cond_t b95 h
                          refine At.seqJ (S := Int) (fun s => ⟨[(6, .ptr 0 0)], [.blk 25 [i64 s, i64 0]]⟩) (fun s => F_retraceref15_Apply_J3 s = some r) ?_ ?_
                          · rcases tf (!(decide (p1 < p2))) with b100 | b100
                            · replace h := cond_t b100 h
                              obtain ⟨y101, hy101, h⟩ := bind_some h
                              refine At.region_end [6] [0] _ (st' := ⟨[(6, .ptr 0 0)], [.blk 25 [i64 y101, i64 0]]⟩) (tips := [(2, { orc := .val (.bool true) }), (6, { pc := some { ρ := [], n0 := 0, res := i64 y101, σ' := [], e := [] } })]) (by kernel_rfl) (allc (congrArg D.bool b100) (allc (C_retraceref15_bit (!(p1 == p2)) y101 hy101) all0)) (fun a w hs => ⟨y101, h, hs⟩)
                            · replace h := cond_f b100 h
                              obtain ⟨y102, hy102, h⟩ := bind_some h
                              refine At.region_end [6] [0] _ (st' := ⟨[(6, .ptr 0 0)], [.blk 25 [i64 y102, i64 0]]⟩) (tips := [(2, { orc := .val (.bool false) }), (6, { pc := some { ρ := [], n0 := 0, res := i64 y102, σ' := [], e := [] } })]) (by kernel_rfl) (allc (congrArg D.bool b100) (allc (C_retraceref15_bit false y102 hy102) all0)) (fun a w hs => ⟨y102, h, hs⟩)
                          · intro x99 h
                            replace h : F_retraceref15_Apply_J3 x99 = some r := h
                            rw [F_retraceref15_Apply_J3] at h
                            obtain rfl := some_eq h
                            exact At.ret fun a w hs => ret_ok hR (ρ := []) (gs := []) (by kernel_rfl) all0 (by kernel_rfl) rfl rfl a w hs _ (.inl rfl)
                        · replace h := cond_f b95 h
                          refine At.seq ?_
                          refine At.region_end [1, 2, 6, 7, 16, 108] [0] _ (st' := ⟨[(1, i64 p1), (2, i64 p2), (6, .ptr 0 0), (7, bo (decide (p1 < p2))), (16, i64 p0), (108, bo (p0 == 15))], [.blk 25 [i64 0, i64 0]]⟩) (tips := []) (by kernel_rfl) all0 (norm ?_)
                          refine At.cond (p0 == 15) (by kernel_rfl) (fun b103 => ?_) (fun b103 => ?_)
                          · replace h := cond_t b103 h
                            refine At.seq ?_
                            obtain ⟨y105, hy105, h⟩ := bind_some h
                            refine At.region_end [6] [0] _ (st' := ⟨[(6, .ptr 0 0)], [.blk 25 [i64 y105, i64 0]]⟩) (tips := [(2, { pc := some { ρ := [], n0 := 0, res := i64 y105, σ' := [], e := [] } })]) (by kernel_rfl) (allc (C_retraceref15_bit (!(decide (p1 < p2))) y105 hy105) all0) (norm ?_)
                            obtain rfl := some_eq h
                            exact At.ret fun a w hs => ret_ok hR (ρ := []) (gs := []) (by kernel_rfl) all0 (by kernel_rfl) rfl rfl a w hs _ (.inl rfl)
                          · replace h := cond_f b103 h
                            refine At.seq ?_
                            refine At.region_end [1, 2, 6, 16, 114] [0] _ (st' := ⟨[(1, i64 p1), (2, i64 p2), (6, .ptr 0 0), (16, i64 p0), (114, bo (p0 == 16))], [.blk 25 [i64 0, i64 0]]⟩) (tips := []) (by kernel_rfl) all0 (norm ?_)
                            refine At.cond (p0 == 16) (by kernel_rfl) (fun b106 => ?_) (fun b106 => ?_)
                            · replace h := cond_t b106 h
                              refine At.seqJ (S := Int) (fun s => ⟨[(6, .ptr 0 0)], [.blk 25 [i64 s, i64 0]]⟩) (fun s => F_retraceref15_Apply_J4 s = some r) ?_ ?_
                              · rcases tf (p1 != 0) with b111 | b111
                                · replace h := cond_t b111 h
                                  obtain ⟨y112, hy112, h⟩ := bind_some h
                                  refine At.region_end [6] [0] _ (st' := ⟨[(6, .ptr 0 0)], [.blk 25 [i64 y112, i64 0]]⟩) (tips := [(2, { orc := .val (.bool true) }), (6, { pc := some { ρ := [], n0 := 0, res := i64 y112, σ' := [], e := [] } })]) (by kernel_rfl) (allc (congrArg D.bool b111) (allc (C_retraceref15_bit (p2 != 0) y112 hy112) all0)) (fun a w hs => ⟨y112, h, hs⟩)
                                · replace h := cond_f b111 h
                                  obtain ⟨y113, hy113, h⟩ := bind_some h
                                  refine At.region_end [6] [0] _ (st' := ⟨[(6, .ptr 0 0)], [.blk 25 [i64 y113, i64 0]]⟩) (tips := [(2, { orc := .val (.bool false) }), (6, { pc := some { ρ := [], n0 := 0, res := i64 y113, σ' := [], e := [] } })]) (by kernel_rfl) (allc (congrArg D.bool b111) (allc (C_retraceref15_bit false y113 hy113) all0)) (fun a w hs => ⟨y113, h, hs⟩)
                              · intro x110 h
                                replace h : F_retraceref15_Apply_J4 x110 = some r := h
                                rw [F_retraceref15_Apply_J4] at h
                                obtain rfl := some_eq h
                                exact At.ret fun a w hs => ret_ok hR (ρ := []) (gs := []) (by kernel_rfl) all0 (by kernel_rfl) rfl rfl a w hs _ (.inl rfl)
                            · replace h := cond_f b106 h
                              refine At.seq ?_
                              refine At.region_end [1, 2, 6, 124] [0] _ (st' := ⟨[(1, i64 p1), (2, i64 p2), (6, .ptr 0 0), (124, bo (p0 == 17))], [.blk 25 [i64 0, i64 0]]⟩) (tips := []) (by kernel_rfl) all0 (norm ?_)
                              refine At.cond (p0 == 17) (by kernel_rfl) (fun b114 => ?_) (fun b114 => ?_)
                              · replace h := cond_t b114 h
                                refine At.seqJ (S := Int) (fun s => ⟨[(6, .ptr 0 0)], [.blk 25 [i64 s, i64 0]]⟩) (fun s => F_retraceref15_Apply_J5 s = some r) ?_ ?_
                                · rcases tf (p1 != 0) with b119 | b119
                                  · replace h := cond_t b119 h
                                    obtain ⟨y120, hy120, h⟩ := bind_some h
                                    refine At.region_end [6] [0] _ (st' := ⟨[(6, .ptr 0 0)], [.blk 25 [i64 y120, i64 0]]⟩) (tips := [(2, { orc := .val (.bool true) }), (6, { pc := some { ρ := [], n0 := 0, res := i64 y120, σ' := [], e := [] } })]) (by kernel_rfl) (allc (congrArg D.bool b119) (allc (C_retraceref15_bit true y120 hy120) all0)) (fun a w hs => ⟨y120, h, hs⟩)
                                  · replace h := cond_f b119 h
                                    obtain ⟨y121, hy121, h⟩ := bind_some h
                                    refine At.region_end [6] [0] _ (st' := ⟨[(6, .ptr 0 0)], [.blk 25 [i64 y121, i64 0]]⟩) (tips := [(2, { orc := .val (.bool false) }), (6, { pc := some { ρ := [], n0 := 0, res := i64 y121, σ' := [], e := [] } })]) (by kernel_rfl) (allc (congrArg D.bool b119) (allc (C_retraceref15_bit (p2 != 0) y121 hy121) all0)) (fun a w hs => ⟨y121, h, hs⟩)
                                · intro x118 h
                                  replace h : F_retraceref15_Apply_J5 x118 = some r := h
                                  rw [F_retraceref15_Apply_J5] at h
                                  obtain rfl := some_eq h
                                  exact At.ret fun a w hs => ret_ok hR (ρ := []) (gs := []) (by kernel_rfl) all0 (by kernel_rfl) rfl rfl a w hs _ (.inl rfl)
                              · replace h := cond_f b114 h
                                refine At.nar [6] [0] (st' := ⟨[(6, .ptr 0 0)], [.blk 25 [i64 0, i64 0]]⟩) (by kernel_rfl) ?_
                                refine At.skip (norm ?_)
                                refine At.seq ?_
                                refine At.region_end [6] [0] _ (st' := ⟨[(6, .ptr 0 0)], [.blk 25 [i64 0, i64 0]]⟩) (tips := []) (by kernel_rfl) all0 (norm ?_)
                                obtain rfl := some_eq h
                                exact At.ret fun a w hs => ret_ok hR (ρ := []) (gs := []) (by kernel_rfl) all0 (by kernel_rfl) rfl rfl a w hs _ (.inl rfl)
set_option maxRecDepth 100000 in
theorem C_arith_Wide (p0 : Int) (r : Int) (h : F_arith_Wide p0 = some r) : FnOK Try.prog 14 [i64 p0] [] (i64 r) [] [] := by
  rw [F_arith_Wide] at h
  refine FnOK.intro Try.func14 rfl (by kernel_rfl) (by kernel_rfl) fun E gv R hR => ?_
  refine At.seq ?_
  refine At.region_end [0] [] _ (st' := ⟨[(0, i64 p0)], []⟩) (tips := []) (by kernel_rfl) all0 (norm ?_)
  refine At.seq ?_
  refine At.block ?_
  refine At.seqJ (S := Bool) (fun s => ⟨[(0, i64 p0), (3, bo s)], []⟩) (fun s => F_arith_Wide_J1 p0 s = some r) ?_ ?_
  · rcases tf (p0 == 3) with b16 | b16
    · replace h := cond_t b16 h
      refine At.region_end [0, 3] [] _ (st' := ⟨[(0, i64 p0), (3, bo true)], []⟩) (tips := [(2, { orc := .val (.bool true) })]) (by kernel_rfl) (allc (congrArg D.bool b16) all0) (fun a w hs => ⟨true, h, hs⟩)
    · replace h := cond_f b16 h
      refine At.region_end [0, 3] [] _ (st' := ⟨[(0, i64 p0), (3, bo (p0 == 4))], []⟩) (tips := [(2, { orc := .val (.bool false) })]) (by kernel_rfl) (allc (congrArg D.bool b16) all0) (fun a w hs => ⟨(p0 == 4), h, hs⟩)
  · intro x10 h
    replace h : F_arith_Wide_J1 p0 x10 = some r := h
    rw [F_arith_Wide_J1] at h
    refine At.cond x10 (by kernel_rfl) (fun b11 => ?_) (fun b11 => ?_)
    · replace h := cond_t b11 h
      refine At.seq ?_
      refine At.region_end [2] [] _ (st' := ⟨[(2, i64 1)], []⟩) (tips := []) (by kernel_rfl) all0 (norm ?_)
      obtain rfl := some_eq h
      exact At.ret fun a w hs => ret_ok hR (ρ := []) (gs := []) (by kernel_rfl) all0 (by kernel_rfl) rfl rfl a w hs _ (.inl rfl)
    · replace h := cond_f b11 h
      refine At.seqJ (S := Bool) (fun s => ⟨[(10, bo s)], []⟩) (fun s => F_arith_Wide_J2 s = some r) ?_ ?_
      · rcases tf (decide (5 ≤ p0)) with b15 | b15
        · replace h := cond_t b15 h
          refine At.region_end [10] [] _ (st' := ⟨[(10, bo (decide (p0 ≤ 17)))], []⟩) (tips := [(2, { orc := .val (.bool true) })]) (by kernel_rfl) (allc (congrArg D.bool b15) all0) (fun a w hs => ⟨(decide (p0 ≤ 17)), h, hs⟩)
        · replace h := cond_f b15 h
          refine At.region_end [10] [] _ (st' := ⟨[(10, bo false)], []⟩) (tips := [(2, { orc := .val (.bool false) })]) (by kernel_rfl) (allc (congrArg D.bool b15) all0) (fun a w hs => ⟨false, h, hs⟩)
      · intro x13 h
        replace h : F_arith_Wide_J2 x13 = some r := h
        rw [F_arith_Wide_J2] at h
        refine At.cond x13 (by kernel_rfl) (fun b14 => ?_) (fun b14 => ?_)
        · replace h := cond_t b14 h
          refine At.seq ?_
          refine At.region_end [2] [] _ (st' := ⟨[(2, i64 2)], []⟩) (tips := []) (by kernel_rfl) all0 (norm ?_)
          obtain rfl := some_eq h
          exact At.ret fun a w hs => ret_ok hR (ρ := []) (gs := []) (by kernel_rfl) all0 (by kernel_rfl) rfl rfl a w hs _ (.inl rfl)
        · replace h := cond_f b14 h
          refine At.nar [] [] (st' := ⟨[], []⟩) (by kernel_rfl) ?_
          refine At.skip (norm ?_)
          refine At.seq ?_
          refine At.region_end [2] [] _ (st' := ⟨[(2, i64 0)], []⟩) (tips := []) (by kernel_rfl) all0 (norm ?_)
          obtain rfl := some_eq h
          exact At.ret fun a w hs => ret_ok hR (ρ := []) (gs := []) (by kernel_rfl) all0 (by kernel_rfl) rfl rfl a w hs _ (.inl rfl)
set_option maxRecDepth 100000 in
theorem C_retraceref15_Wide (p0 : Int) (r : Int) (h : F_retraceref15_Wide p0 = some r) : FnOK Try.prog 15 [i64 p0] [] (i64 r) [] [] := by
  rw [F_retraceref15_Wide] at h
  refine FnOK.intro Try.func15 rfl (by kernel_rfl) (by kernel_rfl) fun E gv R hR => ?_
  refine At.seq ?_
  refine At.region_end [0] [] _ (st' := ⟨[(0, i64 p0)], []⟩) (tips := []) (by kernel_rfl) all0 (norm ?_)
  refine At.seq ?_
  refine At.seqJ (S := Bool) (fun s => ⟨[(0, i64 p0), (8, bo s)], []⟩) (fun s => F_retraceref15_Wide_J1 p0 s = some r) ?_ ?_
  · rcases tf (p0 == 3) with b16 | b16
    · replace h := cond_t b16 h
      refine At.region_end [0, 8] [] _ (st' := ⟨[(0, i64 p0), (8, bo true)], []⟩) (tips := [(2, { orc := .val (.bool true) })]) (by kernel_rfl) (allc (congrArg D.bool b16) all0) (fun a w hs => ⟨true, h, hs⟩)
    · replace h := cond_f b16 h
      refine At.region_end [0, 8] [] _ (st' := ⟨[(0, i64 p0), (8, bo (p0 == 4))], []⟩) (tips := [(2, { orc := .val (.bool false) })]) (by kernel_rfl) (allc (congrArg D.bool b16) all0) (fun a w hs => ⟨(p0 == 4), h, hs⟩)
  · intro x6 h
    replace h : F_retraceref15_Wide_J1 p0 x6 = some r := h
    rw [F_retraceref15_Wide_J1] at h
    refine At.cond x6 (by kernel_rfl) (fun b7 => ?_) (fun b7 => ?_)
    · replace h := cond_t b7 h
      refine At.seq ?_
      refine At.region_end [2] [] _ (st' := ⟨[(2, i64 1)], []⟩) (tips := []) (by kernel_rfl) all0 (norm ?_)
      obtain rfl := some_eq h
      exact At.ret fun a w hs => ret_ok hR (ρ := []) (gs := []) (by kernel_rfl) all0 (by kernel_rfl) rfl rfl a w hs _ (.inl rfl)
    · replace h := cond_f b7 h
      refine At.nar [0] [] (st' := ⟨[(0, i64 p0)], []⟩) (by kernel_rfl) ?_
      refine At.skip (norm ?_)
      refine At.seq ?_
      refine At.seqJ (S := Bool) (fun s => ⟨[(14, bo s)], []⟩) (fun s => F_retraceref15_Wide_J2 s = some r) ?_ ?_
      · rcases tf (decide (5 ≤ p0)) with b15 | b15
        · replace h := cond_t b15 h
          refine At.region_end [14] [] _ (st' := ⟨[(14, bo (decide (p0 ≤ 17)))], []⟩) (tips := [(2, { orc := .val (.bool true) })]) (by kernel_rfl) (allc (congrArg D.bool b15) all0) (fun a w hs => ⟨(decide (p0 ≤ 17)), h, hs⟩)
        · replace h := cond_f b15 h
          refine At.region_end [14] [] _ (st' := ⟨[(14, bo false)], []⟩) (tips := [(2, { orc := .val (.bool false) })]) (by kernel_rfl) (allc (congrArg D.bool b15) all0) (fun a w hs => ⟨false, h, hs⟩)
      · intro x13 h
        replace h : F_retraceref15_Wide_J2 x13 = some r := h
        rw [F_retraceref15_Wide_J2] at h
        refine At.cond x13 (by kernel_rfl) (fun b14 => ?_) (fun b14 => ?_)
        · replace h := cond_t b14 h
          refine At.seq ?_
          refine At.region_end [2] [] _ (st' := ⟨[(2, i64 2)], []⟩) (tips := []) (by kernel_rfl) all0 (norm ?_)
          obtain rfl := some_eq h
          exact At.ret fun a w hs => ret_ok hR (ρ := []) (gs := []) (by kernel_rfl) all0 (by kernel_rfl) rfl rfl a w hs _ (.inl rfl)
        · replace h := cond_f b14 h
          refine At.nar [] [] (st' := ⟨[], []⟩) (by kernel_rfl) ?_
          refine At.skip (norm ?_)
          refine At.seq ?_
          refine At.region_end [2] [] _ (st' := ⟨[(2, i64 0)], []⟩) (tips := []) (by kernel_rfl) all0 (norm ?_)
          obtain rfl := some_eq h
          exact At.ret fun a w hs => ret_ok hR (ρ := []) (gs := []) (by kernel_rfl) all0 (by kernel_rfl) rfl rfl a w hs _ (.inl rfl)
set_option maxRecDepth 100000 in
theorem C_retracelaw15_live  (r : Bool) (h : F_retracelaw15_live  = some r) : FnOK Try.prog 16 [] [] (bo r) [] [] := by
  rw [F_retracelaw15_live] at h
  refine FnOK.intro Try.func16 rfl (by kernel_rfl) (by kernel_rfl) fun E gv R hR => ?_
  refine At.seq ?_
  refine At.region_end [] [] _ (st' := ⟨[], []⟩) (tips := []) (by kernel_rfl) all0 (norm ?_)
  refine At.seq ?_
  obtain ⟨y2, hy2, h⟩ := bind_some h
  refine At.region_end [1, 2] [] _ (st' := ⟨[(1, i64 y2.1), (2, i64 y2.2)], []⟩) (tips := [(0, { pc := some { ρ := [], n0 := 0, res := .tup [i64 y2.1, i64 y2.2], σ' := [], e := [] } })]) (by kernel_rfl) (allc (C_arith_Apply 8 (-7) 2 y2 hy2) all0) (norm ?_)
  refine At.seq ?_
  obtain ⟨y4, hy4, h⟩ := bind_some h
  refine At.region_end [1, 2, 3, 4] [] _ (st' := ⟨[(1, i64 y2.1), (2, i64 y2.2), (3, i64 y4.1), (4, i64 y4.2)], []⟩) (tips := [(0, { pc := some { ρ := [], n0 := 0, res := .tup [i64 y4.1, i64 y4.2], σ' := [], e := [] } })]) (by kernel_rfl) (allc (C_arith_Apply 9 (-7) 2 y4 hy4) all0) (norm ?_)
  refine At.seq ?_
  obtain ⟨y6, hy6, h⟩ := bind_some h
  refine At.region_end [1, 2, 3, 4, 6] [] _ (st' := ⟨[(1, i64 y2.1), (2, i64 y2.2), (3, i64 y4.1), (4, i64 y4.2), (6, i64 y6.2)], []⟩) (tips := [(0, { pc := some { ρ := [], n0 := 0, res := .tup [i64 y6.1, i64 y6.2], σ' := [], e := [] } })]) (by kernel_rfl) (allc (C_arith_Apply 9 1 0 y6 hy6) all0) (norm ?_)
  refine At.seqJ (S := Bool) (fun s => ⟨[(0, bo s)], []⟩) (fun s => F_retracelaw15_live_J1 s = some r) ?_ ?_
  · rcases tf (y2.1 == (-3)) with b14 | b14
    · replace h := cond_t b14 h
      rcases tf (y4.1 == (-1)) with b15 | b15
      · replace h := cond_t b15 h
        rcases tf (y2.2 == 0) with b16 | b16
        · replace h := cond_t b16 h
          rcases tf (y4.2 == 0) with b17 | b17
          · replace h := cond_t b17 h
            rcases tf (y6.2 == 1) with b18 | b18
            · replace h := cond_t b18 h
              obtain ⟨y19, hy19, h⟩ := bind_some h
              refine At.region_end [0] [] _ (st' := ⟨[(0, bo (y19 == 2))], []⟩) (tips := [(2, { orc := .val (.bool true) }), (6, { orc := .val (.bool true) }), (10, { orc := .val (.bool true) }), (14, { orc := .val (.bool true) }), (18, { orc := .val (.bool true) }), (19, { pc := some { ρ := [], n0 := 0, res := i64 y19, σ' := [], e := [] } })]) (by kernel_rfl) (allc (congrArg D.bool b14) (allc (congrArg D.bool b15) (allc (congrArg D.bool b16) (allc (congrArg D.bool b17) (allc (congrArg D.bool b18) (allc (C_arith_Wide 17 y19 hy19) all0)))))) (fun a w hs => ⟨(y19 == 2), h, hs⟩)
            · replace h := cond_f b18 h
              refine At.region_end [0] [] _ (st' := ⟨[(0, bo false)], []⟩) (tips := [(2, { orc := .val (.bool true) }), (6, { orc := .val (.bool true) }), (10, { orc := .val (.bool true) }), (14, { orc := .val (.bool true) }), (18, { orc := .val (.bool false) })]) (by kernel_rfl) (allc (congrArg D.bool b14) (allc (congrArg D.bool b15) (allc (congrArg D.bool b16) (allc (congrArg D.bool b17) (allc (congrArg D.bool b18) all0))))) (fun a w hs => ⟨false, h, hs⟩)
          · replace h := cond_f b17 h
            refine At.region_end [0] [] _ (st' := ⟨[(0, bo false)], []⟩) (tips := [(2, { orc := .val (.bool true) }), (6, { orc := .val (.bool true) }), (10, { orc := .val (.bool true) }), (14, { orc := .val (.bool false) })]) (by kernel_rfl) (allc (congrArg D.bool b14) (allc (congrArg D.bool b15) (allc (congrArg D.bool b16) (allc (congrArg D.bool b17) all0)))) (fun a w hs => ⟨false, h, hs⟩)
        · replace h := cond_f b16 h
          refine At.region_end [0] [] _ (st' := ⟨[(0, bo false)], []⟩) (tips := [(2, { orc := .val (.bool true) }), (6, { orc := .val (.bool true) }), (10, { orc := .val (.bool false) })]) (by kernel_rfl) (allc (congrArg D.bool b14) (allc (congrArg D.bool b15) (allc (congrArg D.bool b16) all0))) (fun a w hs => ⟨false, h, hs⟩)
      · replace h := cond_f b15 h
        refine At.region_end [0] [] _ (st' := ⟨[(0, bo false)], []⟩) (tips := [(2, { orc := .val (.bool true) }), (6, { orc := .val (.bool false) })]) (by kernel_rfl) (allc (congrArg D.bool b14) (allc (congrArg D.bool b15) all0)) (fun a w hs => ⟨false, h, hs⟩)
    · replace h := cond_f b14 h
      refine At.region_end [0] [] _ (st' := ⟨[(0, bo false)], []⟩) (tips := [(2, { orc := .val (.bool false) })]) (by kernel_rfl) (allc (congrArg D.bool b14) all0) (fun a w hs => ⟨false, h, hs⟩)
  · intro x13 h
    replace h : F_retracelaw15_live_J1 x13 = some r := h
    rw [F_retracelaw15_live_J1] at h
    obtain rfl := some_eq h
    exact At.ret fun a w hs => ret_ok hR (ρ := []) (gs := []) (by kernel_rfl) all0 (by kernel_rfl) rfl rfl a w hs _ (.inl rfl)
set_option maxRecDepth 100000 in
theorem C_retracelaw15_ArithTells (p0 : Int) (p1 : Int) (p2 : Int) (r : Bool) (h : F_retracelaw15_ArithTells p0 p1 p2 = some r) : FnOK Try.prog 3 [i64 p0, i64 p1, i64 p2] [] (bo r) [] [] := by
  rw [F_retracelaw15_ArithTells] at h
  refine FnOK.intro Try.func3 rfl (by kernel_rfl) (by kernel_rfl) fun E gv R hR => ?_
  refine At.seq ?_
  refine At.region_end [0, 1, 2] [] _ (st' := ⟨[(0, i64 p0), (1, i64 p1), (2, i64 p2)], []⟩) (tips := []) (by kernel_rfl) all0 (norm ?_)
  refine At.seq ?_
  obtain ⟨y2, hy2, h⟩ := bind_some h
  refine At.region_end [0, 1, 2, 7, 8] [] _ (st' := ⟨[(0, i64 p0), (1, i64 p1), (2, i64 p2), (7, i64 y2.1), (8, i64 y2.2)], []⟩) (tips := [(3, { pc := some { ρ := [], n0 := 0, res := .tup [i64 y2.1, i64 y2.2], σ' := [], e := [] } })]) (by kernel_rfl) (allc (C_arith_Apply p0 p1 p2 y2 hy2) all0) (norm ?_)
  refine At.seq ?_
  obtain ⟨y4, hy4, h⟩ := bind_some h
  refine At.region_end [0, 7, 8, 9] [0] _ (st' := ⟨[(0, i64 p0), (7, i64 y2.1), (8, i64 y2.2), (9, .ptr 0 0)], [.blk 25 [i64 y4.N, i64 y4.Fault]]⟩) (tips := [(3, { pc := some { ρ := [], n0 := 0, res := .agg [i64 y4.N, i64 y4.Fault], σ' := [], e := [] } })]) (by kernel_rfl) (allc (C_retraceref15_Apply p0 p1 p2 y4 hy4) all0) (norm ?_)
  refine At.seqJ (S := Bool) (fun s => ⟨[(6, bo s)], []⟩) (fun s => F_retracelaw15_ArithTells_J1 s = some r) ?_ ?_
  · rcases tf (y2.1 == y4.N) with b12 | b12
    · replace h := cond_t b12 h
      rcases tf (y2.2 == y4.Fault) with b13 | b13
      · replace h := cond_t b13 h
        obtain ⟨y14, hy14, h⟩ := bind_some h
        obtain ⟨y15, hy15, h⟩ := bind_some h
        rcases tf (y14 == y15) with b16 | b16
        · replace h := cond_t b16 h
          obtain ⟨y17, hy17, h⟩ := bind_some h
          refine At.region_end [6] [] _ (st' := ⟨[(6, bo y17)], []⟩) (tips := [(4, { orc := .val (.bool true) }), (10, { orc := .val (.bool true) }), (12, { pc := some { ρ := [], n0 := 0, res := i64 y14, σ' := [], e := [] } }), (14, { pc := some { ρ := [], n0 := 0, res := i64 y15, σ' := [], e := [] } }), (17, { orc := .val (.bool true) }), (18, { pc := some { ρ := [], n0 := 0, res := bo y17, σ' := [], e := [] } })]) (by kernel_rfl) (allc (congrArg D.bool b12) (allc (congrArg D.bool b13) (allc (C_arith_Wide p0 y14 hy14) (allc (C_retraceref15_Wide p0 y15 hy15) (allc (congrArg D.bool b16) (allc (C_retracelaw15_live y17 hy17) all0)))))) (fun a w hs => ⟨y17, h, hs⟩)
        · replace h := cond_f b16 h
          refine At.region_end [6] [] _ (st' := ⟨[(6, bo false)], []⟩) (tips := [(4, { orc := .val (.bool true) }), (10, { orc := .val (.bool true) }), (12, { pc := some { ρ := [], n0 := 0, res := i64 y14, σ' := [], e := [] } }), (14, { pc := some { ρ := [], n0 := 0, res := i64 y15, σ' := [], e := [] } }), (17, { orc := .val (.bool false) })]) (by kernel_rfl) (allc (congrArg D.bool b12) (allc (congrArg D.bool b13) (allc (C_arith_Wide p0 y14 hy14) (allc (C_retraceref15_Wide p0 y15 hy15) (allc (congrArg D.bool b16) all0))))) (fun a w hs => ⟨false, h, hs⟩)
      · replace h := cond_f b13 h
        refine At.region_end [6] [] _ (st' := ⟨[(6, bo false)], []⟩) (tips := [(4, { orc := .val (.bool true) }), (10, { orc := .val (.bool false) })]) (by kernel_rfl) (allc (congrArg D.bool b12) (allc (congrArg D.bool b13) all0)) (fun a w hs => ⟨false, h, hs⟩)
    · replace h := cond_f b12 h
      refine At.region_end [6] [] _ (st' := ⟨[(6, bo false)], []⟩) (tips := [(4, { orc := .val (.bool false) })]) (by kernel_rfl) (allc (congrArg D.bool b12) all0) (fun a w hs => ⟨false, h, hs⟩)
  · intro x11 h
    replace h : F_retracelaw15_ArithTells_J1 x11 = some r := h
    rw [F_retracelaw15_ArithTells_J1] at h
    obtain rfl := some_eq h
    exact At.ret fun a w hs => ret_ok hR (ρ := []) (gs := []) (by kernel_rfl) all0 (by kernel_rfl) rfl rfl a w hs _ (.inl rfl)
set_option maxRecDepth 100000 in
theorem C_retracelaw15_ArithDivides (p0 : Int) (p1 : Int) (r : Bool) (h : F_retracelaw15_ArithDivides p0 p1 = some r) : FnOK Try.prog 4 [i64 p0, i64 p1] [] (bo r) [] [] := by
  rw [F_retracelaw15_ArithDivides] at h
  refine FnOK.intro Try.func4 rfl (by kernel_rfl) (by kernel_rfl) fun E gv R hR => ?_
  refine At.seq ?_
  refine At.region_end [0, 1] [] _ (st' := ⟨[(0, i64 p0), (1, i64 p1)], []⟩) (tips := []) (by kernel_rfl) all0 (norm ?_)
  refine At.seq ?_
  obtain ⟨y2, hy2, h⟩ := bind_some h
  refine At.region_end [0, 1, 5, 6] [] _ (st' := ⟨[(0, i64 p0), (1, i64 p1), (5, i64 y2.1), (6, i64 y2.2)], []⟩) (tips := [(2, { pc := some { ρ := [], n0 := 0, res := .tup [i64 y2.1, i64 y2.2], σ' := [], e := [] } })]) (by kernel_rfl) (allc (C_arith_Apply 8 p0 p1 y2 hy2) all0) (norm ?_)
  refine At.seq ?_
  obtain ⟨y4, hy4, h⟩ := bind_some h
  refine At.region_end [0, 1, 5, 6, 7, 8] [] _ (st' := ⟨[(0, i64 p0), (1, i64 p1), (5, i64 y2.1), (6, i64 y2.2), (7, i64 y4.1), (8, i64 y4.2)], []⟩) (tips := [(2, { pc := some { ρ := [], n0 := 0, res := .tup [i64 y4.1, i64 y4.2], σ' := [], e := [] } })]) (by kernel_rfl) (allc (C_arith_Apply 9 p0 p1 y4 hy4) all0) (norm ?_)
  refine At.seq ?_
  refine At.seq ?_
  refine At.region_end [0, 1, 5, 6, 7, 8, 27] [] _ (st' := ⟨[(0, i64 p0), (1, i64 p1), (5, i64 y2.1), (6, i64 y2.2), (7, i64 y4.1), (8, i64 y4.2), (27, bo (p1 == 0))], []⟩) (tips := []) (by kernel_rfl) all0 (norm ?_)
  refine At.cond (p1 == 0) (by kernel_rfl) (fun b17 => ?_) (fun b17 => ?_)
  · replace h := cond_t b17 h
    refine At.seqJ (S := Bool) (fun s => ⟨[(4, bo s)], []⟩) (fun s => F_retracelaw15_ArithDivides_J1 s = some r) ?_ ?_
    · rcases tf (y2.1 == 0) with b24 | b24
      · replace h := cond_t b24 h
        rcases tf (y4.1 == 0) with b25 | b25
        · replace h := cond_t b25 h
          rcases tf (y2.2 == 1) with b26 | b26
          · replace h := cond_t b26 h
            rcases tf (y4.2 == 1) with b27 | b27
            · replace h := cond_t b27 h
              obtain ⟨y28, hy28, h⟩ := bind_some h
              refine At.region_end [4] [] _ (st' := ⟨[(4, bo y28)], []⟩) (tips := [(2, { orc := .val (.bool true) }), (6, { orc := .val (.bool true) }), (10, { orc := .val (.bool true) }), (14, { orc := .val (.bool true) }), (15, { pc := some { ρ := [], n0 := 0, res := bo y28, σ' := [], e := [] } })]) (by kernel_rfl) (allc (congrArg D.bool b24) (allc (congrArg D.bool b25) (allc (congrArg D.bool b26) (allc (congrArg D.bool b27) (allc (C_retracelaw15_live y28 hy28) all0))))) (fun a w hs => ⟨y28, h, hs⟩)
            · replace h := cond_f b27 h
              refine At.region_end [4] [] _ (st' := ⟨[(4, bo false)], []⟩) (tips := [(2, { orc := .val (.bool true) }), (6, { orc := .val (.bool true) }), (10, { orc := .val (.bool true) }), (14, { orc := .val (.bool false) })]) (by kernel_rfl) (allc (congrArg D.bool b24) (allc (congrArg D.bool b25) (allc (congrArg D.bool b26) (allc (congrArg D.bool b27) all0)))) (fun a w hs => ⟨false, h, hs⟩)
          · replace h := cond_f b26 h
            refine At.region_end [4] [] _ (st' := ⟨[(4, bo false)], []⟩) (tips := [(2, { orc := .val (.bool true) }), (6, { orc := .val (.bool true) }), (10, { orc := .val (.bool false) })]) (by kernel_rfl) (allc (congrArg D.bool b24) (allc (congrArg D.bool b25) (allc (congrArg D.bool b26) all0))) (fun a w hs => ⟨false, h, hs⟩)
        · replace h := cond_f b25 h
          refine At.region_end [4] [] _ (st' := ⟨[(4, bo false)], []⟩) (tips := [(2, { orc := .val (.bool true) }), (6, { orc := .val (.bool false) })]) (by kernel_rfl) (allc (congrArg D.bool b24) (allc (congrArg D.bool b25) all0)) (fun a w hs => ⟨false, h, hs⟩)
      · replace h := cond_f b24 h
        refine At.region_end [4] [] _ (st' := ⟨[(4, bo false)], []⟩) (tips := [(2, { orc := .val (.bool false) })]) (by kernel_rfl) (allc (congrArg D.bool b24) all0) (fun a w hs => ⟨false, h, hs⟩)
    · intro x23 h
      replace h : F_retracelaw15_ArithDivides_J1 x23 = some r := h
      rw [F_retracelaw15_ArithDivides_J1] at h
      obtain rfl := some_eq h
      exact At.ret fun a w hs => ret_ok hR (ρ := []) (gs := []) (by kernel_rfl) all0 (by kernel_rfl) rfl rfl a w hs _ (.inl rfl)
  · replace h := cond_f b17 h
    refine At.nar [0, 1, 5, 6, 7, 8] [] (st' := ⟨[(0, i64 p0), (1, i64 p1), (5, i64 y2.1), (6, i64 y2.2), (7, i64 y4.1), (8, i64 y4.2)], []⟩) (by kernel_rfl) ?_
    refine At.skip (norm ?_)
    refine At.seq ?_
    obtain ⟨y30, hy30, h⟩ := bind_some h
    refine At.region_end [0, 1, 6, 7, 8, 9] [] _ (st' := ⟨[(0, i64 p0), (1, i64 p1), (6, i64 y2.2), (7, i64 y4.1), (8, i64 y4.2), (9, i64 y30.1)], []⟩) (tips := [(2, { pc := some { ρ := [], n0 := 0, res := .tup [i64 y30.1, i64 y30.2], σ' := [], e := [] } })]) (by kernel_rfl) (allc (C_arith_Apply 7 y2.1 p1 y30 hy30) all0) (norm ?_)
    refine At.seq ?_
    obtain ⟨y32, hy32, h⟩ := bind_some h
    refine At.region_end [0, 1, 6, 7, 8, 11] [] _ (st' := ⟨[(0, i64 p0), (1, i64 p1), (6, i64 y2.2), (7, i64 y4.1), (8, i64 y4.2), (11, i64 y32.1)], []⟩) (tips := [(2, { pc := some { ρ := [], n0 := 0, res := .tup [i64 y32.1, i64 y32.2], σ' := [], e := [] } })]) (by kernel_rfl) (allc (C_arith_Apply 5 y30.1 y4.1 y32 hy32) all0) (norm ?_)
    refine At.seqJ (S := Bool) (fun s => ⟨[(0, i64 p0), (6, i64 y2.2), (7, i64 y4.1), (8, i64 y4.2), (11, i64 y32.1), (13, bo s)], []⟩) (fun s => F_retracelaw15_ArithDivides_J2 p0 y2 y4 y32 s = some r) ?_ ?_
    · rcases tf (y4.1 == 0) with b67 | b67
      · replace h := cond_t b67 h
        refine At.region_end [0, 6, 7, 8, 11, 13] [] _ (st' := ⟨[(0, i64 p0), (6, i64 y2.2), (7, i64 y4.1), (8, i64 y4.2), (11, i64 y32.1), (13, bo true)], []⟩) (tips := [(2, { orc := .val (.bool true) })]) (by kernel_rfl) (allc (congrArg D.bool b67) all0) (fun a w hs => ⟨true, h, hs⟩)
      · replace h := cond_f b67 h
        rcases tf (decide (0 < p1)) with b68 | b68
        · replace h := cond_t b68 h
          rcases tf (decide (y4.1 < p1)) with b69 | b69
          · replace h := cond_t b69 h
            rcases tf (decide ((w64 (0 - p1)) < y4.1)) with b70 | b70
            · replace h := cond_t b70 h
              refine At.region_end [0, 6, 7, 8, 11, 13] [] _ (st' := ⟨[(0, i64 p0), (6, i64 y2.2), (7, i64 y4.1), (8, i64 y4.2), (11, i64 y32.1), (13, bo true)], []⟩) (tips := [(2, { orc := .val (.bool false) }), (5, { orc := .val (.bool true) }), (10, { orc := .val (.bool true) }), (17, { orc := .val (.bool true) })]) (by kernel_rfl) (allc (congrArg D.bool b67) (allc (congrArg D.bool b68) (allc (congrArg D.bool b69) (allc (congrArg D.bool b70) all0)))) (fun a w hs => ⟨true, h, hs⟩)
            · replace h := cond_f b70 h
              rcases tf (decide (p1 < 0)) with b71 | b71
              · replace h := cond_t b71 h
                rcases tf (decide (p1 < y4.1)) with b72 | b72
                · replace h := cond_t b72 h
                  rcases tf (decide (y4.1 < 0)) with b73 | b73
                  · replace h := cond_t b73 h
                    refine At.region_end [0, 6, 7, 8, 11, 13] [] _ (st' := ⟨[(0, i64 p0), (6, i64 y2.2), (7, i64 y4.1), (8, i64 y4.2), (11, i64 y32.1), (13, bo true)], []⟩) (tips := [(2, { orc := .val (.bool false) }), (5, { orc := .val (.bool true) }), (10, { orc := .val (.bool true) }), (17, { orc := .val (.bool false) }), (20, { orc := .val (.bool true) }), (25, { orc := .val (.bool true) }), (28, { orc := .val (.bool true) })]) (by kernel_rfl) (allc (congrArg D.bool b67) (allc (congrArg D.bool b68) (allc (congrArg D.bool b69) (allc (congrArg D.bool b70) (allc (congrArg D.bool b71) (allc (congrArg D.bool b72) (allc (congrArg D.bool b73) all0))))))) (fun a w hs => ⟨true, h, hs⟩)
                  · replace h := cond_f b73 h
                    rcases tf (decide (y4.1 < (w64 (0 - p1)))) with b74 | b74
                    · replace h := cond_t b74 h
                      refine At.region_end [0, 6, 7, 8, 11, 13] [] _ (st' := ⟨[(0, i64 p0), (6, i64 y2.2), (7, i64 y4.1), (8, i64 y4.2), (11, i64 y32.1), (13, bo true)], []⟩) (tips := [(2, { orc := .val (.bool false) }), (5, { orc := .val (.bool true) }), (10, { orc := .val (.bool true) }), (17, { orc := .val (.bool false) }), (20, { orc := .val (.bool true) }), (25, { orc := .val (.bool true) }), (28, { orc := .val (.bool false) }), (34, { orc := .val (.bool true) })]) (by kernel_rfl) (allc (congrArg D.bool b67) (allc (congrArg D.bool b68) (allc (congrArg D.bool b69) (allc (congrArg D.bool b70) (allc (congrArg D.bool b71) (allc (congrArg D.bool b72) (allc (congrArg D.bool b73) (allc (congrArg D.bool b74) all0)))))))) (fun a w hs => ⟨true, h, hs⟩)
                    · replace h := cond_f b74 h
                      refine At.region_end [0, 6, 7, 8, 11, 13] [] _ (st' := ⟨[(0, i64 p0), (6, i64 y2.2), (7, i64 y4.1), (8, i64 y4.2), (11, i64 y32.1), (13, bo ((w64 (0 - p1)) == p1))], []⟩) (tips := [(2, { orc := .val (.bool false) }), (5, { orc := .val (.bool true) }), (10, { orc := .val (.bool true) }), (17, { orc := .val (.bool false) }), (20, { orc := .val (.bool true) }), (25, { orc := .val (.bool true) }), (28, { orc := .val (.bool false) }), (34, { orc := .val (.bool false) })]) (by kernel_rfl) (allc (congrArg D.bool b67) (allc (congrArg D.bool b68) (allc (congrArg D.bool b69) (allc (congrArg D.bool b70) (allc (congrArg D.bool b71) (allc (congrArg D.bool b72) (allc (congrArg D.bool b73) (allc (congrArg D.bool b74) all0)))))))) (fun a w hs => ⟨((w64 (0 - p1)) == p1), h, hs⟩)
                · replace h := cond_f b72 h
                  refine At.region_end [0, 6, 7, 8, 11, 13] [] _ (st' := ⟨[(0, i64 p0), (6, i64 y2.2), (7, i64 y4.1), (8, i64 y4.2), (11, i64 y32.1), (13, bo false)], []⟩) (tips := [(2, { orc := .val (.bool false) }), (5, { orc := .val (.bool true) }), (10, { orc := .val (.bool true) }), (17, { orc := .val (.bool false) }), (20, { orc := .val (.bool true) }), (25, { orc := .val (.bool false) })]) (by kernel_rfl) (allc (congrArg D.bool b67) (allc (congrArg D.bool b68) (allc (congrArg D.bool b69) (allc (congrArg D.bool b70) (allc (congrArg D.bool b71) (allc (congrArg D.bool b72) all0)))))) (fun a w hs => ⟨false, h, hs⟩)
              · replace h := cond_f b71 h
                refine At.region_end [0, 6, 7, 8, 11, 13] [] _ (st' := ⟨[(0, i64 p0), (6, i64 y2.2), (7, i64 y4.1), (8, i64 y4.2), (11, i64 y32.1), (13, bo false)], []⟩) (tips := [(2, { orc := .val (.bool false) }), (5, { orc := .val (.bool true) }), (10, { orc := .val (.bool true) }), (17, { orc := .val (.bool false) }), (20, { orc := .val (.bool false) })]) (by kernel_rfl) (allc (congrArg D.bool b67) (allc (congrArg D.bool b68) (allc (congrArg D.bool b69) (allc (congrArg D.bool b70) (allc (congrArg D.bool b71) all0))))) (fun a w hs => ⟨false, h, hs⟩)
          · replace h := cond_f b69 h
            rcases tf (decide (p1 < 0)) with b75 | b75
            · replace h := cond_t b75 h
              rcases tf (decide (p1 < y4.1)) with b76 | b76
              · replace h := cond_t b76 h
                rcases tf (decide (y4.1 < 0)) with b77 | b77
                · replace h := cond_t b77 h
                  refine At.region_end [0, 6, 7, 8, 11, 13] [] _ (st' := ⟨[(0, i64 p0), (6, i64 y2.2), (7, i64 y4.1), (8, i64 y4.2), (11, i64 y32.1), (13, bo true)], []⟩) (tips := [(2, { orc := .val (.bool false) }), (5, { orc := .val (.bool true) }), (10, { orc := .val (.bool false) }), (20, { orc := .val (.bool true) }), (25, { orc := .val (.bool true) }), (28, { orc := .val (.bool true) })]) (by kernel_rfl) (allc (congrArg D.bool b67) (allc (congrArg D.bool b68) (allc (congrArg D.bool b69) (allc (congrArg D.bool b75) (allc (congrArg D.bool b76) (allc (congrArg D.bool b77) all0)))))) (fun a w hs => ⟨true, h, hs⟩)
                · replace h := cond_f b77 h
                  rcases tf (decide (y4.1 < (w64 (0 - p1)))) with b78 | b78
                  · replace h := cond_t b78 h
                    refine At.region_end [0, 6, 7, 8, 11, 13] [] _ (st' := ⟨[(0, i64 p0), (6, i64 y2.2), (7, i64 y4.1), (8, i64 y4.2), (11, i64 y32.1), (13, bo true)], []⟩) (tips := [(2, { orc := .val (.bool false) }), (5, { orc := .val (.bool true) }), (10, { orc := .val (.bool false) }), (20, { orc := .val (.bool true) }), (25, { orc := .val (.bool true) }), (28, { orc := .val (.bool false) }), (34, { orc := .val (.bool true) })]) (by kernel_rfl) (allc (congrArg D.bool b67) (allc (congrArg D.bool b68) (allc (congrArg D.bool b69) (allc (congrArg D.bool b75) (allc (congrArg D.bool b76) (allc (congrArg D.bool b77) (allc (congrArg D.bool b78) all0))))))) (fun a w hs => ⟨true, h, hs⟩)
                  · replace h := cond_f b78 h
                    refine At.region_end [0, 6, 7, 8, 11, 13] [] _ (st' := ⟨[(0, i64 p0), (6, i64 y2.2), (7, i64 y4.1), (8, i64 y4.2), (11, i64 y32.1), (13, bo ((w64 (0 - p1)) == p1))], []⟩) (tips := [(2, { orc := .val (.bool false) }), (5, { orc := .val (.bool true) }), (10, { orc := .val (.bool false) }), (20, { orc := .val (.bool true) }), (25, { orc := .val (.bool true) }), (28, { orc := .val (.bool false) }), (34, { orc := .val (.bool false) })]) (by kernel_rfl) (allc (congrArg D.bool b67) (allc (congrArg D.bool b68) (allc (congrArg D.bool b69) (allc (congrArg D.bool b75) (allc (congrArg D.bool b76) (allc (congrArg D.bool b77) (allc (congrArg D.bool b78) all0))))))) (fun a w hs => ⟨((w64 (0 - p1)) == p1), h, hs⟩)
              · replace h := cond_f b76 h
                refine At.region_end [0, 6, 7, 8, 11, 13] [] _ (st' := ⟨[(0, i64 p0), (6, i64 y2.2), (7, i64 y4.1), (8, i64 y4.2), (11, i64 y32.1), (13, bo false)], []⟩) (tips := [(2, { orc := .val (.bool false) }), (5, { orc := .val (.bool true) }), (10, { orc := .val (.bool false) }), (20, { orc := .val (.bool true) }), (25, { orc := .val (.bool false) })]) (by kernel_rfl) (allc (congrArg D.bool b67) (allc (congrArg D.bool b68) (allc (congrArg D.bool b69) (allc (congrArg D.bool b75) (allc (congrArg D.bool b76) all0))))) (fun a w hs => ⟨false, h, hs⟩)
            · replace h := cond_f b75 h
              refine At.region_end [0, 6, 7, 8, 11, 13] [] _ (st' := ⟨[(0, i64 p0), (6, i64 y2.2), (7, i64 y4.1), (8, i64 y4.2), (11, i64 y32.1), (13, bo false)], []⟩) (tips := [(2, { orc := .val (.bool false) }), (5, { orc := .val (.bool true) }), (10, { orc := .val (.bool false) }), (20, { orc := .val (.bool false) })]) (by kernel_rfl) (allc (congrArg D.bool b67) (allc (congrArg D.bool b68) (allc (congrArg D.bool b69) (allc (congrArg D.bool b75) all0)))) (fun a w hs => ⟨false, h, hs⟩)
        · replace h := cond_f b68 h
          rcases tf (decide (p1 < 0)) with b79 | b79
          · replace h := cond_t b79 h
            rcases tf (decide (p1 < y4.1)) with b80 | b80
            · replace h := cond_t b80 h
              rcases tf (decide (y4.1 < 0)) with b81 | b81
              · replace h := cond_t b81 h
                refine At.region_end [0, 6, 7, 8, 11, 13] [] _ (st' := ⟨[(0, i64 p0), (6, i64 y2.2), (7, i64 y4.1), (8, i64 y4.2), (11, i64 y32.1), (13, bo true)], []⟩) (tips := [(2, { orc := .val (.bool false) }), (5, { orc := .val (.bool false) }), (20, { orc := .val (.bool true) }), (25, { orc := .val (.bool true) }), (28, { orc := .val (.bool true) })]) (by kernel_rfl) (allc (congrArg D.bool b67) (allc (congrArg D.bool b68) (allc (congrArg D.bool b79) (allc (congrArg D.bool b80) (allc (congrArg D.bool b81) all0))))) (fun a w hs => ⟨true, h, hs⟩)
              · replace h := cond_f b81 h
                rcases tf (decide (y4.1 < (w64 (0 - p1)))) with b82 | b82
                · replace h := cond_t b82 h
                  refine At.region_end [0, 6, 7, 8, 11, 13] [] _ (st' := ⟨[(0, i64 p0), (6, i64 y2.2), (7, i64 y4.1), (8, i64 y4.2), (11, i64 y32.1), (13, bo true)], []⟩) (tips := [(2, { orc := .val (.bool false) }), (5, { orc := .val (.bool false) }), (20, { orc := .val (.bool true) }), (25, { orc := .val (.bool true) }), (28, { orc := .val (.bool false) }), (34, { orc := .val (.bool true) })]) (by kernel_rfl) (allc (congrArg D.bool b67) (allc (congrArg D.bool b68) (allc (congrArg D.bool b79) (allc (congrArg D.bool b80) (allc (congrArg D.bool b81) (allc (congrArg D.bool b82) all0)))))) (fun a w hs => ⟨true, h, hs⟩)
                · replace h := cond_f b82 h
                  refine At.region_end [0, 6, 7, 8, 11, 13] [] _ (st' := ⟨[(0, i64 p0), (6, i64 y2.2), (7, i64 y4.1), (8, i64 y4.2), (11, i64 y32.1), (13, bo ((w64 (0 - p1)) == p1))], []⟩) (tips := [(2, { orc := .val (.bool false) }), (5, { orc := .val (.bool false) }), (20, { orc := .val (.bool true) }), (25, { orc := .val (.bool true) }), (28, { orc := .val (.bool false) }), (34, { orc := .val (.bool false) })]) (by kernel_rfl) (allc (congrArg D.bool b67) (allc (congrArg D.bool b68) (allc (congrArg D.bool b79) (allc (congrArg D.bool b80) (allc (congrArg D.bool b81) (allc (congrArg D.bool b82) all0)))))) (fun a w hs => ⟨((w64 (0 - p1)) == p1), h, hs⟩)
            · replace h := cond_f b80 h
              refine At.region_end [0, 6, 7, 8, 11, 13] [] _ (st' := ⟨[(0, i64 p0), (6, i64 y2.2), (7, i64 y4.1), (8, i64 y4.2), (11, i64 y32.1), (13, bo false)], []⟩) (tips := [(2, { orc := .val (.bool false) }), (5, { orc := .val (.bool false) }), (20, { orc := .val (.bool true) }), (25, { orc := .val (.bool false) })]) (by kernel_rfl) (allc (congrArg D.bool b67) (allc (congrArg D.bool b68) (allc (congrArg D.bool b79) (allc (congrArg D.bool b80) all0)))) (fun a w hs => ⟨false, h, hs⟩)
          · replace h := cond_f b79 h
            refine At.region_end [0, 6, 7, 8, 11, 13] [] _ (st' := ⟨[(0, i64 p0), (6, i64 y2.2), (7, i64 y4.1), (8, i64 y4.2), (11, i64 y32.1), (13, bo false)], []⟩) (tips := [(2, { orc := .val (.bool false) }), (5, { orc := .val (.bool false) }), (20, { orc := .val (.bool false) })]) (by kernel_rfl) (allc (congrArg D.bool b67) (allc (congrArg D.bool b68) (allc (congrArg D.bool b79) all0))) (fun a w hs => ⟨false, h, hs⟩)
    · intro x49 h
      replace h : F_retracelaw15_ArithDivides_J2 p0 y2 y4 y32 x49 = some r := h
      rw [F_retracelaw15_ArithDivides_J2] at h
      refine At.seqJ (S := Bool) (fun s => ⟨[(4, bo s)], []⟩) (fun s => F_retracelaw15_ArithDivides_J3 s = some r) ?_ ?_
      · rcases tf (y2.2 == 0) with b59 | b59
        · replace h := cond_t b59 h
          rcases tf (y4.2 == 0) with b60 | b60
          · replace h := cond_t b60 h
            rcases tf (y32.1 == p0) with b61 | b61
            · replace h := cond_t b61 h
              rcases tf x49 with b62 | b62
              · replace h := cond_t b62 h
                rcases tf (y4.1 == 0) with b63 | b63
                · replace h := cond_t b63 h
                  obtain ⟨y64, hy64, h⟩ := bind_some h
                  refine At.region_end [4] [] _ (st' := ⟨[(4, bo y64)], []⟩) (tips := [(2, { orc := .val (.bool true) }), (6, { orc := .val (.bool true) }), (11, { orc := .val (.bool true) }), (14, { orc := .val (.bool true) }), (17, { orc := .val (.bool true) }), (26, { pc := some { ρ := [], n0 := 0, res := bo y64, σ' := [], e := [] } })]) (by kernel_rfl) (allc (congrArg D.bool b59) (allc (congrArg D.bool b60) (allc (congrArg D.bool b61) (allc (congrArg D.bool b62) (allc (congrArg D.bool b63) (allc (C_retracelaw15_live y64 hy64) all0)))))) (fun a w hs => ⟨y64, h, hs⟩)
                · replace h := cond_f b63 h
                  rcases tf ((decide (y4.1 < 0)) == (decide (p0 < 0))) with b65 | b65
                  · replace h := cond_t b65 h
                    obtain ⟨y66, hy66, h⟩ := bind_some h
                    refine At.region_end [4] [] _ (st' := ⟨[(4, bo y66)], []⟩) (tips := [(2, { orc := .val (.bool true) }), (6, { orc := .val (.bool true) }), (11, { orc := .val (.bool true) }), (14, { orc := .val (.bool true) }), (17, { orc := .val (.bool false) }), (25, { orc := .val (.bool true) }), (26, { pc := some { ρ := [], n0 := 0, res := bo y66, σ' := [], e := [] } })]) (by kernel_rfl) (allc (congrArg D.bool b59) (allc (congrArg D.bool b60) (allc (congrArg D.bool b61) (allc (congrArg D.bool b62) (allc (congrArg D.bool b63) (allc (congrArg D.bool b65) (allc (C_retracelaw15_live y66 hy66) all0))))))) (fun a w hs => ⟨y66, h, hs⟩)
                  · replace h := cond_f b65 h
                    refine At.region_end [4] [] _ (st' := ⟨[(4, bo false)], []⟩) (tips := [(2, { orc := .val (.bool true) }), (6, { orc := .val (.bool true) }), (11, { orc := .val (.bool true) }), (14, { orc := .val (.bool true) }), (17, { orc := .val (.bool false) }), (25, { orc := .val (.bool false) })]) (by kernel_rfl) (allc (congrArg D.bool b59) (allc (congrArg D.bool b60) (allc (congrArg D.bool b61) (allc (congrArg D.bool b62) (allc (congrArg D.bool b63) (allc (congrArg D.bool b65) all0)))))) (fun a w hs => ⟨false, h, hs⟩)
              · replace h := cond_f b62 h
                refine At.region_end [4] [] _ (st' := ⟨[(4, bo false)], []⟩) (tips := [(2, { orc := .val (.bool true) }), (6, { orc := .val (.bool true) }), (11, { orc := .val (.bool true) }), (14, { orc := .val (.bool false) })]) (by kernel_rfl) (allc (congrArg D.bool b59) (allc (congrArg D.bool b60) (allc (congrArg D.bool b61) (allc (congrArg D.bool b62) all0)))) (fun a w hs => ⟨false, h, hs⟩)
            · replace h := cond_f b61 h
              refine At.region_end [4] [] _ (st' := ⟨[(4, bo false)], []⟩) (tips := [(2, { orc := .val (.bool true) }), (6, { orc := .val (.bool true) }), (11, { orc := .val (.bool false) })]) (by kernel_rfl) (allc (congrArg D.bool b59) (allc (congrArg D.bool b60) (allc (congrArg D.bool b61) all0))) (fun a w hs => ⟨false, h, hs⟩)
          · replace h := cond_f b60 h
            refine At.region_end [4] [] _ (st' := ⟨[(4, bo false)], []⟩) (tips := [(2, { orc := .val (.bool true) }), (6, { orc := .val (.bool false) })]) (by kernel_rfl) (allc (congrArg D.bool b59) (allc (congrArg D.bool b60) all0)) (fun a w hs => ⟨false, h, hs⟩)
        · replace h := cond_f b59 h
          refine At.region_end [4] [] _ (st' := ⟨[(4, bo false)], []⟩) (tips := [(2, { orc := .val (.bool false) })]) (by kernel_rfl) (allc (congrArg D.bool b59) all0) (fun a w hs => ⟨false, h, hs⟩)
      · intro x58 h
        replace h : F_retracelaw15_ArithDivides_J3 x58 = some r := h
        rw [F_retracelaw15_ArithDivides_J3] at h
        obtain rfl := some_eq h
        exact At.ret fun a w hs => ret_ok hR (ρ := []) (gs := []) (by kernel_rfl) all0 (by kernel_rfl) rfl rfl a w hs _ (.inl rfl)
set_option maxRecDepth 100000 in
theorem C_retracelaw15_ArithTurns (p0 : Int) (p1 : Int) (r : Bool) (h : F_retracelaw15_ArithTurns p0 p1 = some r) : FnOK Try.prog 5 [i64 p0, i64 p1] [] (bo r) [] [] := by
  rw [F_retracelaw15_ArithTurns] at h
  refine FnOK.intro Try.func5 rfl (by kernel_rfl) (by kernel_rfl) fun E gv R hR => ?_
  refine At.seq ?_
  refine At.region_end [0, 1] [] _ (st' := ⟨[(0, i64 p0), (1, i64 p1)], []⟩) (tips := []) (by kernel_rfl) all0 (norm ?_)
  refine At.seq ?_
  obtain ⟨y2, hy2, h⟩ := bind_some h
  refine At.region_end [0, 1, 5] [] _ (st' := ⟨[(0, i64 p0), (1, i64 p1), (5, i64 y2.1)], []⟩) (tips := [(2, { pc := some { ρ := [], n0 := 0, res := .tup [i64 y2.1, i64 y2.2], σ' := [], e := [] } })]) (by kernel_rfl) (allc (C_arith_Apply 6 p0 p1 y2 hy2) all0) (norm ?_)
  refine At.seq ?_
  obtain ⟨y4, hy4, h⟩ := bind_some h
  refine At.region_end [0, 1, 5, 7] [] _ (st' := ⟨[(0, i64 p0), (1, i64 p1), (5, i64 y2.1), (7, i64 y4.1)], []⟩) (tips := [(2, { pc := some { ρ := [], n0 := 0, res := .tup [i64 y4.1, i64 y4.2], σ' := [], e := [] } })]) (by kernel_rfl) (allc (C_arith_Apply 3 p1 p0 y4 hy4) all0) (norm ?_)
  refine At.seq ?_
  obtain ⟨y6, hy6, h⟩ := bind_some h
  refine At.region_end [0, 1, 5, 9] [] _ (st' := ⟨[(0, i64 p0), (1, i64 p1), (5, i64 y2.1), (9, i64 y6.1)], []⟩) (tips := [(2, { pc := some { ρ := [], n0 := 0, res := .tup [i64 y6.1, i64 y6.2], σ' := [], e := [] } })]) (by kernel_rfl) (allc (C_arith_Apply 5 p0 y4.1 y6 hy6) all0) (norm ?_)
  refine At.seq ?_
  obtain ⟨y8, hy8, h⟩ := bind_some h
  refine At.region_end [0, 1, 5, 9, 11] [] _ (st' := ⟨[(0, i64 p0), (1, i64 p1), (5, i64 y2.1), (9, i64 y6.1), (11, i64 y8.1)], []⟩) (tips := [(2, { pc := some { ρ := [], n0 := 0, res := .tup [i64 y8.1, i64 y8.2], σ' := [], e := [] } })]) (by kernel_rfl) (allc (C_arith_Apply 12 p0 p1 y8 hy8) all0) (norm ?_)
  refine At.seq ?_
  obtain ⟨y10, hy10, h⟩ := bind_some h
  refine At.region_end [0, 1, 5, 9, 11, 13] [] _ (st' := ⟨[(0, i64 p0), (1, i64 p1), (5, i64 y2.1), (9, i64 y6.1), (11, i64 y8.1), (13, i64 y10.1)], []⟩) (tips := [(2, { pc := some { ρ := [], n0 := 0, res := .tup [i64 y10.1, i64 y10.2], σ' := [], e := [] } })]) (by kernel_rfl) (allc (C_arith_Apply 15 p0 p1 y10 hy10) all0) (norm ?_)
  refine At.seq ?_
  obtain ⟨y12, hy12, h⟩ := bind_some h
  refine At.region_end [0, 1, 5, 9, 11, 13, 15] [] _ (st' := ⟨[(0, i64 p0), (1, i64 p1), (5, i64 y2.1), (9, i64 y6.1), (11, i64 y8.1), (13, i64 y10.1), (15, i64 y12.1)], []⟩) (tips := [(2, { pc := some { ρ := [], n0 := 0, res := .tup [i64 y12.1, i64 y12.2], σ' := [], e := [] } })]) (by kernel_rfl) (allc (C_arith_Apply 14 p1 p0 y12 hy12) all0) (norm ?_)
  refine At.seq ?_
  obtain ⟨y14, hy14, h⟩ := bind_some h
  refine At.region_end [0, 1, 5, 9, 11, 13, 15, 17] [] _ (st' := ⟨[(0, i64 p0), (1, i64 p1), (5, i64 y2.1), (9, i64 y6.1), (11, i64 y8.1), (13, i64 y10.1), (15, i64 y12.1), (17, i64 y14.1)], []⟩) (tips := [(2, { pc := some { ρ := [], n0 := 0, res := .tup [i64 y14.1, i64 y14.2], σ' := [], e := [] } })]) (by kernel_rfl) (allc (C_arith_Apply 10 p0 p1 y14 hy14) all0) (norm ?_)
  refine At.seq ?_
  obtain ⟨y16, hy16, h⟩ := bind_some h
  refine At.region_end [1, 5, 9, 11, 13, 15, 17, 19] [] _ (st' := ⟨[(1, i64 p1), (5, i64 y2.1), (9, i64 y6.1), (11, i64 y8.1), (13, i64 y10.1), (15, i64 y12.1), (17, i64 y14.1), (19, i64 y16.1)], []⟩) (tips := [(2, { pc := some { ρ := [], n0 := 0, res := .tup [i64 y16.1, i64 y16.2], σ' := [], e := [] } })]) (by kernel_rfl) (allc (C_arith_Apply 11 p0 p1 y16 hy16) all0) (norm ?_)
  refine At.seq ?_
  obtain ⟨y18, hy18, h⟩ := bind_some h
  refine At.region_end [5, 9, 11, 13, 15, 17, 19, 21] [] _ (st' := ⟨[(5, i64 y2.1), (9, i64 y6.1), (11, i64 y8.1), (13, i64 y10.1), (15, i64 y12.1), (17, i64 y14.1), (19, i64 y16.1), (21, i64 y18.1)], []⟩) (tips := [(2, { pc := some { ρ := [], n0 := 0, res := .tup [i64 y18.1, i64 y18.2], σ' := [], e := [] } })]) (by kernel_rfl) (allc (C_arith_Apply 4 y8.1 p1 y18 hy18) all0) (norm ?_)
  refine At.seqJ (S := Bool) (fun s => ⟨[(4, bo s)], []⟩) (fun s => F_retracelaw15_ArithTurns_J1 s = some r) ?_ ?_
  · rcases tf (y2.1 == y6.1) with b27 | b27
    · replace h := cond_t b27 h
      rcases tf ((w64 (y8.1 + y10.1)) == 1) with b28 | b28
      · replace h := cond_t b28 h
        rcases tf (y8.1 == y12.1) with b29 | b29
        · replace h := cond_t b29 h
          rcases tf ((w64 (y14.1 + y16.1)) == 1) with b30 | b30
          · replace h := cond_t b30 h
            rcases tf (y18.1 == y10.1) with b31 | b31
            · replace h := cond_t b31 h
              rcases tf ((y14.1 == 1) == (y2.1 == 0)) with b32 | b32
              · replace h := cond_t b32 h
                obtain ⟨y33, hy33, h⟩ := bind_some h
                refine At.region_end [4] [] _ (st' := ⟨[(4, bo y33)], []⟩) (tips := [(3, { orc := .val (.bool true) }), (9, { orc := .val (.bool true) }), (14, { orc := .val (.bool true) }), (20, { orc := .val (.bool true) }), (25, { orc := .val (.bool true) }), (32, { orc := .val (.bool true) }), (33, { pc := some { ρ := [], n0 := 0, res := bo y33, σ' := [], e := [] } })]) (by kernel_rfl) (allc (congrArg D.bool b27) (allc (congrArg D.bool b28) (allc (congrArg D.bool b29) (allc (congrArg D.bool b30) (allc (congrArg D.bool b31) (allc (congrArg D.bool b32) (allc (C_retracelaw15_live y33 hy33) all0))))))) (fun a w hs => ⟨y33, h, hs⟩)
              · replace h := cond_f b32 h
                refine At.region_end [4] [] _ (st' := ⟨[(4, bo false)], []⟩) (tips := [(3, { orc := .val (.bool true) }), (9, { orc := .val (.bool true) }), (14, { orc := .val (.bool true) }), (20, { orc := .val (.bool true) }), (25, { orc := .val (.bool true) }), (32, { orc := .val (.bool false) })]) (by kernel_rfl) (allc (congrArg D.bool b27) (allc (congrArg D.bool b28) (allc (congrArg D.bool b29) (allc (congrArg D.bool b30) (allc (congrArg D.bool b31) (allc (congrArg D.bool b32) all0)))))) (fun a w hs => ⟨false, h, hs⟩)
            · replace h := cond_f b31 h
              refine At.region_end [4] [] _ (st' := ⟨[(4, bo false)], []⟩) (tips := [(3, { orc := .val (.bool true) }), (9, { orc := .val (.bool true) }), (14, { orc := .val (.bool true) }), (20, { orc := .val (.bool true) }), (25, { orc := .val (.bool false) })]) (by kernel_rfl) (allc (congrArg D.bool b27) (allc (congrArg D.bool b28) (allc (congrArg D.bool b29) (allc (congrArg D.bool b30) (allc (congrArg D.bool b31) all0))))) (fun a w hs => ⟨false, h, hs⟩)
          · replace h := cond_f b30 h
            refine At.region_end [4] [] _ (st' := ⟨[(4, bo false)], []⟩) (tips := [(3, { orc := .val (.bool true) }), (9, { orc := .val (.bool true) }), (14, { orc := .val (.bool true) }), (20, { orc := .val (.bool false) })]) (by kernel_rfl) (allc (congrArg D.bool b27) (allc (congrArg D.bool b28) (allc (congrArg D.bool b29) (allc (congrArg D.bool b30) all0)))) (fun a w hs => ⟨false, h, hs⟩)
        · replace h := cond_f b29 h
          refine At.region_end [4] [] _ (st' := ⟨[(4, bo false)], []⟩) (tips := [(3, { orc := .val (.bool true) }), (9, { orc := .val (.bool true) }), (14, { orc := .val (.bool false) })]) (by kernel_rfl) (allc (congrArg D.bool b27) (allc (congrArg D.bool b28) (allc (congrArg D.bool b29) all0))) (fun a w hs => ⟨false, h, hs⟩)
      · replace h := cond_f b28 h
        refine At.region_end [4] [] _ (st' := ⟨[(4, bo false)], []⟩) (tips := [(3, { orc := .val (.bool true) }), (9, { orc := .val (.bool false) })]) (by kernel_rfl) (allc (congrArg D.bool b27) (allc (congrArg D.bool b28) all0)) (fun a w hs => ⟨false, h, hs⟩)
    · replace h := cond_f b27 h
      refine At.region_end [4] [] _ (st' := ⟨[(4, bo false)], []⟩) (tips := [(3, { orc := .val (.bool false) })]) (by kernel_rfl) (allc (congrArg D.bool b27) all0) (fun a w hs => ⟨false, h, hs⟩)
  · intro x26 h
    replace h : F_retracelaw15_ArithTurns_J1 x26 = some r := h
    rw [F_retracelaw15_ArithTurns_J1] at h
    obtain rfl := some_eq h
    exact At.ret fun a w hs => ret_ok hR (ρ := []) (gs := []) (by kernel_rfl) all0 (by kernel_rfl) rfl rfl a w hs _ (.inl rfl)
end Go.Ab
