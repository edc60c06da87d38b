import Derived.Test.YtiikgefgheigiaaAbDraw4
import Derived.Test.YtiikgefgheigiaaProg
namespace Go.Ab
open Go.Proofs
set_option linter.unusedVariables false
structure T_retraceref01_Got where
  U : Int
  Next : Int
  E : Int
abbrev T_retraceref01_Got.enc (x : T_retraceref01_Got) : List D := [.int .u64 x.U, .int .i64 x.Next, .int .i64 x.E]
theorem T_retraceref01_Got.enc_len (x : T_retraceref01_Got) : (T_retraceref01_Got.enc x).length = 3 := rfl
/- retrace/vint.Zig -/
noncomputable def F_vint_Zig (p0 : Int) : Option (Int) :=
  some (bits .xor .u64 (wu64 ((wu64 p0) * 2)) (wu64 (Int.fdiv p0 9223372036854775808)))
/- retrace/vint.Zag -/
noncomputable def F_vint_Zag (p0 : Int) : Option (Int) :=
  some (bits .xor .i64 (w64 (Int.fdiv p0 2)) (w64 (0 - (w64 (bits .and .u64 p0 1)))))
/- retrace/retraceref01.Zig -/
noncomputable def F_retraceref01_Zig (p0 : Int) : Option (Int) :=
  cond (decide (p0 < 0)) (some (wu64 ((wu64 ((wu64 (w64 (0 - (w64 (p0 + 1))))) * 2)) + 1))) (some (wu64 ((wu64 p0) * 2)))
/- retrace/retraceref01.Zag -/
noncomputable def F_retraceref01_Zag (p0 : Int) : Option (Int) :=
  cond ((Int.tmod p0 2) == 1) (some (w64 ((w64 (0 - (w64 (wu64 (Int.tdiv p0 2))))) - 1))) (some (w64 (wu64 (Int.tdiv p0 2))))
/- retrace/vint.Size -/
noncomputable def F_vint_Size_J1 (x11 : Int) : Option (Int) :=
  some x11
noncomputable def F_vint_Size_L2 (x12 : Int) (x13 : Int) : Option ((Int × Int) ⊕ (Int)) :=
  cond (decide (128 ≤ x12)) (some (.inl ((Int.fdiv x12 128), (w64 (x13 + 1))))) ((F_vint_Size_J1 x13).map Sum.inr)
noncomputable def F_vint_Size (p0 : Int) : Option (Int) :=
  Loop (fun s : (Int × Int) => F_vint_Size_L2 s.1 s.2) (p0, 1)
/- retrace/retraceref02.push -/
noncomputable def F_retraceref02_push_J1 (x42 : Int) : Option (Int) :=
  some x42
noncomputable def F_retraceref02_push_J2 (x44 : Int) (x66 : Int) : Option ((Int × Int) ⊕ (Int)) :=
  some (.inl (x66, (w64 (x44 + 1))))
noncomputable def F_retraceref02_push_J3 (x70 : Int) (x78 : Int) : Option ((Int × Int) ⊕ ((Int × Int) ⊕ (Int))) :=
  some (.inl (x78, (w64 (x70 + 1))))
noncomputable def F_retraceref02_push_L4 (x44 : Int) (x69 : Int) (x70 : Int) : Option ((Int × Int) ⊕ ((Int × Int) ⊕ (Int))) :=
  cond (decide (x70 < 8)) (cond ((Int.tmod x69 2) == 1) (F_retraceref02_push_J3 x70 (bits .xor .u32 (wu32 (Int.tdiv x69 2)) 3988292384)) (F_retraceref02_push_J3 x70 (wu32 (Int.tdiv x69 2)))) ((F_retraceref02_push_J2 x44 x69).map Sum.inr)
noncomputable def F_retraceref02_push_L5 (p1 : ByteArray) (x43 : Int) (x44 : Int) : Option ((Int × Int) ⊕ (Int)) :=
  cond (decide (x44 < (p1.size : Int))) ((sAt p1 x44).bind fun y68 => Loop (fun s : (Int × Int) => F_retraceref02_push_L4 x44 s.1 s.2) ((bits .xor .u32 x43 (wu32 y68)), 0)) ((F_retraceref02_push_J1 x43).map Sum.inr)
noncomputable def F_retraceref02_push (p0 : Int) (p1 : ByteArray) : Option (Int) :=
  Loop (fun s : (Int × Int) => F_retraceref02_push_L5 p1 s.1 s.2) (p0, 0)
/- retrace/crc.table -/
noncomputable def F_crc_table_J1 (x55 : (List Int)) : Option ((List Int)) :=
  grd ((x55).length = 256) <| grd ((x55).length = 256 ∧ ((List.replicate 256 0)).length = 256) <| grd ((x55).length = 256) <| some x55
noncomputable def F_crc_table_J2 (x61 : Int) (x62 : (List Int)) (x101 : Int) : Option ((Int × (List Int)) ⊕ ((List Int))) :=
  grd ((0 : Int) ≤ x61 ∧ x61 < 256 ∧ Int.toNat x61 < (x62).length) <| some (.inl ((w64 (x61 + 1)), (List.set x62 (Int.toNat x61) x101)))
noncomputable def F_crc_table_L3 (x61 : Int) (x62 : (List Int)) (x103 : Int) (x104 : Int) : Option ((Int × Int) ⊕ ((Int × (List Int)) ⊕ ((List Int)))) :=
  cond (decide (x104 < 8)) (some (.inl ((bits .xor .u32 (Int.fdiv x103 2) (bits .and .u32 3988292384 (wu32 (0 - (bits .and .u32 x103 1))))), (w64 (x104 + 1))))) ((F_crc_table_J2 x61 x62 x103).map Sum.inr)
noncomputable def F_crc_table_L4 (x61 : Int) (x62 : (List Int)) : Option ((Int × (List Int)) ⊕ ((List Int))) :=
  cond (decide (x61 < 256)) (Loop (fun s : (Int × Int) => F_crc_table_L3 x61 x62 s.1 s.2) ((wu32 x61), 0)) ((F_crc_table_J1 x62).map Sum.inr)
noncomputable def F_crc_table  : Option ((List Int)) :=
  Loop (fun s : (Int × (List Int)) => F_crc_table_L4 s.1 s.2) (0, (List.replicate 256 0))
/- retrace/crc.More -/
noncomputable def F_crc_More_J1 (x23 : Int) : Option (Int) :=
  some (bits .xor .u32 4294967295 x23)
noncomputable def F_crc_More_L2 (p1 : ByteArray) (y3 : (List Int)) (x26 : Int) (x27 : Int) : Option ((Int × Int) ⊕ (Int)) :=
  cond (decide (x27 < (((sB p1)).length : Int))) ((lAt (sB p1) x27).bind fun y38 => (aAt 256 y3 (bits .xor .u8 (wu8 x26) y38)).bind fun y39 => some (.inl ((bits .xor .u32 y39 (Int.fdiv x26 256)), (w64 (x27 + 1))))) ((F_crc_More_J1 x26).map Sum.inr)
noncomputable def F_crc_More (p0 : Int) (p1 : ByteArray) : Option (Int) :=
  (F_crc_table ).bind fun y3 => grd ((y3).length = 256 ∧ ((List.replicate 256 0)).length = 256) <| grd (p1.size ≤ 281474976710656) <| Loop (fun s : (Int × Int) => F_crc_More_L2 p1 y3 s.1 s.2) ((bits .xor .u32 4294967295 p0), 0)
/- retrace/retraceref02.More -/
noncomputable def F_retraceref02_More (p0 : Int) (p1 : ByteArray) : Option (Int) :=
  (F_retraceref02_push (bits .xor .u32 p0 4294967295) p1).bind fun y2 => some (bits .xor .u32 y2 4294967295)
/- retrace/crc.Sum -/
noncomputable def F_crc_Sum (p0 : ByteArray) : Option (Int) :=
  (F_crc_More 0 p0).bind fun y2 => some y2
/- retrace/retraceref02.Sum -/
noncomputable def F_retraceref02_Sum (p0 : ByteArray) : Option (Int) :=
  (F_retraceref02_push 4294967295 p0).bind fun y2 => some (bits .xor .u32 y2 4294967295)
/- retrace/crc.Bytes -/
noncomputable def F_crc_Bytes (p0 : Int) : Option (ByteArray) :=
  some (strOfNums ([(wu8 p0), (wu8 (Int.fdiv p0 256)), (wu8 (Int.fdiv p0 65536)), (wu8 (Int.fdiv p0 16777216))]))
/- retrace/retraceref02.Bytes -/
noncomputable def F_retraceref02_Bytes (p0 : Int) : Option (ByteArray) :=
  some (strOfNums ([(wu8 (Int.tmod p0 256)), (wu8 (Int.tmod (wu32 (Int.tdiv p0 256)) 256)), (wu8 (Int.tmod (wu32 (Int.tdiv p0 65536)) 256)), (wu8 (wu32 (Int.tdiv p0 16777216)))]))
/- retrace/crc.Seal -/
noncomputable def F_crc_Seal (p0 : ByteArray) : Option (ByteArray) :=
  (F_crc_Sum p0).bind fun y4 => (F_crc_Bytes y4).bind fun y5 => grd (p0.size + y5.size ≤ 9223372036854775807) <| some (p0 ++ y5)
/- retrace/retraceref02.Turned -/
noncomputable def F_retraceref02_Turned_J1 (x36 : (List Int)) : Option (ByteArray) :=
  some (strOfNums x36)
noncomputable def F_retraceref02_Turned_J2 (x37 : Int) (x56 : (List Int)) : Option ((Int × (List Int)) ⊕ (ByteArray)) :=
  some (.inl ((w64 (x37 + 1)), x56))
noncomputable def F_retraceref02_Turned_J3 (p1 : Int) (x37 : Int) (x38 : (List Int)) (x60 : Bool) : Option ((Int × (List Int)) ⊕ (ByteArray)) :=
  cond x60 ((lAt x38 (w64 (Int.tdiv (w64 (p1 + x37)) 8))).bind fun y62 => grd ((0 : Int) ≤ (wu64 (Int.tmod (w64 (p1 + x37)) 8))) <| grd ((0 : Int) ≤ (w64 (Int.tdiv (w64 (p1 + x37)) 8)) ∧ (w64 (Int.tdiv (w64 (p1 + x37)) 8)) < (x38).length) <| F_retraceref02_Turned_J2 x37 (List.set x38 (Int.toNat (w64 (Int.tdiv (w64 (p1 + x37)) 8))) (bits .xor .u8 y62 (wu8 (1 * 2 ^ (min (Int.toNat (wu64 (Int.tmod (w64 (p1 + x37)) 8))) 8)))))) (F_retraceref02_Turned_J2 x37 x38)
noncomputable def F_retraceref02_Turned_L4 (p1 : Int) (p2 : Int) (x37 : Int) (x38 : (List Int)) : Option ((Int × (List Int)) ⊕ (ByteArray)) :=
  cond (decide (x37 < 32)) (grd ((0 : Int) ≤ (wu64 x37)) <| cond ((bits .and .u32 (Int.fdiv p2 (2 ^ (min (Int.toNat (wu64 x37)) 32))) 1) == 1) (cond (decide (0 ≤ (w64 (p1 + x37)))) (F_retraceref02_Turned_J3 p1 x37 x38 (decide ((w64 (p1 + x37)) < (w64 (8 * ((x38).length : Int)))))) (F_retraceref02_Turned_J3 p1 x37 x38 false)) (F_retraceref02_Turned_J3 p1 x37 x38 false)) ((F_retraceref02_Turned_J1 x38).map Sum.inr)
noncomputable def F_retraceref02_Turned (p0 : ByteArray) (p1 : Int) (p2 : Int) : Option (ByteArray) :=
  grd (p0.size ≤ 281474976710656) <| Loop (fun s : (Int × (List Int)) => F_retraceref02_Turned_L4 p1 p2 s.1 s.2) (0, (sB p0))
/- retrace/vint.Put -/
noncomputable def F_vint_Put_J1 (x19 : Int) (x20 : (List Int)) : Option (ByteArray) :=
  grd (((x20).length + ([(wu8 x19)]).length) * 1 ≤ 140737488355328) <| some (strOfNums (x20 ++ [(wu8 x19)]))
noncomputable def F_vint_Put_L2 (x23 : Int) (x24 : (List Int)) : Option ((Int × (List Int)) ⊕ (ByteArray)) :=
  cond (decide (128 ≤ x23)) (grd (((x24).length + ([(bits .or .u8 (wu8 x23) 128)]).length) * 1 ≤ 140737488355328) <| some (.inl ((Int.fdiv x23 128), (x24 ++ [(bits .or .u8 (wu8 x23) 128)])))) ((F_vint_Put_J1 x23 x24).map Sum.inr)
noncomputable def F_vint_Put (p0 : ByteArray) (p1 : Int) : Option (ByteArray) :=
  (F_vint_Size p1).bind fun y3 => grd ((0 : Int) ≤ 0 ∧ 0 ≤ (w64 ((p0.size : Int) + y3)) ∧ (w64 ((p0.size : Int) + y3)) ≤ 281474976710656 ∧ (1 : Int) * (w64 ((p0.size : Int) + y3)) ≤ 281474976710656) <| grd (((([] : List Int)).length + p0.size) * 1 ≤ 140737488355328) <| Loop (fun s : (Int × (List Int)) => F_vint_Put_L2 s.1 s.2) (p1, (([] : List Int) ++ (sB p0)))
/- retrace/vint.Get -/
noncomputable def F_vint_Get_J2 (x104 : Int) : Option (Int × Int × Int) :=
  some (0, 0, x104)
noncomputable def F_vint_Get_J3 (p1 : Int) (x109 : Int) (x110 : Int) (y159 : Int) (x184 : Bool) : Option ((Int × Int) ⊕ (Int × Int × Int)) :=
  cond x184 ((F_vint_Get_J2 3).map Sum.inr) (cond (decide (y159 < 128)) (grd ((0 : Int) ≤ (w64 (7 * x110))) <| (some ((bits .or .u64 x109 (wu64 ((wu64 y159) * 2 ^ (min (Int.toNat (w64 (7 * x110))) 64)))), (w64 ((w64 (p1 + x110)) + 1)), 0)).map Sum.inr) (grd ((0 : Int) ≤ (w64 (7 * x110))) <| some (.inl ((bits .or .u64 x109 (wu64 ((wu64 (bits .and .u8 y159 127)) * 2 ^ (min (Int.toNat (w64 (7 * x110))) 64)))), (w64 (x110 + 1))))))
noncomputable def F_vint_Get_J4 (p1 : Int) (x109 : Int) (x110 : Int) (y159 : Int) (x195 : Bool) : Option ((Int × Int) ⊕ (Int × Int × Int)) :=
  cond x195 (F_vint_Get_J3 p1 x109 x110 y159 x195) (cond (decide (0 < x110)) (F_vint_Get_J3 p1 x109 x110 y159 (y159 == 0)) (F_vint_Get_J3 p1 x109 x110 y159 false))
noncomputable def F_vint_Get_L5 (p0 : ByteArray) (p1 : Int) (x109 : Int) (x110 : Int) : Option ((Int × Int) ⊕ (Int × Int × Int)) :=
  cond (decide (x110 < (((sB (p0.extract (Int.toNat p1) (Int.toNat (p0.size : Int))))).length : Int))) ((lAt (sB (p0.extract (Int.toNat p1) (Int.toNat (p0.size : Int)))) x110).bind fun y159 => cond (x110 == 9) (F_vint_Get_J4 p1 x109 x110 y159 (decide (1 < y159))) (F_vint_Get_J4 p1 x109 x110 y159 false)) ((F_vint_Get_J2 2).map Sum.inr)
noncomputable def F_vint_Get_J1 (p0 : ByteArray) (p1 : Int) (x6 : Bool) : Option (Int × Int × Int) :=
  cond x6 (some (0, 0, 1)) (grd ((0 : Int) ≤ p1 ∧ p1 ≤ (p0.size : Int) ∧ (p0.size : Int) ≤ (p0.size : Int)) <| grd ((p0.extract (Int.toNat p1) (Int.toNat (p0.size : Int))).size ≤ 281474976710656) <| Loop (fun s : (Int × Int) => F_vint_Get_L5 p0 p1 s.1 s.2) (0, 0))
noncomputable def F_vint_Get (p0 : ByteArray) (p1 : Int) : Option (Int × Int × Int) :=
  cond (decide (p1 < 0)) (F_vint_Get_J1 p0 p1 true) (F_vint_Get_J1 p0 p1 (decide ((p0.size : Int) < p1)))
/- retrace/vint.PutInt -/
noncomputable def F_vint_PutInt (p0 : ByteArray) (p1 : Int) : Option (ByteArray) :=
  (F_vint_Zig p1).bind fun y3 => (F_vint_Put p0 y3).bind fun y4 => some y4
/- retrace/vint.GetInt -/
noncomputable def F_vint_GetInt (p0 : ByteArray) (p1 : Int) : Option (Int × Int × Int) :=
  (F_vint_Get p0 p1).bind fun y2 => (F_vint_Zag y2.1).bind fun y4 => some (y4, y2.2.1, y2.2.2)
/- retrace/retraceref01.Get -/
noncomputable def F_retraceref01_Get_J2  : Option (T_retraceref01_Got) :=
  some (⟨0, 0, 3⟩ : T_retraceref01_Got)
noncomputable def F_retraceref01_Get_J3 (p1 : Int) (x95 : Int) (x96 : Int) (x97 : Int) (y149 : Int) (x166 : Bool) : Option ((Int × Int × Int) ⊕ (T_retraceref01_Got)) :=
  cond x166 ((some (⟨0, 0, 3⟩ : T_retraceref01_Got)).map Sum.inr) (cond (decide (y149 < 128)) ((some (⟨(wu64 (x95 + (wu64 ((wu64 (Int.tmod y149 128)) * x96)))), (w64 ((w64 (p1 + x97)) + 1)), 0⟩ : T_retraceref01_Got)).map Sum.inr) (some (.inl ((wu64 (x95 + (wu64 ((wu64 (Int.tmod y149 128)) * x96)))), (wu64 (x96 * 128)), (w64 (x97 + 1))))))
noncomputable def F_retraceref01_Get_L4 (p0 : ByteArray) (p1 : Int) (x95 : Int) (x96 : Int) (x97 : Int) : Option ((Int × Int × Int) ⊕ (T_retraceref01_Got)) :=
  cond (decide (x97 < 10)) (cond (decide ((p0.size : Int) ≤ (w64 (p1 + x97)))) ((some (⟨0, 0, 2⟩ : T_retraceref01_Got)).map Sum.inr) ((sAt p0 (w64 (p1 + x97))).bind fun y149 => cond (x97 == 9) (cond (decide (1 < y149)) (F_retraceref01_Get_J3 p1 x95 x96 x97 y149 true) (cond (y149 == 0) (F_retraceref01_Get_J3 p1 x95 x96 x97 y149 (decide (0 < x97))) (F_retraceref01_Get_J3 p1 x95 x96 x97 y149 false))) (cond (y149 == 0) (F_retraceref01_Get_J3 p1 x95 x96 x97 y149 (decide (0 < x97))) (F_retraceref01_Get_J3 p1 x95 x96 x97 y149 false)))) ((F_retraceref01_Get_J2).map Sum.inr)
noncomputable def F_retraceref01_Get_J1 (p0 : ByteArray) (p1 : Int) (x6 : Bool) : Option (T_retraceref01_Got) :=
  cond x6 (some (⟨0, 0, 1⟩ : T_retraceref01_Got)) (Loop (fun s : (Int × Int × Int) => F_retraceref01_Get_L4 p0 p1 s.1 s.2.1 s.2.2) (0, 1, 0))
noncomputable def F_retraceref01_Get (p0 : ByteArray) (p1 : Int) : Option (T_retraceref01_Got) :=
  cond (decide (p1 < 0)) (F_retraceref01_Get_J1 p0 p1 true) (F_retraceref01_Get_J1 p0 p1 (decide ((p0.size : Int) < p1)))
/- retrace/retraceref01.Num -/
noncomputable def F_retraceref01_Num_B (self : Int → Option (ByteArray)) (p0 : Int) : Option (ByteArray) :=
  cond (decide (p0 < 128)) (some (strOfNums ([(wu8 p0)]))) ((self (wu64 (Int.tdiv p0 128))).bind fun y5 => grd ((strOfNums ([(wu8 ((wu8 (Int.tmod p0 128)) + 128))])).size + y5.size ≤ 9223372036854775807) <| some ((strOfNums ([(wu8 ((wu8 (Int.tmod p0 128)) + 128))])) ++ y5))
noncomputable def F_retraceref01_Num_N : Nat → Int → Option (ByteArray)
  | 0 => fun _ => none
  | n + 1 => F_retraceref01_Num_B (F_retraceref01_Num_N n)
noncomputable def F_retraceref01_Num (p0 : Int) : Option (ByteArray) :=
  lim fun n => F_retraceref01_Num_N n p0
/- retrace/crc.Open -/
noncomputable def F_crc_Open (p0 : ByteArray) : Option (ByteArray × Int) :=
  cond (decide ((w64 ((p0.size : Int) - 4)) < 0)) (some ((⟨#[]⟩ : ByteArray), 2)) (grd ((0 : Int) ≤ 0 ∧ 0 ≤ (w64 ((p0.size : Int) - 4)) ∧ (w64 ((p0.size : Int) - 4)) ≤ (p0.size : Int)) <| (F_crc_Sum (p0.extract (Int.toNat 0) (Int.toNat (w64 ((p0.size : Int) - 4))))).bind fun y17 => (F_crc_Bytes y17).bind fun y18 => grd ((0 : Int) ≤ (w64 ((p0.size : Int) - 4)) ∧ (w64 ((p0.size : Int) - 4)) ≤ (p0.size : Int) ∧ (p0.size : Int) ≤ (p0.size : Int)) <| cond (!(y18.toList == (p0.extract (Int.toNat (w64 ((p0.size : Int) - 4))) (Int.toNat (p0.size : Int))).toList)) (some ((⟨#[]⟩ : ByteArray), 4)) (grd ((0 : Int) ≤ 0 ∧ 0 ≤ (w64 ((p0.size : Int) - 4)) ∧ (w64 ((p0.size : Int) - 4)) ≤ (p0.size : Int)) <| some ((p0.extract (Int.toNat 0) (Int.toNat (w64 ((p0.size : Int) - 4)))), 0)))
/- retrace/retracelaw01.live -/
noncomputable def F_retracelaw01_live_J1 (x9 : Bool) : Option (Bool) :=
  some x9
noncomputable def F_retracelaw01_live  : Option (Bool) :=
  (F_vint_Get (⟨#[172, 2]⟩ : ByteArray) 0).bind fun y2 => (F_vint_Put (⟨#[]⟩ : ByteArray) 300).bind fun y10 => cond (y10.toList == (⟨#[172, 2]⟩ : ByteArray).toList) ((F_vint_Zig (-3)).bind fun y12 => cond (y12 == 5) (cond (y2.1 == 300) (cond (y2.2.1 == 2) (F_retracelaw01_live_J1 (y2.2.2 == 0)) (F_retracelaw01_live_J1 false)) (F_retracelaw01_live_J1 false)) (F_retracelaw01_live_J1 false)) (F_retracelaw01_live_J1 false)
/- retrace/retracelaw02.live -/
noncomputable def F_retracelaw02_live_J1 (x11 : Bool) : Option (Bool) :=
  some x11
noncomputable def F_retracelaw02_live  : Option (Bool) :=
  (F_crc_Seal (⟨#[97, 98]⟩ : ByteArray)).bind fun y3 => (F_crc_Open y3).bind fun y4 => (F_crc_Open (⟨#[97, 98, 99, 100]⟩ : ByteArray)).bind fun y6 => (F_crc_Sum (⟨#[49, 50, 51, 52, 53, 54, 55, 56, 57]⟩ : ByteArray)).bind fun y12 => cond (y12 == 3421780262) (cond (y4.1.toList == (⟨#[97, 98]⟩ : ByteArray).toList) (cond (y4.2 == 0) (F_retracelaw02_live_J1 (y6.2 == 4)) (F_retracelaw02_live_J1 false)) (F_retracelaw02_live_J1 false)) (F_retracelaw02_live_J1 false)
/- retrace/retracelaw02.CrcTells -/
noncomputable def F_retracelaw02_CrcTells_J1 (x22 : Bool) : Option (Bool) :=
  some x22
noncomputable def F_retracelaw02_CrcTells (p0 : Int) (p1 : ByteArray) : Option (Bool) :=
  cond (decide (500 < (p1.size : Int))) ((F_retracelaw02_live ).bind fun y6 => some y6) ((F_crc_Sum p1).bind fun y23 => (F_retraceref02_Sum p1).bind fun y24 => cond (y23 == y24) ((F_crc_More p0 p1).bind fun y26 => (F_retraceref02_More p0 p1).bind fun y27 => cond (y26 == y27) ((F_crc_Bytes p0).bind fun y29 => (F_retraceref02_Bytes p0).bind fun y30 => cond (y29.toList == y30.toList) ((F_crc_Seal p1).bind fun y32 => (F_retraceref02_Sum p1).bind fun y33 => (F_retraceref02_Bytes y33).bind fun y34 => grd (p1.size + y34.size ≤ 9223372036854775807) <| cond (y32.toList == (p1 ++ y34).toList) ((F_retracelaw02_live ).bind fun y37 => F_retracelaw02_CrcTells_J1 y37) (F_retracelaw02_CrcTells_J1 false)) (F_retracelaw02_CrcTells_J1 false)) (F_retracelaw02_CrcTells_J1 false)) (F_retracelaw02_CrcTells_J1 false))
/- retrace/retracelaw02.CrcGoes -/
noncomputable def F_retracelaw02_CrcGoes_J2 (x25 : Bool) : Option (Bool) :=
  some x25
noncomputable def F_retracelaw02_CrcGoes_J1 (p0 : ByteArray) (p1 : ByteArray) (x8 : Bool) : Option (Bool) :=
  cond x8 ((F_retracelaw02_live ).bind fun y11 => some y11) ((F_crc_Sum p0).bind fun y26 => (F_crc_More y26 p1).bind fun y27 => grd (p0.size + p1.size ≤ 9223372036854775807) <| (F_crc_Sum (p0 ++ p1)).bind fun y29 => cond (y27 == y29) ((F_crc_More 0 p0).bind fun y31 => (F_crc_Sum p0).bind fun y32 => cond (y31 == y32) ((F_crc_Sum p0).bind fun y34 => (F_crc_More y34 (⟨#[]⟩ : ByteArray)).bind fun y35 => (F_crc_Sum p0).bind fun y36 => cond (y35 == y36) ((F_retracelaw02_live ).bind fun y38 => F_retracelaw02_CrcGoes_J2 y38) (F_retracelaw02_CrcGoes_J2 false)) (F_retracelaw02_CrcGoes_J2 false)) (F_retracelaw02_CrcGoes_J2 false))
noncomputable def F_retracelaw02_CrcGoes (p0 : ByteArray) (p1 : ByteArray) : Option (Bool) :=
  cond (decide (300 < (p0.size : Int))) (F_retracelaw02_CrcGoes_J1 p0 p1 true) (F_retracelaw02_CrcGoes_J1 p0 p1 (decide (300 < (p1.size : Int))))
/- retrace/retracelaw02.CrcOpens -/
noncomputable def F_retracelaw02_CrcOpens_J1 (x21 : Bool) : Option (Bool) :=
  some x21
noncomputable def F_retracelaw02_CrcOpens_J2 (x53 : Bool) : Option (Bool) :=
  some x53
noncomputable def F_retracelaw02_CrcOpens_J3 (x61 : Bool) : Option (Bool) :=
  some x61
noncomputable def F_retracelaw02_CrcOpens (p0 : ByteArray) : Option (Bool) :=
  cond (decide (300 < (p0.size : Int))) ((F_retracelaw02_live ).bind fun y6 => some y6) ((F_crc_Open p0).bind fun y8 => cond (decide ((w64 ((p0.size : Int) - 4)) < 0)) (cond (y8.1.toList == (⟨#[]⟩ : ByteArray).toList) (cond (y8.2 == 2) ((F_retracelaw02_live ).bind fun y24 => F_retracelaw02_CrcOpens_J1 y24) (F_retracelaw02_CrcOpens_J1 false)) (F_retracelaw02_CrcOpens_J1 false)) (grd ((0 : Int) ≤ 0 ∧ 0 ≤ (w64 ((p0.size : Int) - 4)) ∧ (w64 ((p0.size : Int) - 4)) ≤ (p0.size : Int)) <| (F_retraceref02_Sum (p0.extract (Int.toNat 0) (Int.toNat (w64 ((p0.size : Int) - 4))))).bind fun y46 => (F_retraceref02_Bytes y46).bind fun y47 => grd ((0 : Int) ≤ (w64 ((p0.size : Int) - 4)) ∧ (w64 ((p0.size : Int) - 4)) ≤ (p0.size : Int) ∧ (p0.size : Int) ≤ (p0.size : Int)) <| cond (!(y47.toList == (p0.extract (Int.toNat (w64 ((p0.size : Int) - 4))) (Int.toNat (p0.size : Int))).toList)) (cond (y8.1.toList == (⟨#[]⟩ : ByteArray).toList) (cond (y8.2 == 4) ((F_retracelaw02_live ).bind fun y56 => F_retracelaw02_CrcOpens_J2 y56) (F_retracelaw02_CrcOpens_J2 false)) (F_retracelaw02_CrcOpens_J2 false)) (grd ((0 : Int) ≤ 0 ∧ 0 ≤ (w64 ((p0.size : Int) - 4)) ∧ (w64 ((p0.size : Int) - 4)) ≤ (p0.size : Int)) <| cond (y8.1.toList == (p0.extract (Int.toNat 0) (Int.toNat (w64 ((p0.size : Int) - 4)))).toList) (cond (y8.2 == 0) ((F_retracelaw02_live ).bind fun y65 => F_retracelaw02_CrcOpens_J3 y65) (F_retracelaw02_CrcOpens_J3 false)) (F_retracelaw02_CrcOpens_J3 false))))
/- retrace/retracelaw02.CrcFinds -/
noncomputable def F_retracelaw02_CrcFinds_J2 (x28 : Bool) : Option (Bool) :=
  some x28
noncomputable def F_retracelaw02_CrcFinds_J1 (p0 : ByteArray) (p1 : Int) (p2 : Int) (x11 : Bool) : Option (Bool) :=
  cond x11 ((F_retracelaw02_live ).bind fun y14 => some y14) ((F_retraceref02_Turned p0 p1 p2).bind fun y16 => (F_crc_Seal p0).bind fun y18 => (F_retraceref02_Turned y18 p1 p2).bind fun y20 => (F_crc_Open y20).bind fun y22 => (F_crc_Sum y16).bind fun y29 => (F_crc_Sum p0).bind fun y30 => cond ((y29 == y30) == (y16.toList == p0.toList)) (cond ((y22.2 == 0) == (y20.toList == y18.toList)) ((F_retracelaw02_live ).bind fun y33 => F_retracelaw02_CrcFinds_J2 y33) (F_retracelaw02_CrcFinds_J2 false)) (F_retracelaw02_CrcFinds_J2 false))
noncomputable def F_retracelaw02_CrcFinds (p0 : ByteArray) (p1 : Int) (p2 : Int) : Option (Bool) :=
  cond (decide (300 < (p0.size : Int))) (F_retracelaw02_CrcFinds_J1 p0 p1 p2 true) (cond (decide (p1 < 0)) (F_retracelaw02_CrcFinds_J1 p0 p1 p2 true) (F_retracelaw02_CrcFinds_J1 p0 p1 p2 (decide ((w64 ((w64 (8 * (p0.size : Int))) + 64)) < p1))))
/- retrace/retracelaw01.VintBack -/
noncomputable def F_retracelaw01_VintBack_J3 (x38 : Bool) : Option (Bool) :=
  some x38
noncomputable def F_retracelaw01_VintBack_J2 (p2 : ByteArray) (x26 : Bool) : Option (Bool) :=
  cond x26 (some false) ((F_vint_Get p2 0).bind fun y29 => cond (y29.2.2 != 0) ((F_retracelaw01_live ).bind fun y40 => F_retracelaw01_VintBack_J3 y40) (cond (decide (y29.2.1 ≤ (p2.size : Int))) (cond (decide (0 ≤ y29.2.1)) ((F_vint_Put (⟨#[]⟩ : ByteArray) y29.1).bind fun y43 => grd ((0 : Int) ≤ 0 ∧ 0 ≤ y29.2.1 ∧ y29.2.1 ≤ (p2.size : Int)) <| cond (y43.toList == (p2.extract (Int.toNat 0) (Int.toNat y29.2.1)).toList) ((F_retracelaw01_live ).bind fun y46 => F_retracelaw01_VintBack_J3 y46) (F_retracelaw01_VintBack_J3 false)) (F_retracelaw01_VintBack_J3 false)) (F_retracelaw01_VintBack_J3 false)))
noncomputable def F_retracelaw01_VintBack_J1 (p0 : ByteArray) (p1 : Int) (p2 : ByteArray) (x8 : Bool) : Option (Bool) :=
  cond x8 ((F_retracelaw01_live ).bind fun y11 => some y11) ((F_vint_Put p0 p1).bind fun y13 => grd (y13.size + p2.size ≤ 9223372036854775807) <| (F_vint_Get (y13 ++ p2) (p0.size : Int)).bind fun y17 => cond (y17.2.2 != 0) (F_retracelaw01_VintBack_J2 p2 true) (cond (y17.1 != p1) (F_retracelaw01_VintBack_J2 p2 true) (F_retracelaw01_VintBack_J2 p2 (y17.2.1 != (y13.size : Int)))))
noncomputable def F_retracelaw01_VintBack (p0 : ByteArray) (p1 : Int) (p2 : ByteArray) : Option (Bool) :=
  cond (decide (500 < (p0.size : Int))) (F_retracelaw01_VintBack_J1 p0 p1 p2 true) (F_retracelaw01_VintBack_J1 p0 p1 p2 (decide (500 < (p2.size : Int))))
/- retrace/retracelaw01.VintZigs -/
noncomputable def F_retracelaw01_VintZigs_J1 (x14 : Bool) : Option (Bool) :=
  some x14
noncomputable def F_retracelaw01_VintZigs (p0 : Int) (p1 : Int) : Option (Bool) :=
  (F_vint_Zig p0).bind fun y15 => (F_retraceref01_Zig p0).bind fun y16 => cond (y15 == y16) ((F_vint_Zag p1).bind fun y18 => (F_retraceref01_Zag p1).bind fun y19 => cond (y18 == y19) ((F_vint_Zig p0).bind fun y21 => (F_vint_Zag y21).bind fun y22 => cond (y22 == p0) ((F_vint_Zag p1).bind fun y24 => (F_vint_Zig y24).bind fun y25 => cond (y25 == p1) ((F_retracelaw01_live ).bind fun y27 => F_retracelaw01_VintZigs_J1 y27) (F_retracelaw01_VintZigs_J1 false)) (F_retracelaw01_VintZigs_J1 false)) (F_retracelaw01_VintZigs_J1 false)) (F_retracelaw01_VintZigs_J1 false)
/- retrace/retracelaw01.VintPuts -/
noncomputable def F_retracelaw01_VintPuts_J1 (x20 : Bool) : Option (Bool) :=
  some x20
noncomputable def F_retracelaw01_VintPuts (p0 : ByteArray) (p1 : Int) (p2 : Int) : Option (Bool) :=
  cond (decide (1000 < (p0.size : Int))) ((F_retracelaw01_live ).bind fun y6 => some y6) ((F_vint_Put p0 p1).bind fun y21 => (F_retraceref01_Num p1).bind fun y22 => grd (p0.size + y22.size ≤ 9223372036854775807) <| cond (y21.toList == (p0 ++ y22).toList) ((F_vint_Size p1).bind fun y25 => (F_retraceref01_Num p1).bind fun y26 => cond (y25 == (y26.size : Int)) ((F_vint_PutInt p0 p2).bind fun y28 => (F_retraceref01_Zig p2).bind fun y29 => (F_retraceref01_Num y29).bind fun y30 => grd (p0.size + y30.size ≤ 9223372036854775807) <| cond (y28.toList == (p0 ++ y30).toList) ((F_retracelaw01_live ).bind fun y33 => F_retracelaw01_VintPuts_J1 y33) (F_retracelaw01_VintPuts_J1 false)) (F_retracelaw01_VintPuts_J1 false)) (F_retracelaw01_VintPuts_J1 false))
/- retrace/retracelaw01.VintGets -/
noncomputable def F_retracelaw01_VintGets_J1 (x21 : Bool) : Option (Bool) :=
  some x21
noncomputable def F_retracelaw01_VintGets (p0 : ByteArray) (p1 : Int) : Option (Bool) :=
  cond (decide (1000 < (p0.size : Int))) ((F_retracelaw01_live ).bind fun y6 => some y6) ((F_vint_Get p0 p1).bind fun y8 => (F_vint_GetInt p0 p1).bind fun y10 => (F_retraceref01_Get p0 p1).bind fun y12 => cond (y8.1 == y12.U) (cond (y8.2.1 == y12.Next) (cond (y8.2.2 == y12.E) ((F_retraceref01_Zag y12.U).bind fun y25 => cond (y10.1 == y25) (cond (y10.2.1 == y12.Next) (cond (y10.2.2 == y12.E) ((F_retracelaw01_live ).bind fun y29 => F_retracelaw01_VintGets_J1 y29) (F_retracelaw01_VintGets_J1 false)) (F_retracelaw01_VintGets_J1 false)) (F_retracelaw01_VintGets_J1 false)) (F_retracelaw01_VintGets_J1 false)) (F_retracelaw01_VintGets_J1 false)) (F_retracelaw01_VintGets_J1 false))

theorem mixedOrd : Try.prog.follows .mixedOrders = true := by kernel_rfl
set_option maxRecDepth 100000 in
theorem C_vint_Zig (p0 : Int) (r : Int) (h : F_vint_Zig p0 = some r) : DCall Try.prog 24 [i64 p0] (u64 r) := by
  rw [F_vint_Zig] at h
  refine DCall.intro Try.func24 rfl (by kernel_rfl) fun w0 hz0 => ?_
  refine At.seq ?_
  refine At.region_end [0] 0 _ (st' := ⟨[(0, i64 p0)], []⟩) (tips := []) (by kernel_rfl) all0 (norm ?_)
  refine At.seq ?_
  refine At.region_end [2] 0 _ (st' := ⟨[(2, u64 (bits .xor .u64 (wu64 ((wu64 p0) * 2)) (wu64 (Int.fdiv p0 9223372036854775808))))], []⟩) (tips := []) (by kernel_rfl) (allc (by decide : (0:Int) ≤ 1) (allc (by decide : (0:Int) ≤ 63) all0)) (norm ?_)
  obtain rfl := some_eq h
  exact At.ret fun a w hs => ret_fin (settle := []) (obl := _) (by kernel_rfl) all0 a w hs _ (.inl rfl)
set_option maxRecDepth 100000 in
theorem C_vint_Zag (p0 : Int) (r : Int) (h : F_vint_Zag p0 = some r) : DCall Try.prog 26 [u64 p0] (i64 r) := by
  rw [F_vint_Zag] at h
  refine DCall.intro Try.func26 rfl (by kernel_rfl) fun w0 hz0 => ?_
  refine At.seq ?_
  refine At.region_end [0] 0 _ (st' := ⟨[(0, u64 p0)], []⟩) (tips := []) (by kernel_rfl) all0 (norm ?_)
  refine At.seq ?_
  refine At.region_end [2] 0 _ (st' := ⟨[(2, i64 (bits .xor .i64 (w64 (Int.fdiv p0 2)) (w64 (0 - (w64 (bits .and .u64 p0 1))))))], []⟩) (tips := []) (by kernel_rfl) (allc (by decide : (0:Int) ≤ 1) all0) (norm ?_)
  obtain rfl := some_eq h
  exact At.ret fun a w hs => ret_fin (settle := []) (obl := _) (by kernel_rfl) all0 a w hs _ (.inl rfl)
set_option maxRecDepth 100000 in
theorem C_retraceref01_Zig (p0 : Int) (r : Int) (h : F_retraceref01_Zig p0 = some r) : DCall Try.prog 25 [i64 p0] (u64 r) := by
  rw [F_retraceref01_Zig] at h
  refine DCall.intro Try.func25 rfl (by kernel_rfl) fun w0 hz0 => ?_
  refine At.seq ?_
  refine At.region_end [0] 0 _ (st' := ⟨[(0, i64 p0)], []⟩) (tips := []) (by kernel_rfl) all0 (norm ?_)
  refine At.seq ?_
  refine At.seq ?_
  refine At.region_end [0, 4] 0 _ (st' := ⟨[(0, i64 p0), (4, bo (decide (p0 < 0)))], []⟩) (tips := []) (by kernel_rfl) all0 (norm ?_)
  refine At.cond (decide (p0 < 0)) (by kernel_rfl) (fun b2 => ?_) (fun b2 => ?_)
  · replace h := cond_t b2 h
    refine At.seq ?_
    refine At.region_end [2] 0 _ (st' := ⟨[(2, u64 (wu64 ((wu64 ((wu64 (w64 (0 - (w64 (p0 + 1))))) * 2)) + 1)))], []⟩) (tips := []) (by kernel_rfl) all0 (norm ?_)
    obtain rfl := some_eq h
    exact At.ret fun a w hs => ret_fin (settle := []) (obl := _) (by kernel_rfl) all0 a w hs _ (.inl rfl)
  · replace h := cond_f b2 h
    refine At.nar [0] 0 (st' := ⟨[(0, i64 p0)], []⟩) (by kernel_rfl) ?_
    refine At.skip (norm ?_)
    refine At.seq ?_
    refine At.region_end [2] 0 _ (st' := ⟨[(2, u64 (wu64 ((wu64 p0) * 2)))], []⟩) (tips := []) (by kernel_rfl) all0 (norm ?_)
    obtain rfl := some_eq h
    exact At.ret fun a w hs => ret_fin (settle := []) (obl := _) (by kernel_rfl) all0 a w hs _ (.inl rfl)
set_option maxRecDepth 100000 in
theorem C_retraceref01_Zag (p0 : Int) (r : Int) (h : F_retraceref01_Zag p0 = some r) : DCall Try.prog 27 [u64 p0] (i64 r) := by
  rw [F_retraceref01_Zag] at h
  refine DCall.intro Try.func27 rfl (by kernel_rfl) fun w0 hz0 => ?_
  refine At.seq ?_
  refine At.region_end [0] 0 _ (st' := ⟨[(0, u64 p0)], []⟩) (tips := []) (by kernel_rfl) all0 (norm ?_)
  refine At.seq ?_
  refine At.seq ?_
  refine At.region_end [0, 5] 0 _ (st' := ⟨[(0, u64 p0), (5, bo ((Int.tmod p0 2) == 1))], []⟩) (tips := []) (by kernel_rfl) (allc (by decide : 2 ≠ (0:Int)) all0) (norm ?_)
  refine At.cond ((Int.tmod p0 2) == 1) (by kernel_rfl) (fun b2 => ?_) (fun b2 => ?_)
  · replace h := cond_t b2 h
    refine At.seq ?_
    refine At.region_end [2] 0 _ (st' := ⟨[(2, i64 (w64 ((w64 (0 - (w64 (wu64 (Int.tdiv p0 2))))) - 1)))], []⟩) (tips := []) (by kernel_rfl) (allc (by decide : 2 ≠ (0:Int)) all0) (norm ?_)
    obtain rfl := some_eq h
    exact At.ret fun a w hs => ret_fin (settle := []) (obl := _) (by kernel_rfl) all0 a w hs _ (.inl rfl)
  · replace h := cond_f b2 h
    refine At.nar [0] 0 (st' := ⟨[(0, u64 p0)], []⟩) (by kernel_rfl) ?_
    refine At.skip (norm ?_)
    refine At.seq ?_
    refine At.region_end [2] 0 _ (st' := ⟨[(2, i64 (w64 (wu64 (Int.tdiv p0 2))))], []⟩) (tips := []) (by kernel_rfl) (allc (by decide : 2 ≠ (0:Int)) all0) (norm ?_)
    obtain rfl := some_eq h
    exact At.ret fun a w hs => ret_fin (settle := []) (obl := _) (by kernel_rfl) all0 a w hs _ (.inl rfl)
set_option maxRecDepth 100000 in
theorem C_vint_Size (p0 : Int) (r : Int) (h : F_vint_Size p0 = some r) : DCall Try.prog 29 [u64 p0] (i64 r) := by
  rw [F_vint_Size] at h
  refine DCall.intro Try.func29 rfl (by kernel_rfl) fun w0 hz0 => ?_
  refine At.seq ?_
  refine At.region_end [0] 0 _ (st' := ⟨[(0, u64 p0)], []⟩) (tips := []) (by kernel_rfl) all0 (norm ?_)
  refine At.seq ?_
  refine At.region_end [0, 3] 0 _ (st' := ⟨[(0, u64 p0), (3, i64 1)], []⟩) (tips := []) (by kernel_rfl) all0 (norm ?_)
  refine At.seqJ (S := Int) (fun s => ⟨[(3, i64 s)], []⟩) (fun s => F_vint_Size_J1 s = some r) ?_ ?_
  · refine At.block ?_
    refine At.loop (fun s : (Int × Int) => F_vint_Size_L2 s.1 s.2) (fun s : (Int × Int) => ⟨[(0, u64 s.1), (3, i64 s.2)], []⟩) r (p0, 1) h ?_
    rintro ⟨x12, x13⟩ o14 h f15
    replace h : F_vint_Size_L2 x12 x13 = some o14 := h
    rw [F_vint_Size_L2] at h
    refine At.seq ?_
    refine At.seq ?_
    refine At.region_end [0, 3, 5] 0 _ (st' := ⟨[(0, u64 x12), (3, i64 x13), (5, bo (decide (128 ≤ x12)))], []⟩) (tips := []) (by kernel_rfl) all0 (norm ?_)
    refine At.cond (decide (128 ≤ x12)) (by kernel_rfl) (fun b19 => ?_) (fun b19 => ?_)
    · replace h := cond_t b19 h
      refine At.nar [0, 3] 0 (st' := ⟨[(0, u64 x12), (3, i64 x13)], []⟩) (by kernel_rfl) ?_
      refine At.skip (norm ?_)
      refine At.seq ?_
      refine At.block ?_
      refine At.region_end [0, 3] 0 _ (st' := ⟨[(0, u64 x12), (3, i64 (w64 (x13 + 1)))], []⟩) (tips := []) (by kernel_rfl) all0 (norm ?_)
      refine At.region_end [0, 3] 0 _ (st' := ⟨[(0, u64 (Int.fdiv x12 128)), (3, i64 (w64 (x13 + 1)))], []⟩) (tips := []) (by kernel_rfl) (allc (by decide : (0:Int) ≤ 7) all0) (fun a w hs => ⟨_, (some_eq h).symm, hs⟩)
    · replace h := cond_f b19 h
      refine At.nar [3] 0 (st' := ⟨[(3, i64 x13)], []⟩) (by kernel_rfl) ?_
      obtain ⟨r20, h, e21⟩ := map_inr h
      rw [f15 _ e21] at h
      refine At.exit (fun a w hs => ⟨x13, h, hs⟩)
  · intro x11 h
    replace h : F_vint_Size_J1 x11 = some r := h
    rw [F_vint_Size_J1] at h
    refine At.seq ?_
    refine At.region_end [2] 0 _ (st' := ⟨[(2, i64 x11)], []⟩) (tips := []) (by kernel_rfl) all0 (norm ?_)
    obtain rfl := some_eq h
    exact At.ret fun a w hs => ret_fin (settle := []) (obl := _) (by kernel_rfl) all0 a w hs _ (.inl rfl)
set_option maxRecDepth 100000 in
theorem C_retraceref02_push (p0 : Int) (p1 : ByteArray) (r : Int) (h : F_retraceref02_push p0 p1 = some r) : DCall Try.prog 33 [u32 p0, sv p1] (u32 r) := by
  rw [F_retraceref02_push] at h
  refine DCall.intro Try.func33 rfl (by kernel_rfl) fun w0 hz0 => ?_
  refine At.seq ?_
  refine At.region_end [0, 1] 0 _ (st' := ⟨[(0, u32 p0), (1, sv p1)], []⟩) (tips := []) (by kernel_rfl) all0 (norm ?_)
  refine At.seqJ (S := Int) (fun s => ⟨[(0, u32 s)], []⟩) (fun s => F_retraceref02_push_J1 s = some r) ?_ ?_
  · refine At.seq ?_
    refine At.region_end [0, 1, 5] 0 _ (st' := ⟨[(0, u32 p0), (1, sv p1), (5, i64 0)], []⟩) (tips := []) (by kernel_rfl) all0 (norm ?_)
    refine At.block ?_
    refine At.loop (fun s : (Int × Int) => F_retraceref02_push_L5 p1 s.1 s.2) (fun s : (Int × Int) => ⟨[(0, u32 s.1), (1, sv p1), (5, i64 s.2)], []⟩) r (p0, 0) h ?_
    rintro ⟨x43, x44⟩ o45 h f46
    replace h : F_retraceref02_push_L5 p1 x43 x44 = some o45 := h
    rw [F_retraceref02_push_L5] at h
    refine At.seq ?_
    refine At.seq ?_
    refine At.region_end [0, 1, 5, 11] 0 _ (st' := ⟨[(0, u32 x43), (1, sv p1), (5, i64 x44), (11, bo (decide (x44 < (p1.size : Int))))], []⟩) (tips := []) (by kernel_rfl) all0 (norm ?_)
    refine At.cond (decide (x44 < (p1.size : Int))) (by kernel_rfl) (fun b50 => ?_) (fun b50 => ?_)
    · replace h := cond_t b50 h
      refine At.nar [0, 1, 5] 0 (st' := ⟨[(0, u32 x43), (1, sv p1), (5, i64 x44)], []⟩) (by kernel_rfl) ?_
      refine At.skip (norm ?_)
      refine At.seqJ (S := Int) (fun s => ⟨[(0, u32 s), (1, sv p1), (5, i64 x44)], []⟩) (fun s => F_retraceref02_push_J2 x44 s = some o45) ?_ ?_
      · refine At.block ?_
        refine At.seq ?_
        obtain ⟨y68, hy68, h⟩ := bind_some h
        refine At.region_end [0, 1, 5] 0 _ (st' := ⟨[(0, u32 (bits .xor .u32 x43 (wu32 y68))), (1, sv p1), (5, i64 x44)], []⟩) (tips := [(3, { orc := .val (.int .u8 y68) })]) (by kernel_rfl) (allc hy68 all0) (norm ?_)
        refine At.seq ?_
        refine At.region_end [0, 1, 5, 6] 0 _ (st' := ⟨[(0, u32 (bits .xor .u32 x43 (wu32 y68))), (1, sv p1), (5, i64 x44), (6, i64 0)], []⟩) (tips := []) (by kernel_rfl) all0 (norm ?_)
        refine At.block ?_
        refine At.loop (fun s : (Int × Int) => F_retraceref02_push_L4 x44 s.1 s.2) (fun s : (Int × Int) => ⟨[(0, u32 s.1), (1, sv p1), (5, i64 x44), (6, i64 s.2)], []⟩) o45 ((bits .xor .u32 x43 (wu32 y68)), 0) h ?_
        rintro ⟨x69, x70⟩ o71 h f72
        replace h : F_retraceref02_push_L4 x44 x69 x70 = some o71 := h
        rw [F_retraceref02_push_L4] at h
        refine At.seq ?_
        refine At.seq ?_
        refine At.region_end [0, 1, 5, 6, 21] 0 _ (st' := ⟨[(0, u32 x69), (1, sv p1), (5, i64 x44), (6, i64 x70), (21, bo (decide (x70 < 8)))], []⟩) (tips := []) (by kernel_rfl) all0 (norm ?_)
        refine At.cond (decide (x70 < 8)) (by kernel_rfl) (fun b76 => ?_) (fun b76 => ?_)
        · replace h := cond_t b76 h
          refine At.nar [0, 1, 5, 6] 0 (st' := ⟨[(0, u32 x69), (1, sv p1), (5, i64 x44), (6, i64 x70)], []⟩) (by kernel_rfl) ?_
          refine At.skip (norm ?_)
          refine At.seqJ (S := Int) (fun s => ⟨[(0, u32 s), (1, sv p1), (5, i64 x44), (6, i64 x70)], []⟩) (fun s => F_retraceref02_push_J3 x70 s = some o71) ?_ ?_
          · refine At.block ?_
            refine At.seq ?_
            refine At.region_end [0, 1, 5, 6, 7] 0 _ (st' := ⟨[(0, u32 x69), (1, sv p1), (5, i64 x44), (6, i64 x70), (7, bo ((Int.tmod x69 2) == 1))], []⟩) (tips := []) (by kernel_rfl) (allc (by decide : 2 ≠ (0:Int)) all0) (norm ?_)
            refine At.seq ?_
            refine At.region_end [0, 1, 5, 6, 7] 0 _ (st' := ⟨[(0, u32 (wu32 (Int.tdiv x69 2))), (1, sv p1), (5, i64 x44), (6, i64 x70), (7, bo ((Int.tmod x69 2) == 1))], []⟩) (tips := []) (by kernel_rfl) (allc (by decide : 2 ≠ (0:Int)) all0) (norm ?_)
            refine At.seq ?_
            refine At.region_end [0, 1, 5, 6, 29] 0 _ (st' := ⟨[(0, u32 (wu32 (Int.tdiv x69 2))), (1, sv p1), (5, i64 x44), (6, i64 x70), (29, bo ((Int.tmod x69 2) == 1))], []⟩) (tips := []) (by kernel_rfl) all0 (norm ?_)
            refine At.cond ((Int.tmod x69 2) == 1) (by kernel_rfl) (fun b79 => ?_) (fun b79 => ?_)
            · replace h := cond_t b79 h
              refine At.region_end [0, 1, 5, 6] 0 _ (st' := ⟨[(0, u32 (bits .xor .u32 (wu32 (Int.tdiv x69 2)) 3988292384)), (1, sv p1), (5, i64 x44), (6, i64 x70)], []⟩) (tips := []) (by kernel_rfl) all0 (fun a w hs => ⟨(bits .xor .u32 (wu32 (Int.tdiv x69 2)) 3988292384), h, hs⟩)
            · replace h := cond_f b79 h
              refine At.nar [0, 1, 5, 6] 0 (st' := ⟨[(0, u32 (wu32 (Int.tdiv x69 2))), (1, sv p1), (5, i64 x44), (6, i64 x70)], []⟩) (by kernel_rfl) ?_
              refine At.skip (fun a w hs => ⟨(wu32 (Int.tdiv x69 2)), h, hs⟩)
          · intro x78 h
            replace h : F_retraceref02_push_J3 x70 x78 = some o71 := h
            rw [F_retraceref02_push_J3] at h
            refine At.region_end [0, 1, 5, 6] 0 _ (st' := ⟨[(0, u32 x78), (1, sv p1), (5, i64 x44), (6, i64 (w64 (x70 + 1)))], []⟩) (tips := []) (by kernel_rfl) all0 (fun a w hs => ⟨_, (some_eq h).symm, hs⟩)
        · replace h := cond_f b76 h
          refine At.nar [0, 1, 5] 0 (st' := ⟨[(0, u32 x69), (1, sv p1), (5, i64 x44)], []⟩) (by kernel_rfl) ?_
          obtain ⟨r80, h, e81⟩ := map_inr h
          rw [f72 _ e81] at h
          refine At.exit (fun a w hs => ⟨x69, h, hs⟩)
      · intro x66 h
        replace h : F_retraceref02_push_J2 x44 x66 = some o45 := h
        rw [F_retraceref02_push_J2] at h
        refine At.region_end [0, 1, 5] 0 _ (st' := ⟨[(0, u32 x66), (1, sv p1), (5, i64 (w64 (x44 + 1)))], []⟩) (tips := []) (by kernel_rfl) all0 (fun a w hs => ⟨_, (some_eq h).symm, hs⟩)
    · replace h := cond_f b50 h
      refine At.nar [0] 0 (st' := ⟨[(0, u32 x43)], []⟩) (by kernel_rfl) ?_
      obtain ⟨r82, h, e83⟩ := map_inr h
      rw [f46 _ e83] at h
      refine At.exit (fun a w hs => ⟨x43, h, hs⟩)
  · intro x42 h
    replace h : F_retraceref02_push_J1 x42 = some r := h
    rw [F_retraceref02_push_J1] at h
    refine At.seq ?_
    refine At.region_end [4] 0 _ (st' := ⟨[(4, u32 x42)], []⟩) (tips := []) (by kernel_rfl) all0 (norm ?_)
    obtain rfl := some_eq h
    exact At.ret fun a w hs => ret_fin (settle := []) (obl := _) (by kernel_rfl) all0 a w hs _ (.inl rfl)
set_option maxRecDepth 100000 in
theorem C_crc_table  (r : (List Int)) (h : F_crc_table  = some r) : DCall Try.prog 34 [] (.dagg (encL (eInt .u32) r)) := by
  rw [F_crc_table] at h
  refine DCall.intro Try.func34 rfl (by kernel_rfl) fun w0 hz0 => ?_
  refine At.seq ?_
  refine At.region_end [0] 1 _ (st' := ⟨[(0, .ptr 0 0)], [.dblk 54 (encL (eInt .u32) (List.replicate 256 0))]⟩) (tips := []) (by kernel_rfl) all0 (norm ?_)
  refine At.seq ?_
  refine At.region_end [0, 1] 2 _ (st' := ⟨[(0, .ptr 0 0), (1, .ptr 1 0)], [.dblk 54 (encL (eInt .u32) (List.replicate 256 0)), .dblk 54 (encL (eInt .u32) (List.replicate 256 0))]⟩) (tips := []) (by kernel_rfl) all0 (norm ?_)
  refine At.seqJ (S := (List Int)) (fun s => ⟨[(0, .ptr 0 0), (1, .ptr 1 0)], [.dblk 54 (encL (eInt .u32) (List.replicate 256 0)), .dblk 54 (encL (eInt .u32) s)]⟩) (fun s => F_crc_table_J1 s = some r) ?_ ?_
  · refine At.seq ?_
    refine At.region_end [0, 1, 4] 2 _ (st' := ⟨[(0, .ptr 0 0), (1, .ptr 1 0), (4, i64 0)], [.dblk 54 (encL (eInt .u32) (List.replicate 256 0)), .dblk 54 (encL (eInt .u32) (List.replicate 256 0))]⟩) (tips := []) (by kernel_rfl) all0 (norm ?_)
    refine At.block ?_
    refine At.loop (fun s : (Int × (List Int)) => F_crc_table_L4 s.1 s.2) (fun s : (Int × (List Int)) => ⟨[(0, .ptr 0 0), (1, .ptr 1 0), (4, i64 s.1)], [.dblk 54 (encL (eInt .u32) (List.replicate 256 0)), .dblk 54 (encL (eInt .u32) s.2)]⟩) r (0, (List.replicate 256 0)) h ?_
    rintro ⟨x61, x62⟩ o63 h f64
    replace h : F_crc_table_L4 x61 x62 = some o63 := h
    rw [F_crc_table_L4] at h
    refine At.seq ?_
    refine At.region_end [0, 1, 4, 5] 2 _ (st' := ⟨[(0, .ptr 0 0), (1, .ptr 1 0), (4, i64 x61), (5, bo (decide (x61 < 256)))], [.dblk 54 (encL (eInt .u32) (List.replicate 256 0)), .dblk 54 (encL (eInt .u32) x62)]⟩) (tips := []) (by kernel_rfl) all0 (norm ?_)
    refine At.seq ?_
    refine At.cond (decide (x61 < 256)) (by kernel_rfl) (fun b68 => ?_) (fun b68 => ?_)
    · replace h := cond_t b68 h
      refine At.nar [0, 1, 4] 2 (st' := ⟨[(0, .ptr 0 0), (1, .ptr 1 0), (4, i64 x61)], [.dblk 54 (encL (eInt .u32) (List.replicate 256 0)), .dblk 54 (encL (eInt .u32) x62)]⟩) (by kernel_rfl) ?_
      refine At.skip (norm ?_)
      refine At.seq ?_
      refine At.block ?_
      refine At.seq ?_
      refine At.region_end [0, 1, 2, 4] 2 _ (st' := ⟨[(0, .ptr 0 0), (1, .ptr 1 0), (2, i64 x61), (4, i64 x61)], [.dblk 54 (encL (eInt .u32) (List.replicate 256 0)), .dblk 54 (encL (eInt .u32) x62)]⟩) (tips := []) (by kernel_rfl) all0 (norm ?_)
      refine At.seq ?_
      refine At.region_end [0, 1, 2, 3, 4] 2 _ (st' := ⟨[(0, .ptr 0 0), (1, .ptr 1 0), (2, i64 x61), (3, u32 (wu32 x61)), (4, i64 x61)], [.dblk 54 (encL (eInt .u32) (List.replicate 256 0)), .dblk 54 (encL (eInt .u32) x62)]⟩) (tips := []) (by kernel_rfl) all0 (norm ?_)
      refine At.seqJ (S := Int) (fun s => ⟨[(0, .ptr 0 0), (1, .ptr 1 0), (2, i64 x61), (3, u32 s), (4, i64 x61)], [.dblk 54 (encL (eInt .u32) (List.replicate 256 0)), .dblk 54 (encL (eInt .u32) x62)]⟩) (fun s => F_crc_table_J2 x61 x62 s = some o63) ?_ ?_
      · refine At.seq ?_
        refine At.region_end [0, 1, 2, 3, 4, 9] 2 _ (st' := ⟨[(0, .ptr 0 0), (1, .ptr 1 0), (2, i64 x61), (3, u32 (wu32 x61)), (4, i64 x61), (9, i64 0)], [.dblk 54 (encL (eInt .u32) (List.replicate 256 0)), .dblk 54 (encL (eInt .u32) x62)]⟩) (tips := []) (by kernel_rfl) all0 (norm ?_)
        refine At.block ?_
        refine At.loop (fun s : (Int × Int) => F_crc_table_L3 x61 x62 s.1 s.2) (fun s : (Int × Int) => ⟨[(0, .ptr 0 0), (1, .ptr 1 0), (2, i64 x61), (3, u32 s.1), (4, i64 x61), (9, i64 s.2)], [.dblk 54 (encL (eInt .u32) (List.replicate 256 0)), .dblk 54 (encL (eInt .u32) x62)]⟩) o63 ((wu32 x61), 0) h ?_
        rintro ⟨x103, x104⟩ o105 h f106
        replace h : F_crc_table_L3 x61 x62 x103 x104 = some o105 := h
        rw [F_crc_table_L3] at h
        refine At.seq ?_
        refine At.region_end [0, 1, 2, 3, 4, 9, 10] 2 _ (st' := ⟨[(0, .ptr 0 0), (1, .ptr 1 0), (2, i64 x61), (3, u32 x103), (4, i64 x61), (9, i64 x104), (10, bo (decide (x104 < 8)))], [.dblk 54 (encL (eInt .u32) (List.replicate 256 0)), .dblk 54 (encL (eInt .u32) x62)]⟩) (tips := []) (by kernel_rfl) all0 (norm ?_)
        refine At.seq ?_
        refine At.cond (decide (x104 < 8)) (by kernel_rfl) (fun b110 => ?_) (fun b110 => ?_)
        · replace h := cond_t b110 h
          refine At.nar [0, 1, 2, 3, 4, 9] 2 (st' := ⟨[(0, .ptr 0 0), (1, .ptr 1 0), (2, i64 x61), (3, u32 x103), (4, i64 x61), (9, i64 x104)], [.dblk 54 (encL (eInt .u32) (List.replicate 256 0)), .dblk 54 (encL (eInt .u32) x62)]⟩) (by kernel_rfl) ?_
          refine At.skip (norm ?_)
          refine At.seq ?_
          refine At.block ?_
          refine At.region_end [0, 1, 2, 3, 4, 9] 2 _ (st' := ⟨[(0, .ptr 0 0), (1, .ptr 1 0), (2, i64 x61), (3, u32 (bits .xor .u32 (Int.fdiv x103 2) (bits .and .u32 3988292384 (wu32 (0 - (bits .and .u32 x103 1)))))), (4, i64 x61), (9, i64 x104)], [.dblk 54 (encL (eInt .u32) (List.replicate 256 0)), .dblk 54 (encL (eInt .u32) x62)]⟩) (tips := []) (by kernel_rfl) (allc (by decide : (0:Int) ≤ 1) all0) (norm ?_)
          refine At.region_end [0, 1, 2, 3, 4, 9] 2 _ (st' := ⟨[(0, .ptr 0 0), (1, .ptr 1 0), (2, i64 x61), (3, u32 (bits .xor .u32 (Int.fdiv x103 2) (bits .and .u32 3988292384 (wu32 (0 - (bits .and .u32 x103 1)))))), (4, i64 x61), (9, i64 (w64 (x104 + 1)))], [.dblk 54 (encL (eInt .u32) (List.replicate 256 0)), .dblk 54 (encL (eInt .u32) x62)]⟩) (tips := []) (by kernel_rfl) all0 (fun a w hs => ⟨_, (some_eq h).symm, hs⟩)
        · replace h := cond_f b110 h
          refine At.nar [0, 1, 2, 3, 4] 2 (st' := ⟨[(0, .ptr 0 0), (1, .ptr 1 0), (2, i64 x61), (3, u32 x103), (4, i64 x61)], [.dblk 54 (encL (eInt .u32) (List.replicate 256 0)), .dblk 54 (encL (eInt .u32) x62)]⟩) (by kernel_rfl) ?_
          obtain ⟨r111, h, e112⟩ := map_inr h
          rw [f106 _ e112] at h
          refine At.exit (fun a w hs => ⟨x103, h, hs⟩)
      · intro x101 h
        replace h : F_crc_table_J2 x61 x62 x101 = some o63 := h
        rw [F_crc_table_J2] at h
        obtain ⟨g102, h⟩ := grd_some h
        refine At.region_end [0, 1, 4] 2 _ (st' := ⟨[(0, .ptr 0 0), (1, .ptr 1 0), (4, i64 x61)], [.dblk 54 (encL (eInt .u32) (List.replicate 256 0)), .dblk 54 (encL (eInt .u32) (List.set x62 (Int.toNat x61) x101))]⟩) (tips := [(3, { form := some (0, encL (eInt .u32) (List.set x62 (Int.toNat x61) x101)), obj := 1 })]) (by kernel_rfl) (allc (⟨g102.1, g102.2.1⟩ : Within _ _) (allc ((aSet_ok (he_int .u32) x101 g102).1) (allc ((aSet_ok (he_int .u32) x101 g102).2) all0))) (norm ?_)
        refine At.region_end [0, 1, 4] 2 _ (st' := ⟨[(0, .ptr 0 0), (1, .ptr 1 0), (4, i64 (w64 (x61 + 1)))], [.dblk 54 (encL (eInt .u32) (List.replicate 256 0)), .dblk 54 (encL (eInt .u32) (List.set x62 (Int.toNat x61) x101))]⟩) (tips := []) (by kernel_rfl) all0 (fun a w hs => ⟨_, (some_eq h).symm, hs⟩)
    · replace h := cond_f b68 h
      refine At.nar [0, 1] 2 (st' := ⟨[(0, .ptr 0 0), (1, .ptr 1 0)], [.dblk 54 (encL (eInt .u32) (List.replicate 256 0)), .dblk 54 (encL (eInt .u32) x62)]⟩) (by kernel_rfl) ?_
      obtain ⟨r113, h, e114⟩ := map_inr h
      rw [f64 _ e114] at h
      refine At.exit (fun a w hs => ⟨x62, h, hs⟩)
  · intro x55 h
    replace h : F_crc_table_J1 x55 = some r := h
    rw [F_crc_table_J1] at h
    refine At.seq ?_
    obtain ⟨g58, h⟩ := grd_some h
    obtain ⟨g59, h⟩ := grd_some h
    refine At.region_end [0] 1 _ (st' := ⟨[(0, .ptr 0 0)], [.dblk 54 (encL (eInt .u32) x55)]⟩) (tips := []) (by kernel_rfl) (allc (lenN (he_int .u32) x55 g58) (allc (lenN (he_int .u32) x55 g59.1) (allc (lenN (he_int .u32) (List.replicate 256 0) g59.2) all0))) (norm ?_)
    obtain ⟨g60, h⟩ := grd_some h
    obtain rfl := some_eq h
    exact At.ret fun a w hs => ret_fin (settle := []) (obl := _) (by kernel_rfl) (allc (lenN (he_int .u32) x55 g60) all0) a w hs _ (.inl rfl)
set_option maxRecDepth 100000 in
theorem C_crc_More (p0 : Int) (p1 : ByteArray) (r : Int) (h : F_crc_More p0 p1 = some r) : DCall Try.prog 14 [u32 p0, sv p1] (u32 r) := by
  rw [F_crc_More] at h
  refine DCall.intro Try.func14 rfl (by kernel_rfl) fun w0 hz0 => ?_
  refine At.seq ?_
  refine At.region_end [0, 1] 0 _ (st' := ⟨[(0, u32 p0), (1, sv p1)], []⟩) (tips := []) (by kernel_rfl) all0 (norm ?_)
  refine At.seq ?_
  obtain ⟨y3, hy3, h⟩ := bind_some h
  obtain ⟨g4, h⟩ := grd_some h
  refine At.region_end [0, 1, 5] 1 _ (st' := ⟨[(0, u32 p0), (1, sv p1), (5, .ptr 0 0)], [.dblk 54 (encL (eInt .u32) y3)]⟩) (tips := [(0, { res := some (.dagg (encL (eInt .u32) y3)) })]) (by kernel_rfl) (allc (C_crc_table  y3 hy3) (allc (lenN (he_int .u32) y3 g4.1) (allc (lenN (he_int .u32) (List.replicate 256 0) g4.2) all0))) (norm ?_)
  refine At.seq ?_
  refine At.region_end [0, 1, 5] 1 _ (st' := ⟨[(0, u32 (bits .xor .u32 4294967295 p0)), (1, sv p1), (5, .ptr 0 0)], [.dblk 54 (encL (eInt .u32) y3)]⟩) (tips := []) (by kernel_rfl) all0 (norm ?_)
  refine At.seqJ (S := Int) (fun s => ⟨[(0, u32 s)], []⟩) (fun s => F_crc_More_J1 s = some r) ?_ ?_
  · refine At.seq ?_
    obtain ⟨g25, h⟩ := grd_some h
    refine At.region_end [0, 5, 12, 13, 14] 2 _ (st' := ⟨[(0, u32 (bits .xor .u32 4294967295 p0)), (5, .ptr 0 0), (12, .row 1 ((sB p1)).length), (13, i64 (((sB p1)).length : Int)), (14, i64 0)], [.dblk 54 (encL (eInt .u32) y3), .row 5 1 (encL (eInt .u8) (sB p1))]⟩) (tips := [(1, { form := some ((sB p1).length, encL (eInt .u8) (sB p1)) })]) (by kernel_rfl) (allc (len_sB p1) (allc (encL_sB p1) (allc g25 all0))) (norm ?_)
    refine At.block ?_
    refine At.loop (fun s : (Int × Int) => F_crc_More_L2 p1 y3 s.1 s.2) (fun s : (Int × Int) => ⟨[(0, u32 s.1), (5, .ptr 0 0), (12, .row 1 ((sB p1)).length), (13, i64 (((sB p1)).length : Int)), (14, i64 s.2)], [.dblk 54 (encL (eInt .u32) y3), .row 5 1 (encL (eInt .u8) (sB p1))]⟩) r ((bits .xor .u32 4294967295 p0), 0) h ?_
    rintro ⟨x26, x27⟩ o28 h f29
    replace h : F_crc_More_L2 p1 y3 x26 x27 = some o28 := h
    rw [F_crc_More_L2] at h
    refine At.seq ?_
    refine At.region_end [0, 5, 12, 13, 14, 15] 2 _ (st' := ⟨[(0, u32 x26), (5, .ptr 0 0), (12, .row 1 ((sB p1)).length), (13, i64 (((sB p1)).length : Int)), (14, i64 x27), (15, bo (decide (x27 < (((sB p1)).length : Int))))], [.dblk 54 (encL (eInt .u32) y3), .row 5 1 (encL (eInt .u8) (sB p1))]⟩) (tips := []) (by kernel_rfl) all0 (norm ?_)
    refine At.seq ?_
    refine At.cond (decide (x27 < (((sB p1)).length : Int))) (by kernel_rfl) (fun b33 => ?_) (fun b33 => ?_)
    · replace h := cond_t b33 h
      refine At.nar [0, 5, 12, 13, 14] 2 (st' := ⟨[(0, u32 x26), (5, .ptr 0 0), (12, .row 1 ((sB p1)).length), (13, i64 (((sB p1)).length : Int)), (14, i64 x27)], [.dblk 54 (encL (eInt .u32) y3), .row 5 1 (encL (eInt .u8) (sB p1))]⟩) (by kernel_rfl) ?_
      refine At.skip (norm ?_)
      refine At.seq ?_
      refine At.block ?_
      refine At.seq ?_
      obtain ⟨y38, hy38, h⟩ := bind_some h
      refine At.region_end [0, 5, 7, 12, 13, 14] 2 _ (st' := ⟨[(0, u32 x26), (5, .ptr 0 0), (7, u8 y38), (12, .row 1 ((sB p1)).length), (13, i64 (((sB p1)).length : Int)), (14, i64 x27)], [.dblk 54 (encL (eInt .u32) y3), .row 5 1 (encL (eInt .u8) (sB p1))]⟩) (tips := [(1, { orc := .val (.int .u8 y38) })]) (by kernel_rfl) (allc ((rAt_of (he_int .u8) (d := .int .u8 y38) hy38 rfl).1) (allc ((rAt_of (he_int .u8) (d := .int .u8 y38) hy38 rfl).2) all0)) (norm ?_)
      obtain ⟨y39, hy39, h⟩ := bind_some h
      refine At.region_end [0, 5, 12, 13, 14] 2 _ (st' := ⟨[(0, u32 (bits .xor .u32 y39 (Int.fdiv x26 256))), (5, .ptr 0 0), (12, .row 1 ((sB p1)).length), (13, i64 (((sB p1)).length : Int)), (14, i64 x27)], [.dblk 54 (encL (eInt .u32) y3), .row 5 1 (encL (eInt .u8) (sB p1))]⟩) (tips := [(5, { orc := .val (.int .u32 y39) })]) (by kernel_rfl) (allc ((aAt_of (he_int .u32) (d := .int .u32 y39) hy39 rfl).1) (allc ((aAt_of (he_int .u32) (d := .int .u32 y39) hy39 rfl).2) (allc (by decide : (0:Int) ≤ 8) all0))) (norm ?_)
      refine At.region_end [0, 5, 12, 13, 14] 2 _ (st' := ⟨[(0, u32 (bits .xor .u32 y39 (Int.fdiv x26 256))), (5, .ptr 0 0), (12, .row 1 ((sB p1)).length), (13, i64 (((sB p1)).length : Int)), (14, i64 (w64 (x27 + 1)))], [.dblk 54 (encL (eInt .u32) y3), .row 5 1 (encL (eInt .u8) (sB p1))]⟩) (tips := []) (by kernel_rfl) all0 (fun a w hs => ⟨_, (some_eq h).symm, hs⟩)
    · replace h := cond_f b33 h
      refine At.nar [0] 0 (st' := ⟨[(0, u32 x26)], []⟩) (by kernel_rfl) ?_
      obtain ⟨r40, h, e41⟩ := map_inr h
      rw [f29 _ e41] at h
      refine At.exit (fun a w hs => ⟨x26, h, hs⟩)
  · intro x23 h
    replace h : F_crc_More_J1 x23 = some r := h
    rw [F_crc_More_J1] at h
    refine At.seq ?_
    refine At.region_end [4] 0 _ (st' := ⟨[(4, u32 (bits .xor .u32 4294967295 x23))], []⟩) (tips := []) (by kernel_rfl) all0 (norm ?_)
    obtain rfl := some_eq h
    exact At.ret fun a w hs => ret_fin (settle := []) (obl := _) (by kernel_rfl) all0 a w hs _ (.inl rfl)
set_option maxRecDepth 100000 in
theorem C_retraceref02_More (p0 : Int) (p1 : ByteArray) (r : Int) (h : F_retraceref02_More p0 p1 = some r) : DCall Try.prog 15 [u32 p0, sv p1] (u32 r) := by
  rw [F_retraceref02_More] at h
  refine DCall.intro Try.func15 rfl (by kernel_rfl) fun w0 hz0 => ?_
  refine At.seq ?_
  refine At.region_end [0, 1] 0 _ (st' := ⟨[(0, u32 p0), (1, sv p1)], []⟩) (tips := []) (by kernel_rfl) all0 (norm ?_)
  refine At.seq ?_
  obtain ⟨y2, hy2, h⟩ := bind_some h
  refine At.region_end [4] 0 _ (st' := ⟨[(4, u32 (bits .xor .u32 y2 4294967295))], []⟩) (tips := [(3, { res := some (u32 y2) })]) (by kernel_rfl) (allc (C_retraceref02_push (bits .xor .u32 p0 4294967295) p1 y2 hy2) all0) (norm ?_)
  obtain rfl := some_eq h
  exact At.ret fun a w hs => ret_fin (settle := []) (obl := _) (by kernel_rfl) all0 a w hs _ (.inl rfl)
set_option maxRecDepth 100000 in
theorem C_crc_Sum (p0 : ByteArray) (r : Int) (h : F_crc_Sum p0 = some r) : DCall Try.prog 12 [sv p0] (u32 r) := by
  rw [F_crc_Sum] at h
  refine DCall.intro Try.func12 rfl (by kernel_rfl) fun w0 hz0 => ?_
  refine At.seq ?_
  refine At.region_end [0] 0 _ (st' := ⟨[(0, sv p0)], []⟩) (tips := []) (by kernel_rfl) all0 (norm ?_)
  refine At.seq ?_
  obtain ⟨y2, hy2, h⟩ := bind_some h
  refine At.region_end [2] 0 _ (st' := ⟨[(2, u32 y2)], []⟩) (tips := [(1, { res := some (u32 y2) })]) (by kernel_rfl) (allc (C_crc_More 0 p0 y2 hy2) all0) (norm ?_)
  obtain rfl := some_eq h
  exact At.ret fun a w hs => ret_fin (settle := []) (obl := _) (by kernel_rfl) all0 a w hs _ (.inl rfl)
set_option maxRecDepth 100000 in
theorem C_retraceref02_Sum (p0 : ByteArray) (r : Int) (h : F_retraceref02_Sum p0 = some r) : DCall Try.prog 13 [sv p0] (u32 r) := by
  rw [F_retraceref02_Sum] at h
  refine DCall.intro Try.func13 rfl (by kernel_rfl) fun w0 hz0 => ?_
  refine At.seq ?_
  refine At.region_end [0] 0 _ (st' := ⟨[(0, sv p0)], []⟩) (tips := []) (by kernel_rfl) all0 (norm ?_)
  refine At.seq ?_
  obtain ⟨y2, hy2, h⟩ := bind_some h
  refine At.region_end [2] 0 _ (st' := ⟨[(2, u32 (bits .xor .u32 y2 4294967295))], []⟩) (tips := [(1, { res := some (u32 y2) })]) (by kernel_rfl) (allc (C_retraceref02_push 4294967295 p0 y2 hy2) all0) (norm ?_)
  obtain rfl := some_eq h
  exact At.ret fun a w hs => ret_fin (settle := []) (obl := _) (by kernel_rfl) all0 a w hs _ (.inl rfl)
set_option maxRecDepth 100000 in
theorem C_crc_Bytes (p0 : Int) (r : ByteArray) (h : F_crc_Bytes p0 = some r) : DCall Try.prog 16 [u32 p0] (sv r) := by
  rw [F_crc_Bytes] at h
  refine DCall.intro Try.func16 rfl (by kernel_rfl) fun w0 hz0 => ?_
  refine At.seq ?_
  refine At.region_end [0] 0 _ (st' := ⟨[(0, u32 p0)], []⟩) (tips := []) (by kernel_rfl) all0 (norm ?_)
  refine At.seq ?_
  refine At.region_end [2] 0 _ (st' := ⟨[(2, sv (strOfNums ([(wu8 p0), (wu8 (Int.fdiv p0 256)), (wu8 (Int.fdiv p0 65536)), (wu8 (Int.fdiv p0 16777216))])))], []⟩) (tips := [(12, { orc := .nums ([(wu8 p0), (wu8 (Int.fdiv p0 256)), (wu8 (Int.fdiv p0 65536)), (wu8 (Int.fdiv p0 16777216))]) })]) (by kernel_rfl) (allc (by decide : (0:Int) ≤ 8) (allc (by decide : (0:Int) ≤ 16) (allc (by decide : (0:Int) ≤ 24) (allc (encL_map .u8 ([(wu8 p0), (wu8 (Int.fdiv p0 256)), (wu8 (Int.fdiv p0 65536)), (wu8 (Int.fdiv p0 16777216))])) (allc (rfl : (([(wu8 p0), (wu8 (Int.fdiv p0 256)), (wu8 (Int.fdiv p0 65536)), (wu8 (Int.fdiv p0 16777216))])).length = (([(wu8 p0), (wu8 (Int.fdiv p0 256)), (wu8 (Int.fdiv p0 65536)), (wu8 (Int.fdiv p0 16777216))])).length) all0))))) (norm ?_)
  obtain rfl := some_eq h
  exact At.ret fun a w hs => ret_fin (settle := []) (obl := _) (by kernel_rfl) all0 a w hs _ (.inl rfl)
set_option maxRecDepth 100000 in
theorem C_retraceref02_Bytes (p0 : Int) (r : ByteArray) (h : F_retraceref02_Bytes p0 = some r) : DCall Try.prog 17 [u32 p0] (sv r) := by
  rw [F_retraceref02_Bytes] at h
  refine DCall.intro Try.func17 rfl (by kernel_rfl) fun w0 hz0 => ?_
  refine At.seq ?_
  refine At.region_end [0] 0 _ (st' := ⟨[(0, u32 p0)], []⟩) (tips := []) (by kernel_rfl) all0 (norm ?_)
  refine At.seq ?_
  refine At.region_end [2] 0 _ (st' := ⟨[(2, sv (strOfNums ([(wu8 (Int.tmod p0 256)), (wu8 (Int.tmod (wu32 (Int.tdiv p0 256)) 256)), (wu8 (Int.tmod (wu32 (Int.tdiv p0 65536)) 256)), (wu8 (wu32 (Int.tdiv p0 16777216)))])))], []⟩) (tips := [(15, { orc := .nums ([(wu8 (Int.tmod p0 256)), (wu8 (Int.tmod (wu32 (Int.tdiv p0 256)) 256)), (wu8 (Int.tmod (wu32 (Int.tdiv p0 65536)) 256)), (wu8 (wu32 (Int.tdiv p0 16777216)))]) })]) (by kernel_rfl) (allc (by decide : 256 ≠ (0:Int)) (allc (by decide : 256 ≠ (0:Int)) (allc (by decide : 256 ≠ (0:Int)) (allc (by decide : 65536 ≠ (0:Int)) (allc (by decide : 256 ≠ (0:Int)) (allc (by decide : 16777216 ≠ (0:Int)) (allc (encL_map .u8 ([(wu8 (Int.tmod p0 256)), (wu8 (Int.tmod (wu32 (Int.tdiv p0 256)) 256)), (wu8 (Int.tmod (wu32 (Int.tdiv p0 65536)) 256)), (wu8 (wu32 (Int.tdiv p0 16777216)))])) (allc (rfl : (([(wu8 (Int.tmod p0 256)), (wu8 (Int.tmod (wu32 (Int.tdiv p0 256)) 256)), (wu8 (Int.tmod (wu32 (Int.tdiv p0 65536)) 256)), (wu8 (wu32 (Int.tdiv p0 16777216)))])).length = (([(wu8 (Int.tmod p0 256)), (wu8 (Int.tmod (wu32 (Int.tdiv p0 256)) 256)), (wu8 (Int.tmod (wu32 (Int.tdiv p0 65536)) 256)), (wu8 (wu32 (Int.tdiv p0 16777216)))])).length) all0)))))))) (norm ?_)
  obtain rfl := some_eq h
  exact At.ret fun a w hs => ret_fin (settle := []) (obl := _) (by kernel_rfl) all0 a w hs _ (.inl rfl)
set_option maxRecDepth 100000 in
theorem C_crc_Seal (p0 : ByteArray) (r : ByteArray) (h : F_crc_Seal p0 = some r) : DCall Try.prog 18 [sv p0] (sv r) := by
  rw [F_crc_Seal] at h
  refine DCall.intro Try.func18 rfl (by kernel_rfl) fun w0 hz0 => ?_
  refine At.seq ?_
  refine At.region_end [0] 0 _ (st' := ⟨[(0, sv p0)], []⟩) (tips := []) (by kernel_rfl) all0 (norm ?_)
  refine At.seq ?_
  obtain ⟨y4, hy4, h⟩ := bind_some h
  obtain ⟨y5, hy5, h⟩ := bind_some h
  obtain ⟨g6, h⟩ := grd_some h
  refine At.region_end [2] 0 _ (st' := ⟨[(2, sv (p0 ++ y5))], []⟩) (tips := [(2, { res := some (u32 y4) }), (3, { res := some (sv y5) })]) (by kernel_rfl) (allc (C_crc_Sum p0 y4 hy4) (allc (C_crc_Bytes y4 y5 hy5) (allc g6 all0))) (norm ?_)
  obtain rfl := some_eq h
  exact At.ret fun a w hs => ret_fin (settle := []) (obl := _) (by kernel_rfl) all0 a w hs _ (.inl rfl)
set_option maxRecDepth 100000 in
theorem C_retraceref02_Turned (p0 : ByteArray) (p1 : Int) (p2 : Int) (r : ByteArray) (h : F_retraceref02_Turned p0 p1 p2 = some r) : DCall Try.prog 20 [sv p0, i64 p1, u32 p2] (sv r) := by
  rw [F_retraceref02_Turned] at h
  refine DCall.intro Try.func20 rfl (by kernel_rfl) fun w0 hz0 => ?_
  refine At.seq ?_
  refine At.region_end [0, 1, 2] 0 _ (st' := ⟨[(0, sv p0), (1, i64 p1), (2, u32 p2)], []⟩) (tips := []) (by kernel_rfl) all0 (norm ?_)
  refine At.seq ?_
  obtain ⟨g2, h⟩ := grd_some h
  refine At.region_end [1, 2, 7] 1 _ (st' := ⟨[(1, i64 p1), (2, u32 p2), (7, .row 0 ((sB p0)).length)], [.row 5 1 (encL (eInt .u8) (sB p0))]⟩) (tips := [(1, { form := some ((sB p0).length, encL (eInt .u8) (sB p0)) })]) (by kernel_rfl) (allc (len_sB p0) (allc (encL_sB p0) (allc g2 all0))) (norm ?_)
  refine At.seqJ (S := (List Int)) (fun s => ⟨[(7, .row 0 (s).length)], [.row 5 1 (encL (eInt .u8) s)]⟩) (fun s => F_retraceref02_Turned_J1 s = some r) ?_ ?_
  · refine At.seq ?_
    refine At.region_end [1, 2, 7, 8] 1 _ (st' := ⟨[(1, i64 p1), (2, u32 p2), (7, .row 0 ((sB p0)).length), (8, i64 0)], [.row 5 1 (encL (eInt .u8) (sB p0))]⟩) (tips := []) (by kernel_rfl) all0 (norm ?_)
    refine At.block ?_
    refine At.loop (fun s : (Int × (List Int)) => F_retraceref02_Turned_L4 p1 p2 s.1 s.2) (fun s : (Int × (List Int)) => ⟨[(1, i64 p1), (2, u32 p2), (7, .row 0 (s.2).length), (8, i64 s.1)], [.row 5 1 (encL (eInt .u8) s.2)]⟩) r (0, (sB p0)) h ?_
    rintro ⟨x37, x38⟩ o39 h f40
    replace h : F_retraceref02_Turned_L4 p1 p2 x37 x38 = some o39 := h
    rw [F_retraceref02_Turned_L4] at h
    refine At.seq ?_
    refine At.seq ?_
    refine At.region_end [1, 2, 7, 8, 13] 1 _ (st' := ⟨[(1, i64 p1), (2, u32 p2), (7, .row 0 (x38).length), (8, i64 x37), (13, bo (decide (x37 < 32)))], [.row 5 1 (encL (eInt .u8) x38)]⟩) (tips := []) (by kernel_rfl) all0 (norm ?_)
    refine At.cond (decide (x37 < 32)) (by kernel_rfl) (fun b44 => ?_) (fun b44 => ?_)
    · replace h := cond_t b44 h
      refine At.nar [1, 2, 7, 8] 1 (st' := ⟨[(1, i64 p1), (2, u32 p2), (7, .row 0 (x38).length), (8, i64 x37)], [.row 5 1 (encL (eInt .u8) x38)]⟩) (by kernel_rfl) ?_
      refine At.skip (norm ?_)
      refine At.seqJ (S := (List Int)) (fun s => ⟨[(1, i64 p1), (2, u32 p2), (7, .row 0 (s).length), (8, i64 x37)], [.row 5 1 (encL (eInt .u8) s)]⟩) (fun s => F_retraceref02_Turned_J2 x37 s = some o39) ?_ ?_
      · refine At.block ?_
        refine At.seqJ (S := Bool) (fun s => ⟨[(1, i64 p1), (2, u32 p2), (7, .row 0 (x38).length), (8, i64 x37), (36, bo s)], [.row 5 1 (encL (eInt .u8) x38)]⟩) (fun s => F_retraceref02_Turned_J3 p1 x37 x38 s = some o39) ?_ ?_
        · obtain ⟨g65, h⟩ := grd_some h
          rcases tf ((bits .and .u32 (Int.fdiv p2 (2 ^ (min (Int.toNat (wu64 x37)) 32))) 1) == 1) with b66 | b66
          · replace h := cond_t b66 h
            rcases tf (decide (0 ≤ (w64 (p1 + x37)))) with b67 | b67
            · replace h := cond_t b67 h
              refine At.region_end [1, 2, 7, 8, 36] 1 _ (st' := ⟨[(1, i64 p1), (2, u32 p2), (7, .row 0 (x38).length), (8, i64 x37), (36, bo (decide ((w64 (p1 + x37)) < (w64 (8 * ((x38).length : Int))))))], [.row 5 1 (encL (eInt .u8) x38)]⟩) (tips := [(6, { orc := .val (.bool true) }), (12, { orc := .val (.bool true) })]) (by kernel_rfl) (allc g65 (allc (congrArg D.bool b66) (allc (congrArg D.bool b67) all0))) (fun a w hs => ⟨(decide ((w64 (p1 + x37)) < (w64 (8 * ((x38).length : Int))))), h, hs⟩)
            · replace h := cond_f b67 h
              refine At.region_end [1, 2, 7, 8, 36] 1 _ (st' := ⟨[(1, i64 p1), (2, u32 p2), (7, .row 0 (x38).length), (8, i64 x37), (36, bo false)], [.row 5 1 (encL (eInt .u8) x38)]⟩) (tips := [(6, { orc := .val (.bool true) }), (12, { orc := .val (.bool false) })]) (by kernel_rfl) (allc g65 (allc (congrArg D.bool b66) (allc (congrArg D.bool b67) all0))) (fun a w hs => ⟨false, h, hs⟩)
          · replace h := cond_f b66 h
            refine At.region_end [1, 2, 7, 8, 36] 1 _ (st' := ⟨[(1, i64 p1), (2, u32 p2), (7, .row 0 (x38).length), (8, i64 x37), (36, bo false)], [.row 5 1 (encL (eInt .u8) x38)]⟩) (tips := [(6, { orc := .val (.bool false) })]) (by kernel_rfl) (allc g65 (allc (congrArg D.bool b66) all0)) (fun a w hs => ⟨false, h, hs⟩)
        · intro x60 h
          replace h : F_retraceref02_Turned_J3 p1 x37 x38 x60 = some o39 := h
          rw [F_retraceref02_Turned_J3] at h
          refine At.cond x60 (by kernel_rfl) (fun b61 => ?_) (fun b61 => ?_)
          · replace h := cond_t b61 h
            refine At.seq ?_
            refine At.region_end [1, 2, 7, 8, 9] 1 _ (st' := ⟨[(1, i64 p1), (2, u32 p2), (7, .row 0 (x38).length), (8, i64 x37), (9, i64 (w64 (Int.tdiv (w64 (p1 + x37)) 8)))], [.row 5 1 (encL (eInt .u8) x38)]⟩) (tips := []) (by kernel_rfl) (allc (by decide : 8 ≠ (0:Int)) all0) (norm ?_)
            obtain ⟨y62, hy62, h⟩ := bind_some h
            obtain ⟨g63, h⟩ := grd_some h
            obtain ⟨g64, h⟩ := grd_some h
            refine At.region_end [1, 2, 7, 8] 1 _ (st' := ⟨[(1, i64 p1), (2, u32 p2), (7, .row 0 (x38).length), (8, i64 x37)], [.row 5 1 (encL (eInt .u8) (List.set x38 (Int.toNat (w64 (Int.tdiv (w64 (p1 + x37)) 8))) (bits .xor .u8 y62 (wu8 (1 * 2 ^ (min (Int.toNat (wu64 (Int.tmod (w64 (p1 + x37)) 8))) 8))))))]⟩) (tips := [(5, { orc := .val (.int .u8 y62) }), (14, { form := some (0, encL (eInt .u8) (List.set x38 (Int.toNat (w64 (Int.tdiv (w64 (p1 + x37)) 8))) (bits .xor .u8 y62 (wu8 (1 * 2 ^ (min (Int.toNat (wu64 (Int.tmod (w64 (p1 + x37)) 8))) 8)))))), obj := 0 })]) (by kernel_rfl) (allc ((rAt_of (he_int .u8) (d := .int .u8 y62) hy62 rfl).1) (allc ((rAt_of (he_int .u8) (d := .int .u8 y62) hy62 rfl).2) (allc (by decide : 8 ≠ (0:Int)) (allc g63 (allc (g64 : Within _ _) (allc ((rSet_ok (he_int .u8) (bits .xor .u8 y62 (wu8 (1 * 2 ^ (min (Int.toNat (wu64 (Int.tmod (w64 (p1 + x37)) 8))) 8)))) g64).1) (allc ((rSet_ok (he_int .u8) (bits .xor .u8 y62 (wu8 (1 * 2 ^ (min (Int.toNat (wu64 (Int.tmod (w64 (p1 + x37)) 8))) 8)))) g64).2) all0))))))) (relen (st2 := ⟨[(1, i64 p1), (2, u32 p2), (7, .row 0 ((List.set x38 (Int.toNat (w64 (Int.tdiv (w64 (p1 + x37)) 8))) (bits .xor .u8 y62 (wu8 (1 * 2 ^ (min (Int.toNat (wu64 (Int.tmod (w64 (p1 + x37)) 8))) 8)))))).length), (8, i64 x37)], [.row 5 1 (encL (eInt .u8) (List.set x38 (Int.toNat (w64 (Int.tdiv (w64 (p1 + x37)) 8))) (bits .xor .u8 y62 (wu8 (1 * 2 ^ (min (Int.toNat (wu64 (Int.tmod (w64 (p1 + x37)) 8))) 8))))))]⟩) (by simp only [List.length_set]) (fun a w hs => ⟨(List.set x38 (Int.toNat (w64 (Int.tdiv (w64 (p1 + x37)) 8))) (bits .xor .u8 y62 (wu8 (1 * 2 ^ (min (Int.toNat (wu64 (Int.tmod (w64 (p1 + x37)) 8))) 8))))), h, hs⟩))
          · replace h := cond_f b61 h
            refine At.nar [1, 2, 7, 8] 1 (st' := ⟨[(1, i64 p1), (2, u32 p2), (7, .row 0 (x38).length), (8, i64 x37)], [.row 5 1 (encL (eInt .u8) x38)]⟩) (by kernel_rfl) ?_
            refine At.skip (fun a w hs => ⟨x38, h, hs⟩)
      · intro x56 h
        replace h : F_retraceref02_Turned_J2 x37 x56 = some o39 := h
        rw [F_retraceref02_Turned_J2] at h
        refine At.region_end [1, 2, 7, 8] 1 _ (st' := ⟨[(1, i64 p1), (2, u32 p2), (7, .row 0 (x56).length), (8, i64 (w64 (x37 + 1)))], [.row 5 1 (encL (eInt .u8) x56)]⟩) (tips := []) (by kernel_rfl) all0 (fun a w hs => ⟨_, (some_eq h).symm, hs⟩)
    · replace h := cond_f b44 h
      refine At.nar [7] 1 (st' := ⟨[(7, .row 0 (x38).length)], [.row 5 1 (encL (eInt .u8) x38)]⟩) (by kernel_rfl) ?_
      obtain ⟨r68, h, e69⟩ := map_inr h
      rw [f40 _ e69] at h
      refine At.exit (fun a w hs => ⟨x38, h, hs⟩)
  · intro x36 h
    replace h : F_retraceref02_Turned_J1 x36 = some r := h
    rw [F_retraceref02_Turned_J1] at h
    refine At.seq ?_
    refine At.region_end [6] 0 _ (st' := ⟨[(6, sv (strOfNums x36))], []⟩) (tips := [(1, { orc := .nums x36 })]) (by kernel_rfl) (allc (encL_map .u8 x36) (allc (rfl : (x36).length = (x36).length) all0)) (norm ?_)
    obtain rfl := some_eq h
    exact At.ret fun a w hs => ret_fin (settle := []) (obl := _) (by kernel_rfl) all0 a w hs _ (.inl rfl)
set_option maxRecDepth 100000 in
theorem C_vint_Put (p0 : ByteArray) (p1 : Int) (r : ByteArray) (h : F_vint_Put p0 p1 = some r) : DCall Try.prog 22 [sv p0, u64 p1] (sv r) := by
  rw [F_vint_Put] at h
  refine DCall.intro Try.func22 rfl (by kernel_rfl) fun w0 hz0 => ?_
  refine At.seq ?_
  refine At.region_end [0, 1] 0 _ (st' := ⟨[(0, sv p0), (1, u64 p1)], []⟩) (tips := []) (by kernel_rfl) all0 (norm ?_)
  refine At.seq ?_
  obtain ⟨y3, hy3, h⟩ := bind_some h
  obtain ⟨g4, h⟩ := grd_some h
  refine At.region_end [0, 1, 5] 1 _ (st' := ⟨[(0, sv p0), (1, u64 p1), (5, .row 0 ([] : List Int).length)], [.row 5 1 (encL (eInt .u8) ([]))]⟩) (tips := [(3, { res := some (i64 y3) })]) (by kernel_rfl) (allc (C_vint_Size p1 y3 hy3) (allc g4 all0)) (norm ?_)
  refine At.seq ?_
  obtain ⟨g6, h⟩ := grd_some h
  refine At.region_end [1, 5] 1 _ (st' := ⟨[(1, u64 p1), (5, .row 0 ((([] : List Int) ++ (sB p0))).length)], [.row 5 1 (encL (eInt .u8) (([] : List Int) ++ (sB p0)))]⟩) (tips := [(2, { form := some ((([] : List Int) ++ (sB p0)).length, encL (eInt .u8) (([] : List Int) ++ (sB p0))) })]) (by kernel_rfl) (allc (len_appS ([] : List Int) p0) (allc (encL_appS ([] : List Int) p0) (allc (app_ok (he_int .u8) (by decide) g6) all0))) (norm ?_)
  refine At.seqJ (S := Int × (List Int)) (fun s => ⟨[(1, u64 s.1), (5, .row 0 (s.2).length)], [.row 5 1 (encL (eInt .u8) s.2)]⟩) (fun s => F_vint_Put_J1 s.1 s.2 = some r) ?_ ?_
  · refine At.block ?_
    refine At.loop (fun s : (Int × (List Int)) => F_vint_Put_L2 s.1 s.2) (fun s : (Int × (List Int)) => ⟨[(1, u64 s.1), (5, .row 0 (s.2).length)], [.row 5 1 (encL (eInt .u8) s.2)]⟩) r (p1, (([] : List Int) ++ (sB p0))) h ?_
    rintro ⟨x23, x24⟩ o25 h f26
    replace h : F_vint_Put_L2 x23 x24 = some o25 := h
    rw [F_vint_Put_L2] at h
    refine At.seq ?_
    refine At.seq ?_
    refine At.region_end [1, 5, 16] 1 _ (st' := ⟨[(1, u64 x23), (5, .row 0 (x24).length), (16, bo (decide (128 ≤ x23)))], [.row 5 1 (encL (eInt .u8) x24)]⟩) (tips := []) (by kernel_rfl) all0 (norm ?_)
    refine At.cond (decide (128 ≤ x23)) (by kernel_rfl) (fun b30 => ?_) (fun b30 => ?_)
    · replace h := cond_t b30 h
      refine At.nar [1, 5] 1 (st' := ⟨[(1, u64 x23), (5, .row 0 (x24).length)], [.row 5 1 (encL (eInt .u8) x24)]⟩) (by kernel_rfl) ?_
      refine At.skip (norm ?_)
      refine At.seq ?_
      refine At.block ?_
      obtain ⟨g32, h⟩ := grd_some h
      refine At.region_end [1, 5] 1 _ (st' := ⟨[(1, u64 x23), (5, .row 0 ((x24 ++ [(bits .or .u8 (wu8 x23) 128)])).length)], [.row 5 1 (encL (eInt .u8) (x24 ++ [(bits .or .u8 (wu8 x23) 128)]))]⟩) (tips := [(5, { form := some ((x24 ++ [(bits .or .u8 (wu8 x23) 128)]).length, encL (eInt .u8) (x24 ++ [(bits .or .u8 (wu8 x23) 128)])) })]) (by kernel_rfl) (allc (len_app x24 ([(bits .or .u8 (wu8 x23) 128)])) (allc (encL_app (eInt .u8) x24 ([(bits .or .u8 (wu8 x23) 128)])) (allc (app_ok (he_int .u8) (by decide) g32) (allc (encL_len (he_int .u8) ([(bits .or .u8 (wu8 x23) 128)])) all0)))) (norm ?_)
      refine At.region_end [1, 5] 1 _ (st' := ⟨[(1, u64 (Int.fdiv x23 128)), (5, .row 0 ((x24 ++ [(bits .or .u8 (wu8 x23) 128)])).length)], [.row 5 1 (encL (eInt .u8) (x24 ++ [(bits .or .u8 (wu8 x23) 128)]))]⟩) (tips := []) (by kernel_rfl) (allc (by decide : (0:Int) ≤ 7) all0) (fun a w hs => ⟨_, (some_eq h).symm, hs⟩)
    · replace h := cond_f b30 h
      refine At.nar [1, 5] 1 (st' := ⟨[(1, u64 x23), (5, .row 0 (x24).length)], [.row 5 1 (encL (eInt .u8) x24)]⟩) (by kernel_rfl) ?_
      obtain ⟨r33, h, e34⟩ := map_inr h
      rw [f26 _ e34] at h
      refine At.exit (fun a w hs => ⟨(x23, x24), h, hs⟩)
  · rintro ⟨x19, x20⟩ h
    replace h : F_vint_Put_J1 x19 x20 = some r := h
    rw [F_vint_Put_J1] at h
    refine At.seq ?_
    obtain ⟨g22, h⟩ := grd_some h
    refine At.region_end [4] 0 _ (st' := ⟨[(4, sv (strOfNums (x20 ++ [(wu8 x19)])))], []⟩) (tips := [(4, { form := some ((x20 ++ [(wu8 x19)]).length, encL (eInt .u8) (x20 ++ [(wu8 x19)])) }), (5, { orc := .nums (x20 ++ [(wu8 x19)]) })]) (by kernel_rfl) (allc (len_app x20 ([(wu8 x19)])) (allc (encL_app (eInt .u8) x20 ([(wu8 x19)])) (allc (app_ok (he_int .u8) (by decide) g22) (allc (encL_len (he_int .u8) ([(wu8 x19)])) (allc (encL_map .u8 (x20 ++ [(wu8 x19)])) (allc (rfl : ((x20 ++ [(wu8 x19)])).length = ((x20 ++ [(wu8 x19)])).length) all0)))))) (norm ?_)
    obtain rfl := some_eq h
    exact At.ret fun a w hs => ret_fin (settle := []) (obl := _) (by kernel_rfl) all0 a w hs _ (.inl rfl)
set_option maxRecDepth 100000 in
theorem C_vint_Get (p0 : ByteArray) (p1 : Int) (r : Int × Int × Int) (h : F_vint_Get p0 p1 = some r) : DCall Try.prog 23 [sv p0, i64 p1] (.tup [u64 r.1, i64 r.2.1, i64 r.2.2]) := by
  rw [F_vint_Get] at h
  refine DCall.intro Try.func23 rfl (by kernel_rfl) fun w0 hz0 => ?_
  refine At.seq ?_
  refine At.region_end [0, 1] 0 _ (st' := ⟨[(0, sv p0), (1, i64 p1)], []⟩) (tips := []) (by kernel_rfl) all0 (norm ?_)
  refine At.scope ?_
  refine At.seq ?_
  refine At.seqJ (S := Bool) (fun s => ⟨[(0, sv p0), (1, i64 p1), (18, bo s)], []⟩) (fun s => F_vint_Get_J1 p0 p1 s = some r) ?_ ?_
  · rcases tf (decide (p1 < 0)) with b201 | b201
    · replace h := cond_t b201 h
      refine At.region_end [0, 1, 18] 0 _ (st' := ⟨[(0, sv p0), (1, i64 p1), (18, bo true)], []⟩) (tips := [(2, { orc := .val (.bool true) })]) (by kernel_rfl) (allc (congrArg D.bool b201) all0) (fun a w hs => ⟨true, h, hs⟩)
    · replace h := cond_f b201 h
      refine At.region_end [0, 1, 18] 0 _ (st' := ⟨[(0, sv p0), (1, i64 p1), (18, bo (decide ((p0.size : Int) < p1)))], []⟩) (tips := [(2, { orc := .val (.bool false) })]) (by kernel_rfl) (allc (congrArg D.bool b201) all0) (fun a w hs => ⟨(decide ((p0.size : Int) < p1)), h, hs⟩)
  · intro x6 h
    replace h : F_vint_Get_J1 p0 p1 x6 = some r := h
    rw [F_vint_Get_J1] at h
    refine At.cond x6 (by kernel_rfl) (fun b7 => ?_) (fun b7 => ?_)
    · replace h := cond_t b7 h
      refine At.seq ?_
      refine At.region_end [4, 5, 6] 0 _ (st' := ⟨[(4, u64 0), (5, i64 0), (6, i64 1)], []⟩) (tips := []) (by kernel_rfl) all0 (norm ?_)
      obtain rfl := some_eq h
      exact At.ret fun a w hs => ret_fin (settle := []) (obl := _) (by kernel_rfl) all0 a w hs _ (.inl rfl)
    · replace h := cond_f b7 h
      refine At.nar [0, 1] 0 (st' := ⟨[(0, sv p0), (1, i64 p1)], []⟩) (by kernel_rfl) ?_
      refine At.skip (norm ?_)
      refine At.seq ?_
      refine At.region_end [0, 1, 7] 0 _ (st' := ⟨[(0, sv p0), (1, i64 p1), (7, i64 2)], []⟩) (tips := []) (by kernel_rfl) all0 (norm ?_)
      refine At.seq ?_
      refine At.region_end [0, 1, 7, 8] 0 _ (st' := ⟨[(0, sv p0), (1, i64 p1), (7, i64 2), (8, u64 0)], []⟩) (tips := []) (by kernel_rfl) all0 (norm ?_)
      refine At.seq ?_
      refine At.label (norm ?_)
      refine At.seqJ (S := Int) (fun s => ⟨[(7, i64 s)], []⟩) (fun s => F_vint_Get_J2 s = some r) ?_ ?_
      · refine At.seq ?_
        obtain ⟨g107, h⟩ := grd_some h
        obtain ⟨g108, h⟩ := grd_some h
        refine At.region_end [1, 7, 8, 22, 23, 24] 1 _ (st' := ⟨[(1, i64 p1), (7, i64 2), (8, u64 0), (22, .row 0 ((sB (p0.extract (Int.toNat p1) (Int.toNat (p0.size : Int))))).length), (23, i64 (((sB (p0.extract (Int.toNat p1) (Int.toNat (p0.size : Int))))).length : Int)), (24, i64 0)], [.row 5 1 (encL (eInt .u8) (sB (p0.extract (Int.toNat p1) (Int.toNat (p0.size : Int)))))]⟩) (tips := [(3, { form := some ((sB (p0.extract (Int.toNat p1) (Int.toNat (p0.size : Int)))).length, encL (eInt .u8) (sB (p0.extract (Int.toNat p1) (Int.toNat (p0.size : Int))))) })]) (by kernel_rfl) (allc g107 (allc (len_sB (p0.extract (Int.toNat p1) (Int.toNat (p0.size : Int)))) (allc (encL_sB (p0.extract (Int.toNat p1) (Int.toNat (p0.size : Int)))) (allc g108 all0)))) (norm ?_)
        refine At.block ?_
        refine At.loop (fun s : (Int × Int) => F_vint_Get_L5 p0 p1 s.1 s.2) (fun s : (Int × Int) => ⟨[(1, i64 p1), (7, i64 2), (8, u64 s.1), (22, .row 0 ((sB (p0.extract (Int.toNat p1) (Int.toNat (p0.size : Int))))).length), (23, i64 (((sB (p0.extract (Int.toNat p1) (Int.toNat (p0.size : Int))))).length : Int)), (24, i64 s.2)], [.row 5 1 (encL (eInt .u8) (sB (p0.extract (Int.toNat p1) (Int.toNat (p0.size : Int)))))]⟩) r (0, 0) h ?_
        rintro ⟨x109, x110⟩ o111 h f112
        replace h : F_vint_Get_L5 p0 p1 x109 x110 = some o111 := h
        rw [F_vint_Get_L5] at h
        refine At.seq ?_
        refine At.region_end [1, 7, 8, 22, 23, 24, 25] 1 _ (st' := ⟨[(1, i64 p1), (7, i64 2), (8, u64 x109), (22, .row 0 ((sB (p0.extract (Int.toNat p1) (Int.toNat (p0.size : Int))))).length), (23, i64 (((sB (p0.extract (Int.toNat p1) (Int.toNat (p0.size : Int))))).length : Int)), (24, i64 x110), (25, bo (decide (x110 < (((sB (p0.extract (Int.toNat p1) (Int.toNat (p0.size : Int))))).length : Int))))], [.row 5 1 (encL (eInt .u8) (sB (p0.extract (Int.toNat p1) (Int.toNat (p0.size : Int)))))]⟩) (tips := []) (by kernel_rfl) all0 (norm ?_)
        refine At.seq ?_
        refine At.cond (decide (x110 < (((sB (p0.extract (Int.toNat p1) (Int.toNat (p0.size : Int))))).length : Int))) (by kernel_rfl) (fun b116 => ?_) (fun b116 => ?_)
        · replace h := cond_t b116 h
          refine At.nar [1, 7, 8, 22, 23, 24] 1 (st' := ⟨[(1, i64 p1), (7, i64 2), (8, u64 x109), (22, .row 0 ((sB (p0.extract (Int.toNat p1) (Int.toNat (p0.size : Int))))).length), (23, i64 (((sB (p0.extract (Int.toNat p1) (Int.toNat (p0.size : Int))))).length : Int)), (24, i64 x110)], [.row 5 1 (encL (eInt .u8) (sB (p0.extract (Int.toNat p1) (Int.toNat (p0.size : Int)))))]⟩) (by kernel_rfl) ?_
          refine At.skip (norm ?_)
          refine At.seq ?_
          refine At.block ?_
          refine At.seq ?_
          obtain ⟨y159, hy159, h⟩ := bind_some h
          refine At.region_end [1, 7, 8, 9, 10, 22, 23, 24] 1 _ (st' := ⟨[(1, i64 p1), (7, i64 2), (8, u64 x109), (9, i64 x110), (10, u8 y159), (22, .row 0 ((sB (p0.extract (Int.toNat p1) (Int.toNat (p0.size : Int))))).length), (23, i64 (((sB (p0.extract (Int.toNat p1) (Int.toNat (p0.size : Int))))).length : Int)), (24, i64 x110)], [.row 5 1 (encL (eInt .u8) (sB (p0.extract (Int.toNat p1) (Int.toNat (p0.size : Int)))))]⟩) (tips := [(2, { orc := .val (.int .u8 y159) })]) (by kernel_rfl) (allc ((rAt_of (he_int .u8) (d := .int .u8 y159) hy159 rfl).1) (allc ((rAt_of (he_int .u8) (d := .int .u8 y159) hy159 rfl).2) all0)) (norm ?_)
          refine At.seq ?_
          refine At.block ?_
          refine At.seqJ (S := Bool) (fun s => ⟨[(1, i64 p1), (7, i64 2), (8, u64 x109), (9, i64 x110), (10, u8 y159), (22, .row 0 ((sB (p0.extract (Int.toNat p1) (Int.toNat (p0.size : Int))))).length), (23, i64 (((sB (p0.extract (Int.toNat p1) (Int.toNat (p0.size : Int))))).length : Int)), (24, i64 x110), (29, bo s)], [.row 5 1 (encL (eInt .u8) (sB (p0.extract (Int.toNat p1) (Int.toNat (p0.size : Int)))))]⟩) (fun s => F_vint_Get_J3 p1 x109 x110 y159 s = some o111) ?_ ?_
          · refine At.seqJ (S := Bool) (fun s => ⟨[(1, i64 p1), (7, i64 2), (8, u64 x109), (9, i64 x110), (10, u8 y159), (22, .row 0 ((sB (p0.extract (Int.toNat p1) (Int.toNat (p0.size : Int))))).length), (23, i64 (((sB (p0.extract (Int.toNat p1) (Int.toNat (p0.size : Int))))).length : Int)), (24, i64 x110), (29, bo s)], [.row 5 1 (encL (eInt .u8) (sB (p0.extract (Int.toNat p1) (Int.toNat (p0.size : Int)))))]⟩) (fun s => F_vint_Get_J4 p1 x109 x110 y159 s = some o111) ?_ ?_
            · rcases tf (x110 == 9) with b198 | b198
              · replace h := cond_t b198 h
                refine At.region_end [1, 7, 8, 9, 10, 22, 23, 24, 29] 1 _ (st' := ⟨[(1, i64 p1), (7, i64 2), (8, u64 x109), (9, i64 x110), (10, u8 y159), (22, .row 0 ((sB (p0.extract (Int.toNat p1) (Int.toNat (p0.size : Int))))).length), (23, i64 (((sB (p0.extract (Int.toNat p1) (Int.toNat (p0.size : Int))))).length : Int)), (24, i64 x110), (29, bo (decide (1 < y159)))], [.row 5 1 (encL (eInt .u8) (sB (p0.extract (Int.toNat p1) (Int.toNat (p0.size : Int)))))]⟩) (tips := [(2, { orc := .val (.bool true) })]) (by kernel_rfl) (allc (congrArg D.bool b198) all0) (fun a w hs => ⟨(decide (1 < y159)), h, hs⟩)
              · replace h := cond_f b198 h
                refine At.region_end [1, 7, 8, 9, 10, 22, 23, 24, 29] 1 _ (st' := ⟨[(1, i64 p1), (7, i64 2), (8, u64 x109), (9, i64 x110), (10, u8 y159), (22, .row 0 ((sB (p0.extract (Int.toNat p1) (Int.toNat (p0.size : Int))))).length), (23, i64 (((sB (p0.extract (Int.toNat p1) (Int.toNat (p0.size : Int))))).length : Int)), (24, i64 x110), (29, bo false)], [.row 5 1 (encL (eInt .u8) (sB (p0.extract (Int.toNat p1) (Int.toNat (p0.size : Int)))))]⟩) (tips := [(2, { orc := .val (.bool false) })]) (by kernel_rfl) (allc (congrArg D.bool b198) all0) (fun a w hs => ⟨false, h, hs⟩)
            · intro x195 h
              replace h : F_vint_Get_J4 p1 x109 x110 y159 x195 = some o111 := h
              rw [F_vint_Get_J4] at h
              refine At.cond x195 (by kernel_rfl) (fun b196 => ?_) (fun b196 => ?_)
              · replace h := cond_t b196 h
                refine At.skip (fun a w hs => ⟨x195, h, hs⟩)
              · replace h := cond_f b196 h
                rcases tf (decide (0 < x110)) with b197 | b197
                · replace h := cond_t b197 h
                  refine At.region_end [1, 7, 8, 9, 10, 22, 23, 24, 29] 1 _ (st' := ⟨[(1, i64 p1), (7, i64 2), (8, u64 x109), (9, i64 x110), (10, u8 y159), (22, .row 0 ((sB (p0.extract (Int.toNat p1) (Int.toNat (p0.size : Int))))).length), (23, i64 (((sB (p0.extract (Int.toNat p1) (Int.toNat (p0.size : Int))))).length : Int)), (24, i64 x110), (29, bo (y159 == 0))], [.row 5 1 (encL (eInt .u8) (sB (p0.extract (Int.toNat p1) (Int.toNat (p0.size : Int)))))]⟩) (tips := [(2, { orc := .val (.bool true) })]) (by kernel_rfl) (allc (congrArg D.bool b197) all0) (fun a w hs => ⟨(y159 == 0), h, hs⟩)
                · replace h := cond_f b197 h
                  refine At.region_end [1, 7, 8, 9, 10, 22, 23, 24, 29] 1 _ (st' := ⟨[(1, i64 p1), (7, i64 2), (8, u64 x109), (9, i64 x110), (10, u8 y159), (22, .row 0 ((sB (p0.extract (Int.toNat p1) (Int.toNat (p0.size : Int))))).length), (23, i64 (((sB (p0.extract (Int.toNat p1) (Int.toNat (p0.size : Int))))).length : Int)), (24, i64 x110), (29, bo false)], [.row 5 1 (encL (eInt .u8) (sB (p0.extract (Int.toNat p1) (Int.toNat (p0.size : Int)))))]⟩) (tips := [(2, { orc := .val (.bool false) })]) (by kernel_rfl) (allc (congrArg D.bool b197) all0) (fun a w hs => ⟨false, h, hs⟩)
          · intro x184 h
            replace h : F_vint_Get_J3 p1 x109 x110 y159 x184 = some o111 := h
            rw [F_vint_Get_J3] at h
            refine At.cond x184 (by kernel_rfl) (fun b185 => ?_) (fun b185 => ?_)
            · replace h := cond_t b185 h
              refine At.seq ?_
              refine At.region_end [7] 0 _ (st' := ⟨[(7, i64 3)], []⟩) (tips := []) (by kernel_rfl) all0 (norm ?_)
              obtain ⟨r186, h, e187⟩ := map_inr h
              rw [f112 _ e187] at h
              refine At.exit (fun a w hs => ⟨3, h, hs⟩)
            · replace h := cond_f b185 h
              refine At.seq ?_
              refine At.region_end [1, 7, 8, 9, 10, 22, 23, 24, 42] 1 _ (st' := ⟨[(1, i64 p1), (7, i64 2), (8, u64 x109), (9, i64 x110), (10, u8 y159), (22, .row 0 ((sB (p0.extract (Int.toNat p1) (Int.toNat (p0.size : Int))))).length), (23, i64 (((sB (p0.extract (Int.toNat p1) (Int.toNat (p0.size : Int))))).length : Int)), (24, i64 x110), (42, bo (decide (y159 < 128)))], [.row 5 1 (encL (eInt .u8) (sB (p0.extract (Int.toNat p1) (Int.toNat (p0.size : Int)))))]⟩) (tips := []) (by kernel_rfl) all0 (norm ?_)
              refine At.cond (decide (y159 < 128)) (by kernel_rfl) (fun b188 => ?_) (fun b188 => ?_)
              · replace h := cond_t b188 h
                refine At.seq ?_
                obtain ⟨g190, h⟩ := grd_some h
                refine At.region_end [4, 5, 6] 0 _ (st' := ⟨[(4, u64 (bits .or .u64 x109 (wu64 ((wu64 y159) * 2 ^ (min (Int.toNat (w64 (7 * x110))) 64))))), (5, i64 (w64 ((w64 (p1 + x110)) + 1))), (6, i64 0)], []⟩) (tips := []) (by kernel_rfl) (allc g190 all0) (norm ?_)
                obtain ⟨r191, h, e192⟩ := map_inr h
                rw [f112 _ e192] at h
                obtain rfl := some_eq h
                exact At.ret fun a w hs => ret_fin (settle := []) (obl := _) (by kernel_rfl) all0 a w hs _ (.inl rfl)
              · replace h := cond_f b188 h
                refine At.nar [1, 7, 8, 9, 10, 22, 23, 24] 1 (st' := ⟨[(1, i64 p1), (7, i64 2), (8, u64 x109), (9, i64 x110), (10, u8 y159), (22, .row 0 ((sB (p0.extract (Int.toNat p1) (Int.toNat (p0.size : Int))))).length), (23, i64 (((sB (p0.extract (Int.toNat p1) (Int.toNat (p0.size : Int))))).length : Int)), (24, i64 x110)], [.row 5 1 (encL (eInt .u8) (sB (p0.extract (Int.toNat p1) (Int.toNat (p0.size : Int)))))]⟩) (by kernel_rfl) ?_
                refine At.skip (norm ?_)
                obtain ⟨g193, h⟩ := grd_some h
                refine At.region_end [1, 7, 8, 22, 23, 24] 1 _ (st' := ⟨[(1, i64 p1), (7, i64 2), (8, u64 (bits .or .u64 x109 (wu64 ((wu64 (bits .and .u8 y159 127)) * 2 ^ (min (Int.toNat (w64 (7 * x110))) 64))))), (22, .row 0 ((sB (p0.extract (Int.toNat p1) (Int.toNat (p0.size : Int))))).length), (23, i64 (((sB (p0.extract (Int.toNat p1) (Int.toNat (p0.size : Int))))).length : Int)), (24, i64 x110)], [.row 5 1 (encL (eInt .u8) (sB (p0.extract (Int.toNat p1) (Int.toNat (p0.size : Int)))))]⟩) (tips := []) (by kernel_rfl) (allc g193 all0) (norm ?_)
                refine At.region_end [1, 7, 8, 22, 23, 24] 1 _ (st' := ⟨[(1, i64 p1), (7, i64 2), (8, u64 (bits .or .u64 x109 (wu64 ((wu64 (bits .and .u8 y159 127)) * 2 ^ (min (Int.toNat (w64 (7 * x110))) 64))))), (22, .row 0 ((sB (p0.extract (Int.toNat p1) (Int.toNat (p0.size : Int))))).length), (23, i64 (((sB (p0.extract (Int.toNat p1) (Int.toNat (p0.size : Int))))).length : Int)), (24, i64 (w64 (x110 + 1)))], [.row 5 1 (encL (eInt .u8) (sB (p0.extract (Int.toNat p1) (Int.toNat (p0.size : Int)))))]⟩) (tips := []) (by kernel_rfl) all0 (fun a w hs => ⟨_, (some_eq h).symm, hs⟩)
        · replace h := cond_f b116 h
          refine At.nar [7] 0 (st' := ⟨[(7, i64 2)], []⟩) (by kernel_rfl) ?_
          obtain ⟨r199, h, e200⟩ := map_inr h
          rw [f112 _ e200] at h
          refine At.exit (fun a w hs => ⟨2, h, hs⟩)
      · intro x104 h
        replace h : F_vint_Get_J2 x104 = some r := h
        rw [F_vint_Get_J2] at h
        refine At.seq ?_
        refine At.region_end [4, 5, 6] 0 _ (st' := ⟨[(4, u64 0), (5, i64 0), (6, i64 x104)], []⟩) (tips := []) (by kernel_rfl) all0 (norm ?_)
        obtain rfl := some_eq h
        exact At.ret fun a w hs => ret_fin (settle := []) (obl := _) (by kernel_rfl) all0 a w hs _ (.inl rfl)
set_option maxRecDepth 100000 in
theorem C_vint_PutInt (p0 : ByteArray) (p1 : Int) (r : ByteArray) (h : F_vint_PutInt p0 p1 = some r) : DCall Try.prog 30 [sv p0, i64 p1] (sv r) := by
  rw [F_vint_PutInt] at h
  refine DCall.intro Try.func30 rfl (by kernel_rfl) fun w0 hz0 => ?_
  refine At.seq ?_
  refine At.region_end [0, 1] 0 _ (st' := ⟨[(0, sv p0), (1, i64 p1)], []⟩) (tips := []) (by kernel_rfl) all0 (norm ?_)
  refine At.seq ?_
  obtain ⟨y3, hy3, h⟩ := bind_some h
  obtain ⟨y4, hy4, h⟩ := bind_some h
  refine At.region_end [4] 0 _ (st' := ⟨[(4, sv y4)], []⟩) (tips := [(2, { res := some (u64 y3) }), (3, { res := some (sv y4) })]) (by kernel_rfl) (allc (C_vint_Zig p1 y3 hy3) (allc (C_vint_Put p0 y3 y4 hy4) all0)) (norm ?_)
  obtain rfl := some_eq h
  exact At.ret fun a w hs => ret_fin (settle := []) (obl := _) (by kernel_rfl) all0 a w hs _ (.inl rfl)
set_option maxRecDepth 100000 in
theorem C_vint_GetInt (p0 : ByteArray) (p1 : Int) (r : Int × Int × Int) (h : F_vint_GetInt p0 p1 = some r) : DCall Try.prog 31 [sv p0, i64 p1] (.tup [i64 r.1, i64 r.2.1, i64 r.2.2]) := by
  rw [F_vint_GetInt] at h
  refine DCall.intro Try.func31 rfl (by kernel_rfl) fun w0 hz0 => ?_
  refine At.seq ?_
  refine At.region_end [0, 1] 0 _ (st' := ⟨[(0, sv p0), (1, i64 p1)], []⟩) (tips := []) (by kernel_rfl) all0 (norm ?_)
  refine At.seq ?_
  obtain ⟨y2, hy2, h⟩ := bind_some h
  refine At.region_end [7, 8, 9] 0 _ (st' := ⟨[(7, u64 y2.1), (8, i64 y2.2.1), (9, i64 y2.2.2)], []⟩) (tips := [(2, { res := some (.tup [u64 y2.1, i64 y2.2.1, i64 y2.2.2]) })]) (by kernel_rfl) (allc (C_vint_Get p0 p1 y2 hy2) all0) (norm ?_)
  refine At.seq ?_
  obtain ⟨y4, hy4, h⟩ := bind_some h
  refine At.region_end [4, 5, 6] 0 _ (st' := ⟨[(4, i64 y4), (5, i64 y2.2.1), (6, i64 y2.2.2)], []⟩) (tips := [(1, { res := some (i64 y4) })]) (by kernel_rfl) (allc (C_vint_Zag y2.1 y4 hy4) all0) (norm ?_)
  obtain rfl := some_eq h
  exact At.ret fun a w hs => ret_fin (settle := []) (obl := _) (by kernel_rfl) all0 a w hs _ (.inl rfl)
set_option maxRecDepth 100000 in
theorem C_retraceref01_Get (p0 : ByteArray) (p1 : Int) (r : T_retraceref01_Got) (h : F_retraceref01_Get p0 p1 = some r) : DCall Try.prog 32 [sv p0, i64 p1] (.agg [u64 r.U, i64 r.Next, i64 r.E]) := by
  rw [F_retraceref01_Get] at h
  refine DCall.intro Try.func32 rfl (by kernel_rfl) fun w0 hz0 => ?_
  refine At.seq ?_
  refine At.region_end [0, 1, 4] 1 _ (st' := ⟨[(0, sv p0), (1, i64 p1), (4, .ptr 0 0)], [.blk 51 [u64 0, i64 0, i64 0]]⟩) (tips := []) (by kernel_rfl) all0 (norm ?_)
  refine At.seq ?_
  refine At.seqJ (S := Bool) (fun s => ⟨[(0, sv p0), (1, i64 p1), (4, .ptr 0 0), (16, bo s)], [.blk 51 [u64 0, i64 0, i64 0]]⟩) (fun s => F_retraceref01_Get_J1 p0 p1 s = some r) ?_ ?_
  · rcases tf (decide (p1 < 0)) with b182 | b182
    · replace h := cond_t b182 h
      refine At.region_end [0, 1, 4, 16] 1 _ (st' := ⟨[(0, sv p0), (1, i64 p1), (4, .ptr 0 0), (16, bo true)], [.blk 51 [u64 0, i64 0, i64 0]]⟩) (tips := [(2, { orc := .val (.bool true) })]) (by kernel_rfl) (allc (congrArg D.bool b182) all0) (fun a w hs => ⟨true, h, hs⟩)
    · replace h := cond_f b182 h
      refine At.region_end [0, 1, 4, 16] 1 _ (st' := ⟨[(0, sv p0), (1, i64 p1), (4, .ptr 0 0), (16, bo (decide ((p0.size : Int) < p1)))], [.blk 51 [u64 0, i64 0, i64 0]]⟩) (tips := [(2, { orc := .val (.bool false) })]) (by kernel_rfl) (allc (congrArg D.bool b182) all0) (fun a w hs => ⟨(decide ((p0.size : Int) < p1)), h, hs⟩)
  · intro x6 h
    replace h : F_retraceref01_Get_J1 p0 p1 x6 = some r := h
    rw [F_retraceref01_Get_J1] at h
    refine At.cond x6 (by kernel_rfl) (fun b7 => ?_) (fun b7 => ?_)
    · replace h := cond_t b7 h
      refine At.seq ?_
      refine At.region_end [4] 1 _ (st' := ⟨[(4, .ptr 0 0)], [.blk 51 [u64 0, i64 0, i64 1]]⟩) (tips := []) (by kernel_rfl) all0 (norm ?_)
      obtain rfl := some_eq h
      exact At.ret fun a w hs => ret_fin (settle := []) (obl := _) (by kernel_rfl) all0 a w hs _ (.inl rfl)
    · replace h := cond_f b7 h
      refine At.nar [0, 1, 4] 1 (st' := ⟨[(0, sv p0), (1, i64 p1), (4, .ptr 0 0)], [.blk 51 [u64 0, i64 0, i64 0]]⟩) (by kernel_rfl) ?_
      refine At.skip (norm ?_)
      refine At.seq ?_
      refine At.region_end [0, 1, 4, 5, 6] 1 _ (st' := ⟨[(0, sv p0), (1, i64 p1), (4, .ptr 0 0), (5, u64 0), (6, u64 1)], [.blk 51 [u64 0, i64 0, i64 0]]⟩) (tips := []) (by kernel_rfl) all0 (norm ?_)
      refine At.seqJ (S := Unit) (fun s => ⟨[(4, .ptr 0 0)], [.blk 51 [u64 0, i64 0, i64 0]]⟩) (fun s => F_retraceref01_Get_J2 = some r) ?_ ?_
      · refine At.seq ?_
        refine At.region_end [0, 1, 4, 5, 6, 7] 1 _ (st' := ⟨[(0, sv p0), (1, i64 p1), (4, .ptr 0 0), (5, u64 0), (6, u64 1), (7, i64 0)], [.blk 51 [u64 0, i64 0, i64 0]]⟩) (tips := []) (by kernel_rfl) all0 (norm ?_)
        refine At.block ?_
        refine At.loop (fun s : (Int × Int × Int) => F_retraceref01_Get_L4 p0 p1 s.1 s.2.1 s.2.2) (fun s : (Int × Int × Int) => ⟨[(0, sv p0), (1, i64 p1), (4, .ptr 0 0), (5, u64 s.1), (6, u64 s.2.1), (7, i64 s.2.2)], [.blk 51 [u64 0, i64 0, i64 0]]⟩) r (0, 1, 0) h ?_
        rintro ⟨x95, x96, x97⟩ o98 h f99
        replace h : F_retraceref01_Get_L4 p0 p1 x95 x96 x97 = some o98 := h
        rw [F_retraceref01_Get_L4] at h
        refine At.seq ?_
        refine At.seq ?_
        refine At.region_end [0, 1, 4, 5, 6, 7, 19] 1 _ (st' := ⟨[(0, sv p0), (1, i64 p1), (4, .ptr 0 0), (5, u64 x95), (6, u64 x96), (7, i64 x97), (19, bo (decide (x97 < 10)))], [.blk 51 [u64 0, i64 0, i64 0]]⟩) (tips := []) (by kernel_rfl) all0 (norm ?_)
        refine At.cond (decide (x97 < 10)) (by kernel_rfl) (fun b103 => ?_) (fun b103 => ?_)
        · replace h := cond_t b103 h
          refine At.nar [0, 1, 4, 5, 6, 7] 1 (st' := ⟨[(0, sv p0), (1, i64 p1), (4, .ptr 0 0), (5, u64 x95), (6, u64 x96), (7, i64 x97)], [.blk 51 [u64 0, i64 0, i64 0]]⟩) (by kernel_rfl) ?_
          refine At.skip (norm ?_)
          refine At.seq ?_
          refine At.block ?_
          refine At.seq ?_
          refine At.seq ?_
          refine At.region_end [0, 1, 4, 5, 6, 7, 27] 1 _ (st' := ⟨[(0, sv p0), (1, i64 p1), (4, .ptr 0 0), (5, u64 x95), (6, u64 x96), (7, i64 x97), (27, bo (decide ((p0.size : Int) ≤ (w64 (p1 + x97)))))], [.blk 51 [u64 0, i64 0, i64 0]]⟩) (tips := []) (by kernel_rfl) all0 (norm ?_)
          refine At.cond (decide ((p0.size : Int) ≤ (w64 (p1 + x97)))) (by kernel_rfl) (fun b145 => ?_) (fun b145 => ?_)
          · replace h := cond_t b145 h
            refine At.seq ?_
            refine At.region_end [4] 1 _ (st' := ⟨[(4, .ptr 0 0)], [.blk 51 [u64 0, i64 0, i64 2]]⟩) (tips := []) (by kernel_rfl) all0 (norm ?_)
            obtain ⟨r146, h, e147⟩ := map_inr h
            rw [f99 _ e147] at h
            obtain rfl := some_eq h
            exact At.ret fun a w hs => ret_fin (settle := []) (obl := _) (by kernel_rfl) all0 a w hs _ (.inl rfl)
          · replace h := cond_f b145 h
            refine At.nar [0, 1, 4, 5, 6, 7] 1 (st' := ⟨[(0, sv p0), (1, i64 p1), (4, .ptr 0 0), (5, u64 x95), (6, u64 x96), (7, i64 x97)], [.blk 51 [u64 0, i64 0, i64 0]]⟩) (by kernel_rfl) ?_
            refine At.skip (norm ?_)
            refine At.seq ?_
            obtain ⟨y149, hy149, h⟩ := bind_some h
            refine At.region_end [0, 1, 4, 5, 6, 7, 8] 1 _ (st' := ⟨[(0, sv p0), (1, i64 p1), (4, .ptr 0 0), (5, u64 x95), (6, u64 x96), (7, i64 x97), (8, u8 y149)], [.blk 51 [u64 0, i64 0, i64 0]]⟩) (tips := [(4, { orc := .val (.int .u8 y149) })]) (by kernel_rfl) (allc hy149 all0) (norm ?_)
            refine At.seq ?_
            refine At.seqJ (S := Bool) (fun s => ⟨[(0, sv p0), (1, i64 p1), (4, .ptr 0 0), (5, u64 x95), (6, u64 x96), (7, i64 x97), (8, u8 y149), (47, bo s)], [.blk 51 [u64 0, i64 0, i64 0]]⟩) (fun s => F_retraceref01_Get_J3 p1 x95 x96 x97 y149 s = some o98) ?_ ?_
            · rcases tf (x97 == 9) with b176 | b176
              · replace h := cond_t b176 h
                rcases tf (decide (1 < y149)) with b177 | b177
                · replace h := cond_t b177 h
                  refine At.region_end [0, 1, 4, 5, 6, 7, 8, 47] 1 _ (st' := ⟨[(0, sv p0), (1, i64 p1), (4, .ptr 0 0), (5, u64 x95), (6, u64 x96), (7, i64 x97), (8, u8 y149), (47, bo true)], [.blk 51 [u64 0, i64 0, i64 0]]⟩) (tips := [(2, { orc := .val (.bool true) }), (6, { orc := .val (.bool true) })]) (by kernel_rfl) (allc (congrArg D.bool b176) (allc (congrArg D.bool b177) all0)) (fun a w hs => ⟨true, h, hs⟩)
                · replace h := cond_f b177 h
                  rcases tf (y149 == 0) with b178 | b178
                  · replace h := cond_t b178 h
                    refine At.region_end [0, 1, 4, 5, 6, 7, 8, 47] 1 _ (st' := ⟨[(0, sv p0), (1, i64 p1), (4, .ptr 0 0), (5, u64 x95), (6, u64 x96), (7, i64 x97), (8, u8 y149), (47, bo (decide (0 < x97)))], [.blk 51 [u64 0, i64 0, i64 0]]⟩) (tips := [(2, { orc := .val (.bool true) }), (6, { orc := .val (.bool false) }), (9, { orc := .val (.bool true) })]) (by kernel_rfl) (allc (congrArg D.bool b176) (allc (congrArg D.bool b177) (allc (congrArg D.bool b178) all0))) (fun a w hs => ⟨(decide (0 < x97)), h, hs⟩)
                  · replace h := cond_f b178 h
                    refine At.region_end [0, 1, 4, 5, 6, 7, 8, 47] 1 _ (st' := ⟨[(0, sv p0), (1, i64 p1), (4, .ptr 0 0), (5, u64 x95), (6, u64 x96), (7, i64 x97), (8, u8 y149), (47, bo false)], [.blk 51 [u64 0, i64 0, i64 0]]⟩) (tips := [(2, { orc := .val (.bool true) }), (6, { orc := .val (.bool false) }), (9, { orc := .val (.bool false) })]) (by kernel_rfl) (allc (congrArg D.bool b176) (allc (congrArg D.bool b177) (allc (congrArg D.bool b178) all0))) (fun a w hs => ⟨false, h, hs⟩)
              · replace h := cond_f b176 h
                rcases tf (y149 == 0) with b179 | b179
                · replace h := cond_t b179 h
                  refine At.region_end [0, 1, 4, 5, 6, 7, 8, 47] 1 _ (st' := ⟨[(0, sv p0), (1, i64 p1), (4, .ptr 0 0), (5, u64 x95), (6, u64 x96), (7, i64 x97), (8, u8 y149), (47, bo (decide (0 < x97)))], [.blk 51 [u64 0, i64 0, i64 0]]⟩) (tips := [(2, { orc := .val (.bool false) }), (9, { orc := .val (.bool true) })]) (by kernel_rfl) (allc (congrArg D.bool b176) (allc (congrArg D.bool b179) all0)) (fun a w hs => ⟨(decide (0 < x97)), h, hs⟩)
                · replace h := cond_f b179 h
                  refine At.region_end [0, 1, 4, 5, 6, 7, 8, 47] 1 _ (st' := ⟨[(0, sv p0), (1, i64 p1), (4, .ptr 0 0), (5, u64 x95), (6, u64 x96), (7, i64 x97), (8, u8 y149), (47, bo false)], [.blk 51 [u64 0, i64 0, i64 0]]⟩) (tips := [(2, { orc := .val (.bool false) }), (9, { orc := .val (.bool false) })]) (by kernel_rfl) (allc (congrArg D.bool b176) (allc (congrArg D.bool b179) all0)) (fun a w hs => ⟨false, h, hs⟩)
            · intro x166 h
              replace h : F_retraceref01_Get_J3 p1 x95 x96 x97 y149 x166 = some o98 := h
              rw [F_retraceref01_Get_J3] at h
              refine At.cond x166 (by kernel_rfl) (fun b167 => ?_) (fun b167 => ?_)
              · replace h := cond_t b167 h
                refine At.seq ?_
                refine At.region_end [4] 1 _ (st' := ⟨[(4, .ptr 0 0)], [.blk 51 [u64 0, i64 0, i64 3]]⟩) (tips := []) (by kernel_rfl) all0 (norm ?_)
                obtain ⟨r168, h, e169⟩ := map_inr h
                rw [f99 _ e169] at h
                obtain rfl := some_eq h
                exact At.ret fun a w hs => ret_fin (settle := []) (obl := _) (by kernel_rfl) all0 a w hs _ (.inl rfl)
              · replace h := cond_f b167 h
                refine At.nar [0, 1, 4, 5, 6, 7, 8] 1 (st' := ⟨[(0, sv p0), (1, i64 p1), (4, .ptr 0 0), (5, u64 x95), (6, u64 x96), (7, i64 x97), (8, u8 y149)], [.blk 51 [u64 0, i64 0, i64 0]]⟩) (by kernel_rfl) ?_
                refine At.skip (norm ?_)
                refine At.seq ?_
                refine At.region_end [0, 1, 4, 5, 6, 7, 8] 1 _ (st' := ⟨[(0, sv p0), (1, i64 p1), (4, .ptr 0 0), (5, u64 (wu64 (x95 + (wu64 ((wu64 (Int.tmod y149 128)) * x96))))), (6, u64 x96), (7, i64 x97), (8, u8 y149)], [.blk 51 [u64 0, i64 0, i64 0]]⟩) (tips := []) (by kernel_rfl) (allc (by decide : 128 ≠ (0:Int)) all0) (norm ?_)
                refine At.seq ?_
                refine At.seq ?_
                refine At.region_end [0, 1, 4, 5, 6, 7, 57] 1 _ (st' := ⟨[(0, sv p0), (1, i64 p1), (4, .ptr 0 0), (5, u64 (wu64 (x95 + (wu64 ((wu64 (Int.tmod y149 128)) * x96))))), (6, u64 x96), (7, i64 x97), (57, bo (decide (y149 < 128)))], [.blk 51 [u64 0, i64 0, i64 0]]⟩) (tips := []) (by kernel_rfl) all0 (norm ?_)
                refine At.cond (decide (y149 < 128)) (by kernel_rfl) (fun b173 => ?_) (fun b173 => ?_)
                · replace h := cond_t b173 h
                  refine At.seq ?_
                  refine At.region_end [4] 1 _ (st' := ⟨[(4, .ptr 0 0)], [.blk 51 [u64 (wu64 (x95 + (wu64 ((wu64 (Int.tmod y149 128)) * x96)))), i64 (w64 ((w64 (p1 + x97)) + 1)), i64 0]]⟩) (tips := []) (by kernel_rfl) all0 (norm ?_)
                  obtain ⟨r174, h, e175⟩ := map_inr h
                  rw [f99 _ e175] at h
                  obtain rfl := some_eq h
                  exact At.ret fun a w hs => ret_fin (settle := []) (obl := _) (by kernel_rfl) all0 a w hs _ (.inl rfl)
                · replace h := cond_f b173 h
                  refine At.nar [0, 1, 4, 5, 6, 7] 1 (st' := ⟨[(0, sv p0), (1, i64 p1), (4, .ptr 0 0), (5, u64 (wu64 (x95 + (wu64 ((wu64 (Int.tmod y149 128)) * x96))))), (6, u64 x96), (7, i64 x97)], [.blk 51 [u64 0, i64 0, i64 0]]⟩) (by kernel_rfl) ?_
                  refine At.skip (norm ?_)
                  refine At.region_end [0, 1, 4, 5, 6, 7] 1 _ (st' := ⟨[(0, sv p0), (1, i64 p1), (4, .ptr 0 0), (5, u64 (wu64 (x95 + (wu64 ((wu64 (Int.tmod y149 128)) * x96))))), (6, u64 (wu64 (x96 * 128))), (7, i64 x97)], [.blk 51 [u64 0, i64 0, i64 0]]⟩) (tips := []) (by kernel_rfl) all0 (norm ?_)
                  refine At.region_end [0, 1, 4, 5, 6, 7] 1 _ (st' := ⟨[(0, sv p0), (1, i64 p1), (4, .ptr 0 0), (5, u64 (wu64 (x95 + (wu64 ((wu64 (Int.tmod y149 128)) * x96))))), (6, u64 (wu64 (x96 * 128))), (7, i64 (w64 (x97 + 1)))], [.blk 51 [u64 0, i64 0, i64 0]]⟩) (tips := []) (by kernel_rfl) all0 (fun a w hs => ⟨_, (some_eq h).symm, hs⟩)
        · replace h := cond_f b103 h
          refine At.nar [4] 1 (st' := ⟨[(4, .ptr 0 0)], [.blk 51 [u64 0, i64 0, i64 0]]⟩) (by kernel_rfl) ?_
          obtain ⟨r180, h, e181⟩ := map_inr h
          rw [f99 _ e181] at h
          refine At.exit (fun a w hs => ⟨(), h, hs⟩)
      · intro _ h
        replace h : F_retraceref01_Get_J2 = some r := h
        rw [F_retraceref01_Get_J2] at h
        refine At.seq ?_
        refine At.region_end [4] 1 _ (st' := ⟨[(4, .ptr 0 0)], [.blk 51 [u64 0, i64 0, i64 3]]⟩) (tips := []) (by kernel_rfl) all0 (norm ?_)
        obtain rfl := some_eq h
        exact At.ret fun a w hs => ret_fin (settle := []) (obl := _) (by kernel_rfl) all0 a w hs _ (.inl rfl)
set_option maxRecDepth 100000 in
theorem C_retraceref01_Num_B (self : Int → Option (ByteArray)) (hself : ∀ (p0 : Int) (r : ByteArray), self p0 = some r → DCall Try.prog 28 [u64 p0] (sv r)) (p0 : Int) (r : ByteArray) (h : F_retraceref01_Num_B self p0 = some r) : DCall Try.prog 28 [u64 p0] (sv r) := by
  rw [F_retraceref01_Num_B] at h
  refine DCall.intro Try.func28 rfl (by kernel_rfl) fun w0 hz0 => ?_
  refine At.seq ?_
  refine At.region_end [0] 0 _ (st' := ⟨[(0, u64 p0)], []⟩) (tips := []) (by kernel_rfl) all0 (norm ?_)
  refine At.seq ?_
  refine At.seq ?_
  refine At.region_end [0, 4] 0 _ (st' := ⟨[(0, u64 p0), (4, bo (decide (p0 < 128)))], []⟩) (tips := []) (by kernel_rfl) all0 (norm ?_)
  refine At.cond (decide (p0 < 128)) (by kernel_rfl) (fun b2 => ?_) (fun b2 => ?_)
  · replace h := cond_t b2 h
    refine At.seq ?_
    refine At.region_end [2] 0 _ (st' := ⟨[(2, sv (strOfNums ([(wu8 p0)])))], []⟩) (tips := [(3, { orc := .nums ([(wu8 p0)]) })]) (by kernel_rfl) (allc (encL_map .u8 ([(wu8 p0)])) (allc (rfl : (([(wu8 p0)])).length = (([(wu8 p0)])).length) all0)) (norm ?_)
    obtain rfl := some_eq h
    exact At.ret fun a w hs => ret_fin (settle := []) (obl := _) (by kernel_rfl) all0 a w hs _ (.inl rfl)
  · replace h := cond_f b2 h
    refine At.nar [0] 0 (st' := ⟨[(0, u64 p0)], []⟩) (by kernel_rfl) ?_
    refine At.skip (norm ?_)
    refine At.seq ?_
    obtain ⟨y5, hy5, h⟩ := bind_some h
    obtain ⟨g6, h⟩ := grd_some h
    refine At.draw_end mixedOrd 1 [2] 0 _ (st' := ⟨[(2, sv ((strOfNums ([(wu8 ((wu8 (Int.tmod p0 128)) + 128))])) ++ y5))], []⟩) (tips := [(5, { tip := { orc := .nums ([(wu8 ((wu8 (Int.tmod p0 128)) + 128))]) }, T := [0], r := 1 }), (8, { tip := { res := some (sv y5) }, r := 1 })]) (by kernel_rfl) (allc (by decide : 128 ≠ (0:Int)) (allc (encL_map .u8 ([(wu8 ((wu8 (Int.tmod p0 128)) + 128))])) (allc (rfl : (([(wu8 ((wu8 (Int.tmod p0 128)) + 128))])).length = (([(wu8 ((wu8 (Int.tmod p0 128)) + 128))])).length) (allc (by decide : 128 ≠ (0:Int)) (allc (hself (wu64 (Int.tdiv p0 128)) y5 hy5) (allc g6 all0)))))) (norm ?_)
    obtain rfl := some_eq h
    exact At.ret fun a w hs => ret_fin (settle := []) (obl := _) (by kernel_rfl) all0 a w hs _ (.inl rfl)
theorem C_retraceref01_Num_N : ∀ (n : Nat) (p0 : Int) (r : ByteArray), F_retraceref01_Num_N n p0 = some r → DCall Try.prog 28 [u64 p0] (sv r)
  | 0, _, _, h => by simp [F_retraceref01_Num_N] at h
  | n + 1, p0, r, h => C_retraceref01_Num_B (F_retraceref01_Num_N n) (C_retraceref01_Num_N n) p0 r h
theorem C_retraceref01_Num (p0 : Int) (r : ByteArray) (h : F_retraceref01_Num p0 = some r) : DCall Try.prog 28 [u64 p0] (sv r) := by
  obtain ⟨n, h⟩ := lim_some h
  exact C_retraceref01_Num_N n p0 r h
set_option maxRecDepth 100000 in
theorem C_crc_Open (p0 : ByteArray) (r : ByteArray × Int) (h : F_crc_Open p0 = some r) : DCall Try.prog 19 [sv p0] (.tup [sv r.1, i64 r.2]) := by
  rw [F_crc_Open] at h
  refine DCall.intro Try.func19 rfl (by kernel_rfl) fun w0 hz0 => ?_
  refine At.seq ?_
  refine At.region_end [0] 0 _ (st' := ⟨[(0, sv p0)], []⟩) (tips := []) (by kernel_rfl) all0 (norm ?_)
  refine At.seq ?_
  refine At.region_end [0, 4] 0 _ (st' := ⟨[(0, sv p0), (4, i64 (w64 ((p0.size : Int) - 4)))], []⟩) (tips := []) (by kernel_rfl) all0 (norm ?_)
  refine At.seq ?_
  refine At.seq ?_
  refine At.region_end [0, 4, 9] 0 _ (st' := ⟨[(0, sv p0), (4, i64 (w64 ((p0.size : Int) - 4))), (9, bo (decide ((w64 ((p0.size : Int) - 4)) < 0)))], []⟩) (tips := []) (by kernel_rfl) all0 (norm ?_)
  refine At.cond (decide ((w64 ((p0.size : Int) - 4)) < 0)) (by kernel_rfl) (fun b2 => ?_) (fun b2 => ?_)
  · replace h := cond_t b2 h
    refine At.seq ?_
    refine At.region_end [2, 3] 0 _ (st' := ⟨[(2, sv (⟨#[]⟩ : ByteArray)), (3, i64 2)], []⟩) (tips := []) (by kernel_rfl) all0 (norm ?_)
    obtain rfl := some_eq h
    exact At.ret fun a w hs => ret_fin (settle := []) (obl := _) (by kernel_rfl) all0 a w hs _ (.inl rfl)
  · replace h := cond_f b2 h
    refine At.nar [0, 4] 0 (st' := ⟨[(0, sv p0), (4, i64 (w64 ((p0.size : Int) - 4)))], []⟩) (by kernel_rfl) ?_
    refine At.skip (norm ?_)
    refine At.seq ?_
    refine At.seq ?_
    obtain ⟨g16, h⟩ := grd_some h
    obtain ⟨y17, hy17, h⟩ := bind_some h
    obtain ⟨y18, hy18, h⟩ := bind_some h
    obtain ⟨g19, h⟩ := grd_some h
    refine At.draw_end mixedOrd 0 [0, 4, 18] 0 _ (st' := ⟨[(0, sv p0), (4, i64 (w64 ((p0.size : Int) - 4))), (18, bo (!(y18.toList == (p0.extract (Int.toNat (w64 ((p0.size : Int) - 4))) (Int.toNat (p0.size : Int))).toList)))], []⟩) (tips := [(3, { tip := { res := some (u32 y17) } }), (4, { tip := { res := some (sv y18) } })]) (by kernel_rfl) (allc g16 (allc (C_crc_Sum (p0.extract (Int.toNat 0) (Int.toNat (w64 ((p0.size : Int) - 4)))) y17 hy17) (allc (C_crc_Bytes y17 y18 hy18) (allc g19 all0)))) (norm ?_)
    refine At.cond (!(y18.toList == (p0.extract (Int.toNat (w64 ((p0.size : Int) - 4))) (Int.toNat (p0.size : Int))).toList)) (by kernel_rfl) (fun b20 => ?_) (fun b20 => ?_)
    · replace h := cond_t b20 h
      refine At.seq ?_
      refine At.region_end [2, 3] 0 _ (st' := ⟨[(2, sv (⟨#[]⟩ : ByteArray)), (3, i64 4)], []⟩) (tips := []) (by kernel_rfl) all0 (norm ?_)
      obtain rfl := some_eq h
      exact At.ret fun a w hs => ret_fin (settle := []) (obl := _) (by kernel_rfl) all0 a w hs _ (.inl rfl)
    · replace h := cond_f b20 h
      refine At.nar [0, 4] 0 (st' := ⟨[(0, sv p0), (4, i64 (w64 ((p0.size : Int) - 4)))], []⟩) (by kernel_rfl) ?_
      refine At.skip (norm ?_)
      refine At.seq ?_
      obtain ⟨g22, h⟩ := grd_some h
      refine At.region_end [2, 3] 0 _ (st' := ⟨[(2, sv (p0.extract (Int.toNat 0) (Int.toNat (w64 ((p0.size : Int) - 4))))), (3, i64 0)], []⟩) (tips := []) (by kernel_rfl) (allc g22 all0) (norm ?_)
      obtain rfl := some_eq h
      exact At.ret fun a w hs => ret_fin (settle := []) (obl := _) (by kernel_rfl) all0 a w hs _ (.inl rfl)
set_option maxRecDepth 100000 in
theorem C_retracelaw01_live  (r : Bool) (h : F_retracelaw01_live  = some r) : DCall Try.prog 21 [] (bo r) := by
  rw [F_retracelaw01_live] at h
  refine DCall.intro Try.func21 rfl (by kernel_rfl) fun w0 hz0 => ?_
  refine At.seq ?_
  refine At.region_end [] 0 _ (st' := ⟨[], []⟩) (tips := []) (by kernel_rfl) all0 (norm ?_)
  refine At.seq ?_
  obtain ⟨y2, hy2, h⟩ := bind_some h
  refine At.region_end [1, 2, 3] 0 _ (st' := ⟨[(1, u64 y2.1), (2, i64 y2.2.1), (3, i64 y2.2.2)], []⟩) (tips := [(0, { res := some (.tup [u64 y2.1, i64 y2.2.1, i64 y2.2.2]) })]) (by kernel_rfl) (allc (C_vint_Get (⟨#[172, 2]⟩ : ByteArray) 0 y2 hy2) all0) (norm ?_)
  refine At.seqJ (S := Bool) (fun s => ⟨[(0, bo s)], []⟩) (fun s => F_retracelaw01_live_J1 s = some r) ?_ ?_
  · obtain ⟨y10, hy10, h⟩ := bind_some h
    rcases tf (y10.toList == (⟨#[172, 2]⟩ : ByteArray).toList) with b11 | b11
    · replace h := cond_t b11 h
      obtain ⟨y12, hy12, h⟩ := bind_some h
      rcases tf (y12 == 5) with b13 | b13
      · replace h := cond_t b13 h
        rcases tf (y2.1 == 300) with b14 | b14
        · replace h := cond_t b14 h
          rcases tf (y2.2.1 == 2) with b15 | b15
          · replace h := cond_t b15 h
            refine At.region_end [0] 0 _ (st' := ⟨[(0, bo (y2.2.2 == 0))], []⟩) (tips := [(0, { res := some (sv y10) }), (2, { orc := .val (.bool true) }), (3, { res := some (u64 y12) }), (6, { orc := .val (.bool true) }), (10, { orc := .val (.bool true) }), (14, { orc := .val (.bool true) })]) (by kernel_rfl) (allc (C_vint_Put (⟨#[]⟩ : ByteArray) 300 y10 hy10) (allc (congrArg D.bool b11) (allc (C_vint_Zig (-3) y12 hy12) (allc (congrArg D.bool b13) (allc (congrArg D.bool b14) (allc (congrArg D.bool b15) all0)))))) (fun a w hs => ⟨(y2.2.2 == 0), h, hs⟩)
          · replace h := cond_f b15 h
            refine At.region_end [0] 0 _ (st' := ⟨[(0, bo false)], []⟩) (tips := [(0, { res := some (sv y10) }), (2, { orc := .val (.bool true) }), (3, { res := some (u64 y12) }), (6, { orc := .val (.bool true) }), (10, { orc := .val (.bool true) }), (14, { orc := .val (.bool false) })]) (by kernel_rfl) (allc (C_vint_Put (⟨#[]⟩ : ByteArray) 300 y10 hy10) (allc (congrArg D.bool b11) (allc (C_vint_Zig (-3) y12 hy12) (allc (congrArg D.bool b13) (allc (congrArg D.bool b14) (allc (congrArg D.bool b15) all0)))))) (fun a w hs => ⟨false, h, hs⟩)
        · replace h := cond_f b14 h
          refine At.region_end [0] 0 _ (st' := ⟨[(0, bo false)], []⟩) (tips := [(0, { res := some (sv y10) }), (2, { orc := .val (.bool true) }), (3, { res := some (u64 y12) }), (6, { orc := .val (.bool true) }), (10, { orc := .val (.bool false) })]) (by kernel_rfl) (allc (C_vint_Put (⟨#[]⟩ : ByteArray) 300 y10 hy10) (allc (congrArg D.bool b11) (allc (C_vint_Zig (-3) y12 hy12) (allc (congrArg D.bool b13) (allc (congrArg D.bool b14) all0))))) (fun a w hs => ⟨false, h, hs⟩)
      · replace h := cond_f b13 h
        refine At.region_end [0] 0 _ (st' := ⟨[(0, bo false)], []⟩) (tips := [(0, { res := some (sv y10) }), (2, { orc := .val (.bool true) }), (3, { res := some (u64 y12) }), (6, { orc := .val (.bool false) })]) (by kernel_rfl) (allc (C_vint_Put (⟨#[]⟩ : ByteArray) 300 y10 hy10) (allc (congrArg D.bool b11) (allc (C_vint_Zig (-3) y12 hy12) (allc (congrArg D.bool b13) all0)))) (fun a w hs => ⟨false, h, hs⟩)
    · replace h := cond_f b11 h
      refine At.region_end [0] 0 _ (st' := ⟨[(0, bo false)], []⟩) (tips := [(0, { res := some (sv y10) }), (2, { orc := .val (.bool false) })]) (by kernel_rfl) (allc (C_vint_Put (⟨#[]⟩ : ByteArray) 300 y10 hy10) (allc (congrArg D.bool b11) all0)) (fun a w hs => ⟨false, h, hs⟩)
  · intro x9 h
    replace h : F_retracelaw01_live_J1 x9 = some r := h
    rw [F_retracelaw01_live_J1] at h
    obtain rfl := some_eq h
    exact At.ret fun a w hs => ret_fin (settle := []) (obl := _) (by kernel_rfl) all0 a w hs _ (.inl rfl)
set_option maxRecDepth 100000 in
theorem C_retracelaw02_live  (r : Bool) (h : F_retracelaw02_live  = some r) : DCall Try.prog 11 [] (bo r) := by
  rw [F_retracelaw02_live] at h
  refine DCall.intro Try.func11 rfl (by kernel_rfl) fun w0 hz0 => ?_
  refine At.seq ?_
  refine At.region_end [] 0 _ (st' := ⟨[], []⟩) (tips := []) (by kernel_rfl) all0 (norm ?_)
  refine At.seq ?_
  obtain ⟨y3, hy3, h⟩ := bind_some h
  obtain ⟨y4, hy4, h⟩ := bind_some h
  refine At.region_end [1, 2] 0 _ (st' := ⟨[(1, sv y4.1), (2, i64 y4.2)], []⟩) (tips := [(0, { res := some (sv y3) }), (1, { res := some (.tup [sv y4.1, i64 y4.2]) })]) (by kernel_rfl) (allc (C_crc_Seal (⟨#[97, 98]⟩ : ByteArray) y3 hy3) (allc (C_crc_Open y3 y4 hy4) all0)) (norm ?_)
  refine At.seq ?_
  obtain ⟨y6, hy6, h⟩ := bind_some h
  refine At.region_end [1, 2, 4] 0 _ (st' := ⟨[(1, sv y4.1), (2, i64 y4.2), (4, i64 y6.2)], []⟩) (tips := [(0, { res := some (.tup [sv y6.1, i64 y6.2]) })]) (by kernel_rfl) (allc (C_crc_Open (⟨#[97, 98, 99, 100]⟩ : ByteArray) y6 hy6) all0) (norm ?_)
  refine At.seqJ (S := Bool) (fun s => ⟨[(0, bo s)], []⟩) (fun s => F_retracelaw02_live_J1 s = some r) ?_ ?_
  · obtain ⟨y12, hy12, h⟩ := bind_some h
    rcases tf (y12 == 3421780262) with b13 | b13
    · replace h := cond_t b13 h
      rcases tf (y4.1.toList == (⟨#[97, 98]⟩ : ByteArray).toList) with b14 | b14
      · replace h := cond_t b14 h
        rcases tf (y4.2 == 0) with b15 | b15
        · replace h := cond_t b15 h
          refine At.region_end [0] 0 _ (st' := ⟨[(0, bo (y6.2 == 4))], []⟩) (tips := [(0, { res := some (u32 y12) }), (2, { orc := .val (.bool true) }), (6, { orc := .val (.bool true) }), (10, { orc := .val (.bool true) })]) (by kernel_rfl) (allc (C_crc_Sum (⟨#[49, 50, 51, 52, 53, 54, 55, 56, 57]⟩ : ByteArray) y12 hy12) (allc (congrArg D.bool b13) (allc (congrArg D.bool b14) (allc (congrArg D.bool b15) all0)))) (fun a w hs => ⟨(y6.2 == 4), h, hs⟩)
        · replace h := cond_f b15 h
          refine At.region_end [0] 0 _ (st' := ⟨[(0, bo false)], []⟩) (tips := [(0, { res := some (u32 y12) }), (2, { orc := .val (.bool true) }), (6, { orc := .val (.bool true) }), (10, { orc := .val (.bool false) })]) (by kernel_rfl) (allc (C_crc_Sum (⟨#[49, 50, 51, 52, 53, 54, 55, 56, 57]⟩ : ByteArray) y12 hy12) (allc (congrArg D.bool b13) (allc (congrArg D.bool b14) (allc (congrArg D.bool b15) all0)))) (fun a w hs => ⟨false, h, hs⟩)
      · replace h := cond_f b14 h
        refine At.region_end [0] 0 _ (st' := ⟨[(0, bo false)], []⟩) (tips := [(0, { res := some (u32 y12) }), (2, { orc := .val (.bool true) }), (6, { orc := .val (.bool false) })]) (by kernel_rfl) (allc (C_crc_Sum (⟨#[49, 50, 51, 52, 53, 54, 55, 56, 57]⟩ : ByteArray) y12 hy12) (allc (congrArg D.bool b13) (allc (congrArg D.bool b14) all0))) (fun a w hs => ⟨false, h, hs⟩)
    · replace h := cond_f b13 h
      refine At.region_end [0] 0 _ (st' := ⟨[(0, bo false)], []⟩) (tips := [(0, { res := some (u32 y12) }), (2, { orc := .val (.bool false) })]) (by kernel_rfl) (allc (C_crc_Sum (⟨#[49, 50, 51, 52, 53, 54, 55, 56, 57]⟩ : ByteArray) y12 hy12) (allc (congrArg D.bool b13) all0)) (fun a w hs => ⟨false, h, hs⟩)
  · intro x11 h
    replace h : F_retracelaw02_live_J1 x11 = some r := h
    rw [F_retracelaw02_live_J1] at h
    obtain rfl := some_eq h
    exact At.ret fun a w hs => ret_fin (settle := []) (obl := _) (by kernel_rfl) all0 a w hs _ (.inl rfl)
set_option maxRecDepth 100000 in
theorem C_retracelaw02_CrcTells (p0 : Int) (p1 : ByteArray) (r : Bool) (h : F_retracelaw02_CrcTells p0 p1 = some r) : DCall Try.prog 3 [u32 p0, sv p1] (bo r) := by
  rw [F_retracelaw02_CrcTells] at h
  refine DCall.intro Try.func3 rfl (by kernel_rfl) fun w0 hz0 => ?_
  refine At.seq ?_
  refine At.region_end [0, 1] 0 _ (st' := ⟨[(0, u32 p0), (1, sv p1)], []⟩) (tips := []) (by kernel_rfl) all0 (norm ?_)
  refine At.seq ?_
  refine At.seq ?_
  refine At.region_end [0, 1, 7] 0 _ (st' := ⟨[(0, u32 p0), (1, sv p1), (7, bo (decide (500 < (p1.size : Int))))], []⟩) (tips := []) (by kernel_rfl) all0 (norm ?_)
  refine At.cond (decide (500 < (p1.size : Int))) (by kernel_rfl) (fun b4 => ?_) (fun b4 => ?_)
  · replace h := cond_t b4 h
    refine At.seq ?_
    obtain ⟨y6, hy6, h⟩ := bind_some h
    refine At.region_end [4] 0 _ (st' := ⟨[(4, bo y6)], []⟩) (tips := [(0, { res := some (bo y6) })]) (by kernel_rfl) (allc (C_retracelaw02_live  y6 hy6) all0) (norm ?_)
    obtain rfl := some_eq h
    exact At.ret fun a w hs => ret_fin (settle := []) (obl := _) (by kernel_rfl) all0 a w hs _ (.inl rfl)
  · replace h := cond_f b4 h
    refine At.nar [0, 1] 0 (st' := ⟨[(0, u32 p0), (1, sv p1)], []⟩) (by kernel_rfl) ?_
    refine At.skip (norm ?_)
    refine At.seqJ (S := Bool) (fun s => ⟨[(4, bo s)], []⟩) (fun s => F_retracelaw02_CrcTells_J1 s = some r) ?_ ?_
    · obtain ⟨y23, hy23, h⟩ := bind_some h
      obtain ⟨y24, hy24, h⟩ := bind_some h
      rcases tf (y23 == y24) with b25 | b25
      · replace h := cond_t b25 h
        obtain ⟨y26, hy26, h⟩ := bind_some h
        obtain ⟨y27, hy27, h⟩ := bind_some h
        rcases tf (y26 == y27) with b28 | b28
        · replace h := cond_t b28 h
          obtain ⟨y29, hy29, h⟩ := bind_some h
          obtain ⟨y30, hy30, h⟩ := bind_some h
          rcases tf (y29.toList == y30.toList) with b31 | b31
          · replace h := cond_t b31 h
            obtain ⟨y32, hy32, h⟩ := bind_some h
            obtain ⟨y33, hy33, h⟩ := bind_some h
            obtain ⟨y34, hy34, h⟩ := bind_some h
            obtain ⟨g35, h⟩ := grd_some h
            rcases tf (y32.toList == (p1 ++ y34).toList) with b36 | b36
            · replace h := cond_t b36 h
              obtain ⟨y37, hy37, h⟩ := bind_some h
              refine At.region_end [4] 0 _ (st' := ⟨[(4, bo y37)], []⟩) (tips := [(1, { res := some (u32 y23) }), (3, { res := some (u32 y24) }), (5, { orc := .val (.bool true) }), (8, { res := some (u32 y26) }), (11, { res := some (u32 y27) }), (14, { orc := .val (.bool true) }), (16, { res := some (sv y29) }), (18, { res := some (sv y30) }), (21, { orc := .val (.bool true) }), (23, { res := some (sv y32) }), (26, { res := some (u32 y33) }), (27, { res := some (sv y34) }), (31, { orc := .val (.bool true) }), (32, { res := some (bo y37) })]) (by kernel_rfl) (allc (C_crc_Sum p1 y23 hy23) (allc (C_retraceref02_Sum p1 y24 hy24) (allc (congrArg D.bool b25) (allc (C_crc_More p0 p1 y26 hy26) (allc (C_retraceref02_More p0 p1 y27 hy27) (allc (congrArg D.bool b28) (allc (C_crc_Bytes p0 y29 hy29) (allc (C_retraceref02_Bytes p0 y30 hy30) (allc (congrArg D.bool b31) (allc (C_crc_Seal p1 y32 hy32) (allc (C_retraceref02_Sum p1 y33 hy33) (allc (C_retraceref02_Bytes y33 y34 hy34) (allc g35 (allc (congrArg D.bool b36) (allc (C_retracelaw02_live  y37 hy37) all0))))))))))))))) (fun a w hs => ⟨y37, h, hs⟩)
            · replace h := cond_f b36 h
              refine At.region_end [4] 0 _ (st' := ⟨[(4, bo false)], []⟩) (tips := [(1, { res := some (u32 y23) }), (3, { res := some (u32 y24) }), (5, { orc := .val (.bool true) }), (8, { res := some (u32 y26) }), (11, { res := some (u32 y27) }), (14, { orc := .val (.bool true) }), (16, { res := some (sv y29) }), (18, { res := some (sv y30) }), (21, { orc := .val (.bool true) }), (23, { res := some (sv y32) }), (26, { res := some (u32 y33) }), (27, { res := some (sv y34) }), (31, { orc := .val (.bool false) })]) (by kernel_rfl) (allc (C_crc_Sum p1 y23 hy23) (allc (C_retraceref02_Sum p1 y24 hy24) (allc (congrArg D.bool b25) (allc (C_crc_More p0 p1 y26 hy26) (allc (C_retraceref02_More p0 p1 y27 hy27) (allc (congrArg D.bool b28) (allc (C_crc_Bytes p0 y29 hy29) (allc (C_retraceref02_Bytes p0 y30 hy30) (allc (congrArg D.bool b31) (allc (C_crc_Seal p1 y32 hy32) (allc (C_retraceref02_Sum p1 y33 hy33) (allc (C_retraceref02_Bytes y33 y34 hy34) (allc g35 (allc (congrArg D.bool b36) all0)))))))))))))) (fun a w hs => ⟨false, h, hs⟩)
          · replace h := cond_f b31 h
            refine At.region_end [4] 0 _ (st' := ⟨[(4, bo false)], []⟩) (tips := [(1, { res := some (u32 y23) }), (3, { res := some (u32 y24) }), (5, { orc := .val (.bool true) }), (8, { res := some (u32 y26) }), (11, { res := some (u32 y27) }), (14, { orc := .val (.bool true) }), (16, { res := some (sv y29) }), (18, { res := some (sv y30) }), (21, { orc := .val (.bool false) })]) (by kernel_rfl) (allc (C_crc_Sum p1 y23 hy23) (allc (C_retraceref02_Sum p1 y24 hy24) (allc (congrArg D.bool b25) (allc (C_crc_More p0 p1 y26 hy26) (allc (C_retraceref02_More p0 p1 y27 hy27) (allc (congrArg D.bool b28) (allc (C_crc_Bytes p0 y29 hy29) (allc (C_retraceref02_Bytes p0 y30 hy30) (allc (congrArg D.bool b31) all0))))))))) (fun a w hs => ⟨false, h, hs⟩)
        · replace h := cond_f b28 h
          refine At.region_end [4] 0 _ (st' := ⟨[(4, bo false)], []⟩) (tips := [(1, { res := some (u32 y23) }), (3, { res := some (u32 y24) }), (5, { orc := .val (.bool true) }), (8, { res := some (u32 y26) }), (11, { res := some (u32 y27) }), (14, { orc := .val (.bool false) })]) (by kernel_rfl) (allc (C_crc_Sum p1 y23 hy23) (allc (C_retraceref02_Sum p1 y24 hy24) (allc (congrArg D.bool b25) (allc (C_crc_More p0 p1 y26 hy26) (allc (C_retraceref02_More p0 p1 y27 hy27) (allc (congrArg D.bool b28) all0)))))) (fun a w hs => ⟨false, h, hs⟩)
      · replace h := cond_f b25 h
        refine At.region_end [4] 0 _ (st' := ⟨[(4, bo false)], []⟩) (tips := [(1, { res := some (u32 y23) }), (3, { res := some (u32 y24) }), (5, { orc := .val (.bool false) })]) (by kernel_rfl) (allc (C_crc_Sum p1 y23 hy23) (allc (C_retraceref02_Sum p1 y24 hy24) (allc (congrArg D.bool b25) all0))) (fun a w hs => ⟨false, h, hs⟩)
    · intro x22 h
      replace h : F_retracelaw02_CrcTells_J1 x22 = some r := h
      rw [F_retracelaw02_CrcTells_J1] at h
      obtain rfl := some_eq h
      exact At.ret fun a w hs => ret_fin (settle := []) (obl := _) (by kernel_rfl) all0 a w hs _ (.inl rfl)
set_option maxRecDepth 100000 in
theorem C_retracelaw02_CrcGoes (p0 : ByteArray) (p1 : ByteArray) (r : Bool) (h : F_retracelaw02_CrcGoes p0 p1 = some r) : DCall Try.prog 4 [sv p0, sv p1] (bo r) := by
  rw [F_retracelaw02_CrcGoes] at h
  refine DCall.intro Try.func4 rfl (by kernel_rfl) fun w0 hz0 => ?_
  refine At.seq ?_
  refine At.region_end [0, 1] 0 _ (st' := ⟨[(0, sv p0), (1, sv p1)], []⟩) (tips := []) (by kernel_rfl) all0 (norm ?_)
  refine At.seq ?_
  refine At.seqJ (S := Bool) (fun s => ⟨[(0, sv p0), (1, sv p1), (12, bo s)], []⟩) (fun s => F_retracelaw02_CrcGoes_J1 p0 p1 s = some r) ?_ ?_
  · rcases tf (decide (300 < (p0.size : Int))) with b39 | b39
    · replace h := cond_t b39 h
      refine At.region_end [0, 1, 12] 0 _ (st' := ⟨[(0, sv p0), (1, sv p1), (12, bo true)], []⟩) (tips := [(3, { orc := .val (.bool true) })]) (by kernel_rfl) (allc (congrArg D.bool b39) all0) (fun a w hs => ⟨true, h, hs⟩)
    · replace h := cond_f b39 h
      refine At.region_end [0, 1, 12] 0 _ (st' := ⟨[(0, sv p0), (1, sv p1), (12, bo (decide (300 < (p1.size : Int))))], []⟩) (tips := [(3, { orc := .val (.bool false) })]) (by kernel_rfl) (allc (congrArg D.bool b39) all0) (fun a w hs => ⟨(decide (300 < (p1.size : Int))), h, hs⟩)
  · intro x8 h
    replace h : F_retracelaw02_CrcGoes_J1 p0 p1 x8 = some r := h
    rw [F_retracelaw02_CrcGoes_J1] at h
    refine At.cond x8 (by kernel_rfl) (fun b9 => ?_) (fun b9 => ?_)
    · replace h := cond_t b9 h
      refine At.seq ?_
      obtain ⟨y11, hy11, h⟩ := bind_some h
      refine At.region_end [4] 0 _ (st' := ⟨[(4, bo y11)], []⟩) (tips := [(0, { res := some (bo y11) })]) (by kernel_rfl) (allc (C_retracelaw02_live  y11 hy11) all0) (norm ?_)
      obtain rfl := some_eq h
      exact At.ret fun a w hs => ret_fin (settle := []) (obl := _) (by kernel_rfl) all0 a w hs _ (.inl rfl)
    · replace h := cond_f b9 h
      refine At.nar [0, 1] 0 (st' := ⟨[(0, sv p0), (1, sv p1)], []⟩) (by kernel_rfl) ?_
      refine At.skip (norm ?_)
      refine At.seqJ (S := Bool) (fun s => ⟨[(4, bo s)], []⟩) (fun s => F_retracelaw02_CrcGoes_J2 s = some r) ?_ ?_
      · obtain ⟨y26, hy26, h⟩ := bind_some h
        obtain ⟨y27, hy27, h⟩ := bind_some h
        obtain ⟨g28, h⟩ := grd_some h
        obtain ⟨y29, hy29, h⟩ := bind_some h
        rcases tf (y27 == y29) with b30 | b30
        · replace h := cond_t b30 h
          obtain ⟨y31, hy31, h⟩ := bind_some h
          obtain ⟨y32, hy32, h⟩ := bind_some h
          rcases tf (y31 == y32) with b33 | b33
          · replace h := cond_t b33 h
            obtain ⟨y34, hy34, h⟩ := bind_some h
            obtain ⟨y35, hy35, h⟩ := bind_some h
            obtain ⟨y36, hy36, h⟩ := bind_some h
            rcases tf (y35 == y36) with b37 | b37
            · replace h := cond_t b37 h
              obtain ⟨y38, hy38, h⟩ := bind_some h
              refine At.region_end [4] 0 _ (st' := ⟨[(4, bo y38)], []⟩) (tips := [(1, { res := some (u32 y26) }), (3, { res := some (u32 y27) }), (7, { res := some (u32 y29) }), (9, { orc := .val (.bool true) }), (11, { res := some (u32 y31) }), (13, { res := some (u32 y32) }), (16, { orc := .val (.bool true) }), (18, { res := some (u32 y34) }), (19, { res := some (u32 y35) }), (21, { res := some (u32 y36) }), (24, { orc := .val (.bool true) }), (25, { res := some (bo y38) })]) (by kernel_rfl) (allc (C_crc_Sum p0 y26 hy26) (allc (C_crc_More y26 p1 y27 hy27) (allc g28 (allc (C_crc_Sum (p0 ++ p1) y29 hy29) (allc (congrArg D.bool b30) (allc (C_crc_More 0 p0 y31 hy31) (allc (C_crc_Sum p0 y32 hy32) (allc (congrArg D.bool b33) (allc (C_crc_Sum p0 y34 hy34) (allc (C_crc_More y34 (⟨#[]⟩ : ByteArray) y35 hy35) (allc (C_crc_Sum p0 y36 hy36) (allc (congrArg D.bool b37) (allc (C_retracelaw02_live  y38 hy38) all0))))))))))))) (fun a w hs => ⟨y38, h, hs⟩)
            · replace h := cond_f b37 h
              refine At.region_end [4] 0 _ (st' := ⟨[(4, bo false)], []⟩) (tips := [(1, { res := some (u32 y26) }), (3, { res := some (u32 y27) }), (7, { res := some (u32 y29) }), (9, { orc := .val (.bool true) }), (11, { res := some (u32 y31) }), (13, { res := some (u32 y32) }), (16, { orc := .val (.bool true) }), (18, { res := some (u32 y34) }), (19, { res := some (u32 y35) }), (21, { res := some (u32 y36) }), (24, { orc := .val (.bool false) })]) (by kernel_rfl) (allc (C_crc_Sum p0 y26 hy26) (allc (C_crc_More y26 p1 y27 hy27) (allc g28 (allc (C_crc_Sum (p0 ++ p1) y29 hy29) (allc (congrArg D.bool b30) (allc (C_crc_More 0 p0 y31 hy31) (allc (C_crc_Sum p0 y32 hy32) (allc (congrArg D.bool b33) (allc (C_crc_Sum p0 y34 hy34) (allc (C_crc_More y34 (⟨#[]⟩ : ByteArray) y35 hy35) (allc (C_crc_Sum p0 y36 hy36) (allc (congrArg D.bool b37) all0)))))))))))) (fun a w hs => ⟨false, h, hs⟩)
          · replace h := cond_f b33 h
            refine At.region_end [4] 0 _ (st' := ⟨[(4, bo false)], []⟩) (tips := [(1, { res := some (u32 y26) }), (3, { res := some (u32 y27) }), (7, { res := some (u32 y29) }), (9, { orc := .val (.bool true) }), (11, { res := some (u32 y31) }), (13, { res := some (u32 y32) }), (16, { orc := .val (.bool false) })]) (by kernel_rfl) (allc (C_crc_Sum p0 y26 hy26) (allc (C_crc_More y26 p1 y27 hy27) (allc g28 (allc (C_crc_Sum (p0 ++ p1) y29 hy29) (allc (congrArg D.bool b30) (allc (C_crc_More 0 p0 y31 hy31) (allc (C_crc_Sum p0 y32 hy32) (allc (congrArg D.bool b33) all0)))))))) (fun a w hs => ⟨false, h, hs⟩)
        · replace h := cond_f b30 h
          refine At.region_end [4] 0 _ (st' := ⟨[(4, bo false)], []⟩) (tips := [(1, { res := some (u32 y26) }), (3, { res := some (u32 y27) }), (7, { res := some (u32 y29) }), (9, { orc := .val (.bool false) })]) (by kernel_rfl) (allc (C_crc_Sum p0 y26 hy26) (allc (C_crc_More y26 p1 y27 hy27) (allc g28 (allc (C_crc_Sum (p0 ++ p1) y29 hy29) (allc (congrArg D.bool b30) all0))))) (fun a w hs => ⟨false, h, hs⟩)
      · intro x25 h
        replace h : F_retracelaw02_CrcGoes_J2 x25 = some r := h
        rw [F_retracelaw02_CrcGoes_J2] at h
        obtain rfl := some_eq h
        exact At.ret fun a w hs => ret_fin (settle := []) (obl := _) (by kernel_rfl) all0 a w hs _ (.inl rfl)
set_option maxRecDepth 100000 in
theorem C_retracelaw02_CrcOpens (p0 : ByteArray) (r : Bool) (h : F_retracelaw02_CrcOpens p0 = some r) : DCall Try.prog 5 [sv p0] (bo r) := by
  rw [F_retracelaw02_CrcOpens] at h
  refine DCall.intro Try.func5 rfl (by kernel_rfl) fun w0 hz0 => ?_
  refine At.seq ?_
  refine At.region_end [0] 0 _ (st' := ⟨[(0, sv p0)], []⟩) (tips := []) (by kernel_rfl) all0 (norm ?_)
  refine At.seq ?_
  refine At.seq ?_
  refine At.region_end [0, 8] 0 _ (st' := ⟨[(0, sv p0), (8, bo (decide (300 < (p0.size : Int))))], []⟩) (tips := []) (by kernel_rfl) all0 (norm ?_)
  refine At.cond (decide (300 < (p0.size : Int))) (by kernel_rfl) (fun b4 => ?_) (fun b4 => ?_)
  · replace h := cond_t b4 h
    refine At.seq ?_
    obtain ⟨y6, hy6, h⟩ := bind_some h
    refine At.region_end [2] 0 _ (st' := ⟨[(2, bo y6)], []⟩) (tips := [(0, { res := some (bo y6) })]) (by kernel_rfl) (allc (C_retracelaw02_live  y6 hy6) all0) (norm ?_)
    obtain rfl := some_eq h
    exact At.ret fun a w hs => ret_fin (settle := []) (obl := _) (by kernel_rfl) all0 a w hs _ (.inl rfl)
  · replace h := cond_f b4 h
    refine At.nar [0] 0 (st' := ⟨[(0, sv p0)], []⟩) (by kernel_rfl) ?_
    refine At.skip (norm ?_)
    refine At.seq ?_
    obtain ⟨y8, hy8, h⟩ := bind_some h
    refine At.region_end [0, 3, 4] 0 _ (st' := ⟨[(0, sv p0), (3, sv y8.1), (4, i64 y8.2)], []⟩) (tips := [(1, { res := some (.tup [sv y8.1, i64 y8.2]) })]) (by kernel_rfl) (allc (C_crc_Open p0 y8 hy8) all0) (norm ?_)
    refine At.seq ?_
    refine At.region_end [0, 3, 4, 5] 0 _ (st' := ⟨[(0, sv p0), (3, sv y8.1), (4, i64 y8.2), (5, i64 (w64 ((p0.size : Int) - 4)))], []⟩) (tips := []) (by kernel_rfl) all0 (norm ?_)
    refine At.seq ?_
    refine At.seq ?_
    refine At.region_end [0, 3, 4, 5, 19] 0 _ (st' := ⟨[(0, sv p0), (3, sv y8.1), (4, i64 y8.2), (5, i64 (w64 ((p0.size : Int) - 4))), (19, bo (decide ((w64 ((p0.size : Int) - 4)) < 0)))], []⟩) (tips := []) (by kernel_rfl) all0 (norm ?_)
    refine At.cond (decide ((w64 ((p0.size : Int) - 4)) < 0)) (by kernel_rfl) (fun b17 => ?_) (fun b17 => ?_)
    · replace h := cond_t b17 h
      refine At.seqJ (S := Bool) (fun s => ⟨[(2, bo s)], []⟩) (fun s => F_retracelaw02_CrcOpens_J1 s = some r) ?_ ?_
      · rcases tf (y8.1.toList == (⟨#[]⟩ : ByteArray).toList) with b22 | b22
        · replace h := cond_t b22 h
          rcases tf (y8.2 == 2) with b23 | b23
          · replace h := cond_t b23 h
            obtain ⟨y24, hy24, h⟩ := bind_some h
            refine At.region_end [2] 0 _ (st' := ⟨[(2, bo y24)], []⟩) (tips := [(2, { orc := .val (.bool true) }), (6, { orc := .val (.bool true) }), (7, { res := some (bo y24) })]) (by kernel_rfl) (allc (congrArg D.bool b22) (allc (congrArg D.bool b23) (allc (C_retracelaw02_live  y24 hy24) all0))) (fun a w hs => ⟨y24, h, hs⟩)
          · replace h := cond_f b23 h
            refine At.region_end [2] 0 _ (st' := ⟨[(2, bo false)], []⟩) (tips := [(2, { orc := .val (.bool true) }), (6, { orc := .val (.bool false) })]) (by kernel_rfl) (allc (congrArg D.bool b22) (allc (congrArg D.bool b23) all0)) (fun a w hs => ⟨false, h, hs⟩)
        · replace h := cond_f b22 h
          refine At.region_end [2] 0 _ (st' := ⟨[(2, bo false)], []⟩) (tips := [(2, { orc := .val (.bool false) })]) (by kernel_rfl) (allc (congrArg D.bool b22) all0) (fun a w hs => ⟨false, h, hs⟩)
      · intro x21 h
        replace h : F_retracelaw02_CrcOpens_J1 x21 = some r := h
        rw [F_retracelaw02_CrcOpens_J1] at h
        obtain rfl := some_eq h
        exact At.ret fun a w hs => ret_fin (settle := []) (obl := _) (by kernel_rfl) all0 a w hs _ (.inl rfl)
    · replace h := cond_f b17 h
      refine At.nar [0, 3, 4, 5] 0 (st' := ⟨[(0, sv p0), (3, sv y8.1), (4, i64 y8.2), (5, i64 (w64 ((p0.size : Int) - 4)))], []⟩) (by kernel_rfl) ?_
      refine At.skip (norm ?_)
      refine At.seq ?_
      refine At.seq ?_
      obtain ⟨g45, h⟩ := grd_some h
      obtain ⟨y46, hy46, h⟩ := bind_some h
      obtain ⟨y47, hy47, h⟩ := bind_some h
      obtain ⟨g48, h⟩ := grd_some h
      refine At.draw_end mixedOrd 0 [0, 3, 4, 5, 37] 0 _ (st' := ⟨[(0, sv p0), (3, sv y8.1), (4, i64 y8.2), (5, i64 (w64 ((p0.size : Int) - 4))), (37, bo (!(y47.toList == (p0.extract (Int.toNat (w64 ((p0.size : Int) - 4))) (Int.toNat (p0.size : Int))).toList)))], []⟩) (tips := [(3, { tip := { res := some (u32 y46) } }), (4, { tip := { res := some (sv y47) } })]) (by kernel_rfl) (allc g45 (allc (C_retraceref02_Sum (p0.extract (Int.toNat 0) (Int.toNat (w64 ((p0.size : Int) - 4)))) y46 hy46) (allc (C_retraceref02_Bytes y46 y47 hy47) (allc g48 all0)))) (norm ?_)
      refine At.cond (!(y47.toList == (p0.extract (Int.toNat (w64 ((p0.size : Int) - 4))) (Int.toNat (p0.size : Int))).toList)) (by kernel_rfl) (fun b49 => ?_) (fun b49 => ?_)
      · replace h := cond_t b49 h
        refine At.seqJ (S := Bool) (fun s => ⟨[(2, bo s)], []⟩) (fun s => F_retracelaw02_CrcOpens_J2 s = some r) ?_ ?_
        · rcases tf (y8.1.toList == (⟨#[]⟩ : ByteArray).toList) with b54 | b54
          · replace h := cond_t b54 h
            rcases tf (y8.2 == 4) with b55 | b55
            · replace h := cond_t b55 h
              obtain ⟨y56, hy56, h⟩ := bind_some h
              refine At.region_end [2] 0 _ (st' := ⟨[(2, bo y56)], []⟩) (tips := [(2, { orc := .val (.bool true) }), (6, { orc := .val (.bool true) }), (7, { res := some (bo y56) })]) (by kernel_rfl) (allc (congrArg D.bool b54) (allc (congrArg D.bool b55) (allc (C_retracelaw02_live  y56 hy56) all0))) (fun a w hs => ⟨y56, h, hs⟩)
            · replace h := cond_f b55 h
              refine At.region_end [2] 0 _ (st' := ⟨[(2, bo false)], []⟩) (tips := [(2, { orc := .val (.bool true) }), (6, { orc := .val (.bool false) })]) (by kernel_rfl) (allc (congrArg D.bool b54) (allc (congrArg D.bool b55) all0)) (fun a w hs => ⟨false, h, hs⟩)
          · replace h := cond_f b54 h
            refine At.region_end [2] 0 _ (st' := ⟨[(2, bo false)], []⟩) (tips := [(2, { orc := .val (.bool false) })]) (by kernel_rfl) (allc (congrArg D.bool b54) all0) (fun a w hs => ⟨false, h, hs⟩)
        · intro x53 h
          replace h : F_retracelaw02_CrcOpens_J2 x53 = some r := h
          rw [F_retracelaw02_CrcOpens_J2] at h
          obtain rfl := some_eq h
          exact At.ret fun a w hs => ret_fin (settle := []) (obl := _) (by kernel_rfl) all0 a w hs _ (.inl rfl)
      · replace h := cond_f b49 h
        refine At.nar [0, 3, 4, 5] 0 (st' := ⟨[(0, sv p0), (3, sv y8.1), (4, i64 y8.2), (5, i64 (w64 ((p0.size : Int) - 4)))], []⟩) (by kernel_rfl) ?_
        refine At.skip (norm ?_)
        refine At.seqJ (S := Bool) (fun s => ⟨[(2, bo s)], []⟩) (fun s => F_retracelaw02_CrcOpens_J3 s = some r) ?_ ?_
        · obtain ⟨g62, h⟩ := grd_some h
          rcases tf (y8.1.toList == (p0.extract (Int.toNat 0) (Int.toNat (w64 ((p0.size : Int) - 4)))).toList) with b63 | b63
          · replace h := cond_t b63 h
            rcases tf (y8.2 == 0) with b64 | b64
            · replace h := cond_t b64 h
              obtain ⟨y65, hy65, h⟩ := bind_some h
              refine At.region_end [2] 0 _ (st' := ⟨[(2, bo y65)], []⟩) (tips := [(5, { orc := .val (.bool true) }), (9, { orc := .val (.bool true) }), (10, { res := some (bo y65) })]) (by kernel_rfl) (allc g62 (allc (congrArg D.bool b63) (allc (congrArg D.bool b64) (allc (C_retracelaw02_live  y65 hy65) all0)))) (fun a w hs => ⟨y65, h, hs⟩)
            · replace h := cond_f b64 h
              refine At.region_end [2] 0 _ (st' := ⟨[(2, bo false)], []⟩) (tips := [(5, { orc := .val (.bool true) }), (9, { orc := .val (.bool false) })]) (by kernel_rfl) (allc g62 (allc (congrArg D.bool b63) (allc (congrArg D.bool b64) all0))) (fun a w hs => ⟨false, h, hs⟩)
          · replace h := cond_f b63 h
            refine At.region_end [2] 0 _ (st' := ⟨[(2, bo false)], []⟩) (tips := [(5, { orc := .val (.bool false) })]) (by kernel_rfl) (allc g62 (allc (congrArg D.bool b63) all0)) (fun a w hs => ⟨false, h, hs⟩)
        · intro x61 h
          replace h : F_retracelaw02_CrcOpens_J3 x61 = some r := h
          rw [F_retracelaw02_CrcOpens_J3] at h
          obtain rfl := some_eq h
          exact At.ret fun a w hs => ret_fin (settle := []) (obl := _) (by kernel_rfl) all0 a w hs _ (.inl rfl)
set_option maxRecDepth 100000 in
theorem C_retracelaw02_CrcFinds (p0 : ByteArray) (p1 : Int) (p2 : Int) (r : Bool) (h : F_retracelaw02_CrcFinds p0 p1 p2 = some r) : DCall Try.prog 6 [sv p0, i64 p1, u32 p2] (bo r) := by
  rw [F_retracelaw02_CrcFinds] at h
  refine DCall.intro Try.func6 rfl (by kernel_rfl) fun w0 hz0 => ?_
  refine At.seq ?_
  refine At.region_end [0, 1, 2] 0 _ (st' := ⟨[(0, sv p0), (1, i64 p1), (2, u32 p2)], []⟩) (tips := []) (by kernel_rfl) all0 (norm ?_)
  refine At.seq ?_
  refine At.seqJ (S := Bool) (fun s => ⟨[(0, sv p0), (1, i64 p1), (2, u32 p2), (26, bo s)], []⟩) (fun s => F_retracelaw02_CrcFinds_J1 p0 p1 p2 s = some r) ?_ ?_
  · rcases tf (decide (300 < (p0.size : Int))) with b34 | b34
    · replace h := cond_t b34 h
      refine At.region_end [0, 1, 2, 26] 0 _ (st' := ⟨[(0, sv p0), (1, i64 p1), (2, u32 p2), (26, bo true)], []⟩) (tips := [(3, { orc := .val (.bool true) })]) (by kernel_rfl) (allc (congrArg D.bool b34) all0) (fun a w hs => ⟨true, h, hs⟩)
    · replace h := cond_f b34 h
      rcases tf (decide (p1 < 0)) with b35 | b35
      · replace h := cond_t b35 h
        refine At.region_end [0, 1, 2, 26] 0 _ (st' := ⟨[(0, sv p0), (1, i64 p1), (2, u32 p2), (26, bo true)], []⟩) (tips := [(3, { orc := .val (.bool false) }), (7, { orc := .val (.bool true) })]) (by kernel_rfl) (allc (congrArg D.bool b34) (allc (congrArg D.bool b35) all0)) (fun a w hs => ⟨true, h, hs⟩)
      · replace h := cond_f b35 h
        refine At.region_end [0, 1, 2, 26] 0 _ (st' := ⟨[(0, sv p0), (1, i64 p1), (2, u32 p2), (26, bo (decide ((w64 ((w64 (8 * (p0.size : Int))) + 64)) < p1)))], []⟩) (tips := [(3, { orc := .val (.bool false) }), (7, { orc := .val (.bool false) })]) (by kernel_rfl) (allc (congrArg D.bool b34) (allc (congrArg D.bool b35) all0)) (fun a w hs => ⟨(decide ((w64 ((w64 (8 * (p0.size : Int))) + 64)) < p1)), h, hs⟩)
  · intro x11 h
    replace h : F_retracelaw02_CrcFinds_J1 p0 p1 p2 x11 = some r := h
    rw [F_retracelaw02_CrcFinds_J1] at h
    refine At.cond x11 (by kernel_rfl) (fun b12 => ?_) (fun b12 => ?_)
    · replace h := cond_t b12 h
      refine At.seq ?_
      obtain ⟨y14, hy14, h⟩ := bind_some h
      refine At.region_end [6] 0 _ (st' := ⟨[(6, bo y14)], []⟩) (tips := [(0, { res := some (bo y14) })]) (by kernel_rfl) (allc (C_retracelaw02_live  y14 hy14) all0) (norm ?_)
      obtain rfl := some_eq h
      exact At.ret fun a w hs => ret_fin (settle := []) (obl := _) (by kernel_rfl) all0 a w hs _ (.inl rfl)
    · replace h := cond_f b12 h
      refine At.nar [0, 1, 2] 0 (st' := ⟨[(0, sv p0), (1, i64 p1), (2, u32 p2)], []⟩) (by kernel_rfl) ?_
      refine At.skip (norm ?_)
      refine At.seq ?_
      obtain ⟨y16, hy16, h⟩ := bind_some h
      refine At.region_end [0, 1, 2, 7] 0 _ (st' := ⟨[(0, sv p0), (1, i64 p1), (2, u32 p2), (7, sv y16)], []⟩) (tips := [(3, { res := some (sv y16) })]) (by kernel_rfl) (allc (C_retraceref02_Turned p0 p1 p2 y16 hy16) all0) (norm ?_)
      refine At.seq ?_
      obtain ⟨y18, hy18, h⟩ := bind_some h
      refine At.region_end [0, 1, 2, 7, 8] 0 _ (st' := ⟨[(0, sv p0), (1, i64 p1), (2, u32 p2), (7, sv y16), (8, sv y18)], []⟩) (tips := [(1, { res := some (sv y18) })]) (by kernel_rfl) (allc (C_crc_Seal p0 y18 hy18) all0) (norm ?_)
      refine At.seq ?_
      obtain ⟨y20, hy20, h⟩ := bind_some h
      refine At.region_end [0, 7, 8, 9] 0 _ (st' := ⟨[(0, sv p0), (7, sv y16), (8, sv y18), (9, sv y20)], []⟩) (tips := [(3, { res := some (sv y20) })]) (by kernel_rfl) (allc (C_retraceref02_Turned y18 p1 p2 y20 hy20) all0) (norm ?_)
      refine At.seq ?_
      obtain ⟨y22, hy22, h⟩ := bind_some h
      refine At.region_end [0, 7, 8, 9, 11] 0 _ (st' := ⟨[(0, sv p0), (7, sv y16), (8, sv y18), (9, sv y20), (11, i64 y22.2)], []⟩) (tips := [(1, { res := some (.tup [sv y22.1, i64 y22.2]) })]) (by kernel_rfl) (allc (C_crc_Open y20 y22 hy22) all0) (norm ?_)
      refine At.seqJ (S := Bool) (fun s => ⟨[(6, bo s)], []⟩) (fun s => F_retracelaw02_CrcFinds_J2 s = some r) ?_ ?_
      · obtain ⟨y29, hy29, h⟩ := bind_some h
        obtain ⟨y30, hy30, h⟩ := bind_some h
        rcases tf ((y29 == y30) == (y16.toList == p0.toList)) with b31 | b31
        · replace h := cond_t b31 h
          rcases tf ((y22.2 == 0) == (y20.toList == y18.toList)) with b32 | b32
          · replace h := cond_t b32 h
            obtain ⟨y33, hy33, h⟩ := bind_some h
            refine At.region_end [6] 0 _ (st' := ⟨[(6, bo y33)], []⟩) (tips := [(1, { res := some (u32 y29) }), (3, { res := some (u32 y30) }), (9, { orc := .val (.bool true) }), (17, { orc := .val (.bool true) }), (18, { res := some (bo y33) })]) (by kernel_rfl) (allc (C_crc_Sum y16 y29 hy29) (allc (C_crc_Sum p0 y30 hy30) (allc (congrArg D.bool b31) (allc (congrArg D.bool b32) (allc (C_retracelaw02_live  y33 hy33) all0))))) (fun a w hs => ⟨y33, h, hs⟩)
          · replace h := cond_f b32 h
            refine At.region_end [6] 0 _ (st' := ⟨[(6, bo false)], []⟩) (tips := [(1, { res := some (u32 y29) }), (3, { res := some (u32 y30) }), (9, { orc := .val (.bool true) }), (17, { orc := .val (.bool false) })]) (by kernel_rfl) (allc (C_crc_Sum y16 y29 hy29) (allc (C_crc_Sum p0 y30 hy30) (allc (congrArg D.bool b31) (allc (congrArg D.bool b32) all0)))) (fun a w hs => ⟨false, h, hs⟩)
        · replace h := cond_f b31 h
          refine At.region_end [6] 0 _ (st' := ⟨[(6, bo false)], []⟩) (tips := [(1, { res := some (u32 y29) }), (3, { res := some (u32 y30) }), (9, { orc := .val (.bool false) })]) (by kernel_rfl) (allc (C_crc_Sum y16 y29 hy29) (allc (C_crc_Sum p0 y30 hy30) (allc (congrArg D.bool b31) all0))) (fun a w hs => ⟨false, h, hs⟩)
      · intro x28 h
        replace h : F_retracelaw02_CrcFinds_J2 x28 = some r := h
        rw [F_retracelaw02_CrcFinds_J2] at h
        obtain rfl := some_eq h
        exact At.ret fun a w hs => ret_fin (settle := []) (obl := _) (by kernel_rfl) all0 a w hs _ (.inl rfl)
set_option maxRecDepth 100000 in
theorem C_retracelaw01_VintBack (p0 : ByteArray) (p1 : Int) (p2 : ByteArray) (r : Bool) (h : F_retracelaw01_VintBack p0 p1 p2 = some r) : DCall Try.prog 7 [sv p0, u64 p1, sv p2] (bo r) := by
  rw [F_retracelaw01_VintBack] at h
  refine DCall.intro Try.func7 rfl (by kernel_rfl) fun w0 hz0 => ?_
  refine At.seq ?_
  refine At.region_end [0, 1, 2] 0 _ (st' := ⟨[(0, sv p0), (1, u64 p1), (2, sv p2)], []⟩) (tips := []) (by kernel_rfl) all0 (norm ?_)
  refine At.seq ?_
  refine At.seqJ (S := Bool) (fun s => ⟨[(0, sv p0), (1, u64 p1), (2, sv p2), (21, bo s)], []⟩) (fun s => F_retracelaw01_VintBack_J1 p0 p1 p2 s = some r) ?_ ?_
  · rcases tf (decide (500 < (p0.size : Int))) with b49 | b49
    · replace h := cond_t b49 h
      refine At.region_end [0, 1, 2, 21] 0 _ (st' := ⟨[(0, sv p0), (1, u64 p1), (2, sv p2), (21, bo true)], []⟩) (tips := [(3, { orc := .val (.bool true) })]) (by kernel_rfl) (allc (congrArg D.bool b49) all0) (fun a w hs => ⟨true, h, hs⟩)
    · replace h := cond_f b49 h
      refine At.region_end [0, 1, 2, 21] 0 _ (st' := ⟨[(0, sv p0), (1, u64 p1), (2, sv p2), (21, bo (decide (500 < (p2.size : Int))))], []⟩) (tips := [(3, { orc := .val (.bool false) })]) (by kernel_rfl) (allc (congrArg D.bool b49) all0) (fun a w hs => ⟨(decide (500 < (p2.size : Int))), h, hs⟩)
  · intro x8 h
    replace h : F_retracelaw01_VintBack_J1 p0 p1 p2 x8 = some r := h
    rw [F_retracelaw01_VintBack_J1] at h
    refine At.cond x8 (by kernel_rfl) (fun b9 => ?_) (fun b9 => ?_)
    · replace h := cond_t b9 h
      refine At.seq ?_
      obtain ⟨y11, hy11, h⟩ := bind_some h
      refine At.region_end [6] 0 _ (st' := ⟨[(6, bo y11)], []⟩) (tips := [(0, { res := some (bo y11) })]) (by kernel_rfl) (allc (C_retracelaw01_live  y11 hy11) all0) (norm ?_)
      obtain rfl := some_eq h
      exact At.ret fun a w hs => ret_fin (settle := []) (obl := _) (by kernel_rfl) all0 a w hs _ (.inl rfl)
    · replace h := cond_f b9 h
      refine At.nar [0, 1, 2] 0 (st' := ⟨[(0, sv p0), (1, u64 p1), (2, sv p2)], []⟩) (by kernel_rfl) ?_
      refine At.skip (norm ?_)
      refine At.seq ?_
      obtain ⟨y13, hy13, h⟩ := bind_some h
      refine At.region_end [0, 1, 2, 7] 0 _ (st' := ⟨[(0, sv p0), (1, u64 p1), (2, sv p2), (7, sv y13)], []⟩) (tips := [(2, { res := some (sv y13) })]) (by kernel_rfl) (allc (C_vint_Put p0 p1 y13 hy13) all0) (norm ?_)
      refine At.seq ?_
      obtain ⟨g16, h⟩ := grd_some h
      obtain ⟨y17, hy17, h⟩ := bind_some h
      refine At.region_end [1, 2, 7, 8, 9, 10] 0 _ (st' := ⟨[(1, u64 p1), (2, sv p2), (7, sv y13), (8, u64 y17.1), (9, i64 y17.2.1), (10, i64 y17.2.2)], []⟩) (tips := [(5, { res := some (.tup [u64 y17.1, i64 y17.2.1, i64 y17.2.2]) })]) (by kernel_rfl) (allc g16 (allc (C_vint_Get (y13 ++ p2) (p0.size : Int) y17 hy17) all0)) (norm ?_)
      refine At.seq ?_
      refine At.seqJ (S := Bool) (fun s => ⟨[(2, sv p2), (48, bo s)], []⟩) (fun s => F_retracelaw01_VintBack_J2 p2 s = some r) ?_ ?_
      · rcases tf (y17.2.2 != 0) with b47 | b47
        · replace h := cond_t b47 h
          refine At.region_end [2, 48] 0 _ (st' := ⟨[(2, sv p2), (48, bo true)], []⟩) (tips := [(2, { orc := .val (.bool true) })]) (by kernel_rfl) (allc (congrArg D.bool b47) all0) (fun a w hs => ⟨true, h, hs⟩)
        · replace h := cond_f b47 h
          rcases tf (y17.1 != p1) with b48 | b48
          · replace h := cond_t b48 h
            refine At.region_end [2, 48] 0 _ (st' := ⟨[(2, sv p2), (48, bo true)], []⟩) (tips := [(2, { orc := .val (.bool false) }), (7, { orc := .val (.bool true) })]) (by kernel_rfl) (allc (congrArg D.bool b47) (allc (congrArg D.bool b48) all0)) (fun a w hs => ⟨true, h, hs⟩)
          · replace h := cond_f b48 h
            refine At.region_end [2, 48] 0 _ (st' := ⟨[(2, sv p2), (48, bo (y17.2.1 != (y13.size : Int)))], []⟩) (tips := [(2, { orc := .val (.bool false) }), (7, { orc := .val (.bool false) })]) (by kernel_rfl) (allc (congrArg D.bool b47) (allc (congrArg D.bool b48) all0)) (fun a w hs => ⟨(y17.2.1 != (y13.size : Int)), h, hs⟩)
      · intro x26 h
        replace h : F_retracelaw01_VintBack_J2 p2 x26 = some r := h
        rw [F_retracelaw01_VintBack_J2] at h
        refine At.cond x26 (by kernel_rfl) (fun b27 => ?_) (fun b27 => ?_)
        · replace h := cond_t b27 h
          refine At.seq ?_
          refine At.region_end [6] 0 _ (st' := ⟨[(6, bo false)], []⟩) (tips := []) (by kernel_rfl) all0 (norm ?_)
          obtain rfl := some_eq h
          exact At.ret fun a w hs => ret_fin (settle := []) (obl := _) (by kernel_rfl) all0 a w hs _ (.inl rfl)
        · replace h := cond_f b27 h
          refine At.nar [2] 0 (st' := ⟨[(2, sv p2)], []⟩) (by kernel_rfl) ?_
          refine At.skip (norm ?_)
          refine At.seq ?_
          obtain ⟨y29, hy29, h⟩ := bind_some h
          refine At.region_end [2, 11, 12, 13] 0 _ (st' := ⟨[(2, sv p2), (11, u64 y29.1), (12, i64 y29.2.1), (13, i64 y29.2.2)], []⟩) (tips := [(1, { res := some (.tup [u64 y29.1, i64 y29.2.1, i64 y29.2.2]) })]) (by kernel_rfl) (allc (C_vint_Get p2 0 y29 hy29) all0) (norm ?_)
          refine At.seqJ (S := Bool) (fun s => ⟨[(6, bo s)], []⟩) (fun s => F_retracelaw01_VintBack_J3 s = some r) ?_ ?_
          · rcases tf (y29.2.2 != 0) with b39 | b39
            · replace h := cond_t b39 h
              obtain ⟨y40, hy40, h⟩ := bind_some h
              refine At.draw_end mixedOrd 0 [6] 0 _ (st' := ⟨[(6, bo y40)], []⟩) (tips := [(2, { tip := { orc := .val (.bool true) } }), (21, { tip := { res := some (bo y40) } })]) (by kernel_rfl) (allc (congrArg D.bool b39) (allc (C_retracelaw01_live  y40 hy40) all0)) (fun a w hs => ⟨y40, h, hs⟩)
            · replace h := cond_f b39 h
              rcases tf (decide (y29.2.1 ≤ (p2.size : Int))) with b41 | b41
              · replace h := cond_t b41 h
                rcases tf (decide (0 ≤ y29.2.1)) with b42 | b42
                · replace h := cond_t b42 h
                  obtain ⟨y43, hy43, h⟩ := bind_some h
                  obtain ⟨g44, h⟩ := grd_some h
                  rcases tf (y43.toList == (p2.extract (Int.toNat 0) (Int.toNat y29.2.1)).toList) with b45 | b45
                  · replace h := cond_t b45 h
                    obtain ⟨y46, hy46, h⟩ := bind_some h
                    refine At.draw_end mixedOrd 0 [6] 0 _ (st' := ⟨[(6, bo y46)], []⟩) (tips := [(2, { tip := { orc := .val (.bool false) } }), (7, { tip := { orc := .val (.bool true) } }), (11, { tip := { orc := .val (.bool true) } }), (13, { tip := { res := some (sv y43) } }), (20, { tip := { orc := .val (.bool true) } }), (21, { tip := { res := some (bo y46) } })]) (by kernel_rfl) (allc (congrArg D.bool b39) (allc (congrArg D.bool b41) (allc (congrArg D.bool b42) (allc (C_vint_Put (⟨#[]⟩ : ByteArray) y29.1 y43 hy43) (allc g44 (allc (congrArg D.bool b45) (allc (C_retracelaw01_live  y46 hy46) all0))))))) (fun a w hs => ⟨y46, h, hs⟩)
                  · replace h := cond_f b45 h
                    refine At.draw_end mixedOrd 0 [6] 0 _ (st' := ⟨[(6, bo false)], []⟩) (tips := [(2, { tip := { orc := .val (.bool false) } }), (7, { tip := { orc := .val (.bool true) } }), (11, { tip := { orc := .val (.bool true) } }), (13, { tip := { res := some (sv y43) } }), (20, { tip := { orc := .val (.bool false) } })]) (by kernel_rfl) (allc (congrArg D.bool b39) (allc (congrArg D.bool b41) (allc (congrArg D.bool b42) (allc (C_vint_Put (⟨#[]⟩ : ByteArray) y29.1 y43 hy43) (allc g44 (allc (congrArg D.bool b45) all0)))))) (fun a w hs => ⟨false, h, hs⟩)
                · replace h := cond_f b42 h
                  refine At.draw_end mixedOrd 0 [6] 0 _ (st' := ⟨[(6, bo false)], []⟩) (tips := [(2, { tip := { orc := .val (.bool false) } }), (7, { tip := { orc := .val (.bool true) } }), (11, { tip := { orc := .val (.bool false) } })]) (by kernel_rfl) (allc (congrArg D.bool b39) (allc (congrArg D.bool b41) (allc (congrArg D.bool b42) all0))) (fun a w hs => ⟨false, h, hs⟩)
              · replace h := cond_f b41 h
                refine At.draw_end mixedOrd 0 [6] 0 _ (st' := ⟨[(6, bo false)], []⟩) (tips := [(2, { tip := { orc := .val (.bool false) } }), (7, { tip := { orc := .val (.bool false) } })]) (by kernel_rfl) (allc (congrArg D.bool b39) (allc (congrArg D.bool b41) all0)) (fun a w hs => ⟨false, h, hs⟩)
          · intro x38 h
            replace h : F_retracelaw01_VintBack_J3 x38 = some r := h
            rw [F_retracelaw01_VintBack_J3] at h
            obtain rfl := some_eq h
            exact At.ret fun a w hs => ret_fin (settle := []) (obl := _) (by kernel_rfl) all0 a w hs _ (.inl rfl)
set_option maxRecDepth 100000 in
theorem C_retracelaw01_VintZigs (p0 : Int) (p1 : Int) (r : Bool) (h : F_retracelaw01_VintZigs p0 p1 = some r) : DCall Try.prog 8 [i64 p0, u64 p1] (bo r) := by
  rw [F_retracelaw01_VintZigs] at h
  refine DCall.intro Try.func8 rfl (by kernel_rfl) fun w0 hz0 => ?_
  refine At.seq ?_
  refine At.region_end [0, 1] 0 _ (st' := ⟨[(0, i64 p0), (1, u64 p1)], []⟩) (tips := []) (by kernel_rfl) all0 (norm ?_)
  refine At.seqJ (S := Bool) (fun s => ⟨[(4, bo s)], []⟩) (fun s => F_retracelaw01_VintZigs_J1 s = some r) ?_ ?_
  · obtain ⟨y15, hy15, h⟩ := bind_some h
    obtain ⟨y16, hy16, h⟩ := bind_some h
    rcases tf (y15 == y16) with b17 | b17
    · replace h := cond_t b17 h
      obtain ⟨y18, hy18, h⟩ := bind_some h
      obtain ⟨y19, hy19, h⟩ := bind_some h
      rcases tf (y18 == y19) with b20 | b20
      · replace h := cond_t b20 h
        obtain ⟨y21, hy21, h⟩ := bind_some h
        obtain ⟨y22, hy22, h⟩ := bind_some h
        rcases tf (y22 == p0) with b23 | b23
        · replace h := cond_t b23 h
          obtain ⟨y24, hy24, h⟩ := bind_some h
          obtain ⟨y25, hy25, h⟩ := bind_some h
          rcases tf (y25 == p1) with b26 | b26
          · replace h := cond_t b26 h
            obtain ⟨y27, hy27, h⟩ := bind_some h
            refine At.region_end [4] 0 _ (st' := ⟨[(4, bo y27)], []⟩) (tips := [(1, { res := some (u64 y15) }), (3, { res := some (u64 y16) }), (5, { orc := .val (.bool true) }), (7, { res := some (i64 y18) }), (9, { res := some (i64 y19) }), (12, { orc := .val (.bool true) }), (14, { res := some (u64 y21) }), (15, { res := some (i64 y22) }), (19, { orc := .val (.bool true) }), (21, { res := some (i64 y24) }), (22, { res := some (u64 y25) }), (26, { orc := .val (.bool true) }), (27, { res := some (bo y27) })]) (by kernel_rfl) (allc (C_vint_Zig p0 y15 hy15) (allc (C_retraceref01_Zig p0 y16 hy16) (allc (congrArg D.bool b17) (allc (C_vint_Zag p1 y18 hy18) (allc (C_retraceref01_Zag p1 y19 hy19) (allc (congrArg D.bool b20) (allc (C_vint_Zig p0 y21 hy21) (allc (C_vint_Zag y21 y22 hy22) (allc (congrArg D.bool b23) (allc (C_vint_Zag p1 y24 hy24) (allc (C_vint_Zig y24 y25 hy25) (allc (congrArg D.bool b26) (allc (C_retracelaw01_live  y27 hy27) all0))))))))))))) (fun a w hs => ⟨y27, h, hs⟩)
          · replace h := cond_f b26 h
            refine At.region_end [4] 0 _ (st' := ⟨[(4, bo false)], []⟩) (tips := [(1, { res := some (u64 y15) }), (3, { res := some (u64 y16) }), (5, { orc := .val (.bool true) }), (7, { res := some (i64 y18) }), (9, { res := some (i64 y19) }), (12, { orc := .val (.bool true) }), (14, { res := some (u64 y21) }), (15, { res := some (i64 y22) }), (19, { orc := .val (.bool true) }), (21, { res := some (i64 y24) }), (22, { res := some (u64 y25) }), (26, { orc := .val (.bool false) })]) (by kernel_rfl) (allc (C_vint_Zig p0 y15 hy15) (allc (C_retraceref01_Zig p0 y16 hy16) (allc (congrArg D.bool b17) (allc (C_vint_Zag p1 y18 hy18) (allc (C_retraceref01_Zag p1 y19 hy19) (allc (congrArg D.bool b20) (allc (C_vint_Zig p0 y21 hy21) (allc (C_vint_Zag y21 y22 hy22) (allc (congrArg D.bool b23) (allc (C_vint_Zag p1 y24 hy24) (allc (C_vint_Zig y24 y25 hy25) (allc (congrArg D.bool b26) all0)))))))))))) (fun a w hs => ⟨false, h, hs⟩)
        · replace h := cond_f b23 h
          refine At.region_end [4] 0 _ (st' := ⟨[(4, bo false)], []⟩) (tips := [(1, { res := some (u64 y15) }), (3, { res := some (u64 y16) }), (5, { orc := .val (.bool true) }), (7, { res := some (i64 y18) }), (9, { res := some (i64 y19) }), (12, { orc := .val (.bool true) }), (14, { res := some (u64 y21) }), (15, { res := some (i64 y22) }), (19, { orc := .val (.bool false) })]) (by kernel_rfl) (allc (C_vint_Zig p0 y15 hy15) (allc (C_retraceref01_Zig p0 y16 hy16) (allc (congrArg D.bool b17) (allc (C_vint_Zag p1 y18 hy18) (allc (C_retraceref01_Zag p1 y19 hy19) (allc (congrArg D.bool b20) (allc (C_vint_Zig p0 y21 hy21) (allc (C_vint_Zag y21 y22 hy22) (allc (congrArg D.bool b23) all0))))))))) (fun a w hs => ⟨false, h, hs⟩)
      · replace h := cond_f b20 h
        refine At.region_end [4] 0 _ (st' := ⟨[(4, bo false)], []⟩) (tips := [(1, { res := some (u64 y15) }), (3, { res := some (u64 y16) }), (5, { orc := .val (.bool true) }), (7, { res := some (i64 y18) }), (9, { res := some (i64 y19) }), (12, { orc := .val (.bool false) })]) (by kernel_rfl) (allc (C_vint_Zig p0 y15 hy15) (allc (C_retraceref01_Zig p0 y16 hy16) (allc (congrArg D.bool b17) (allc (C_vint_Zag p1 y18 hy18) (allc (C_retraceref01_Zag p1 y19 hy19) (allc (congrArg D.bool b20) all0)))))) (fun a w hs => ⟨false, h, hs⟩)
    · replace h := cond_f b17 h
      refine At.region_end [4] 0 _ (st' := ⟨[(4, bo false)], []⟩) (tips := [(1, { res := some (u64 y15) }), (3, { res := some (u64 y16) }), (5, { orc := .val (.bool false) })]) (by kernel_rfl) (allc (C_vint_Zig p0 y15 hy15) (allc (C_retraceref01_Zig p0 y16 hy16) (allc (congrArg D.bool b17) all0))) (fun a w hs => ⟨false, h, hs⟩)
  · intro x14 h
    replace h : F_retracelaw01_VintZigs_J1 x14 = some r := h
    rw [F_retracelaw01_VintZigs_J1] at h
    obtain rfl := some_eq h
    exact At.ret fun a w hs => ret_fin (settle := []) (obl := _) (by kernel_rfl) all0 a w hs _ (.inl rfl)
set_option maxRecDepth 100000 in
theorem C_retracelaw01_VintPuts (p0 : ByteArray) (p1 : Int) (p2 : Int) (r : Bool) (h : F_retracelaw01_VintPuts p0 p1 p2 = some r) : DCall Try.prog 9 [sv p0, u64 p1, i64 p2] (bo r) := by
  rw [F_retracelaw01_VintPuts] at h
  refine DCall.intro Try.func9 rfl (by kernel_rfl) fun w0 hz0 => ?_
  refine At.seq ?_
  refine At.region_end [0, 1, 2] 0 _ (st' := ⟨[(0, sv p0), (1, u64 p1), (2, i64 p2)], []⟩) (tips := []) (by kernel_rfl) all0 (norm ?_)
  refine At.seq ?_
  refine At.seq ?_
  refine At.region_end [0, 1, 2, 9] 0 _ (st' := ⟨[(0, sv p0), (1, u64 p1), (2, i64 p2), (9, bo (decide (1000 < (p0.size : Int))))], []⟩) (tips := []) (by kernel_rfl) all0 (norm ?_)
  refine At.cond (decide (1000 < (p0.size : Int))) (by kernel_rfl) (fun b4 => ?_) (fun b4 => ?_)
  · replace h := cond_t b4 h
    refine At.seq ?_
    obtain ⟨y6, hy6, h⟩ := bind_some h
    refine At.region_end [6] 0 _ (st' := ⟨[(6, bo y6)], []⟩) (tips := [(0, { res := some (bo y6) })]) (by kernel_rfl) (allc (C_retracelaw01_live  y6 hy6) all0) (norm ?_)
    obtain rfl := some_eq h
    exact At.ret fun a w hs => ret_fin (settle := []) (obl := _) (by kernel_rfl) all0 a w hs _ (.inl rfl)
  · replace h := cond_f b4 h
    refine At.nar [0, 1, 2] 0 (st' := ⟨[(0, sv p0), (1, u64 p1), (2, i64 p2)], []⟩) (by kernel_rfl) ?_
    refine At.skip (norm ?_)
    refine At.seqJ (S := Bool) (fun s => ⟨[(6, bo s)], []⟩) (fun s => F_retracelaw01_VintPuts_J1 s = some r) ?_ ?_
    · obtain ⟨y21, hy21, h⟩ := bind_some h
      obtain ⟨y22, hy22, h⟩ := bind_some h
      obtain ⟨g23, h⟩ := grd_some h
      rcases tf (y21.toList == (p0 ++ y22).toList) with b24 | b24
      · replace h := cond_t b24 h
        obtain ⟨y25, hy25, h⟩ := bind_some h
        obtain ⟨y26, hy26, h⟩ := bind_some h
        rcases tf (y25 == (y26.size : Int)) with b27 | b27
        · replace h := cond_t b27 h
          obtain ⟨y28, hy28, h⟩ := bind_some h
          obtain ⟨y29, hy29, h⟩ := bind_some h
          obtain ⟨y30, hy30, h⟩ := bind_some h
          obtain ⟨g31, h⟩ := grd_some h
          rcases tf (y28.toList == (p0 ++ y30).toList) with b32 | b32
          · replace h := cond_t b32 h
            obtain ⟨y33, hy33, h⟩ := bind_some h
            refine At.region_end [6] 0 _ (st' := ⟨[(6, bo y33)], []⟩) (tips := [(2, { res := some (sv y21) }), (5, { res := some (sv y22) }), (8, { orc := .val (.bool true) }), (10, { res := some (i64 y25) }), (12, { res := some (sv y26) }), (16, { orc := .val (.bool true) }), (19, { res := some (sv y28) }), (22, { res := some (u64 y29) }), (23, { res := some (sv y30) }), (27, { orc := .val (.bool true) }), (28, { res := some (bo y33) })]) (by kernel_rfl) (allc (C_vint_Put p0 p1 y21 hy21) (allc (C_retraceref01_Num p1 y22 hy22) (allc g23 (allc (congrArg D.bool b24) (allc (C_vint_Size p1 y25 hy25) (allc (C_retraceref01_Num p1 y26 hy26) (allc (congrArg D.bool b27) (allc (C_vint_PutInt p0 p2 y28 hy28) (allc (C_retraceref01_Zig p2 y29 hy29) (allc (C_retraceref01_Num y29 y30 hy30) (allc g31 (allc (congrArg D.bool b32) (allc (C_retracelaw01_live  y33 hy33) all0))))))))))))) (fun a w hs => ⟨y33, h, hs⟩)
          · replace h := cond_f b32 h
            refine At.region_end [6] 0 _ (st' := ⟨[(6, bo false)], []⟩) (tips := [(2, { res := some (sv y21) }), (5, { res := some (sv y22) }), (8, { orc := .val (.bool true) }), (10, { res := some (i64 y25) }), (12, { res := some (sv y26) }), (16, { orc := .val (.bool true) }), (19, { res := some (sv y28) }), (22, { res := some (u64 y29) }), (23, { res := some (sv y30) }), (27, { orc := .val (.bool false) })]) (by kernel_rfl) (allc (C_vint_Put p0 p1 y21 hy21) (allc (C_retraceref01_Num p1 y22 hy22) (allc g23 (allc (congrArg D.bool b24) (allc (C_vint_Size p1 y25 hy25) (allc (C_retraceref01_Num p1 y26 hy26) (allc (congrArg D.bool b27) (allc (C_vint_PutInt p0 p2 y28 hy28) (allc (C_retraceref01_Zig p2 y29 hy29) (allc (C_retraceref01_Num y29 y30 hy30) (allc g31 (allc (congrArg D.bool b32) all0)))))))))))) (fun a w hs => ⟨false, h, hs⟩)
        · replace h := cond_f b27 h
          refine At.region_end [6] 0 _ (st' := ⟨[(6, bo false)], []⟩) (tips := [(2, { res := some (sv y21) }), (5, { res := some (sv y22) }), (8, { orc := .val (.bool true) }), (10, { res := some (i64 y25) }), (12, { res := some (sv y26) }), (16, { orc := .val (.bool false) })]) (by kernel_rfl) (allc (C_vint_Put p0 p1 y21 hy21) (allc (C_retraceref01_Num p1 y22 hy22) (allc g23 (allc (congrArg D.bool b24) (allc (C_vint_Size p1 y25 hy25) (allc (C_retraceref01_Num p1 y26 hy26) (allc (congrArg D.bool b27) all0))))))) (fun a w hs => ⟨false, h, hs⟩)
      · replace h := cond_f b24 h
        refine At.region_end [6] 0 _ (st' := ⟨[(6, bo false)], []⟩) (tips := [(2, { res := some (sv y21) }), (5, { res := some (sv y22) }), (8, { orc := .val (.bool false) })]) (by kernel_rfl) (allc (C_vint_Put p0 p1 y21 hy21) (allc (C_retraceref01_Num p1 y22 hy22) (allc g23 (allc (congrArg D.bool b24) all0)))) (fun a w hs => ⟨false, h, hs⟩)
    · intro x20 h
      replace h : F_retracelaw01_VintPuts_J1 x20 = some r := h
      rw [F_retracelaw01_VintPuts_J1] at h
      obtain rfl := some_eq h
      exact At.ret fun a w hs => ret_fin (settle := []) (obl := _) (by kernel_rfl) all0 a w hs _ (.inl rfl)
set_option maxRecDepth 100000 in
theorem C_retracelaw01_VintGets (p0 : ByteArray) (p1 : Int) (r : Bool) (h : F_retracelaw01_VintGets p0 p1 = some r) : DCall Try.prog 10 [sv p0, i64 p1] (bo r) := by
  rw [F_retracelaw01_VintGets] at h
  refine DCall.intro Try.func10 rfl (by kernel_rfl) fun w0 hz0 => ?_
  refine At.seq ?_
  refine At.region_end [0, 1] 0 _ (st' := ⟨[(0, sv p0), (1, i64 p1)], []⟩) (tips := []) (by kernel_rfl) all0 (norm ?_)
  refine At.seq ?_
  refine At.seq ?_
  refine At.region_end [0, 1, 14] 0 _ (st' := ⟨[(0, sv p0), (1, i64 p1), (14, bo (decide (1000 < (p0.size : Int))))], []⟩) (tips := []) (by kernel_rfl) all0 (norm ?_)
  refine At.cond (decide (1000 < (p0.size : Int))) (by kernel_rfl) (fun b4 => ?_) (fun b4 => ?_)
  · replace h := cond_t b4 h
    refine At.seq ?_
    obtain ⟨y6, hy6, h⟩ := bind_some h
    refine At.region_end [4] 0 _ (st' := ⟨[(4, bo y6)], []⟩) (tips := [(0, { res := some (bo y6) })]) (by kernel_rfl) (allc (C_retracelaw01_live  y6 hy6) all0) (norm ?_)
    obtain rfl := some_eq h
    exact At.ret fun a w hs => ret_fin (settle := []) (obl := _) (by kernel_rfl) all0 a w hs _ (.inl rfl)
  · replace h := cond_f b4 h
    refine At.nar [0, 1] 0 (st' := ⟨[(0, sv p0), (1, i64 p1)], []⟩) (by kernel_rfl) ?_
    refine At.skip (norm ?_)
    refine At.seq ?_
    obtain ⟨y8, hy8, h⟩ := bind_some h
    refine At.region_end [0, 1, 5, 6, 7] 0 _ (st' := ⟨[(0, sv p0), (1, i64 p1), (5, u64 y8.1), (6, i64 y8.2.1), (7, i64 y8.2.2)], []⟩) (tips := [(2, { res := some (.tup [u64 y8.1, i64 y8.2.1, i64 y8.2.2]) })]) (by kernel_rfl) (allc (C_vint_Get p0 p1 y8 hy8) all0) (norm ?_)
    refine At.seq ?_
    obtain ⟨y10, hy10, h⟩ := bind_some h
    refine At.region_end [0, 1, 5, 6, 7, 8, 9, 10] 0 _ (st' := ⟨[(0, sv p0), (1, i64 p1), (5, u64 y8.1), (6, i64 y8.2.1), (7, i64 y8.2.2), (8, i64 y10.1), (9, i64 y10.2.1), (10, i64 y10.2.2)], []⟩) (tips := [(2, { res := some (.tup [i64 y10.1, i64 y10.2.1, i64 y10.2.2]) })]) (by kernel_rfl) (allc (C_vint_GetInt p0 p1 y10 hy10) all0) (norm ?_)
    refine At.seq ?_
    obtain ⟨y12, hy12, h⟩ := bind_some h
    refine At.region_end [5, 6, 7, 8, 9, 10, 11] 1 _ (st' := ⟨[(5, u64 y8.1), (6, i64 y8.2.1), (7, i64 y8.2.2), (8, i64 y10.1), (9, i64 y10.2.1), (10, i64 y10.2.2), (11, .ptr 0 0)], [.blk 51 [u64 y12.U, i64 y12.Next, i64 y12.E]]⟩) (tips := [(2, { res := some (.agg [u64 y12.U, i64 y12.Next, i64 y12.E]) })]) (by kernel_rfl) (allc (C_retraceref01_Get p0 p1 y12 hy12) all0) (norm ?_)
    refine At.seqJ (S := Bool) (fun s => ⟨[(4, bo s)], []⟩) (fun s => F_retracelaw01_VintGets_J1 s = some r) ?_ ?_
    · rcases tf (y8.1 == y12.U) with b22 | b22
      · replace h := cond_t b22 h
        rcases tf (y8.2.1 == y12.Next) with b23 | b23
        · replace h := cond_t b23 h
          rcases tf (y8.2.2 == y12.E) with b24 | b24
          · replace h := cond_t b24 h
            obtain ⟨y25, hy25, h⟩ := bind_some h
            rcases tf (y10.1 == y25) with b26 | b26
            · replace h := cond_t b26 h
              rcases tf (y10.2.1 == y12.Next) with b27 | b27
              · replace h := cond_t b27 h
                rcases tf (y10.2.2 == y12.E) with b28 | b28
                · replace h := cond_t b28 h
                  obtain ⟨y29, hy29, h⟩ := bind_some h
                  refine At.region_end [4] 0 _ (st' := ⟨[(4, bo y29)], []⟩) (tips := [(4, { orc := .val (.bool true) }), (10, { orc := .val (.bool true) }), (16, { orc := .val (.bool true) }), (20, { res := some (i64 y25) }), (23, { orc := .val (.bool true) }), (29, { orc := .val (.bool true) }), (35, { orc := .val (.bool true) }), (36, { res := some (bo y29) })]) (by kernel_rfl) (allc (congrArg D.bool b22) (allc (congrArg D.bool b23) (allc (congrArg D.bool b24) (allc (C_retraceref01_Zag y12.U y25 hy25) (allc (congrArg D.bool b26) (allc (congrArg D.bool b27) (allc (congrArg D.bool b28) (allc (C_retracelaw01_live  y29 hy29) all0)))))))) (fun a w hs => ⟨y29, h, hs⟩)
                · replace h := cond_f b28 h
                  refine At.region_end [4] 0 _ (st' := ⟨[(4, bo false)], []⟩) (tips := [(4, { orc := .val (.bool true) }), (10, { orc := .val (.bool true) }), (16, { orc := .val (.bool true) }), (20, { res := some (i64 y25) }), (23, { orc := .val (.bool true) }), (29, { orc := .val (.bool true) }), (35, { orc := .val (.bool false) })]) (by kernel_rfl) (allc (congrArg D.bool b22) (allc (congrArg D.bool b23) (allc (congrArg D.bool b24) (allc (C_retraceref01_Zag y12.U y25 hy25) (allc (congrArg D.bool b26) (allc (congrArg D.bool b27) (allc (congrArg D.bool b28) all0))))))) (fun a w hs => ⟨false, h, hs⟩)
              · replace h := cond_f b27 h
                refine At.region_end [4] 0 _ (st' := ⟨[(4, bo false)], []⟩) (tips := [(4, { orc := .val (.bool true) }), (10, { orc := .val (.bool true) }), (16, { orc := .val (.bool true) }), (20, { res := some (i64 y25) }), (23, { orc := .val (.bool true) }), (29, { orc := .val (.bool false) })]) (by kernel_rfl) (allc (congrArg D.bool b22) (allc (congrArg D.bool b23) (allc (congrArg D.bool b24) (allc (C_retraceref01_Zag y12.U y25 hy25) (allc (congrArg D.bool b26) (allc (congrArg D.bool b27) all0)))))) (fun a w hs => ⟨false, h, hs⟩)
            · replace h := cond_f b26 h
              refine At.region_end [4] 0 _ (st' := ⟨[(4, bo false)], []⟩) (tips := [(4, { orc := .val (.bool true) }), (10, { orc := .val (.bool true) }), (16, { orc := .val (.bool true) }), (20, { res := some (i64 y25) }), (23, { orc := .val (.bool false) })]) (by kernel_rfl) (allc (congrArg D.bool b22) (allc (congrArg D.bool b23) (allc (congrArg D.bool b24) (allc (C_retraceref01_Zag y12.U y25 hy25) (allc (congrArg D.bool b26) all0))))) (fun a w hs => ⟨false, h, hs⟩)
          · replace h := cond_f b24 h
            refine At.region_end [4] 0 _ (st' := ⟨[(4, bo false)], []⟩) (tips := [(4, { orc := .val (.bool true) }), (10, { orc := .val (.bool true) }), (16, { orc := .val (.bool false) })]) (by kernel_rfl) (allc (congrArg D.bool b22) (allc (congrArg D.bool b23) (allc (congrArg D.bool b24) all0))) (fun a w hs => ⟨false, h, hs⟩)
        · replace h := cond_f b23 h
          refine At.region_end [4] 0 _ (st' := ⟨[(4, bo false)], []⟩) (tips := [(4, { orc := .val (.bool true) }), (10, { orc := .val (.bool false) })]) (by kernel_rfl) (allc (congrArg D.bool b22) (allc (congrArg D.bool b23) all0)) (fun a w hs => ⟨false, h, hs⟩)
      · replace h := cond_f b22 h
        refine At.region_end [4] 0 _ (st' := ⟨[(4, bo false)], []⟩) (tips := [(4, { orc := .val (.bool false) })]) (by kernel_rfl) (allc (congrArg D.bool b22) all0) (fun a w hs => ⟨false, h, hs⟩)
    · intro x21 h
      replace h : F_retracelaw01_VintGets_J1 x21 = some r := h
      rw [F_retracelaw01_VintGets_J1] at h
      obtain rfl := some_eq h
      exact At.ret fun a w hs => ret_fin (settle := []) (obl := _) (by kernel_rfl) all0 a w hs _ (.inl rfl)
end Go.Ab
