/- What is written is read as it was. -/
import Derived.Test.YtdcgabaobopjpaaBYRd
import Derived.Test.YtdcgabaobopjpaaGBX
import Derived.Test.YtdcgabaobopjpaaAbTot
namespace Go.Ab
set_option linter.unusedVariables false
section
variable {α : Type} {one : RD → α × RD} {enc : α → List Int} {ok : α → Prop}
theorem Rdr.clip (h : Rdr one enc ok) (z : α) : Rdr (fun r => (if (one r).2.e ≠ 0 then z else (one r).1, (one r).2)) enc ok where
  bad := h.bad
  shr := h.shr
  fwd := fun x r rest hx hr hs => by
    obtain ⟨r1, e1, f1, s1⟩ := h.fwd x r rest hx hr hs
    exact ⟨r1, by rw [e1, if_neg (by simpa using f1)], f1, s1⟩
  bwd := fun r hr he => by
    have he : (one r).2.e = 0 := he
    obtain ⟨a, b⟩ := h.bwd r hr he
    simp only
    rw [if_neg (by simpa using he)]
    exact ⟨a, b⟩
end
theorem intsR (m : Int) (hm : 0 ≤ m ∧ m ≤ 9223372036854775807) : Rdr (rInts m) intsL (fun l => (l.length : Int) ≤ m ∧ ∀ x ∈ l, okI x) := by
  have h := (intR.list m hm).clip []
  have e : rInts m = fun r => (if (listR m rInt r).2.e ≠ 0 then [] else (listR m rInt r).1, (listR m rInt r).2) := by
    funext r
    unfold rInts listR
    rw [rMany_many]
  rw [e]
  exact h
theorem rRaw_fwd {S : ByteArray} {r : RD} (h : r.e = 0) {rest : List Int} (hs : sB r.s = sB S ++ rest) : ∃ r' : RD, rRaw S.size r = (S, r') ∧ r'.e = 0 ∧ sB r'.s = rest := by
  have hl := congrArg List.length hs
  rw [List.length_append, sB_len, sB_len] at hl
  refine ⟨⟨restB r.s S.size, 0⟩, ?_, rfl, ?_⟩
  · unfold rRaw
    rw [if_neg (by simpa using h), if_neg (by omega), if_neg (by omega)]
    congr 1
    refine sB_inj ?_
    rw [sB_cut, List.drop_zero, hs, Int.toNat_natCast, ← sB_len S, List.take_left]
  · show sB (restB r.s S.size) = rest
    rw [sB_rest _ _ (by omega), hs, Int.toNat_natCast, ← sB_len S, List.drop_left]
theorem rText_fwd {S : ByteArray} {r : RD} (h : r.e = 0) (hS : S.size ≤ 1000000) {rest : List Int} (hs : sB r.s = textL S ++ rest) : ∃ r' : RD, rText S.size r = (S, r') ∧ r'.e = 0 ∧ sB r'.s = rest := by
  unfold textL at hs
  obtain ⟨r1, e1, f1, s1⟩ := rUpto_fwd (m := (S.size : Int)) (u := (S.size : Int)) h (by omega) (Int.le_refl _) (by omega) (rest := sB S ++ rest) (by rw [hs, List.append_assoc])
  obtain ⟨r2, e2, f2, s2⟩ := rRaw_fwd f1 s1
  refine ⟨r2, ?_, f2, s2⟩
  unfold rText
  rw [e1]
  exact e2
theorem rBool_fwd {b : Bool} {r : RD} (h : r.e = 0) {rest : List Int} (hs : sB r.s = boolL b ++ rest) : ∃ r' : RD, rBool r = (b, r') ∧ r'.e = 0 ∧ sB r'.s = rest := by
  have hl := congrArg List.length hs
  have hb : (boolL b).length = 1 := rfl
  rw [List.length_append, sB_len, hb] at hl
  have h0 : (sB r.s).getD 0 0 = if b then 1 else 0 := by rw [hs]; rfl
  refine ⟨⟨restB r.s 1, 0⟩, ?_, rfl, ?_⟩
  · unfold rBool
    rw [if_neg (by simpa using h), if_neg (by omega), h0, if_neg (by cases b <;> simp)]
    cases b <;> rfl
  · show sB (restB r.s 1) = rest
    rw [sB_rest _ _ (by omega), hs]
    rfl
theorem law_wback (l : List T_retracelaw03_Part) (more : ByteArray) (hp : ∀ p ∈ l, okP p) : F_retracelaw03_WireBack l more = some true := by
  unfold F_retracelaw03_WireBack
  obtain ⟨b, eb, hb⟩ := F_longP l
  rw [eb]
  simp only [Option.bind_some]
  have jt : F_retracelaw03_WireBack_J1 l more true = some true := by
    unfold F_retracelaw03_WireBack_J1
    rw [ev_retracelaw03_live]; rfl
  cases b with
  | true => rw [cond_true]; exact jt
  | false =>
  rw [cond_false]
  by_cases hm : 200 < (more.size : Int)
  · rw [dct hm]; exact jt
  rw [dcf hm]
  obtain ⟨hl, hs⟩ := hb rfl
  unfold F_retracelaw03_WireBack_J1
  rw [cond_false]
  have htot := parts_len l hs
  -- read back
  have back : ∀ s : ByteArray, sB s = l.flatMap partL ++ sB more → Loop (fun s : (Int × ByteArray × Int) => F_retracelaw03_WireBack_L4 l more s.1 s.2.1 s.2.2) (0, s, 0) = some true := by
    intro s hsb
    have key := Loop_ok (step := fun s : (Int × ByteArray × Int) => F_retracelaw03_WireBack_L4 l more s.1 s.2.1 s.2.2) (Q := fun r => r = true) (fun q => ∃ k : Nat, q.1 = k ∧ k ≤ l.length ∧ q.2.2 = 0 ∧ sB q.2.1 = (l.drop k).flatMap partL ++ sB more) (fun q => ((l.length : Int) - q.1).toNat) (fun q hq => ?_) (0, s, 0) ⟨0, rfl, Nat.zero_le _, rfl, by rw [List.drop_zero]; exact hsb⟩
    · obtain ⟨r, e, q⟩ := key
      rw [e, q]
    · obtain ⟨k, h1, h2, h3, h4⟩ := hq
      obtain ⟨i, t, e⟩ := q
      replace h1 : i = k := h1
      replace h3 : e = 0 := h3
      replace h4 : sB t = (l.drop k).flatMap partL ++ sB more := h4
      subst h1 h3
      show OkP (F_retracelaw03_WireBack_L4 l more (k : Int) t 0) _
      unfold F_retracelaw03_WireBack_L4
      refine OkP.condD (fun hv => ?_) (fun hv => OkP.map ?_)
      · have hk : k < l.length := by omega
        have hmem := List.getElem_mem hk
        obtain ⟨⟨u0, u1⟩, hn, hL⟩ := hp _ hmem
        obtain ⟨z1, z2⟩ := hs _ hmem
        rw [lAt_lt hk]
        simp only [Option.bind_some]
        rw [List.drop_eq_getElem_cons hk, List.flatMap_cons, List.append_assoc] at h4
        generalize hrest : (l.drop (k + 1)).flatMap partL ++ sB more = rest at h4
        have htl : t.size ≤ 100000 := by
          have h5 := congrArg List.length h4
          have h6 := parts_len (l.drop (k + 1)) (fun p hp' => hs p (List.mem_of_mem_drop hp'))
          have h7 := partL_len _ (hs _ hmem)
          rw [← hrest, List.length_append, List.length_append, sB_len, sB_len] at h5
          rw [List.length_drop] at h6
          omega
        have fin : ∀ r' : RD, r'.e = 0 → sB r'.s = rest → OkP (F_retracelaw03_WireBack_J2 (k : Int) false r'.s r'.e) (Sum.elim (fun q' => (∃ j : Nat, q'.1 = j ∧ j ≤ l.length ∧ q'.2.2 = 0 ∧ sB q'.2.1 = (l.drop j).flatMap partL ++ sB more) ∧ ((l.length : Int) - q'.1).toNat < ((l.length : Int) - (k : Int)).toNat) (fun r => r = true)) := fun r' e1 e2 => by
          unfold F_retracelaw03_WireBack_J2
          rw [cond_false, w64s (by omega)]
          exact OkP.ret ⟨⟨k + 1, rfl, hk, e1, by rw [hrest]; exact e2⟩, by show ((l.length : Int) - ((k + 1 : Nat) : Int)).toNat < _; omega⟩
        unfold partL at h4
        generalize l[k] = p at *
        by_cases k0 : p.Kind = 0
        · rw [if_pos k0] at h4
          obtain ⟨r', e1, f1, s1⟩ := rNum_fwd (r := ⟨t, 0⟩) rfl u0 u1 h4
          have ee := F_rNum ⟨t, 0⟩ (by show t.size ≤ _; omega)
          rw [e1] at ee
          rw [beqt k0, cond_true, ee, beqf (show ¬ p.Kind = 1 by omega), beqf (show ¬ p.Kind = 2 by omega), beqf (show ¬ p.Kind = 3 by omega), beqf (show ¬ p.Kind = 4 by omega), beqf (show ¬ p.Kind = 5 by omega)]
          simp only [Option.bind_some, bne, beq_self_eq_true, Bool.not_true, cond_false]
          exact fin r' f1 s1
        rw [if_neg k0] at h4
        rw [beqf k0, cond_false]
        by_cases k1 : p.Kind = 1
        · rw [if_pos k1] at h4
          obtain ⟨r', e1, f1, s1⟩ := rInt_fwd (r := ⟨t, 0⟩) rfl hn.1 hn.2 h4
          have ee := F_rInt ⟨t, 0⟩ (by show t.size ≤ _; omega)
          rw [e1] at ee
          rw [beqt k1, cond_true, ee, beqf (show ¬ p.Kind = 2 by omega), beqf (show ¬ p.Kind = 3 by omega), beqf (show ¬ p.Kind = 4 by omega), beqf (show ¬ p.Kind = 5 by omega)]
          simp only [Option.bind_some, bne, beq_self_eq_true, Bool.not_true, cond_false]
          exact fin r' f1 s1
        rw [if_neg k1] at h4
        rw [beqf k1, cond_false]
        by_cases k2 : p.Kind = 2
        · rw [if_pos k2] at h4
          obtain ⟨r', e1, f1, s1⟩ := rBool_fwd (r := ⟨t, 0⟩) rfl h4
          have ee := F_rBool ⟨t, 0⟩
          rw [e1] at ee
          rw [beqt k2, cond_true, ee, beqf (show ¬ p.Kind = 3 by omega), beqf (show ¬ p.Kind = 4 by omega), beqf (show ¬ p.Kind = 5 by omega)]
          simp only [Option.bind_some, beq_self_eq_true, Bool.not_true, cond_false]
          exact fin r' f1 s1
        rw [if_neg k2] at h4
        rw [beqf k2, cond_false]
        by_cases k3 : p.Kind = 3
        · rw [if_pos k3] at h4
          obtain ⟨r', e1, f1, s1⟩ := rText_fwd (r := ⟨t, 0⟩) rfl (by omega) h4
          have ee := F_rText (p.S.size : Int) (by omega) ⟨t, 0⟩ (by show t.size ≤ _; omega)
          rw [e1] at ee
          rw [beqt k3, cond_true, ee, beqf (show ¬ p.Kind = 4 by omega), beqf (show ¬ p.Kind = 5 by omega)]
          simp only [Option.bind_some, beq_self_eq_true, Bool.not_true, cond_false]
          exact fin r' f1 s1
        rw [if_neg k3] at h4
        rw [beqf k3, cond_false]
        by_cases k4 : p.Kind = 4
        · rw [if_pos k4] at h4
          obtain ⟨r', e1, f1, s1⟩ := rRaw_fwd (r := ⟨t, 0⟩) rfl h4
          have ee := F_rRaw (p.S.size : Int) ⟨t, 0⟩
          rw [e1] at ee
          rw [beqt k4, cond_true, ee, beqf (show ¬ p.Kind = 5 by omega)]
          simp only [Option.bind_some, beq_self_eq_true, Bool.not_true, cond_false]
          exact fin r' f1 s1
        rw [if_neg k4] at h4
        rw [beqf k4, cond_false]
        by_cases k5 : p.Kind = 5
        · rw [if_pos k5] at h4
          obtain ⟨r', e1, f1, s1⟩ := (intsR (p.L.length : Int) (by omega)).fwd p.L ⟨t, 0⟩ rest ⟨Int.le_refl _, hL⟩ rfl h4
          have ee := F_rInts (p.L.length : Int) (by omega) ⟨t, 0⟩ (by show t.size ≤ _; omega)
          rw [e1] at ee
          rw [beqt k5, cond_true, ee]
          simp only [Option.bind_some]
          rw [F_sameI p.L p.L (by omega) true (by simp)]
          simp only [Option.bind_some, Bool.not_true]
          exact fin r' f1 s1
        · rw [if_neg k5, List.nil_append] at h4
          rw [beqf k5, cond_false]
          exact fin ⟨t, 0⟩ rfl h4
      · have hk : k = l.length := by omega
        subst hk
        rw [List.drop_length, List.flatMap_nil, List.nil_append] at h4
        have hz := congrArg List.length h4
        rw [sB_len, sB_len] at hz
        unfold F_wire_Reader_Left F_wire_Reader_Err F_retracelaw03_WireBack_J3
        simp only [Option.bind_some]
        rw [beqt (show (t.size : Int) = more.size by omega), ev_retracelaw03_live]
        exact OkP.ret rfl
  have e := Loop_nat (step := fun s : (Int × (List Int)) => F_retracelaw03_WireBack_L5 l more s.1 s.2) (fun k => ((k : Int), (l.take k).flatMap partL)) l.length (r := true) (fun k hk => ?_) ?_
  · exact e
  · show F_retracelaw03_WireBack_L5 l more (k : Int) ((l.take k).flatMap partL) = _
    have hmem := List.getElem_mem hk
    have h6 := parts_len (l.take k) (fun p hp' => hs p (List.mem_of_mem_take hp'))
    rw [List.length_take] at h6
    unfold F_retracelaw03_WireBack_L5
    rw [dct (by omega), lAt_lt hk]
    simp only [cond_true, Option.bind_some]
    rw [F_write _ (hp _ hmem) (hs _ hmem) _ (by omega)]
    simp only [Option.bind_some]
    rw [w64s (by omega), take_snoc hk, List.flatMap_append]
    simp
  · show F_retracelaw03_WireBack_L5 l more (l.length : Int) ((l.take l.length).flatMap partL) = _
    unfold F_retracelaw03_WireBack_L5 F_wire_Writer_Bytes F_wire_Open
    have hmem : ∀ x ∈ l.flatMap partL, 0 ≤ x ∧ x ≤ 255 := fun x hx => by
      obtain ⟨p, hp', hx⟩ := List.mem_flatMap.1 hx
      obtain ⟨⟨u0, u1⟩, hn, hL⟩ := hp p hp'
      obtain ⟨z1, z2⟩ := hs p hp'
      have hI : ∀ n, okI n → ∀ x ∈ intL n, 0 ≤ x ∧ x ≤ 255 := fun n h x hx => numL_mem (zigN_rng h.1 h.2).1 (zigN_rng h.1 h.2).2 x hx
      unfold partL at hx
      split at hx
      · exact numL_mem u0 u1 x hx
      split at hx
      · exact hI _ hn x hx
      split at hx
      · unfold boolL at hx
        rw [List.mem_singleton] at hx
        rw [hx]; split <;> omega
      split at hx
      · unfold textL at hx
        rcases List.mem_append.1 hx with q | q
        · exact numL_mem (by omega) (by omega) x q
        · exact sB_mem q
      split at hx
      · exact sB_mem hx
      split at hx
      · unfold intsL at hx
        rcases List.mem_append.1 hx with q | q
        · exact numL_mem (by omega) (by omega) x q
        · obtain ⟨y, hy, q⟩ := List.mem_flatMap.1 q
          exact hI y (hL y hy) x q
      · cases hx
    rw [dcf (by omega), List.take_length, cond_false]
    simp only [Option.bind_some]
    rw [grd_t (by rw [num_size]; omega), back _ (by rw [sB_app, sB_num hmem])]
    rfl
end Go.Ab
