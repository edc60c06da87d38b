/- States' bytes: written, got, put again. -/
import Derived.Test.YthjalpodmnagnaaPDump
namespace Go.Ab
set_option linter.unusedVariables false
theorem F_wints2 (l : List Int) (hl : l.length ≤ 1000) (hk : ∀ x ∈ l, okI x) (w : List Int) (h : w.length ≤ 800000000) : F_dump_writer_ints ⟨w⟩ l = some ⟨w ++ l.flatMap intL⟩ := by
  unfold F_dump_writer_ints
  have e := Loop_nat (step := fun s : (Int × (List Int)) => F_dump_writer_ints_L1 l s.1 s.2) (fun k => ((k : Int), w ++ (l.take k).flatMap intL)) l.length (r := (⟨w ++ l.flatMap intL⟩ : T_wire_Writer)) (fun k hk' => ?_) ?_
  · simpa using e
  · show F_dump_writer_ints_L1 l (k : Int) _ = _
    have h1 := flat_len (l.take k)
    rw [List.length_take] at h1
    have hm := hk _ (List.getElem_mem hk')
    unfold F_dump_writer_ints_L1
    rw [dct (by omega), lAt_lt hk', take_flat hk']
    simp only [cond_true, Option.bind_some]
    rw [F_wint hm.1 hm.2 _ (by rw [List.length_append]; omega)]
    simp only [Option.bind_some]
    rw [w64s (by omega), List.append_assoc]
  · show F_dump_writer_ints_L1 l (l.length : Int) _ = _
    unfold F_dump_writer_ints_L1
    rw [dcf (by omega), List.take_length]; rfl
theorem flat_le {α : Type} (f : α → List Int) (B : Nat) : ∀ (l : List α), (∀ x ∈ l, (f x).length ≤ B) → (l.flatMap f).length ≤ B * l.length
  | [], _ => by simp
  | x :: l, h => by
    have h1 := h x (List.mem_cons_self ..)
    have h2 := flat_le f B l (fun y hy => h y (List.mem_cons_of_mem _ hy))
    rw [List.flatMap_cons, List.length_append, List.length_cons, Nat.mul_add]
    omega
theorem flat_snoc {α : Type} (f : α → List Int) {l : List α} {k : Nat} (h : k < l.length) : (l.take (k + 1)).flatMap f = (l.take k).flatMap f ++ f l[k] := by
  rw [take_snoc h, List.flatMap_append]; simp
theorem altL_len (a : Al) : (altL a).length ≤ 50 := by
  have h1 := (intL_len a.Kind).1
  have h2 := (intL_len a.Chan).1
  have h3 := (intL_len a.Val).1
  have h4 := (intL_len a.Slot).1
  have h5 := (intL_len a.Goto).1
  unfold altL
  simp only [List.length_append]
  omega
theorem alts_len (l : List Al) : (l.flatMap altL).length ≤ 50 * l.length := flat_le altL 50 l (fun x _ => altL_len x)
theorem intsL_len (l : List Int) : (intsL l).length ≤ 10 + 10 * l.length := by
  have h1 := (numL_len (l.length : Int)).1
  have h2 := flat_len l
  unfold intsL
  rw [List.length_append]; omega
structure PB (p : Pr) : Prop where
  v : p.Vars.length ≤ 1000
  a : p.Alts.length ≤ 1000
theorem procL_len (p : Pr) (hp : PB p) : (procL p).length ≤ 70000 := by
  have h1 := (intL_len p.Def).1
  have h2 := (intL_len p.At).1
  have h3 := (intL_len p.Fuel).1
  have h4 := (intL_len p.Mode).1
  have h5 := (intL_len p.Chan).1
  have h6 := (intL_len p.Val).1
  have h7 := (intL_len p.Slot).1
  have h8 := (intL_len p.Until).1
  have h9 := (intL_len p.Since).1
  have h10 := intsL_len p.Vars
  have h11 := alts_len p.Alts
  have h12 := (numL_len (p.Alts.length : Int)).1
  have := hp.v
  have := hp.a
  unfold procL listL
  simp only [List.length_append]
  omega
theorem F_wproc (p : Pr) (hp : PB p) (hk : okPr p) (w : List Int) (h : w.length ≤ 600000000) : F_dump_writer_proc p ⟨w⟩ = some ⟨w ++ procL p⟩ := by
  obtain ⟨⟨k1, k2⟩, ⟨_, k3⟩, ⟨k4, k5, k6, k7, k8, k9, k10⟩, ⟨_, k11⟩⟩ := hk
  have h10 := intsL_len p.Vars
  have := hp.v
  have := hp.a
  have h1 := (intL_len p.Def).1
  have h2 := (intL_len p.At).1
  have h3 := (intL_len p.Fuel).1
  have h4 := (intL_len p.Mode).1
  have h5 := (intL_len p.Chan).1
  have h6 := (intL_len p.Val).1
  have h7 := (intL_len p.Slot).1
  have h8 := (intL_len p.Until).1
  have h9 := (intL_len p.Since).1
  have h12 := (numL_len (p.Alts.length : Int)).1
  unfold F_dump_writer_proc
  rw [F_wints2 [p.Def, p.At] (by simp) (by simp [k1, k2]) w (by omega)]
  simp only [Option.bind_some]
  rw [F_wints p.Vars (by omega) k3 _ (by simp only [List.length_append, List.flatMap_cons, List.flatMap_nil, List.length_nil]; omega)]
  simp only [Option.bind_some]
  rw [F_wints2 [p.Fuel, p.Mode, p.Chan, p.Val, p.Slot, p.Until, p.Since] (by simp) (by simp [k4, k5, k6, k7, k8, k9, k10]) _ (by simp only [List.length_append, List.flatMap_cons, List.flatMap_nil, List.length_nil]; omega)]
  simp only [Option.bind_some]
  rw [wu64_of (by omega) (by omega), F_wnum (by omega) (by omega) _ (by simp only [List.length_append, List.flatMap_cons, List.flatMap_nil, List.length_nil]; omega)]
  simp only [Option.bind_some]
  generalize hW : ((w ++ [p.Def, p.At].flatMap intL ++ intsL p.Vars) ++ [p.Fuel, p.Mode, p.Chan, p.Val, p.Slot, p.Until, p.Since].flatMap intL) ++ numL (p.Alts.length : Int) = W
  have hWl : W.length ≤ 700000000 := by
    rw [← hW]; simp only [List.length_append, List.flatMap_cons, List.flatMap_nil, List.length_nil]; omega
  have e := Loop_nat (step := fun s : (Int × (List Int)) => F_dump_writer_proc_L1 p s.1 s.2) (fun k => ((k : Int), W ++ (p.Alts.take k).flatMap altL)) p.Alts.length (r := (⟨W ++ p.Alts.flatMap altL⟩ : T_wire_Writer)) (fun k hk' => ?_) ?_
  · have e' : Loop (fun s : (Int × (List Int)) => F_dump_writer_proc_L1 p s.1 s.2) (0, W) = some ⟨W ++ p.Alts.flatMap altL⟩ := by simpa using e
    rw [e', ← hW]
    unfold procL listL
    simp [List.append_assoc]
  · show F_dump_writer_proc_L1 p (k : Int) _ = _
    have q1 := alts_len (p.Alts.take k)
    rw [List.length_take] at q1
    obtain ⟨a1, a2, a3, a4, a5⟩ := k11 _ (List.getElem_mem hk')
    unfold F_dump_writer_proc_L1
    rw [dct (by omega), lAt_lt hk', flat_snoc altL hk']
    simp only [cond_true, Option.bind_some]
    rw [F_wints2 _ (by simp) (by simp [a1, a2, a3, a4, a5]) _ (by rw [List.length_append]; omega)]
    simp only [Option.bind_some]
    rw [w64s (by omega)]
    simp [altL, List.append_assoc]
  · show F_dump_writer_proc_L1 p (p.Alts.length : Int) _ = _
    unfold F_dump_writer_proc_L1
    rw [dcf (by omega), List.take_length]; rfl
structure SB (s : Stt) : Prop where
  n : s.Procs.length ≤ 1000
  o : s.Out.length ≤ 1000
  p : ∀ p ∈ s.Procs, PB p
theorem procs_len (l : List Pr) (h : ∀ p ∈ l, PB p) : (l.flatMap procL).length ≤ 70000 * l.length := flat_le procL 70000 l (fun x hx => procL_len x (h x hx))
theorem F_dput (s : Stt) (hb : SB s) (hk : okSt s) : F_dump_Put_v2 s = some (strOfNums (stateL s)) := by
  obtain ⟨⟨k1, k2, k3, k4, k5⟩, ⟨_, k6⟩, ⟨_, k7⟩⟩ := hk
  have h1 := (intL_len s.Now).1
  have h2 := (intL_len s.Since).1
  have h3 := (intL_len s.Halt).1
  have h4 := (intL_len s.Fault).1
  have h5 := (intL_len s.Who).1
  have hn := hb.n
  have ho := hb.o
  have h12 := (numL_len (s.Procs.length : Int)).1
  unfold F_dump_Put_v2
  rw [F_wints2 [s.Now, s.Since, s.Halt, s.Fault, s.Who] (by simp) (by simp [k1, k2, k3, k4, k5]) [] (by simp)]
  simp only [Option.bind_some]
  rw [wu64_of (by omega) (by omega), F_wnum (by omega) (by omega) _ (by simp only [List.length_append, List.flatMap_cons, List.flatMap_nil, List.length_nil]; omega)]
  simp only [Option.bind_some]
  generalize hW : ([] ++ [s.Now, s.Since, s.Halt, s.Fault, s.Who].flatMap intL) ++ numL (s.Procs.length : Int) = W
  have hWl : W.length ≤ 1000 := by
    rw [← hW]; simp only [List.length_append, List.flatMap_cons, List.flatMap_nil, List.length_nil]; omega
  have e := Loop_nat (step := fun q : (Int × (List Int)) => F_dump_Put_v2_L1 s q.1 q.2) (fun k => ((k : Int), W ++ (s.Procs.take k).flatMap procL)) s.Procs.length (r := strOfNums (stateL s)) (fun k hk' => ?_) ?_
  · simpa using e
  · show F_dump_Put_v2_L1 s (k : Int) _ = _
    have q1 := procs_len (s.Procs.take k) (fun p hp => hb.p p (List.mem_of_mem_take hp))
    rw [List.length_take] at q1
    unfold F_dump_Put_v2_L1
    rw [dct (by omega), lAt_lt hk', flat_snoc procL hk']
    simp only [cond_true, Option.bind_some]
    rw [F_wproc _ (hb.p _ (List.getElem_mem hk')) (k6 _ (List.getElem_mem hk')) _ (by rw [List.length_append]; omega)]
    simp only [Option.bind_some]
    rw [w64s (by omega), List.append_assoc]
  · show F_dump_Put_v2_L1 s (s.Procs.length : Int) _ = _
    have q1 := procs_len s.Procs hb.p
    unfold F_dump_Put_v2_L1 F_wire_Writer_Bytes
    rw [dcf (by omega), List.take_length, cond_false, F_wints s.Out (by omega) k7 _ (by rw [List.length_append]; omega)]
    simp only [Option.bind_some]
    rw [← hW]
    unfold stateL listL
    simp [List.append_assoc]
theorem num2 (a b : List Int) (ha : a.length ≤ 1000000000) (hb : b.length ≤ 1000000000) {α : Type} (k : Option α) : grd ((strOfNums a).size + (strOfNums b).size ≤ 9223372036854775807) k = k :=
  grd_t (by rw [num_size, num_size]; omega) k
theorem F_rproc (p : Pr) (hp : PB p) (hk : okPr p) : F_retraceref30_proc p = some (strOfNums (procL p)) := by
  obtain ⟨⟨k1, k2⟩, ⟨_, k3⟩, ⟨k4, k5, k6, k7, k8, k9, k10⟩, ⟨_, k11⟩⟩ := hk
  have hv := hp.v
  have ha := hp.a
  have h10 := intsL_len p.Vars
  have h1 := (intL_len p.Def).1
  have h2 := (intL_len p.At).1
  have h3 := (intL_len p.Fuel).1
  have h4 := (intL_len p.Mode).1
  have h5 := (intL_len p.Chan).1
  have h6 := (intL_len p.Val).1
  have h7 := (intL_len p.Slot).1
  have h8 := (intL_len p.Until).1
  have h9 := (intL_len p.Since).1
  have h12 := (numL_len (p.Alts.length : Int)).1
  unfold F_retraceref30_proc
  rw [F_rint k1.1 k1.2, F_rint k2.1 k2.2, F_rints p.Vars (by omega) k3, F_rint k4.1 k4.2, F_rint k5.1 k5.2, F_rint k6.1 k6.2, F_rint k7.1 k7.2, F_rint k8.1 k8.2, F_rint k9.1 k9.2, F_rint k10.1 k10.2, wu64_of (by omega) (by omega), F_num (by omega) (by omega)]
  simp only [Option.bind_some, ← num_app]
  rw [num2 _ _ (by (try simp only [List.length_append]); omega) (by omega), num2 _ _ (by (try simp only [List.length_append]); omega) (by omega), num2 _ _ (by (try simp only [List.length_append]); omega) (by omega), num2 _ _ (by (try simp only [List.length_append]); omega) (by omega), num2 _ _ (by (try simp only [List.length_append]); omega) (by omega),
    num2 _ _ (by (try simp only [List.length_append]); omega) (by omega), num2 _ _ (by (try simp only [List.length_append]); omega) (by omega), num2 _ _ (by (try simp only [List.length_append]); omega) (by omega), num2 _ _ (by (try simp only [List.length_append]); omega) (by omega), num2 _ _ (by (try simp only [List.length_append]); omega) (by omega)]
  generalize hW : (intL p.Def ++ intL p.At ++ intsL p.Vars ++ intL p.Fuel ++ intL p.Mode ++ intL p.Chan ++ intL p.Val ++ intL p.Slot ++ intL p.Until ++ intL p.Since ++ numL (p.Alts.length : Int)) = W
  have hWl : W.length ≤ 700000000 := by
    rw [← hW]; simp only [List.length_append]; omega
  have e := Loop_nat (step := fun s : (ByteArray × Int) => F_retraceref30_proc_L1 p s.1 s.2) (fun k => (strOfNums (W ++ (p.Alts.take k).flatMap altL), (k : Int))) p.Alts.length (r := strOfNums (W ++ p.Alts.flatMap altL)) (fun k hk' => ?_) ?_
  · have e' : Loop (fun s : (ByteArray × Int) => F_retraceref30_proc_L1 p s.1 s.2) (strOfNums W, 0) = some (strOfNums (W ++ p.Alts.flatMap altL)) := by simpa using e
    rw [e', ← hW]
    unfold procL listL
    simp [List.append_assoc]
  · show F_retraceref30_proc_L1 p _ (k : Int) = _
    have q1 := alts_len (p.Alts.take k)
    rw [List.length_take] at q1
    obtain ⟨a1, a2, a3, a4, a5⟩ := k11 _ (List.getElem_mem hk')
    have b1 := (intL_len (p.Alts[k]'hk').Kind).1
    have b2 := (intL_len (p.Alts[k]'hk').Chan).1
    have b3 := (intL_len (p.Alts[k]'hk').Val).1
    have b4 := (intL_len (p.Alts[k]'hk').Slot).1
    have b5 := (intL_len (p.Alts[k]'hk').Goto).1
    unfold F_retraceref30_proc_L1
    rw [dct (by omega), lAt_lt hk', flat_snoc altL hk']
    simp only [cond_true, Option.bind_some]
    rw [F_rint a1.1 a1.2, F_rint a2.1 a2.2, F_rint a3.1 a3.2, F_rint a4.1 a4.2, F_rint a5.1 a5.2]
    simp only [Option.bind_some, ← num_app]
    rw [num2 _ _ (by (try simp only [List.length_append]); omega) (by omega), num2 _ _ (by (try simp only [List.length_append]); omega) (by omega), num2 _ _ (by (try simp only [List.length_append]); omega) (by omega), num2 _ _ (by (try simp only [List.length_append]); omega) (by omega), num2 _ _ (by (try simp only [List.length_append]); omega) (by omega), w64s (by omega)]
    simp [altL, List.append_assoc]
  · show F_retraceref30_proc_L1 p _ (p.Alts.length : Int) = _
    unfold F_retraceref30_proc_L1
    rw [dcf (by omega), List.take_length]; rfl
theorem F_rput (s : Stt) (hb : SB s) (hk : okSt s) : F_retraceref30_Put s = some (strOfNums (stateL s)) := by
  obtain ⟨⟨k1, k2, k3, k4, k5⟩, ⟨_, k6⟩, ⟨_, k7⟩⟩ := hk
  have h1 := (intL_len s.Now).1
  have h2 := (intL_len s.Since).1
  have h3 := (intL_len s.Halt).1
  have h4 := (intL_len s.Fault).1
  have h5 := (intL_len s.Who).1
  have hn := hb.n
  have ho := hb.o
  have h12 := (numL_len (s.Procs.length : Int)).1
  unfold F_retraceref30_Put
  rw [F_rint k1.1 k1.2, F_rint k2.1 k2.2, F_rint k3.1 k3.2, F_rint k4.1 k4.2, F_rint k5.1 k5.2, wu64_of (by omega) (by omega), F_num (by omega) (by omega)]
  simp only [Option.bind_some, ← num_app]
  rw [num2 _ _ (by (try simp only [List.length_append]); omega) (by omega), num2 _ _ (by (try simp only [List.length_append]); omega) (by omega), num2 _ _ (by (try simp only [List.length_append]); omega) (by omega), num2 _ _ (by (try simp only [List.length_append]); omega) (by omega), num2 _ _ (by (try simp only [List.length_append]); omega) (by omega)]
  generalize hW : (intL s.Now ++ intL s.Since ++ intL s.Halt ++ intL s.Fault ++ intL s.Who ++ numL (s.Procs.length : Int)) = W
  have hWl : W.length ≤ 1000 := by
    rw [← hW]; simp only [List.length_append]; omega
  have e := Loop_nat (step := fun q : (ByteArray × Int) => F_retraceref30_Put_L1 s q.1 q.2) (fun k => (strOfNums (W ++ (s.Procs.take k).flatMap procL), (k : Int))) s.Procs.length (r := strOfNums (stateL s)) (fun k hk' => ?_) ?_
  · simpa using e
  · show F_retraceref30_Put_L1 s _ (k : Int) = _
    have q1 := procs_len (s.Procs.take k) (fun p hp => hb.p p (List.mem_of_mem_take hp))
    rw [List.length_take] at q1
    have q2 := procL_len _ (hb.p _ (List.getElem_mem hk'))
    unfold F_retraceref30_Put_L1
    rw [dct (by omega), lAt_lt hk', flat_snoc procL hk']
    simp only [cond_true, Option.bind_some]
    rw [F_rproc _ (hb.p _ (List.getElem_mem hk')) (k6 _ (List.getElem_mem hk'))]
    simp only [Option.bind_some]
    rw [num2 _ _ (by rw [List.length_append]; omega) (by omega), ← num_app, w64s (by omega), List.append_assoc]
  · show F_retraceref30_Put_L1 s _ (s.Procs.length : Int) = _
    have q1 := procs_len s.Procs hb.p
    have q2 := intsL_len s.Out
    unfold F_retraceref30_Put_L1
    rw [dcf (by omega), List.take_length, cond_false, F_rints s.Out (by omega) k7]
    simp only [Option.bind_some]
    rw [num2 _ _ (by rw [List.length_append]; omega) (by omega), ← num_app, ← hW]
    unfold stateL listL
    simp [List.append_assoc]
def getSt (s : ByteArray) : Stt × Int := if endV (rState ⟨s, 0⟩).2 ≠ 0 then (noSt, endV (rState ⟨s, 0⟩).2) else ((rState ⟨s, 0⟩).1, 0)
theorem F_dget (s : ByteArray) (hs : s.size ≤ 200000) : F_dump_Get s = some (getSt s) ∧ F_retraceref30_Get s = some ⟨(getSt s).1, (getSt s).2⟩ := by
  constructor
  · unfold F_dump_Get F_wire_Open getSt
    simp only [Option.bind_some]
    rw [F_read ⟨s, 0⟩ hs]
    simp only [Option.bind_some]
    rw [F_rEnd]
    simp only [Option.bind_some, bne]
    by_cases h : endV (rState ⟨s, 0⟩).2 = 0
    · rw [beqt h, if_neg (fun q => q h)]; rfl
    · rw [beqf h, if_pos h]; rfl
  · unfold F_retraceref30_Get getSt
    have e : F_retraceref30_Read ⟨s, 0⟩ = some ((rState ⟨s, 0⟩).1, rr (rState ⟨s, 0⟩).2) := F_readR ⟨s, 0⟩ hs
    rw [e]
    simp only [Option.bind_some]
    rw [F_rEndR]
    simp only [Option.bind_some, bne]
    by_cases h : endV (rState ⟨s, 0⟩).2 = 0
    · rw [beqt h, if_neg (fun q => q h)]; rfl
    · rw [beqf h, if_pos h]; rfl
theorem sameSt (s : Stt) (hb : SB s) : F_retraceref28_Same s s = some true := by
  have hn := hb.n
  have ho := hb.o
  have j : F_retraceref28_Same_J1 s s false = some true := by
    unfold F_retraceref28_Same_J1
    refine Loop_nat (step := fun q : (Int) => F_retraceref28_Same_L2 s s q) (fun k => (k : Int)) s.Procs.length (fun k hk => ?_) ?_
    · show F_retraceref28_Same_L2 s s (k : Int) = _
      have hp := hb.p _ (List.getElem_mem hk)
      unfold F_retraceref28_Same_L2
      rw [dct (by omega), lAt_lt hk]
      simp only [cond_true, Option.bind_some]
      rw [same_self _ (by have := hp.v; omega) (by have := hp.a; omega)]
      simp only [Option.bind_some, Bool.not_true, cond_false]
      rw [w64s (by omega)]
    · show F_retraceref28_Same_L2 s s (s.Procs.length : Int) = _
      unfold F_retraceref28_Same_L2
      rw [dcf (by omega)]; rfl
  unfold F_retraceref28_Same
  rw [sameI_eq s.Out s.Out (by omega) true (by simp)]
  simp only [bne, beq_self_eq_true, Bool.not_true, cond_false, Option.bind_some]
  exact j
theorem noSt_SB : SB noSt := ⟨by simp [noSt], by simp [noSt], fun p hp => by cases hp⟩
theorem rProc_PB (r : RD) (hr : r.s.size ≤ 900) : PB (rProc r).1 := by
  have s1 := ((intR.pair intR).shr r).1
  have s2 := ((intsR 4096 (by omega)).shr (pairR rInt rInt r).2).1
  have s3 := (sevenR.shr (rInts 4096 (pairR rInt rInt r).2).2).1
  refine ⟨?_, ?_⟩
  · have := (rInts_len 4096 (by omega) (pairR rInt rInt r).2).1
    show (rInts 4096 (pairR rInt rInt r).2).1.length ≤ 1000
    omega
  · have h := rUpto_ok 4096 (by omega) (seven (rInts 4096 (pairR rInt rInt r).2).2).2
    have := (many_len altR (rUpto 4096 (seven (rInts 4096 (pairR rInt rInt r).2).2).2).1.toNat (rUpto 4096 (seven (rInts 4096 (pairR rInt rInt r).2).2).2).2).1
    show (many rAlt (rUpto 4096 (seven (rInts 4096 (pairR rInt rInt r).2).2).2).1.toNat (rUpto 4096 (seven (rInts 4096 (pairR rInt rInt r).2).2).2).2).1.length ≤ 1000
    omega
theorem rState_SB (r : RD) (hr : r.s.size ≤ 900) : SB (rState r).1 := by
  unfold rState
  simp only
  split
  · exact noSt_SB
  · have s1 := (fiveR.shr r).1
    have hu := rUpto_ok 4096 (by omega) (five r).2
    have hl := many_len procR (rUpto 4096 (five r).2).1.toNat (rUpto 4096 (five r).2).2
    refine ⟨?_, ?_, ?_⟩
    · show (many rProc (rUpto 4096 (five r).2).1.toNat (rUpto 4096 (five r).2).2).1.length ≤ 1000
      omega
    · have h2 := (rInts_len 1048576 (by omega) (many rProc (rUpto 4096 (five r).2).1.toNat (rUpto 4096 (five r).2).2).2).1
      show (rInts 1048576 (many rProc (rUpto 4096 (five r).2).1.toNat (rUpto 4096 (five r).2).2).2).1.length ≤ 1000
      omega
    · exact many_all procR (B := 900) (fun q hq => rProc_PB q hq) _ _ (by omega)
theorem getSt_SB (s : ByteArray) (hs : s.size ≤ 900) : SB (getSt s).1 := by
  unfold getSt
  split
  · exact noSt_SB
  · exact rState_SB ⟨s, 0⟩ hs
theorem law_dgets (s : ByteArray) : F_retracelaw30_DumpGets s = some true := by
  unfold F_retracelaw30_DumpGets
  by_cases hs : 800 < (s.size : Int)
  · rw [dct hs, ev_retracelaw30_live]; rfl
  obtain ⟨e1, e2⟩ := F_dget s (by omega)
  have hb := getSt_SB s (by omega)
  rw [dcf hs, cond_false, e1, e2]
  simp only [Option.bind_some]
  rw [sameSt _ hb]
  simp only [Option.bind_some, Bool.not_true, cond_false, bne, beq_self_eq_true]
  unfold F_retracelaw30_DumpGets_J1 F_retracelaw30_DumpGets_J2
  rw [ev_retracelaw30_live, cond_false]
  by_cases h0 : (getSt s).2 = 0
  · simp only [bne, beqt h0, Bool.not_true, cond_false]
    have key : okSt (getSt s).1 ∧ sB s = stateL (getSt s).1 := by
      unfold getSt at h0 ⊢
      by_cases q1 : endV (rState ⟨s, 0⟩).2 = 0
      · rw [if_neg (fun x => x q1)]
        obtain ⟨z1, z2⟩ := endV_0 q1
        obtain ⟨b1, b2⟩ := stateR.bwd ⟨s, 0⟩ rfl z1
        refine ⟨b2, ?_⟩
        have hz : sB (rState ⟨s, 0⟩).2.s = [] := List.length_eq_zero_iff.mp (by rw [sB_len]; exact z2)
        rw [show sB s = sB (⟨s, 0⟩ : RD).s from rfl, b1, hz, List.append_nil]
      · rw [if_pos q1] at h0; exact absurd h0 q1
    rw [F_dput _ hb key.1]
    simp only [Option.bind_some]
    rw [← key.2, num_sB]
    simp
  · simp only [bne, beqf h0, Bool.not_false, cond_true]
    rfl
theorem large_ok (s : Stt) (hp : s.Procs.length < 9223372036854775808) : OkP (F_retracelaw30_large s) (fun b => b = false → s.Procs.length ≤ 20 ∧ s.Out.length ≤ 200 ∧ ∀ p ∈ s.Procs, p.Vars.length ≤ 60 ∧ p.Alts.length ≤ 60) := by
  have j1t : OkP (F_retracelaw30_large_J1 s true) (fun b => b = false → s.Procs.length ≤ 20 ∧ s.Out.length ≤ 200 ∧ ∀ p ∈ s.Procs, p.Vars.length ≤ 60 ∧ p.Alts.length ≤ 60) := ⟨true, rfl, fun h => by cases h⟩
  unfold F_retracelaw30_large
  refine OkP.condD (fun _ => j1t) fun h1 => ?_
  by_cases h2 : 200 < (s.Out.length : Int)
  · rw [dct h2]; exact j1t
  rw [dcf h2]
  unfold F_retracelaw30_large_J1
  rw [cond_false]
  refine Loop_up s.Procs.length hp (fun i => ∀ k p, 0 ≤ k → k < i → lAt s.Procs k = some p → p.Vars.length ≤ 60 ∧ p.Alts.length ≤ 60) (fun i h0 h1' hl => ?_) (fun k p a b => by omega)
  unfold F_retracelaw30_large_L3
  refine OkP.condD (fun hv => ?_) (fun hv => OkP.map (OkP.ret fun _ => ⟨by omega, by omega, fun p hp' => ?_⟩))
  · obtain ⟨y, ey, _⟩ := lAt_ok h0 hv
    rw [ey]
    simp only [Option.bind_some]
    have jt : ∀ P : Int ⊕ Bool → Prop, P (.inr true) → OkP (F_retracelaw30_large_J2 i true) P := fun P hP => ⟨_, rfl, hP⟩
    refine OkP.condD (fun _ => jt _ (fun h => by cases h)) fun k1 => ?_
    by_cases k2 : 60 < (y.Alts.length : Int)
    · rw [dct k2]; exact jt _ (fun h => by cases h)
    · rw [dcf k2]
      refine ⟨_, rfl, hv, rfl, fun k p a b e => ?_⟩
      by_cases hk : k = i
      · subst hk; rw [ey] at e; cases e; exact ⟨by omega, by omega⟩
      · exact hl k p a (by omega) e
  · obtain ⟨k, hk, e⟩ := List.getElem_of_mem hp'
    exact hl k p (by omega) (by omega) (by rw [lAt_lt hk, e])
structure InSt (s : Stt) : Prop where
  a : okI s.Now ∧ okI s.Since ∧ okI s.Halt ∧ okI s.Fault ∧ okI s.Who
  n : s.Procs.length < 9223372036854775808
  o : ∀ x ∈ s.Out, okI x
  p : ∀ p ∈ s.Procs, (okI p.Def ∧ okI p.At) ∧ (∀ x ∈ p.Vars, okI x) ∧ (okI p.Fuel ∧ okI p.Mode ∧ okI p.Chan ∧ okI p.Val ∧ okI p.Slot ∧ okI p.Until ∧ okI p.Since) ∧ (∀ a ∈ p.Alts, okA a)
theorem stateL_mem {s : Stt} (hb : SB s) (hk : okSt s) : ∀ x ∈ stateL s, 0 ≤ x ∧ x ≤ 255 := by
  have hI : ∀ n, okI n → ∀ x ∈ intL n, 0 ≤ x ∧ x ≤ 255 := fun n h x hx => numL_mem (zigN_rng h.1 h.2).1 (zigN_rng h.1 h.2).2 x hx
  have hIs : ∀ l : List Int, l.length ≤ 1000 → (∀ n ∈ l, okI n) → ∀ x ∈ intsL l, 0 ≤ x ∧ x ≤ 255 := fun l hl h x hx => by
    unfold intsL at hx
    rcases List.mem_append.1 hx with q | q
    · exact numL_mem (by omega) (by omega) x q
    · obtain ⟨y, hy, q⟩ := List.mem_flatMap.1 q
      exact hI y (h y hy) x q
  have hA : ∀ a, okA a → ∀ x ∈ altL a, 0 ≤ x ∧ x ≤ 255 := fun a h x hx => by
    obtain ⟨a1, a2, a3, a4, a5⟩ := h
    unfold altL at hx
    simp only [List.mem_append] at hx
    rcases hx with q | q | q | q | q
    · exact hI _ a1 x q
    · exact hI _ a2 x q
    · exact hI _ a3 x q
    · exact hI _ a4 x q
    · exact hI _ a5 x q
  have hP : ∀ p, PB p → okPr p → ∀ x ∈ procL p, 0 ≤ x ∧ x ≤ 255 := fun p hb h x hx => by
    obtain ⟨⟨k1, k2⟩, ⟨_, k3⟩, ⟨k4, k5, k6, k7, k8, k9, k10⟩, ⟨_, k11⟩⟩ := h
    have := hb.a
    unfold procL listL at hx
    simp only [List.mem_append, List.mem_flatMap] at hx
    rcases hx with (q | q) | q | (q | q | q | q | q | q | q) | q | ⟨a, ha, q⟩
    · exact hI _ k1 x q
    · exact hI _ k2 x q
    · exact hIs _ hb.v k3 x q
    · exact hI _ k4 x q
    · exact hI _ k5 x q
    · exact hI _ k6 x q
    · exact hI _ k7 x q
    · exact hI _ k8 x q
    · exact hI _ k9 x q
    · exact hI _ k10 x q
    · exact numL_mem (by omega) (by omega) x q
    · exact hA a (k11 a ha) x q
  intro x hx
  obtain ⟨⟨k1, k2, k3, k4, k5⟩, ⟨_, k6⟩, ⟨_, k7⟩⟩ := hk
  have := hb.n
  unfold stateL listL at hx
  simp only [List.mem_append, List.mem_flatMap] at hx
  rcases hx with (q | q | q | q | q) | (q | ⟨p, hp, q⟩) | q
  · exact hI _ k1 x q
  · exact hI _ k2 x q
  · exact hI _ k3 x q
  · exact hI _ k4 x q
  · exact hI _ k5 x q
  · exact numL_mem (by omega) (by omega) x q
  · exact hP p (hb.p p hp) (k6 p hp) x q
  · exact hIs _ hb.o k7 x q
theorem law_dputs (s : Stt) (hi : InSt s) : F_retracelaw30_DumpPuts s = some true := by
  unfold F_retracelaw30_DumpPuts
  obtain ⟨b, eb, hbb⟩ := large_ok s hi.n
  rw [eb, ev_retracelaw30_live]
  cases b with
  | true => rfl
  | false =>
  obtain ⟨b1, b2, b3⟩ := hbb rfl
  have hb : SB s := ⟨by omega, by omega, fun p hp => ⟨by have := (b3 p hp).1; omega, by have := (b3 p hp).2; omega⟩⟩
  have hk : okSt s := ⟨hi.a, ⟨by omega, fun p hp => by
    obtain ⟨q1, q2, q3, q4⟩ := hi.p p hp
    have := b3 p hp
    exact ⟨q1, ⟨by omega, q2⟩, q3, ⟨by omega, q4⟩⟩⟩, ⟨by omega, hi.o⟩⟩
  simp only [Option.bind_some, cond_false]
  rw [F_dput s hb hk, F_rput s hb hk]
  simp only [Option.bind_some]
  have hsz : (strOfNums (stateL s)).size ≤ 200000 := by
    rw [num_size]
    have h1 := (intL_len s.Now).1
    have h2 := (intL_len s.Since).1
    have h3 := (intL_len s.Halt).1
    have h4 := (intL_len s.Fault).1
    have h5 := (intL_len s.Who).1
    have h6 := flat_le procL 4000 s.Procs (fun p hp => by
      obtain ⟨c1, c2⟩ := b3 p hp
      have g1 := (intL_len p.Def).1
      have g2 := (intL_len p.At).1
      have g3 := (intL_len p.Fuel).1
      have g4 := (intL_len p.Mode).1
      have g5 := (intL_len p.Chan).1
      have g6 := (intL_len p.Val).1
      have g7 := (intL_len p.Slot).1
      have g8 := (intL_len p.Until).1
      have g9 := (intL_len p.Since).1
      have g10 := intsL_len p.Vars
      have g11 := alts_len p.Alts
      have g12 := (numL_len (p.Alts.length : Int)).1
      unfold procL listL
      simp only [List.length_append]
      omega)
    have h7 := intsL_len s.Out
    have h8 := (numL_len (s.Procs.length : Int)).1
    unfold stateL listL
    simp only [List.length_append]
    omega
  obtain ⟨e1, _⟩ := F_dget (strOfNums (stateL s)) hsz
  rw [e1]
  have hg : getSt (strOfNums (stateL s)) = (s, 0) := by
    obtain ⟨r', v1, v2, v3⟩ := stateR.fwd s ⟨strOfNums (stateL s), 0⟩ [] hk rfl (by show sB (strOfNums (stateL s)) = _; rw [sB_num (stateL_mem hb hk), List.append_nil])
    have hz : r'.s.size = 0 := by rw [← sB_len, v3]; rfl
    have he : endV r' = 0 := by unfold endV; rw [if_pos (.inr hz)]; exact v2
    unfold getSt
    rw [v1]
    simp only [he]
    rw [if_neg (by simp)]
  rw [hg]
  simp only [Option.bind_some, beq_self_eq_true, cond_true]
  rw [sameSt s hb]
  rfl
theorem Rraw (n : Int) (r : RD) : (rRaw n r).2.s.size ≤ r.s.size := by
  unfold rRaw
  split
  · exact Nat.le_refl _
  · split
    · exact Nat.le_refl _
    · split
      · exact Nat.le_refl _
      · show (restB r.s n).size ≤ _
        unfold restB
        rw [ByteArray.size_extract]; omega
theorem none_read : F_dump_Read_v2 = some noSt := by
  have hi : F_wire_Reader_Int_v2 = some 0 := rfl
  have hu : ∀ m, F_wire_Reader_Upto_v2 m = some 0 := fun _ => rfl
  have he : F_wire_Reader_Err_v2 = some 9 := rfl
  have hints : F_wire_Reader_Ints_v2 1048576 = some [] := by
    unfold F_wire_Reader_Ints_v2
    rw [hu]
    simp only [Option.bind_some]
    refine Loop_inr ?_
    show F_wire_Reader_Ints_v2_L2 0 [] = _
    unfold F_wire_Reader_Ints_v2_L2 F_wire_Reader_Ints_v2_J1
    rw [dcf (by simp), cond_false, cond_false, he]
    rfl
  unfold F_dump_Read_v2 F_dump_reader_into_v5
  rw [hi, hints, he]
  simp only [Option.bind_some]
  have hea : ∀ o : Stt, F_dump_reader_each_v3 o = some o := fun o => by
    unfold F_dump_reader_each_v3
    rw [hu]
    simp only [Option.bind_some]
    refine Loop_inr ?_
    show F_dump_reader_each_v3_L2 0 0 o.Now o.Since o.Halt o.Fault o.Who o.Procs o.Out = _
    unfold F_dump_reader_each_v3_L2 F_dump_reader_each_v3_J1
    rw [dcf (by omega)]
    rfl
  rw [hea]
  rfl
theorem law_dreads (s : ByteArray) (n : Int) : F_retracelaw30_DumpReads s n = some true := by
  unfold F_retracelaw30_DumpReads
  by_cases hs : 800 < (s.size : Int)
  · rw [dct hs, ev_retracelaw30_live]; rfl
  unfold F_wire_Open
  rw [dcf hs, cond_false]
  simp only [Option.bind_some]
  have e1 : F_retraceref03_Reader_Raw n ⟨s, 0⟩ = some ((rRaw n ⟨s, 0⟩).1, rr (rRaw n ⟨s, 0⟩).2) := F_rRawR n ⟨s, 0⟩
  rw [F_rRaw n ⟨s, 0⟩, e1]
  simp only [Option.bind_some]
  have hr := Rraw n ⟨s, 0⟩
  replace hr : (rRaw n ⟨s, 0⟩).2.s.size ≤ s.size := hr
  rw [F_read _ (by omega), F_readR _ (by omega)]
  simp only [Option.bind_some]
  have hb := rState_SB (rRaw n ⟨s, 0⟩).2 (by omega)
  rw [sameSt _ hb]
  unfold F_wire_Reader_Left F_wire_Reader_Err
  simp only [Option.bind_some, cond_true]
  have z1 : (rr (rState (rRaw n ⟨s, 0⟩).2).2).S = (rState (rRaw n ⟨s, 0⟩).2).2.s := rfl
  have z2 : (rr (rState (rRaw n ⟨s, 0⟩).2).2).Bad = (rState (rRaw n ⟨s, 0⟩).2).2.e := rfl
  rw [z1, z2, none_read]
  simp only [beq_self_eq_true, cond_true, Option.bind_some]
  have : F_retraceref28_Same noSt ⟨0, 0, 0, 0, 0, [], []⟩ = some true := sameSt noSt noSt_SB
  rw [this, ev_retracelaw30_live]
  rfl
end Go.Ab
