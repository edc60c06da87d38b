/- States' bytes: readers and writers. -/
import Derived.Test.YthjalpodmnagnaaPRd
import Derived.Test.YthjalpodmnagnaaMXSame
import Derived.Test.YthjalpodmnagnaaGDmX
namespace Go.Ab
set_option linter.unusedVariables false
abbrev Al := T_api_Alt
abbrev Pr := T_api_Proc
abbrev Stt := T_api_State
section
variable {α : Type} {one : RD → α × RD} {enc : α → List Int} {ok : α → Prop}
theorem Rdr.clip (h : Rdr one enc ok) (z : α) : Rdr (fun r => (if (one r).2.e ≠ 0 then z else (one r).1, (one r).2)) enc ok where
  bad := h.bad
  shr := h.shr
  fwd := fun x r rest hx hr hs => by
    obtain ⟨r1, e1, f1, s1⟩ := h.fwd x r rest hx hr hs
    exact ⟨r1, by rw [e1, if_neg (by simpa using f1)], f1, s1⟩
  bwd := fun r hr he => by
    have he : (one r).2.e = 0 := he
    obtain ⟨a, b⟩ := h.bwd r hr he
    simp only
    rw [if_neg (by simpa using he)]
    exact ⟨a, b⟩
end
def five : RD → (Int × Int × Int × Int × Int) × RD := pairR rInt (pairR rInt (pairR rInt (pairR rInt rInt)))
def seven : RD → (Int × Int × Int × Int × Int × Int × Int) × RD := pairR rInt (pairR rInt (pairR rInt (pairR rInt (pairR rInt (pairR rInt rInt)))))
theorem fiveR : Rdr five (fun x => intL x.1 ++ (intL x.2.1 ++ (intL x.2.2.1 ++ (intL x.2.2.2.1 ++ intL x.2.2.2.2)))) (fun x => okI x.1 ∧ okI x.2.1 ∧ okI x.2.2.1 ∧ okI x.2.2.2.1 ∧ okI x.2.2.2.2) := intR.pair (intR.pair (intR.pair (intR.pair intR)))
theorem sevenR : Rdr seven (fun x => intL x.1 ++ (intL x.2.1 ++ (intL x.2.2.1 ++ (intL x.2.2.2.1 ++ (intL x.2.2.2.2.1 ++ (intL x.2.2.2.2.2.1 ++ intL x.2.2.2.2.2.2))))))
    (fun x => okI x.1 ∧ okI x.2.1 ∧ okI x.2.2.1 ∧ okI x.2.2.2.1 ∧ okI x.2.2.2.2.1 ∧ okI x.2.2.2.2.2.1 ∧ okI x.2.2.2.2.2.2) := intR.pair (intR.pair (intR.pair (intR.pair (intR.pair (intR.pair intR)))))
def altOf (x : Int × Int × Int × Int × Int) : Al := ⟨x.1, x.2.1, x.2.2.1, x.2.2.2.1, x.2.2.2.2⟩
def altTo (a : Al) : Int × Int × Int × Int × Int := (a.Kind, a.Chan, a.Val, a.Slot, a.Goto)
def rAlt (r : RD) : Al × RD := (altOf (five r).1, (five r).2)
def altL (a : Al) : List Int := intL a.Kind ++ (intL a.Chan ++ (intL a.Val ++ (intL a.Slot ++ intL a.Goto)))
def okA (a : Al) : Prop := okI a.Kind ∧ okI a.Chan ∧ okI a.Val ∧ okI a.Slot ∧ okI a.Goto
theorem altR : Rdr rAlt altL okA := fiveR.iso altOf altTo (fun _ => rfl) (fun _ => rfl)
theorem intsR (m : Int) (hm : 0 ≤ m ∧ m ≤ 9223372036854775807) : Rdr (rInts m) intsL (fun l => (l.length : Int) ≤ m ∧ ∀ x ∈ l, okI x) := by
  have h := (intR.list m hm).clip []
  have e : rInts m = fun r => (if (listR m rInt r).2.e ≠ 0 then [] else (listR m rInt r).1, (listR m rInt r).2) := by
    funext r
    unfold rInts listR
    rw [rMany_many]
  rw [e]
  exact h
abbrev ProcT := (Int × Int) × List Int × (Int × Int × Int × Int × Int × Int × Int) × List Al
def procOf (x : ProcT) : Pr := ⟨x.1.1, x.1.2, x.2.1, x.2.2.1.1, x.2.2.1.2.1, x.2.2.1.2.2.1, x.2.2.1.2.2.2.1, x.2.2.1.2.2.2.2.1, x.2.2.1.2.2.2.2.2.1, x.2.2.1.2.2.2.2.2.2, x.2.2.2⟩
def procTo (p : Pr) : ProcT := ((p.Def, p.At), p.Vars, (p.Fuel, p.Mode, p.Chan, p.Val, p.Slot, p.Until, p.Since), p.Alts)
def procP : RD → ProcT × RD := pairR (pairR rInt rInt) (pairR (rInts 4096) (pairR seven (listR 4096 rAlt)))
def rProc (r : RD) : Pr × RD := (procOf (procP r).1, (procP r).2)
def procL (p : Pr) : List Int := (intL p.Def ++ intL p.At) ++ (intsL p.Vars ++ ((intL p.Fuel ++ (intL p.Mode ++ (intL p.Chan ++ (intL p.Val ++ (intL p.Slot ++ (intL p.Until ++ intL p.Since)))))) ++ listL altL p.Alts))
def okPr (p : Pr) : Prop := (okI p.Def ∧ okI p.At) ∧ ((p.Vars.length : Int) ≤ 4096 ∧ ∀ x ∈ p.Vars, okI x) ∧ (okI p.Fuel ∧ okI p.Mode ∧ okI p.Chan ∧ okI p.Val ∧ okI p.Slot ∧ okI p.Until ∧ okI p.Since) ∧ ((p.Alts.length : Int) ≤ 4096 ∧ ∀ a ∈ p.Alts, okA a)
theorem procR : Rdr rProc procL okPr := ((intR.pair intR).pair ((intsR 4096 (by omega)).pair (sevenR.pair (altR.list 4096 (by omega))))).iso procOf procTo (fun _ => rfl) (fun _ => rfl)
abbrev StT := (Int × Int × Int × Int × Int) × List Pr × List Int
def stOf (x : StT) : Stt := ⟨x.1.1, x.1.2.1, x.1.2.2.1, x.1.2.2.2.1, x.1.2.2.2.2, x.2.1, x.2.2⟩
def stTo (s : Stt) : StT := ((s.Now, s.Since, s.Halt, s.Fault, s.Who), s.Procs, s.Out)
def stP : RD → StT × RD := pairR five (pairR (listR 4096 rProc) (rInts 1048576))
def noSt : Stt := ⟨0, 0, 0, 0, 0, [], []⟩
def rState (r : RD) : Stt × RD := (if (stP r).2.e ≠ 0 then noSt else stOf (stP r).1, (stP r).2)
def stateL (s : Stt) : List Int := (intL s.Now ++ (intL s.Since ++ (intL s.Halt ++ (intL s.Fault ++ intL s.Who)))) ++ (listL procL s.Procs ++ intsL s.Out)
def okSt (s : Stt) : Prop := (okI s.Now ∧ okI s.Since ∧ okI s.Halt ∧ okI s.Fault ∧ okI s.Who) ∧ ((s.Procs.length : Int) ≤ 4096 ∧ ∀ p ∈ s.Procs, okPr p) ∧ ((s.Out.length : Int) ≤ 1048576 ∧ ∀ x ∈ s.Out, okI x)
theorem stateR : Rdr rState stateL okSt := ((fiveR.pair ((procR.list 4096 (by omega)).pair (intsR 1048576 (by omega)))).iso stOf stTo (fun _ => rfl) (fun _ => rfl)).clip noSt
-- the program's readers
theorem F_into_st (r : RD) (hs : r.s.size ≤ 300000) (o : Stt) : F_dump_reader_into r o = some ((five r).2, ⟨(five r).1.1, (five r).1.2.1, (five r).1.2.2.1, (five r).1.2.2.2.1, (five r).1.2.2.2.2, o.Procs, o.Out⟩) := by
  have s1 := (rInt_size r).1
  have s2 := (rInt_size (rInt r).2).1
  have s3 := (rInt_size (rInt (rInt r).2).2).1
  have s4 := (rInt_size (rInt (rInt (rInt r).2).2).2).1
  unfold F_dump_reader_into
  rw [F_rInt r (by omega)]; simp only [Option.bind_some]
  rw [F_rInt _ (by omega)]; simp only [Option.bind_some]
  rw [F_rInt _ (by omega)]; simp only [Option.bind_some]
  rw [F_rInt _ (by omega)]; simp only [Option.bind_some]
  rw [F_rInt _ (by omega)]; rfl
theorem F_into_alt (r : RD) (hs : r.s.size ≤ 300000) (o : Al) : F_dump_reader_into_v4 r o = some ((rAlt r).2, (rAlt r).1) := by
  have s1 := (rInt_size r).1
  have s2 := (rInt_size (rInt r).2).1
  have s3 := (rInt_size (rInt (rInt r).2).2).1
  have s4 := (rInt_size (rInt (rInt (rInt r).2).2).2).1
  unfold F_dump_reader_into_v4
  rw [F_rInt r (by omega)]; simp only [Option.bind_some]
  rw [F_rInt _ (by omega)]; simp only [Option.bind_some]
  rw [F_rInt _ (by omega)]; simp only [Option.bind_some]
  rw [F_rInt _ (by omega)]; simp only [Option.bind_some]
  rw [F_rInt _ (by omega)]; rfl
theorem F_into_two (r : RD) (hs : r.s.size ≤ 300000) (o : Pr) : F_dump_reader_into_v2 r o = some ((pairR rInt rInt r).2, ⟨(pairR rInt rInt r).1.1, (pairR rInt rInt r).1.2, o.Vars, o.Fuel, o.Mode, o.Chan, o.Val, o.Slot, o.Until, o.Since, o.Alts⟩) := by
  have s1 := (rInt_size r).1
  unfold F_dump_reader_into_v2
  rw [F_rInt r (by omega)]; simp only [Option.bind_some]
  rw [F_rInt _ (by omega)]; rfl
theorem F_into_seven (r : RD) (hs : r.s.size ≤ 300000) (o : Pr) : F_dump_reader_into_v3 r o = some ((seven r).2, ⟨o.Def, o.At, o.Vars, (seven r).1.1, (seven r).1.2.1, (seven r).1.2.2.1, (seven r).1.2.2.2.1, (seven r).1.2.2.2.2.1, (seven r).1.2.2.2.2.2.1, (seven r).1.2.2.2.2.2.2, o.Alts⟩) := by
  have s1 := (rInt_size r).1
  have s2 := (rInt_size (rInt r).2).1
  have s3 := (rInt_size (rInt (rInt r).2).2).1
  have s4 := (rInt_size (rInt (rInt (rInt r).2).2).2).1
  have s5 := (rInt_size (rInt (rInt (rInt (rInt r).2).2).2).2).1
  have s6 := (rInt_size (rInt (rInt (rInt (rInt (rInt r).2).2).2).2).2).1
  unfold F_dump_reader_into_v3
  rw [F_rInt r (by omega)]; simp only [Option.bind_some]
  rw [F_rInt _ (by omega)]; simp only [Option.bind_some]
  rw [F_rInt _ (by omega)]; simp only [Option.bind_some]
  rw [F_rInt _ (by omega)]; simp only [Option.bind_some]
  rw [F_rInt _ (by omega)]; simp only [Option.bind_some]
  rw [F_rInt _ (by omega)]; simp only [Option.bind_some]
  rw [F_rInt _ (by omega)]; rfl
theorem F_alts (r : RD) (hs : r.s.size ≤ 200000) (p : Pr) (hp : p.Alts = []) : F_dump_reader_each_v2 r p = some ((listR 4096 rAlt r).2, ⟨p.Def, p.At, p.Vars, p.Fuel, p.Mode, p.Chan, p.Val, p.Slot, p.Until, p.Since, (listR 4096 rAlt r).1⟩) := by
  unfold F_dump_reader_each_v2
  have hu := rUpto_ok 4096 (by omega) r
  rw [F_rUpto 4096 (by omega) r (by omega)]
  simp only [Option.bind_some]
  rw [hp]
  have e := Loop_many (step := fun s : (Int × ByteArray × Int × Int × Int × Int × Int × Int × Int × Int × Int × Int × (List Int) × (List T_api_Alt)) => F_dump_reader_each_v2_L2 (rUpto 4096 r) s.1 s.2.1 s.2.2.1 s.2.2.2.1 s.2.2.2.2.1 s.2.2.2.2.2.1 s.2.2.2.2.2.2.1 s.2.2.2.2.2.2.2.1 s.2.2.2.2.2.2.2.2.1 s.2.2.2.2.2.2.2.2.2.1 s.2.2.2.2.2.2.2.2.2.2.1 s.2.2.2.2.2.2.2.2.2.2.2.1 s.2.2.2.2.2.2.2.2.2.2.2.2.1 s.2.2.2.2.2.2.2.2.2.2.2.2.2)
    altR (fun i r out => (i, r.s, r.e, p.Def, p.At, p.Fuel, p.Mode, p.Chan, p.Val, p.Slot, p.Until, p.Since, p.Vars, out)) (fun r out => (r, (⟨p.Def, p.At, p.Vars, p.Fuel, p.Mode, p.Chan, p.Val, p.Slot, p.Until, p.Since, out⟩ : Pr))) (rUpto 4096 r).1 hu.2.1 200000 (by omega)
    (fun i q out hi he ho hb => ?_) (fun i q out hi ho hb hb2 => ?_) (rUpto 4096 r).2 (by omega)
  · exact e
  · show F_dump_reader_each_v2_L2 (rUpto 4096 r) (i : Int) q.s q.e p.Def p.At p.Fuel p.Mode p.Chan p.Val p.Slot p.Until p.Since p.Vars out = _
    unfold F_dump_reader_each_v2_L2 F_wire_Reader_Err F_dump_reader_each_v2_J1 F_dump_reader_proc_1
    have h1 : F_dump_reader_into_v4 ⟨q.s, q.e⟩ ⟨0, 0, 0, 0, 0⟩ = some ((rAlt q).2, (rAlt q).1) := F_into_alt q (by omega) _
    rw [dct hi, cond_true]
    simp only [Option.bind_some]
    rw [beqt he, cond_true, h1]
    simp only [Option.bind_some]
    rw [grd_t (by simp only [List.length_cons, List.length_nil]; omega), w64s (by omega)]
    rfl
  · show F_dump_reader_each_v2_L2 (rUpto 4096 r) (i : Int) q.s q.e p.Def p.At p.Fuel p.Mode p.Chan p.Val p.Slot p.Until p.Since p.Vars out = _
    unfold F_dump_reader_each_v2_L2 F_wire_Reader_Err F_dump_reader_each_v2_J1
    simp only [Option.bind_some]
    rcases hi with hi | hi
    · rw [dcf (by omega)]; rfl
    · rw [beqf hi]
      cases decide ((i : Int) < (rUpto 4096 r).1) <;> rfl
theorem F_proc (r : RD) (hs : r.s.size ≤ 200000) : F_dump_reader_proc r = some (rProc r) := by
  have s1 := ((intR.pair intR).shr r).1
  have s2 := ((intsR 4096 (by omega)).shr (pairR rInt rInt r).2).1
  have s3 := (sevenR.shr (rInts 4096 (pairR rInt rInt r).2).2).1
  unfold F_dump_reader_proc
  rw [F_into_two r (by omega)]
  simp only [Option.bind_some]
  rw [F_rInts 4096 (by omega) _ (by omega)]
  simp only [Option.bind_some]
  rw [F_into_seven _ (by omega)]
  simp only [Option.bind_some]
  rw [F_alts _ (by omega) _ rfl]
  rfl
theorem F_procs (r : RD) (hs : r.s.size ≤ 200000) (o : Stt) (ho : o.Procs = []) : F_dump_reader_each r o = some ((listR 4096 rProc r).2, ⟨o.Now, o.Since, o.Halt, o.Fault, o.Who, (listR 4096 rProc r).1, o.Out⟩) := by
  unfold F_dump_reader_each
  have hu := rUpto_ok 4096 (by omega) r
  rw [F_rUpto 4096 (by omega) r (by omega)]
  simp only [Option.bind_some]
  rw [ho]
  have e := Loop_many (step := fun s : (Int × ByteArray × Int × Int × Int × Int × Int × Int × (List T_api_Proc) × (List Int)) => F_dump_reader_each_L2 (rUpto 4096 r) s.1 s.2.1 s.2.2.1 s.2.2.2.1 s.2.2.2.2.1 s.2.2.2.2.2.1 s.2.2.2.2.2.2.1 s.2.2.2.2.2.2.2.1 s.2.2.2.2.2.2.2.2.1 s.2.2.2.2.2.2.2.2.2)
    procR (fun i r out => (i, r.s, r.e, o.Now, o.Since, o.Halt, o.Fault, o.Who, out, o.Out)) (fun r out => (r, (⟨o.Now, o.Since, o.Halt, o.Fault, o.Who, out, o.Out⟩ : Stt))) (rUpto 4096 r).1 hu.2.1 200000 (by omega)
    (fun i q out hi he ho hb => ?_) (fun i q out hi ho hb hb2 => ?_) (rUpto 4096 r).2 (by omega)
  · exact e
  · show F_dump_reader_each_L2 (rUpto 4096 r) (i : Int) q.s q.e o.Now o.Since o.Halt o.Fault o.Who out o.Out = _
    unfold F_dump_reader_each_L2 F_wire_Reader_Err F_dump_reader_each_J1 F_dump_Read_1
    have h1 : F_dump_reader_proc ⟨q.s, q.e⟩ = some (rProc q) := F_proc q (by omega)
    rw [dct hi, cond_true]
    simp only [Option.bind_some]
    rw [beqt he, cond_true, h1]
    simp only [Option.bind_some]
    rw [grd_t (by simp only [List.length_cons, List.length_nil]; omega), w64s (by omega)]
    rfl
  · show F_dump_reader_each_L2 (rUpto 4096 r) (i : Int) q.s q.e o.Now o.Since o.Halt o.Fault o.Who out o.Out = _
    unfold F_dump_reader_each_L2 F_wire_Reader_Err F_dump_reader_each_J1
    simp only [Option.bind_some]
    rcases hi with hi | hi
    · rw [dcf (by omega)]; rfl
    · rw [beqf hi]
      cases decide ((i : Int) < (rUpto 4096 r).1) <;> rfl
theorem F_read (r : RD) (hs : r.s.size ≤ 200000) : F_dump_Read r = some (rState r) := by
  have s1 := (fiveR.shr r).1
  have s2 := ((procR.list 4096 (by omega)).shr (five r).2).1
  unfold F_dump_Read F_wire_Reader_Err
  rw [F_into_st r (by omega)]
  simp only [Option.bind_some]
  rw [F_procs _ (by omega) _ rfl]
  simp only [Option.bind_some]
  rw [F_rInts 1048576 (by omega) _ (by omega)]
  simp only [Option.bind_some]
  have e : rState r = (if (rInts 1048576 (listR 4096 rProc (five r).2).2).2.e ≠ 0 then noSt else ⟨(five r).1.1, (five r).1.2.1, (five r).1.2.2.1, (five r).1.2.2.2.1, (five r).1.2.2.2.2, (listR 4096 rProc (five r).2).1, (rInts 1048576 (listR 4096 rProc (five r).2).2).1⟩, (rInts 1048576 (listR 4096 rProc (five r).2).2).2) := rfl
  rw [e]
  by_cases h : (rInts 1048576 (listR 4096 rProc (five r).2).2).2.e = 0
  · simp only [bne, beqt h]
    rw [if_neg (fun q => q h)]; rfl
  · simp only [bne, beqf h]
    rw [if_pos h]; rfl
-- the reference's reader
theorem F_readR (r : RD) (hs : r.s.size ≤ 200000) : F_retraceref30_Read (rr r) = some ((rState r).1, rr (rState r).2) := by
  have s1 := (rInt_size r).1
  have s2 := (rInt_size (rInt r).2).1
  have s3 := (rInt_size (rInt (rInt r).2).2).1
  have s4 := (rInt_size (rInt (rInt (rInt r).2).2).2).1
  have s5 := (fiveR.shr r).1
  have hu := rUpto_ok 4096 (by omega) (five r).2
  unfold F_retraceref30_Read
  rw [F_rIntR r (by omega)]; simp only [Option.bind_some]
  rw [F_rIntR _ (by omega)]; simp only [Option.bind_some]
  rw [F_rIntR _ (by omega)]; simp only [Option.bind_some]
  rw [F_rIntR _ (by omega)]; simp only [Option.bind_some]
  rw [F_rIntR _ (by omega)]; simp only [Option.bind_some]
  have e5 : (rInt (rInt (rInt (rInt (rInt r).2).2).2).2).2 = (five r).2 := rfl
  rw [e5, F_rUptoR 4096 (by omega) _ (by omega)]
  simp only [Option.bind_some]
  generalize hy2 : ((rInt r).1, rr (rInt r).2) = y2
  generalize hy4 : ((rInt (rInt r).2).1, rr (rInt (rInt r).2).2) = y4
  generalize hy6 : ((rInt (rInt (rInt r).2).2).1, rr (rInt (rInt (rInt r).2).2).2) = y6
  generalize hy8 : ((rInt (rInt (rInt (rInt r).2).2).2).1, rr (rInt (rInt (rInt (rInt r).2).2).2).2) = y8
  generalize hy10 : ((rInt (rInt (rInt (rInt (rInt r).2).2).2).2).1, rr (five r).2) = y10
  have e := Loop_many (step := fun s : (Int × ByteArray × Int × (List T_api_Proc)) => F_retraceref30_Read_L4 y2 y4 y6 y8 y10 ((rUpto 4096 (five r).2).1, rr (rUpto 4096 (five r).2).2) s.1 s.2.1 s.2.2.1 s.2.2.2)
    procR (fun i r out => (i, r.s, r.e, out)) (fun q out => (if (rInts 1048576 q).2.e ≠ 0 then noSt else (⟨y2.1, y4.1, y6.1, y8.1, y10.1, out, (rInts 1048576 q).1⟩ : Stt), rr (rInts 1048576 q).2)) (rUpto 4096 (five r).2).1 hu.2.1 200000 (by omega)
    (fun i q out hi he ho hb => ?_) (fun i q out hi ho hb hb2 => ?_) (rUpto 4096 (five r).2).2 (by omega)
  · refine e.trans ?_
    subst hy2 hy4 hy6 hy8 hy10
    rfl
  · show F_retraceref30_Read_L4 y2 y4 y6 y8 y10 _ (i : Int) q.s q.e out = _
    unfold F_retraceref30_Read_L4 F_retraceref30_Read_J1
    rw [dct hi, cond_true, beqt he, cond_true]
    have t1 := (rInt_size q).1
    have t2 := ((intR.pair intR).shr q).1
    have t3 := ((intsR 4096 (by omega)).shr (pairR rInt rInt q).2).1
    have q1 : F_retraceref03_Reader_Int ⟨q.s, q.e⟩ = some ((rInt q).1, rr (rInt q).2) := F_rIntR q (by omega)
    rw [q1]; simp only [Option.bind_some]
    rw [F_rIntR _ (by omega)]; simp only [Option.bind_some]
    have f2 : (rInt (rInt q).2).2 = (pairR rInt rInt q).2 := rfl
    rw [f2, F_rIntsR 4096 (by omega) _ (by omega)]
    simp only [Option.bind_some]
    generalize hq2 : (rInts 4096 (pairR rInt rInt q).2).2 = q2 at t3 ⊢
    have u1 := (rInt_size q2).1
    have u2 := (rInt_size (rInt q2).2).1
    have u3 := (rInt_size (rInt (rInt q2).2).2).1
    have u4 := (rInt_size (rInt (rInt (rInt q2).2).2).2).1
    have u5 := (rInt_size (rInt (rInt (rInt (rInt q2).2).2).2).2).1
    have u6 := (rInt_size (rInt (rInt (rInt (rInt (rInt q2).2).2).2).2).2).1
    have u7 := (sevenR.shr q2).1
    rw [F_rIntR q2 (by omega)]; simp only [Option.bind_some]
    rw [F_rIntR _ (by omega)]; simp only [Option.bind_some]
    rw [F_rIntR _ (by omega)]; simp only [Option.bind_some]
    rw [F_rIntR _ (by omega)]; simp only [Option.bind_some]
    rw [F_rIntR _ (by omega)]; simp only [Option.bind_some]
    rw [F_rIntR _ (by omega)]; simp only [Option.bind_some]
    rw [F_rIntR _ (by omega)]; simp only [Option.bind_some]
    have f7 : (rInt (rInt (rInt (rInt (rInt (rInt (rInt q2).2).2).2).2).2).2).2 = (seven q2).2 := rfl
    have hv := rUpto_ok 4096 (by omega) (seven q2).2
    rw [f7, F_rUptoR 4096 (by omega) _ (by omega)]
    simp only [Option.bind_some]
    refine (Loop_many (step := fun s : (Int × ByteArray × Int × (List T_api_Alt)) => F_retraceref30_Read_L3 (i : Int) out ((rInt q).1, rr (rInt q).2) ((rInt (rInt q).2).1, rr (pairR rInt rInt q).2) ((rInts 4096 (pairR rInt rInt q).2).1, rr q2) ((rInt q2).1, rr (rInt q2).2) ((rInt (rInt q2).2).1, rr (rInt (rInt q2).2).2) ((rInt (rInt (rInt q2).2).2).1, rr (rInt (rInt (rInt q2).2).2).2) ((rInt (rInt (rInt (rInt q2).2).2).2).1, rr (rInt (rInt (rInt (rInt q2).2).2).2).2) ((rInt (rInt (rInt (rInt (rInt q2).2).2).2).2).1, rr (rInt (rInt (rInt (rInt (rInt q2).2).2).2).2).2) ((rInt (rInt (rInt (rInt (rInt (rInt q2).2).2).2).2).2).1, rr (rInt (rInt (rInt (rInt (rInt (rInt q2).2).2).2).2).2).2) ((rInt (rInt (rInt (rInt (rInt (rInt (rInt q2).2).2).2).2).2).2).1, rr (seven q2).2) ((rUpto 4096 (seven q2).2).1, rr (rUpto 4096 (seven q2).2).2) s.1 s.2.1 s.2.2.1 s.2.2.2)
      altR (fun i r out => (i, r.s, r.e, out)) (fun w al => .inl (((i + 1 : Nat) : Int), w.s, w.e, out ++ [(⟨(rInt q).1, (rInt (rInt q).2).1, (rInts 4096 (pairR rInt rInt q).2).1, (seven q2).1.1, (seven q2).1.2.1, (seven q2).1.2.2.1, (seven q2).1.2.2.2.1, (seven q2).1.2.2.2.2.1, (seven q2).1.2.2.2.2.2.1, (seven q2).1.2.2.2.2.2.2, al⟩ : Pr)])) (rUpto 4096 (seven q2).2).1 hv.2.1 200000 (by omega)
      (fun k w al hk hw hal hkb => ?_) (fun k w al hk hal hkb hkb2 => ?_) (rUpto 4096 (seven q2).2).2 (by omega)).trans ?_
    · show F_retraceref30_Read_L3 (i : Int) out _ _ _ _ _ _ _ _ _ _ _ (k : Int) w.s w.e al = _
      unfold F_retraceref30_Read_L3 F_retraceref30_Read_J2
      have v1 := (rInt_size w).1
      have v2 := (rInt_size (rInt w).2).1
      have v3 := (rInt_size (rInt (rInt w).2).2).1
      have v4 := (rInt_size (rInt (rInt (rInt w).2).2).2).1
      have w1 : F_retraceref03_Reader_Int ⟨w.s, w.e⟩ = some ((rInt w).1, rr (rInt w).2) := F_rIntR w (by omega)
      rw [dct hk, cond_true, beqt hw, cond_true, w1]; simp only [Option.bind_some]
      rw [F_rIntR _ (by omega)]; simp only [Option.bind_some]
      rw [F_rIntR _ (by omega)]; simp only [Option.bind_some]
      rw [F_rIntR _ (by omega)]; simp only [Option.bind_some]
      rw [F_rIntR _ (by omega)]; simp only [Option.bind_some]
      rw [grd_t (by simp only [List.length_cons, List.length_nil]; omega), w64s (by omega)]
      rfl
    · show F_retraceref30_Read_L3 (i : Int) out _ _ _ _ _ _ _ _ _ _ _ (k : Int) w.s w.e al = _
      unfold F_retraceref30_Read_L3 F_retraceref30_Read_J2
      have fin : ∀ b : Bool, b = false → cond b (F_retraceref30_Read_J2 (i : Int) out ((rInt q).1, rr (rInt q).2) ((rInt (rInt q).2).1, rr (pairR rInt rInt q).2) ((rInts 4096 (pairR rInt rInt q).2).1, rr q2) ((rInt q2).1, rr (rInt q2).2) ((rInt (rInt q2).2).1, rr (rInt (rInt q2).2).2) ((rInt (rInt (rInt q2).2).2).1, rr (rInt (rInt (rInt q2).2).2).2) ((rInt (rInt (rInt (rInt q2).2).2).2).1, rr (rInt (rInt (rInt (rInt q2).2).2).2).2) ((rInt (rInt (rInt (rInt (rInt q2).2).2).2).2).1, rr (rInt (rInt (rInt (rInt (rInt q2).2).2).2).2).2) ((rInt (rInt (rInt (rInt (rInt (rInt q2).2).2).2).2).2).1, rr (rInt (rInt (rInt (rInt (rInt (rInt q2).2).2).2).2).2).2) ((rInt (rInt (rInt (rInt (rInt (rInt (rInt q2).2).2).2).2).2).2).1, rr (seven q2).2) (k : Int) w.s w.e al true) (none) = none := fun b hb => by rw [hb]; rfl
      rcases hk with hk | hk
      · rw [dcf (by omega)]
        simp only [cond_false]
        rw [grd_t (by simp only [List.length_cons, List.length_nil]; omega), w64s (by omega)]
        rfl
      · rw [beqf hk]
        simp only [cond_false, Bool.cond_self]
        rw [grd_t (by simp only [List.length_cons, List.length_nil]; omega), w64s (by omega)]
        rfl
    · subst hq2
      rfl
  · show F_retraceref30_Read_L4 y2 y4 y6 y8 y10 _ (i : Int) q.s q.e out = _
    unfold F_retraceref30_Read_L4 F_retraceref30_Read_J1
    have q1 : F_retraceref03_Reader_Ints 1048576 ⟨q.s, q.e⟩ = some ((rInts 1048576 q).1, rr (rInts 1048576 q).2) := F_rIntsR 1048576 (by omega) q (by omega)
    rcases hi with hi | hi
    · rw [dcf (by omega)]
      simp only [cond_false]
      rw [q1]
      simp only [Option.bind_some]
      by_cases h : (rInts 1048576 q).2.e = 0
      · have h' : (rr (rInts 1048576 q).2).Bad = 0 := h
        simp only [bne, beqt h']
        rw [if_neg (fun z => z h)]; rfl
      · have h' : ¬ (rr (rInts 1048576 q).2).Bad = 0 := h
        simp only [bne, beqf h']
        rw [if_pos h]; rfl
    · rw [beqf hi]
      simp only [cond_false, Bool.cond_self]
      rw [q1]
      simp only [Option.bind_some]
      by_cases h : (rInts 1048576 q).2.e = 0
      · have h' : (rr (rInts 1048576 q).2).Bad = 0 := h
        simp only [bne, beqt h']
        rw [if_neg (fun z => z h)]; rfl
      · have h' : ¬ (rr (rInts 1048576 q).2).Bad = 0 := h
        simp only [bne, beqf h']
        rw [if_pos h]; rfl
end Go.Ab
