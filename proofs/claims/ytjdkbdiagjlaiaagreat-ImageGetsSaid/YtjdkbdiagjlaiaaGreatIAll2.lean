/- Parts of the proof, one behind the other. -/
import Derived.Test.YtjdkbdiagjlaiaaGreatIAll1
section
/- Code is got of an image; ImageGets. -/
namespace Go.Ab
set_option linter.unusedVariables false
set_option maxRecDepth 10000
theorem Loop_map {S R : Type} {step : S → Option (S ⊕ R)} {s : S} {X : Option R} (h : step s = X.map Sum.inr) : Loop step s = X := by
  cases X with
  | some r => exact Loop_inr h
  | none =>
    unfold Loop
    have : ¬ ∃ r n, iter step n s = some r := by
      rintro ⟨r, n, e⟩
      cases n with
      | zero => cases e
      | succ n => unfold iter at e; rw [h] at e; cases e
    rw [dif_neg this]
theorem Loop_manyO {S' R α : Type} {step : S' → Option (S' ⊕ R)} {one : RD → α × RD} {enc : α → List Int} {ok : α → Prop} (h : Rdr one enc ok) (emb : Int → RD → List α → S') (fin : RD → List α → Option R) (n : Int) (hn : n ≤ 9223372036854775807) (B : Nat) (hB : B ≤ 1000000)
    (h1 : ∀ (i : Nat) (r : RD) (out : List α), (i : Int) < n → r.e = 0 → out.length = i → i + r.s.size ≤ B → step (emb (i : Int) r out) = some (.inl (emb ((i + 1 : Nat) : Int) (one r).2 (out ++ [(one r).1]))))
    (h2 : ∀ (i : Nat) (r : RD) (out : List α), (n ≤ i ∨ r.e ≠ 0) → r.s.size ≤ B → step (emb (i : Int) r out) = (fin r out).map Sum.inr) :
    ∀ r : RD, r.s.size ≤ B → Loop step (emb 0 r []) = fin (many one n.toNat r).2 (many one n.toNat r).1 := by
  have key : ∀ (d : Nat) (i : Nat) (r : RD) (out : List α), (i : Int) + d = n → out.length = i → i + r.s.size ≤ B → Loop step (emb (i : Int) r out) = fin (many one d r).2 (out ++ (many one d r).1) := by
    intro d
    induction d with
    | zero =>
      intro i r out hi ho hb
      rw [Loop_map (h2 i r out (.inl (by omega)) (by omega))]
      simp [many]
    | succ d ih =>
      intro i r out hi ho hb
      by_cases he : r.e = 0
      · rw [Loop_inl (h1 i r out (by omega) he ho hb), many_good he]
        obtain ⟨a, b⟩ := h.shr r
        by_cases he2 : (one r).2.e = 0
        · have := b he he2
          rw [ih (i + 1) (one r).2 (out ++ [(one r).1]) (by omega) (by simp [ho]) (by omega)]
          simp
        · rw [many_bad he2, Loop_map (h2 (i + 1) (one r).2 (out ++ [(one r).1]) (.inr he2) (by omega))]
      · rw [many_bad he, Loop_map (h2 i r out (.inr he) (by omega)), List.append_nil]
  intro r hr
  by_cases hn0 : 0 ≤ n
  · have := key n.toNat 0 r [] (by omega) rfl (by omega)
    rw [List.nil_append] at this
    exact this
  · have e : n.toNat = 0 := by omega
    rw [e]
    exact Loop_map (h2 0 r [] (.inl (by omega)) hr)
theorem openV_size (s : ByteArray) : (openV s).1.size ≤ s.size := by
  unfold openV
  repeat' split
  all_goals first
    | exact Nat.zero_le _
    | (rw [ByteArray.size_extract]; omega)
theorem mag_iff (t : ByteArray) : ((t.extract (Int.toNat 0) (Int.toNat 4)).toList == (⟨#[82, 84, 67, 49]⟩ : ByteArray).toList) = decide ((sB t).take 4 = [82, 84, 67, 49]) := by
  rw [eqS]
  have hx : sB (t.extract (Int.toNat 0) (Int.toNat 4)) = (sB t).take 4 := by rw [sB_cut]; rfl
  by_cases h : (sB t).take 4 = [82, 84, 67, 49]
  · rw [decide_eq_true h, decide_eq_true]
    apply sB_inj; rw [hx, h]; rfl
  · rw [decide_eq_false h, decide_eq_false]
    intro e
    apply h
    rw [← hx, e]; rfl
theorem take_short {t : ByteArray} (h : t.size < 4) : (sB t).take 4 ≠ [82, 84, 67, 49] := by
  intro e
  have := congrArg List.length e
  rw [List.length_take, sB_len] at this
  simp at this; omega
theorem F_cut (t : ByteArray) : F_strings_CutPrefix t (⟨#[82, 84, 67, 49]⟩ : ByteArray) = some (if (sB t).take 4 = [82, 84, 67, 49] then (restB t 4, true) else (t, false)) := by
  unfold F_strings_CutPrefix F_internal_stringslite_CutPrefix F_internal_stringslite_HasPrefix F_internal_stringslite_HasPrefix_J1
  have e4 : (((⟨#[82, 84, 67, 49]⟩ : ByteArray).size : Nat) : Int) = 4 := rfl
  rw [e4]
  by_cases h : (4 : Int) ≤ t.size
  · rw [dct h, cond_true, grd_t (by omega), mag_iff]
    simp only [Option.bind_some]
    by_cases h4 : (sB t).take 4 = [82, 84, 67, 49]
    · rw [decide_eq_true h4, if_pos h4, Bool.not_true, cond_false, grd_t (by omega)]
      simp only [Option.bind_some]
      unfold restB
      rw [Int.toNat_natCast]
    · rw [decide_eq_false h4, if_neg h4]; rfl
  · rw [dcf h, if_neg (take_short (by omega))]; rfl
noncomputable def chkE (c : Cd) : Int := match F_retraceref20_Check c with | some [a, e] => e | _ => 0
noncomputable def imgV (W : Cd × Int) : Cd × Int := if W.2 ≠ 0 then (noCd, W.2) else if chkE W.1 ≠ 0 then (noCd, chkE W.1) else (W.1, 0)
structure SmC (c : Cd) : Prop where
  s : CSmall c
  i : InC c
theorem chkE_of {c : Cd} (h : SmC c) : ∃ a, F_code_Check c = some (a, chkE c) ∧ F_retraceref20_Check c = some [a, chkE c] ∧ (chkE c = 0 → a = 0 ∧ OkC c) := by
  obtain ⟨a, e, h1, h2, h3⟩ := chk c h.s h.i
  have : chkE c = e := by unfold chkE; rw [h2]
  rw [this]
  exact ⟨a, h1, h2, h3⟩
theorem get_tail (R : CdT × RD) (hz : R.1.2.2.2.2.size ≤ 300000) (hok : (preW R).2 = 0 → SmC (preW R).1) :
    (cond (endV R.2 != 0) (some ((⟨([] : List T_api_Ins), ([] : List T_api_Def), ([] : List T_api_Chan), 0, 0⟩ : T_api_Code), endV R.2)) ((F_ins_Get R.1.2.2.2.2).bind fun y31 => cond (y31.2 != 0) (some ((⟨([] : List T_api_Ins), ([] : List T_api_Def), ([] : List T_api_Chan), 0, 0⟩ : T_api_Code), y31.2)) ((F_code_Check (⟨y31.1, R.1.1, R.1.2.1, R.1.2.2.1, R.1.2.2.2.1⟩ : T_api_Code)).bind fun y37 => cond (y37.2 != 0) (some ((⟨([] : List T_api_Ins), ([] : List T_api_Def), ([] : List T_api_Chan), 0, 0⟩ : T_api_Code), y37.2)) (some ((⟨y31.1, R.1.1, R.1.2.1, R.1.2.2.1, R.1.2.2.2.1⟩ : T_api_Code), 0))))) = some (imgV (preW R)) := by
  unfold imgV
  by_cases h1 : endV R.2 = 0
  · have e1 : (endV R.2 != 0) = false := by simp [h1]
    rw [e1, cond_false, F_iget _ hz]
    simp only [Option.bind_some]
    by_cases h2 : (insV R.1.2.2.2.2).2 = 0
    · have e2 : ((insV R.1.2.2.2.2).2 != 0) = false := by simp [h2]
      have hw : preW R = (⟨(insV R.1.2.2.2.2).1, R.1.1, R.1.2.1, R.1.2.2.1, R.1.2.2.2.1⟩, 0) := by
        unfold preW; rw [if_neg (fun x => x h1), if_neg (fun x => x h2)]
      rw [hw] at hok ⊢
      obtain ⟨a, q1, q2, q3⟩ := chkE_of (hok rfl)
      simp only at q1
      rw [e2, cond_false, q1]
      simp only [Option.bind_some]
      rw [if_neg (by simp)]
      by_cases h3 : chkE ⟨(insV R.1.2.2.2.2).1, R.1.1, R.1.2.1, R.1.2.2.1, R.1.2.2.2.1⟩ = 0
      · rw [if_neg (fun x => x h3), h3]; rfl
      · have e3 : (chkE ⟨(insV R.1.2.2.2.2).1, R.1.1, R.1.2.1, R.1.2.2.1, R.1.2.2.2.1⟩ != 0) = true := by simpa using h3
        rw [if_pos h3, e3]; rfl
    · have e2 : ((insV R.1.2.2.2.2).2 != 0) = true := by simpa using h2
      have hw : preW R = (noCd, (insV R.1.2.2.2.2).2) := by
        unfold preW; rw [if_neg (fun x => x h1), if_pos h2]
      rw [hw, e2, if_pos h2]; rfl
  · have e1 : (endV R.2 != 0) = true := by simpa using h1
    have hw : preW R = (noCd, endV R.2) := by unfold preW; rw [if_pos h1]
    rw [hw, e1, if_pos h1]; rfl
theorem bigT (r : RD) : (rText 2097152 r).1.size ≤ r.s.size := by
  have a := rText_le (m := 2097152) r
  have b := (rUpto_ok 2097152 (by omega) r).2.2
  omega
theorem F_get_mid (r : RD) (hs : r.s.size ≤ 200000) (hok : (preW (rCode r)).2 = 0 → SmC (preW (rCode r)).1) :
    ((F_image_rows_retrace_api_Def 32 r).bind fun y13 => (F_image_rows_retrace_api_Chan 64 y13.2).bind fun y14 => (F_image_reader_num y14.2).bind fun y17 => (F_image_reader_num y17.2).bind fun y18 => (F_wire_Reader_Text 2097152 y18.2).bind fun y20 => (F_wire_Reader_End y20.2).bind fun y25 => cond (y25 != 0) (some ((⟨([] : List T_api_Ins), ([] : List T_api_Def), ([] : List T_api_Chan), 0, 0⟩ : T_api_Code), y25)) ((F_ins_Get y20.1).bind fun y31 => cond (y31.2 != 0) (some ((⟨([] : List T_api_Ins), ([] : List T_api_Def), ([] : List T_api_Chan), 0, 0⟩ : T_api_Code), y31.2)) ((F_code_Check (⟨y31.1, y13.1, y14.1, y17.1, y18.1⟩ : T_api_Code)).bind fun y37 => cond (y37.2 != 0) (some ((⟨([] : List T_api_Ins), ([] : List T_api_Def), ([] : List T_api_Chan), 0, 0⟩ : T_api_Code), y37.2)) (some ((⟨y31.1, y13.1, y14.1, y17.1, y18.1⟩ : T_api_Code), 0))))) = some (imgV (preW (rCode r))) := by
  have s1 := (defsR.shr r).1
  have s2 := (chansR.shr (listR 32 rDef r).2).1
  have s3 := (num6R.shr (listR 64 rChan (listR 32 rDef r).2).2).1
  have s4 := (num6R.shr (num6 (listR 64 rChan (listR 32 rDef r).2).2).2).1
  have s5 := bigT (num6 (num6 (listR 64 rChan (listR 32 rDef r).2).2).2).2
  rw [F_defs r (by omega)]; simp only [Option.bind_some]
  rw [F_chans _ (by omega)]; simp only [Option.bind_some]
  rw [F_num6 _ (by omega)]; simp only [Option.bind_some]
  rw [F_num6 _ (by omega)]; simp only [Option.bind_some]
  rw [F_rText 2097152 (by omega) _ (by omega)]; simp only [Option.bind_some]
  rw [F_rEnd]; simp only [Option.bind_some]
  exact get_tail (rCode r) (by show (rText 2097152 _).1.size ≤ _; exact Nat.le_trans s5 (by omega)) hok
theorem F_imget (s : ByteArray) (hs : s.size ≤ 200000) (hok : (openV s).2 = 0 → (preV (openV s).1).2 = 0 → SmC (preV (openV s).1).1) :
    F_image_Get s = some (if (openV s).2 ≠ 0 then (noCd, (openV s).2) else imgV (preV (openV s).1)) := by
  unfold F_image_Get
  rw [F_open _ (by omega)]
  simp only [Option.bind_some]
  by_cases h0 : (openV s).2 = 0
  · have e0 : ((openV s).2 != 0) = false := by simp [h0]
    have hz := openV_size s
    have hok := hok h0
    have hI : (if (openV s).2 ≠ 0 then (noCd, (openV s).2) else imgV (preV (openV s).1)) = imgV (preV (openV s).1) := if_neg (fun x => x h0)
    rw [e0, cond_false, hI]
    generalize (openV s).1 = t at hz hok
    rw [F_cut]
    simp only [Option.bind_some]
    by_cases h4 : (sB t).take 4 = [82, 84, 67, 49]
    · have hp : preV t = preW (rCode ⟨restB t 4, 0⟩) := if_neg (fun x => x h4)
      rw [hp] at hok ⊢
      rw [if_pos h4]
      simp only [Bool.not_true, cond_false]
      have hl : 4 ≤ t.size := by
        have := congrArg List.length h4
        rw [List.length_take, sB_len] at this
        simp at this; omega
      have hr := rest_size t 4 (by omega) (by omega)
      unfold F_wire_Open
      simp only [Option.bind_some]
      exact F_get_mid ⟨restB t 4, 0⟩ (by show (restB t 4).size ≤ _; omega) hok
    · have hp : preV t = (noCd, 3) := if_pos h4
      rw [hp, if_neg h4]
      rfl
  · have e0 : ((openV s).2 != 0) = true := by simpa using h0
    rw [e0, if_pos h0]; rfl
/- the document's -/
theorem got_tail (R : CdT × RD) (hz : R.1.2.2.2.2.size ≤ 300000) (hok : (preW R).2 = 0 → SmC (preW R).1) :
    (cond (endV R.2 != 0) (some (⟨(⟨([] : List T_api_Ins), ([] : List T_api_Def), ([] : List T_api_Chan), 0, 0⟩ : T_api_Code), endV R.2⟩ : T_retraceref21_Got)) ((F_retraceref16_Get R.1.2.2.2.2).bind fun y156 => cond (y156.E != 0) (some (⟨(⟨([] : List T_api_Ins), ([] : List T_api_Def), ([] : List T_api_Chan), 0, 0⟩ : T_api_Code), y156.E⟩ : T_retraceref21_Got)) ((F_retraceref20_Check (⟨y156.L, R.1.1, R.1.2.1, R.1.2.2.1, R.1.2.2.2.1⟩ : T_api_Code)).bind fun y170 => grd ((y170).length = 2 ∧ ((List.replicate 2 (0 : Int))).length = 2) <| (aAt 2 y170 1).bind fun y173 => cond (y173 != 0) ((aAt 2 y170 1).bind fun y176 => some (⟨(⟨([] : List T_api_Ins), ([] : List T_api_Def), ([] : List T_api_Chan), 0, 0⟩ : T_api_Code), y176⟩ : T_retraceref21_Got)) (some (⟨(⟨y156.L, R.1.1, R.1.2.1, R.1.2.2.1, R.1.2.2.2.1⟩ : T_api_Code), 0⟩ : T_retraceref21_Got))))) = some ⟨(imgV (preW R)).1, (imgV (preW R)).2⟩ := by
  unfold imgV
  by_cases h1 : endV R.2 = 0
  · have e1 : (endV R.2 != 0) = false := by simp [h1]
    rw [e1, cond_false, F_igetR _ hz]
    simp only [Option.bind_some]
    by_cases h2 : (insV R.1.2.2.2.2).2 = 0
    · have e2 : ((insV R.1.2.2.2.2).2 != 0) = false := by simp [h2]
      have hw : preW R = (⟨(insV R.1.2.2.2.2).1, R.1.1, R.1.2.1, R.1.2.2.1, R.1.2.2.2.1⟩, 0) := by
        unfold preW; rw [if_neg (fun x => x h1), if_neg (fun x => x h2)]
      rw [hw] at hok ⊢
      obtain ⟨a, q1, q2, q3⟩ := chkE_of (hok rfl)
      simp only at q2
      rw [e2, cond_false, q2]
      simp only [Option.bind_some]
      rw [grd1I]
      simp only [at2, Option.bind_some]
      rw [if_neg (by simp)]
      by_cases h3 : chkE ⟨(insV R.1.2.2.2.2).1, R.1.1, R.1.2.1, R.1.2.2.1, R.1.2.2.2.1⟩ = 0
      · rw [if_neg (fun x => x h3), h3]; rfl
      · have e3 : (chkE ⟨(insV R.1.2.2.2.2).1, R.1.1, R.1.2.1, R.1.2.2.1, R.1.2.2.2.1⟩ != 0) = true := by simpa using h3
        rw [if_pos h3, e3]; rfl
    · have e2 : ((insV R.1.2.2.2.2).2 != 0) = true := by simpa using h2
      have hw : preW R = (noCd, (insV R.1.2.2.2.2).2) := by
        unfold preW; rw [if_neg (fun x => x h1), if_pos h2]
      rw [hw, e2, if_pos h2]; rfl
  · have e1 : (endV R.2 != 0) = true := by simpa using h1
    have hw : preW R = (noCd, endV R.2) := by unfold preW; rw [if_pos h1]
    rw [hw, e1, if_pos h1]; rfl
theorem got_chans (ds : List Df) (r : RD) (hs : r.s.size ≤ 200000) (hok : (preW ((ds, (hR r).1), (hR r).2)).2 = 0 → SmC (preW ((ds, (hR r).1), (hR r).2)).1) :
    ((F_retraceref03_Reader_Upto 64 (rr r)).bind fun y83 => Loop (fun s : (Int × ByteArray × Int × (List T_api_Chan)) => F_retraceref21_Get_L4 ds y83 s.1 s.2.1 s.2.2.1 s.2.2.2) (0, y83.2.S, y83.2.Bad, ([] : (List T_api_Chan)))) = some ⟨(imgV (preW ((ds, (hR r).1), (hR r).2))).1, (imgV (preW ((ds, (hR r).1), (hR r).2))).2⟩ := by
  have hu := rUpto_ok 64 (by omega) r
  rw [F_rUptoR 64 (by omega) r (by omega)]
  simp only [Option.bind_some]
  have e := Loop_manyO (step := fun s : (Int × ByteArray × Int × (List T_api_Chan)) => F_retraceref21_Get_L4 ds ((rUpto 64 r).1, rr (rUpto 64 r).2) s.1 s.2.1 s.2.2.1 s.2.2.2) chanR (fun i r out => (i, r.s, r.e, out))
    (fun q out => cond (endV (sR q).2 != 0) (some (⟨(⟨([] : List T_api_Ins), ([] : List T_api_Def), ([] : List T_api_Chan), 0, 0⟩ : T_api_Code), endV (sR q).2⟩ : T_retraceref21_Got)) ((F_retraceref16_Get (sR q).1.2.2).bind fun y156 => cond (y156.E != 0) (some (⟨(⟨([] : List T_api_Ins), ([] : List T_api_Def), ([] : List T_api_Chan), 0, 0⟩ : T_api_Code), y156.E⟩ : T_retraceref21_Got)) ((F_retraceref20_Check (⟨y156.L, ds, out, (sR q).1.1, (sR q).1.2.1⟩ : T_api_Code)).bind fun y170 => grd ((y170).length = 2 ∧ ((List.replicate 2 (0 : Int))).length = 2) <| (aAt 2 y170 1).bind fun y173 => cond (y173 != 0) ((aAt 2 y170 1).bind fun y176 => some (⟨(⟨([] : List T_api_Ins), ([] : List T_api_Def), ([] : List T_api_Chan), 0, 0⟩ : T_api_Code), y176⟩ : T_retraceref21_Got)) (some (⟨(⟨y156.L, ds, out, (sR q).1.1, (sR q).1.2.1⟩ : T_api_Code), 0⟩ : T_retraceref21_Got)))))
    (rUpto 64 r).1 hu.2.1 200000 (by omega) (fun i q out hi he ho hb => ?_) (fun i q out hi hb => ?_) (rUpto 64 r).2 (by omega)
  · refine Eq.trans e ?_
    have hb := (chansR.shr r).1
    have h3 := (num6R.shr (listR 64 rChan r).2).1
    have h4 := (num6R.shr (num6 (listR 64 rChan r).2).2).1
    have h5 := bigT (num6 (num6 (listR 64 rChan r).2).2).2
    exact got_tail ((ds, (hR r).1), (hR r).2) (by show (rText 2097152 _).1.size ≤ _; exact Nat.le_trans h5 (by omega)) hok
  · show F_retraceref21_Get_L4 ds ((rUpto 64 r).1, rr (rUpto 64 r).2) (i : Int) q.s q.e out = _
    have s1 := rText_shr (m := 16) (by omega) (by omega) q
    have s2 := (num6R.shr (rText 16 q).2).1
    unfold F_retraceref21_Get_L4 F_retraceref21_Get_J3
    have h1 : F_retraceref03_Reader_Text 16 ⟨q.s, q.e⟩ = some ((rText 16 q).1, rr (rText 16 q).2) := F_rTextR 16 (by omega) q (by omega)
    rw [dct hi, cond_true, beqt he, cond_true, h1]
    simp only [Option.bind_some]
    rw [F_rUptoR 65536 (by omega) _ (by omega)]
    simp only [Option.bind_some]
    rw [F_rUptoR 65536 (by omega) _ (by have : (rUpto 65536 (rText 16 q).2).2.s.size ≤ _ := s2
                                        omega)]
    simp only [Option.bind_some]
    rw [grd_t (by simp only [List.length_cons, List.length_nil]; omega), w64s (by omega)]
    rfl
  · show F_retraceref21_Get_L4 ds ((rUpto 64 r).1, rr (rUpto 64 r).2) (i : Int) q.s q.e out = _
    have h3 := (num6R.shr q).1
    have h4 := (num6R.shr (num6 q).2).1
    have J : F_retraceref21_Get_J3 ds (i : Int) q.s q.e out false = (cond (endV (sR q).2 != 0) (some (⟨(⟨([] : List T_api_Ins), ([] : List T_api_Def), ([] : List T_api_Chan), 0, 0⟩ : T_api_Code), endV (sR q).2⟩ : T_retraceref21_Got)) ((F_retraceref16_Get (sR q).1.2.2).bind fun y156 => cond (y156.E != 0) (some (⟨(⟨([] : List T_api_Ins), ([] : List T_api_Def), ([] : List T_api_Chan), 0, 0⟩ : T_api_Code), y156.E⟩ : T_retraceref21_Got)) ((F_retraceref20_Check (⟨y156.L, ds, out, (sR q).1.1, (sR q).1.2.1⟩ : T_api_Code)).bind fun y170 => grd ((y170).length = 2 ∧ ((List.replicate 2 (0 : Int))).length = 2) <| (aAt 2 y170 1).bind fun y173 => cond (y173 != 0) ((aAt 2 y170 1).bind fun y176 => some (⟨(⟨([] : List T_api_Ins), ([] : List T_api_Def), ([] : List T_api_Chan), 0, 0⟩ : T_api_Code), y176⟩ : T_retraceref21_Got)) (some (⟨(⟨y156.L, ds, out, (sR q).1.1, (sR q).1.2.1⟩ : T_api_Code), 0⟩ : T_retraceref21_Got))))).map Sum.inr := by
      unfold F_retraceref21_Get_J3
      have h1 : F_retraceref03_Reader_Upto 65536 ⟨q.s, q.e⟩ = some ((num6 q).1, rr (num6 q).2) := F_rUptoR 65536 (by omega) q (by omega)
      rw [cond_false, h1]
      simp only [Option.bind_some]
      rw [F_rUptoR 65536 (by omega) _ (by omega)]
      simp only [Option.bind_some]
      rw [F_rTextR 2097152 (by omega) _ (by have : (rUpto 65536 (num6 q).2).2.s.size ≤ _ := h4
                                            omega)]
      simp only [Option.bind_some]
      rw [F_rEndR]
      rfl
    unfold F_retraceref21_Get_L4
    rcases hi with hi | hi
    · rw [dcf (by omega), cond_false]; exact J
    · rw [beqf hi]
      cases decide ((i : Int) < (rUpto 64 r).1) <;> exact J
theorem F_gotR (t : ByteArray) (hs : t.size ≤ 200000) (hok : (preV t).2 = 0 → SmC (preV t).1) : F_retraceref21_Get t = some ⟨(imgV (preV t)).1, (imgV (preV t)).2⟩ := by
  unfold F_retraceref21_Get
  have bad : (sB t).take 4 ≠ [82, 84, 67, 49] → F_retraceref21_Get_J1 t true = some ⟨(imgV (preV t)).1, (imgV (preV t)).2⟩ := by
    intro h4
    have hp : preV t = (noCd, 3) := if_pos h4
    rw [hp]; rfl
  by_cases h : (t.size : Int) < 4
  · rw [dct h, cond_true]; exact bad (take_short (by omega))
  · rw [dcf h, cond_false, grd_t (by omega), mag_iff]
    by_cases h4 : (sB t).take 4 = [82, 84, 67, 49]
    · have hp : preV t = preW (rCode ⟨restB t 4, 0⟩) := if_neg (fun x => x h4)
      rw [hp] at hok ⊢
      rw [decide_eq_true h4, Bool.not_true]
      unfold F_retraceref21_Get_J1
      rw [cond_false, grd_t (by omega)]
      have e4 : t.extract (Int.toNat 4) (Int.toNat (t.size : Int)) = restB t 4 := by unfold restB; rw [Int.toNat_natCast]
      rw [e4]
      have hr := rest_size t 4 (by omega) (by omega)
      generalize hq : (⟨restB t 4, 0⟩ : RD) = r at hok ⊢
      have hrs : r.s.size ≤ 200000 := by rw [← hq]; show (restB t 4).size ≤ _; omega
      have h1 : F_retraceref03_Reader_Upto 32 ⟨restB t 4, 0⟩ = some ((rUpto 32 r).1, rr (rUpto 32 r).2) := by
        rw [← hq]; exact F_rUptoR 32 (by omega) ⟨restB t 4, 0⟩ (by show (restB t 4).size ≤ _; omega)
      rw [h1]
      simp only [Option.bind_some]
      have hu := rUpto_ok 32 (by omega) r
      have e := Loop_manyO (step := fun s : (Int × ByteArray × Int × (List T_api_Def)) => F_retraceref21_Get_L5 ((rUpto 32 r).1, rr (rUpto 32 r).2) s.1 s.2.1 s.2.2.1 s.2.2.2) defR (fun i r out => (i, r.s, r.e, out))
        (fun q out => (F_retraceref03_Reader_Upto 64 (rr q)).bind fun y83 => Loop (fun s : (Int × ByteArray × Int × (List T_api_Chan)) => F_retraceref21_Get_L4 out y83 s.1 s.2.1 s.2.2.1 s.2.2.2) (0, y83.2.S, y83.2.Bad, ([] : (List T_api_Chan))))
        (rUpto 32 r).1 hu.2.1 200000 (by omega) (fun i q out hi he ho hb => ?_) (fun i q out hi hb => ?_) (rUpto 32 r).2 (by omega)
      · refine Eq.trans e ?_
        have hb := (defsR.shr r).1
        exact got_chans (listR 32 rDef r).1 (listR 32 rDef r).2 (by omega) hok
      · show F_retraceref21_Get_L5 ((rUpto 32 r).1, rr (rUpto 32 r).2) (i : Int) q.s q.e out = _
        have s1 := rText_shr (m := 16) (by omega) (by omega) q
        have s2 := (num6R.shr (rText 16 q).2).1
        have s3 := (num6R.shr (num6 (rText 16 q).2).2).1
        unfold F_retraceref21_Get_L5 F_retraceref21_Get_J2
        have h1 : F_retraceref03_Reader_Text 16 ⟨q.s, q.e⟩ = some ((rText 16 q).1, rr (rText 16 q).2) := F_rTextR 16 (by omega) q (by omega)
        have n6 : ∀ z : RD, rUpto 65536 z = num6 z := fun _ => rfl
        rw [dct hi, cond_true, beqt he, cond_true, h1]
        simp only [Option.bind_some]
        rw [F_rUptoR 65536 (by omega) _ (by omega), n6]
        simp only [Option.bind_some]
        rw [F_rUptoR 65536 (by omega) _ (by omega), n6]
        simp only [Option.bind_some]
        rw [F_rUptoR 65536 (by omega) _ (by omega), n6]
        simp only [Option.bind_some]
        rw [grd_t (by simp only [List.length_cons, List.length_nil]; omega), w64s (by omega)]
        rfl
      · show F_retraceref21_Get_L5 ((rUpto 32 r).1, rr (rUpto 32 r).2) (i : Int) q.s q.e out = _
        unfold F_retraceref21_Get_L5 F_retraceref21_Get_J2
        rcases hi with hi | hi
        · rw [dcf (by omega), cond_false]; rfl
        · rw [beqf hi]
          cases decide ((i : Int) < (rUpto 32 r).1) <;> rfl
    · rw [decide_eq_false h4, Bool.not_false]; exact bad h4
end Go.Ab
end
section
/- Code alike; ImageGets. -/
namespace Go.Ab
set_option linter.unusedVariables false
set_option maxRecDepth 10000
theorem same_self (c : Cd) (h1 : c.Ins.length ≤ 1000000) (h2 : c.Defs.length ≤ 1000000) (h3 : c.Chans.length ≤ 1000000) : F_retraceref19_Same c c = some true := by
  have e2 : Loop (fun s : (Int) => F_retraceref19_Same_L2 c c s) 0 = some true := by
    refine Loop_nat (step := fun s : (Int) => F_retraceref19_Same_L2 c c s) (fun k => (k : Int)) c.Chans.length (fun k hk => ?_) ?_
    · show F_retraceref19_Same_L2 c c (k : Int) = _
      unfold F_retraceref19_Same_L2
      rw [dct (by omega), lAt_lt hk]
      simp only [cond_true, Option.bind_some, beq_self_eq_true, Bool.and_self, Bool.not_true, cond_false]
      rw [w64s (by omega)]
    · show F_retraceref19_Same_L2 c c (c.Chans.length : Int) = _
      unfold F_retraceref19_Same_L2
      rw [dcf (by omega)]; rfl
  have e3 : Loop (fun s : (Int) => F_retraceref19_Same_L3 c c s) 0 = some true := by
    refine Loop_nat (step := fun s : (Int) => F_retraceref19_Same_L3 c c s) (fun k => (k : Int)) c.Defs.length (fun k hk => ?_) ?_
    · show F_retraceref19_Same_L3 c c (k : Int) = _
      unfold F_retraceref19_Same_L3
      rw [dct (by omega), lAt_lt hk]
      simp only [cond_true, Option.bind_some, beq_self_eq_true, Bool.and_self, Bool.not_true, cond_false]
      rw [w64s (by omega)]
    · show F_retraceref19_Same_L3 c c (c.Defs.length : Int) = _
      unfold F_retraceref19_Same_L3
      rw [dcf (by omega), e2]; rfl
  have e4 : Loop (fun s : (Int) => F_retraceref19_Same_L4 c c s) 0 = some true := by
    refine Loop_nat (step := fun s : (Int) => F_retraceref19_Same_L4 c c s) (fun k => (k : Int)) c.Ins.length (fun k hk => ?_) ?_
    · show F_retraceref19_Same_L4 c c (k : Int) = _
      unfold F_retraceref19_Same_L4
      rw [dct (by omega), lAt_lt hk]
      simp only [cond_true, Option.bind_some, beq_self_eq_true, Bool.and_self, Bool.not_true, cond_false]
      rw [w64s (by omega)]
    · show F_retraceref19_Same_L4 c c (c.Ins.length : Int) = _
      unfold F_retraceref19_Same_L4
      rw [dcf (by omega), e3]; rfl
  unfold F_retraceref19_Same F_retraceref19_Same_J1
  simp only [bne_self_eq_false, cond_false]
  exact e4
theorem insT_ge (l : List Iw) : l.length ≤ (insT l).size := by
  unfold insT
  rw [num_size]
  induction l with
  | nil => simp
  | cons x l ih =>
    have := insL_pos x
    simp only [List.flatMap_cons, List.length_append, List.length_cons]; omega
theorem codeB_ge (c : Cd) : c.Ins.length ≤ (codeB c).length := by
  have := insT_ge c.Ins
  unfold codeB codeL hL sL textL
  simp only [List.length_append, sB_len]; omega
theorem smC_pre {t : ByteArray} (hs : t.size ≤ 1500) (h : (preV t).2 = 0) : SmC (preV t).1 := by
  obtain ⟨a, b⟩ := preV_bwd h
  have hm : maxLen = 9223372036854775807 := rfl
  have hl := congrArg List.length a
  rw [sB_len] at hl
  have hg := codeB_ge (preV t).1
  have dn : ∀ d ∈ (preV t).1.Defs, d.Name.size ≤ maxLen := fun d hd => by have := (b.d.2 d hd).1; omega
  have cn : ∀ d ∈ (preV t).1.Chans, d.Name.size ≤ maxLen := fun d hd => by have := (b.h.2 d hd).1; omega
  exact ⟨⟨by omega, by have := b.d.1; omega, by have := b.h.1; omega, dn, cn⟩, ⟨fun x hx => ⟨(b.i x hx).a, (b.i x hx).b⟩, dn, cn⟩⟩
theorem noCd_same : F_retraceref19_Same noCd noCd = some true := same_self noCd (by simp [noCd]) (by simp [noCd]) (by simp [noCd])
/-- the chapter's example -/
def cEx : Cd := ⟨[⟨24, 0, 0⟩], [⟨⟨#[109, 97, 105, 110]⟩, 0, 0, 0⟩], [], 0, 0⟩
theorem tab0 : F_retraceref20_tables cEx = some true := by
  have e6 : Loop (fun s : (Int × Int) => F_retraceref20_tables_L6 cEx s.1 s.2) (0, 0) = some true := Loop_inr (by kernel_rfl)
  have e7 : F_retraceref20_tables_L7 cEx 1 = (Loop (fun s : (Int × Int) => F_retraceref20_tables_L6 cEx s.1 s.2) (0, 0)).map Sum.inr := by kernel_rfl
  have e8 : F_retraceref20_tables_L7 cEx 0 = some (.inl 1) := by kernel_rfl
  have e9 : F_retraceref20_tables cEx = Loop (fun s : (Int) => F_retraceref20_tables_L7 cEx s) 0 := by kernel_rfl
  rw [e9, Loop_inl (s' := (1 : Int)) e8]
  exact (Loop_map (X := some true) (by rw [← e6]; exact e7))
def lEx : List T_retraceref20_Is := [⟨true, 0, false⟩, ⟨false, 0, false⟩]
theorem flow0 : F_retraceref20_Flow cEx 0 = some (lEx, -1) := by
  have e1 : F_retraceref20_Flow cEx 0 = Loop (fun s : (Int × (List T_retraceref20_Is)) => F_retraceref20_Flow_L8 cEx 0 s.1 s.2) (0, lEx) := by kernel_rfl
  have e2 : F_retraceref20_Flow_L8 cEx 0 0 lEx = some (.inl (1, lEx)) := by kernel_rfl
  have e3 : F_retraceref20_Flow_L8 cEx 0 1 lEx = some (.inr (lEx, -1)) := by kernel_rfl
  rw [e1, Loop_inl (s' := ((1 : Int), lEx)) e2]
  exact Loop_inr e3
theorem chk0 : F_retraceref20_Check cEx = some [0, 0] := by
  have a1 : F_retraceref20_Check_L2 cEx 0 0 0 = some (.inl (0, 1)) := by kernel_rfl
  have a2 : F_retraceref20_Check_L2 cEx 0 0 1 = some (.inr (.inl (0, 1))) := by kernel_rfl
  have a3 : Loop (fun s : (Int × Int) => F_retraceref20_Check_L2 cEx 0 s.1 s.2) (0, 0) = some (.inl (0, 1)) := by
    rw [Loop_inl (s' := ((0 : Int), (1 : Int))) a1]
    exact Loop_inr a2
  have a4 : F_retraceref20_Check_L4 cEx 0 0 = Loop (fun s : (Int × Int) => F_retraceref20_Check_L2 cEx 0 s.1 s.2) (0, 0) := by kernel_rfl
  have b1 : F_retraceref20_Check_L3 cEx 0 = some (.inl 1) := by
    unfold F_retraceref20_Check_L3
    rw [flow0]; kernel_rfl
  have b2 : F_retraceref20_Check_L3 cEx 1 = some (.inr [0, 0]) := by kernel_rfl
  have b3 : Loop (fun s : (Int) => F_retraceref20_Check_L3 cEx s) 0 = some [0, 0] := by
    rw [Loop_inl (s' := (1 : Int)) b1]
    exact Loop_inr b2
  have a5 : F_retraceref20_Check_L4 cEx 0 1 = (Loop (fun s : (Int) => F_retraceref20_Check_L3 cEx s) 0).map Sum.inr := by kernel_rfl
  unfold F_retraceref20_Check
  rw [tab0]
  simp only [Option.bind_some, Bool.not_true, cond_false]
  rw [Loop_inl (s' := ((0 : Int), (1 : Int))) (a4.trans a3)]
  exact (Loop_map (X := some [0, 0]) (by rw [← b3]; exact a5))
theorem smC0 : SmC cEx := by
  have hm : maxLen = 9223372036854775807 := rfl
  have dn : ∀ d ∈ cEx.Defs, d.Name.size ≤ maxLen := fun d hd => by
    have : d = ⟨⟨#[109, 97, 105, 110]⟩, 0, 0, 0⟩ := by simpa [cEx] using hd
    rw [this, hm]; decide
  have cn : ∀ d ∈ cEx.Chans, d.Name.size ≤ maxLen := fun d hd => by cases hd
  refine ⟨⟨by decide, by decide, by decide, dn, cn⟩, ⟨fun x hx => ?_, dn, cn⟩⟩
  have : x = ⟨24, 0, 0⟩ := by simpa [cEx] using hx
  rw [this]
  unfold okI
  simp
theorem get_seal {c : Cd} (h : SmC c) (hc : OkC c) (he : chkE c = 0) : F_image_Get (codeS c ++ strOfNums (leN (moreN 0 (codeS c)))) = some (c, 0) := by
  have hl := h.s.ins
  have hz := codeS_size hc hl
  have ho := open_seal (codeS c)
  have hv : preV (codeS c) = (c, 0) := preV_fwd hc (by omega) (codeS_sB hc hl)
  have hiv : imgV (preV (codeS c)) = (c, 0) := by
    rw [hv]; unfold imgV; simp only; rw [if_neg (by simp), if_neg (fun x => x he)]
  have hsz : (codeS c ++ strOfNums (leN (moreN 0 (codeS c)))).size ≤ 60004 := by rw [ByteArray.size_append, leN_size]; omega
  rw [F_imget _ (by omega) (fun _ _ => by rw [ho]; simp only; rw [hv]; exact h), ho]
  simp only
  rw [if_neg (by simp), hiv]
theorem sizeEx : (codeS cEx).size = 18 := by
  unfold codeS
  rw [num_size]
  decide +kernel
theorem live21 : F_retracelaw21_live = some true := by
  have he : chkE cEx = 0 := by unfold chkE; rw [chk0]
  obtain ⟨a, q1, q2, q3⟩ := chkE_of smC0
  obtain ⟨rfl, hc⟩ := q3 he
  rw [he] at q1
  have hT : F_retraceref19_Text (⟨#[109, 97, 105, 110, 32, 123, 32, 125]⟩ : ByteArray) = some ⟨cEx, 0, 0⟩ := by kernel_rfl
  obtain ⟨p1, _⟩ := put_ok hc smC0.s.ins q1
  unfold F_retracelaw21_live F_retracelaw21_live_J1
  rw [hT]
  simp only [Option.bind_some]
  rw [p1]
  simp only [Option.bind_some]
  rw [get_seal smC0 hc he]
  simp only [Option.bind_some]
  have hz : (((codeS cEx ++ strOfNums (leN (moreN 0 (codeS cEx)))).size : Int) == 22) = true := by
    rw [ByteArray.size_append, leN_size, sizeEx]; rfl
  rw [hz, same_self cEx (by decide) (by decide) (by decide)]; rfl
theorem law_igets (s : ByteArray) (b : Bool) : F_retracelaw21_ImageGets s b = some true := by
  unfold F_retracelaw21_ImageGets
  by_cases hs : 1500 < (s.size : Int)
  · rw [dct hs, live21]; rfl
  rw [dcf hs, cond_false]
  cases b with
  | false =>
    rw [Bool.not_false, cond_true]
    have hz := openV_size s
    rw [F_imget s (by omega) (fun _ h => smC_pre (by omega) h)]
    simp only [Option.bind_some]
    by_cases h4 : (s.size : Int) < 4
    · have ho : openV s = (⟨#[]⟩, 2) := by unfold openV; rw [if_pos (by omega)]
      rw [dct h4, cond_true, ho]
      simp only
      rw [if_pos (by decide)]
      simp only [beq_self_eq_true, cond_true]
      rw [live21]; rfl
    · have ew : w64 ((s.size : Int) - 4) = (s.size : Int) - 4 := w64i (by omega) (by omega)
      have e4 : Int.toNat ((s.size : Int) - 4) = s.size - 4 := by omega
      have hx : (s.extract 0 (s.size - 4)).size ≤ 1000000 := by rw [ByteArray.size_extract]; omega
      rw [dcf h4, cond_false, ew, grd_t (by omega), e4, Int.toNat_zero, F_sumR _ hx]
      simp only [Option.bind_some]
      rw [F_bytesR _ (moreN_lt (by decide) _)]
      simp only [Option.bind_some]
      rw [grd_t (by omega), eqS, Int.toNat_natCast]
      by_cases hq : strOfNums (leN (moreN 0 (s.extract 0 (s.size - 4)))) = s.extract (s.size - 4) s.size
      · rw [decide_eq_true hq, cond_true, live21]; rfl
      · have ho : openV s = (⟨#[]⟩, 4) := by unfold openV; rw [if_neg (by omega), if_neg hq]
        rw [decide_eq_false hq, cond_false, ho]
        simp only
        rw [if_pos (by decide)]
        simp only [beq_self_eq_true, cond_true]
        rw [live21]; rfl
  | true =>
    have hw : (s ++ strOfNums (leN (moreN 0 s))).size ≤ 1504 := by
      rw [ByteArray.size_append, leN_size]; omega
    have ho := open_seal s
    rw [Bool.not_true, cond_false, F_sumR _ (by omega)]
    simp only [Option.bind_some]
    rw [F_bytesR _ (moreN_lt (by decide) _)]
    simp only [Option.bind_some]
    rw [grd_t (by rw [leN_size]; omega), F_imget _ (by omega) (fun _ h => by rw [ho] at h ⊢; exact smC_pre (by show s.size ≤ 1500; omega) h), F_gotR s (by omega) (fun h => smC_pre (by omega) h)]
    simp only [Option.bind_some]
    rw [ho]
    simp only
    rw [if_neg (by simp)]
    simp only [bne_self_eq_false, cond_false]
    have bad : ∀ e : Int, e ≠ 0 → imgV (preV s) = (noCd, e) → ((F_retraceref19_Same (imgV (preV s)).1 (imgV (preV s)).1).bind fun y107 => F_retracelaw21_ImageGets_J3 s (strOfNums (leN (moreN 0 s))) (imgV (preV s)) (!y107)) = some true := by
      intro e he h
      rw [h, noCd_same]
      simp only [Option.bind_some, Bool.not_true]
      unfold F_retracelaw21_ImageGets_J3
      have : (e != 0) = true := by simpa using he
      simp only [cond_false, this, cond_true]
      rw [live21]; rfl
    by_cases h1 : (preV s).2 = 0
    · have hsm := smC_pre (by omega) h1
      obtain ⟨a, q1, q2, q3⟩ := chkE_of hsm
      by_cases h2 : chkE (preV s).1 = 0
      · obtain ⟨rfl, hc⟩ := q3 h2
        rw [h2] at q1
        have hv : imgV (preV s) = ((preV s).1, 0) := by unfold imgV; rw [if_neg (fun x => x h1), if_neg (fun x => x h2)]
        have hi := hsm.s.ins
        have hd := hsm.s.defs
        have hh := hsm.s.chans
        obtain ⟨p1, p2⟩ := put_ok hc hi q1
        have hS : codeS (preV s).1 = s := by
          unfold codeS
          rw [← (preV_bwd h1).1, num_sB]
        rw [hS] at p1
        rw [hv]
        simp only
        rw [same_self _ (by omega) (by omega) (by omega)]
        simp only [Option.bind_some, Bool.not_true]
        unfold F_retracelaw21_ImageGets_J3
        simp only [cond_false, bne_self_eq_false]
        rw [p1]
        simp only [Option.bind_some, beq_self_eq_true, cond_true]
        rw [live21]; rfl
      · exact bad (chkE (preV s).1) h2 (by unfold imgV; rw [if_neg (fun x => x h1), if_pos h2])
    · exact bad (preV s).2 h1 (by unfold imgV; rw [if_pos h1])
end Go.Ab
end
