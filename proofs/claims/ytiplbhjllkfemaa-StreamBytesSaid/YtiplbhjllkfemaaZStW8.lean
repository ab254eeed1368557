/-
  The law of bytes, one by one or at once: walked.
-/
import Derived.Test.YtiplbhjllkfemaaZStW7
namespace Go.Proofs.Ytiplbhjllkfemaa.MSt
open Go.RowKit Go.Proofs.YtiplbhjllkfemaaW.PrintWords Go.Proofs.YtiplbhjllkfemaaW.PrintLast Go.Proofs.YtiplbhjllkfemaaW.PrintMore
attribute [local go_sem] max2_int min2_int max_two min_two max_three min_three max_four min_four
open Go.Proofs.Ytiplbhjllkfemaa.Stm (S S0 Fits put_keeps close_keeps over begs Come Part come_start)
open Go.Proofs.Ytiplbhjllkfemaa.Utf (valid bnums dec chars isByte bnums_length bnums_str bnums_byte bnums_append str_nums bnums_inj)
open Go.Proofs.Ytiplbhjllkfemaa.NChars (canon expand)
open Go.Proofs.Ytiplbhjllkfemaa.NText (cut_f)
open Go.Proofs.Ytiplbhjllkfemaa.StP
set_option linter.unusedVariables false
set_option linter.unusedSimpArgs false

theorem SInv.kept0 {w0 w w' : World} {g : Nat} {Q : Nat → Prop} (h : ∀ P, SInv w0 P g S0 w) (hb : Below w0.heap.size w0 w') (hk : Kept w w' Q) (hq : ¬ Q g) : ∀ P, SInv w0 P g S0 w' := by
  obtain ⟨h1, h2, vh, h3, h4⟩ := h (fun _ => False)
  exact fun P => ⟨hb, h2, vh, blk_kept h3 hk hq, Kd.R_mono (Kd.R_kept h4 hk (fun _ h => h.elim)) (fun _ h => h.elim)⟩
theorem lives_at {w0 w1 : World} {g : Nat} (h : ∀ P, SInv w0 P g S0 w1) (B : Nat) (hg : g < B) (hB : B ≤ w1.heap.size) : Lives w0 (fun k => B ≤ k) g 0 S0 w1 :=
  ⟨h _, fun e => Nat.lt_irrefl _ (Nat.lt_of_lt_of_le hg e), fun _ h => Nat.le_trans hB h, Fits.start⟩
theorem strNums_join {x y : List Int} {F : ByteArray} (h : x ++ y = bnums F) : strOfNums x ++ strOfNums y = F := by
  have hF := bnums_byte F
  rw [← h] at hF
  refine bnums_inj ?_
  rw [bnums_append, bnums_str (fun a ha => hF a (List.mem_append_left _ ha)), bnums_str (fun a ha => hF a (List.mem_append_right _ ha)), h]

theorem sn_append (x y : List Int) : strOfNums (x ++ y) = strOfNums x ++ strOfNums y := by
  have h : (strOfNums (x ++ y)).data.toList = (strOfNums x ++ strOfNums y).data.toList := by
    rw [strOfNums_data, ByteArray.data_append, Array.toList_append, strOfNums_data, strOfNums_data, List.map_append]
  have h2 := Array.toList_inj.1 h
  cases hx : strOfNums (x ++ y)
  cases hy : strOfNums x ++ strOfNums y
  rw [hx, hy] at h2
  exact congrArg _ h2

/-- A round's state. -/
structure ByteAt (w : World) (P : Nat → Prop) (g : Nat) (t : ByteArray) (j : Nat) (O : ByteArray) (wr : World) (s : S) (o cs A : List Int) : Prop where
  lives : Lives w P g (40 * j) s wr
  come : Come ((bnums t).take j) cs s o A
  part : Part (bnums s.rest)
  out : O = strOfNums o
  len : O.size ≤ 10000 * j

set_option maxHeartbeats 1000000 in
set_option maxRecDepth 100000 in
theorem StreamBytes.calls (text : ByteArray) (w : World) : Calls Try.prog 5 #[.string text] w fun e w' => e = .returned (.bool true) ∧ Below w.heap.size w w' := by
  obtain ⟨t, hcut, htl⟩ := cut_f text 120 (by omega)
  have htl : t.size ≤ 120 := by omega
  have HCUT := Aside0.mk hcut
  have kb := fun (W : World) (s : ByteArray) => print_bytes (P := Try.prog) 9 35 5 Try.underlying9 Try.underlying35 Try.underlying5 s W
  clear hcut
  rcases text_cases t (by omega) with ⟨kt, kr, km, HN⟩ | ⟨m, F, kt, kr, km, HG⟩
  · have HN := Aside0.mk HN
    go_enter Try.func5, Try.ntmps5
    go_wp2_with (first
      | (go_at_call 12; refine (begun.calls _).mono ?_; rintro e w1 ⟨rfl, hb1⟩; have HB1 := Aside0.mk hb1; clear hb1)
      | (go_at_call 9; refine (incipitlaw1_Cut.calls text 120 t _ HCUT.out).mono ?_; rintro e w2 ⟨rfl, ⟨nd, rfl⟩⟩)
      | (go_at_call 13; refine (incipitref1_Text.calls kt t _ false _ HN.out.text).mono ?_; rintro e w3 ⟨rfl, hb3⟩; have HB3 := Aside0.mk hb3; clear hb3)
      | (go_at_call 14; refine (incipitref1_Read.calls kr _ [] true _ HN.out.read).mono ?_; rintro e w4 ⟨vl, rfl, -, hb4⟩; have HB4 := Aside0.mk hb4; clear hb4))
    go_ret
    exact ⟨rfl, below_step (below_step (pw_below_drewN HB1.out nd) HB3.out) HB4.out⟩
  · have hFs := HG.size
    have HG := Aside0.mk HG
    cases ho : over 0 (expand m) with
    | true =>
      have HO := Aside0.mk ho
      clear ho
      go_enter Try.func5, Try.ntmps5
      go_wp2_with (first
        | (go_at_call 12; refine (begun.calls _).mono ?_; rintro e w1 ⟨rfl, hb1⟩; have HB1 := Aside0.mk hb1; clear hb1)
        | (go_at_call 9; refine (incipitlaw1_Cut.calls text 120 t _ HCUT.out).mono ?_; rintro e w2 ⟨rfl, ⟨nd, rfl⟩⟩)
        | (go_at_call 13; refine (incipitref1_Text.calls kt t _ true _ HG.out.text).mono ?_; rintro e w3 ⟨rfl, hb3⟩; have HB3 := Aside0.mk hb3; clear hb3)
        | (go_at_call 14; refine (incipitref1_Read.calls kr F (canon m) true _ HG.out.read).mono ?_; rintro e w4 ⟨vl, rfl, hl, hb4⟩; obtain ⟨Al, cl, el, hcl, hCl⟩ := Kd.R_reads hl; subst el; have HCL := Aside0.mk hcl; have HCC := Aside0.mk hCl; have HB4 := Aside0.mk hb4; clear hb4 hl hcl hCl)
        | (go_at_call 15; refine (incipitlaw5_marks.calls km Al cl (canon m) 30 true _ HCC.out HCL.out (HO.out ▸ HG.out.marks)).mono ?_; rintro e w5 ⟨rfl, hb5⟩; have HB5 := Aside0.mk hb5; clear hb5))
      go_ret
      exact ⟨rfl, below_step (below_step (below_step (pw_below_drewN HB1.out nd) HB3.out) HB4.out) HB5.out⟩
    | false =>
      have HO := Aside0.mk ho
      clear ho
      go_enter Try.func5, Try.ntmps5
      go_wp2_with (first
        | (go_at_call 12; refine (begun.calls _).mono ?_; rintro e w1 ⟨rfl, hb1⟩; have HB1 := Aside0.mk hb1; clear hb1)
        | (go_at_call 9; refine (incipitlaw1_Cut.calls text 120 t _ HCUT.out).mono ?_; rintro e w2 ⟨rfl, ⟨nd, rfl⟩⟩)
        | (go_at_call 13; refine (incipitref1_Text.calls kt t _ true _ HG.out.text).mono ?_; rintro e w3 ⟨rfl, hb3⟩; have HB3 := Aside0.mk hb3; clear hb3)
        | (go_at_call 14; refine (incipitref1_Read.calls kr F (canon m) true _ HG.out.read).mono ?_; rintro e w4 ⟨vl, rfl, hl, hb4⟩; obtain ⟨Al, cl, el, hcl, hCl⟩ := Kd.R_reads hl; subst el; have HCL := Aside0.mk hcl; have HCC := Aside0.mk hCl; have HB4 := Aside0.mk hb4; clear hb4 hl hcl hCl)
        | (go_at_call 15; refine (incipitlaw5_marks.calls km Al cl (canon m) 30 false _ HCC.out HCL.out (HO.out ▸ HG.out.marks)).mono ?_; rintro e w5 ⟨rfl, hb5⟩; have HB5 := Aside0.mk (below_step (below_step (below_step (pw_below_drewN HB1.out nd) HB3.out) HB4.out) hb5); clear hb5 HB1 HB3 HB4 HCC HCL))
      refine (New.calls w _ HB5.out).mono ?_
      rintro e w6 ⟨ga, rfl, hga, hsa, hb6⟩
      have HSA := Aside0.mk hsa
      have HB6 := Aside0.mk (below_step HB5.out hb6)
      clear hga hsa hb6 HB5
      go_wp2_with (fail)
      refine (New.calls w _ HB6.out).mono ?_
      rintro e w7 ⟨gb, rfl, hgb, hsb, hb7⟩
      have HSB := Aside0.mk hsb
      have LA := Aside0.mk (lives_at (fun P => (HSA.out P).step hb7) w7.heap.size ((HSA.out (fun _ => True)).step hb7).lt (Nat.le_refl _))
      have HNE := Aside0.mk (show ga < w6.heap.size ∧ w6.heap.size ≤ gb ∧ gb < w7.heap.size from ⟨(HSA.out (fun _ => True)).lt, hgb, (hsb (fun _ => True)).lt⟩)
      clear hgb hsb hb7 HSA HB6
      go_wp2_with (fail)
      obtain ⟨e0, cs0, A0, C0, P0⟩ := put_good HG.out.val HG.out.bytes HO.out come_start t [] (by simp)
      rw [List.nil_append, List.nil_append] at C0
      obtain ⟨c1, c2⟩ := close_good HG.out.val HG.out.bytes C0 P0
      have hk0 := (put_keeps Fits.start t).2
      have hk1 := (close_keeps (put_keeps Fits.start t).1).2
      refine (put_bytes LA.out t _ _ rfl (by omega)).mono ?_
      rintro e w8 ⟨vx, he, hl, hx, hk⟩
      rw [e0] at he
      subst he
      generalize S0.put t = r at hl hx c1 c2 hk0 hk1
      have HSB8 := Aside0.mk (SInv.kept0 HSB.out hl.inv.below hk (fun e => by have := HNE.out; rcases e with e | e <;> omega))
      obtain ⟨P8, hl8, hkeep8⟩ := hl.anew
      have HX8 := Aside0.mk ((hkeep8 rfl (by decide) hx).resolve_right (by decide))
      have HSZ8 := Aside0.mk (Nat.le_trans (show gb < w7.heap.size from HNE.out.2.2) hk.1)
      have LA8 := Aside0.mk hl8
      clear hl hx hk hkeep8 hl8 e0 C0 P0 HSB LA
      go_wp2_with (fail)
      refine (close_calls LA8.out (by omega)).mono ?_
      rintro e w9 ⟨vy, he, hl, hy, hk⟩
      rw [c1] at he
      subst he
      have hx9 := Kd.R_kept HX8.out hk (fun k h e => h (.inl e))
      obtain ⟨Ax, cx, ex, hcx, hCx⟩ := Kd.R_reads hx9
      obtain ⟨Ay, cy, ey, hcy, hCy⟩ := Kd.R_reads hy
      subst ex
      subst ey
      have hXY := strNums_join (c2.trans HG.out.form.symm)
      have hvx : (convert 35 9 (.slice Ax r.1.length cx)).run Try.prog w9 = .ok (.string (strOfNums r.1)) w9 := Kd.C_string Try.underlying35 Try.underlying5 Try.underlying9 hCx
      have hvy : (convert 35 9 (.slice Ay r.2.2.close.1.length cy)).run Try.prog w9 = .ok (.string (strOfNums r.2.2.close.1)) w9 := Kd.C_string Try.underlying35 Try.underlying5 Try.underlying9 hCy
      have hsx := strNums_size r.1
      have hsy := strNums_size r.2.2.close.1
      have HSB9 := Aside0.mk (SInv.kept0 HSB8.out hl.inv.below hk (fun e => by have := HNE.out; omega))
      have HSZ9 := Aside0.mk (Nat.le_trans HSZ8.out hk.1)
      generalize strOfNums r.1 = X at hvx hXY hsx
      generalize strOfNums r.2.2.close.1 = Y at hvy hXY hsy
      have hz4 : (9223372036854775807 < X.size + Y.size) = False := by simp; omega
      clear hl hx9 hy hk hcx hCx hcy hCy c1 c2 hk0 hk1 hsx hsy HX8 LA8 HSB8 HSZ8
      go_wp2
      have HS := Aside0.mk (show ByteAt w (fun k => w9.heap.size ≤ k) gb t 0 ⟨#[]⟩ w9 S0 [] [] [] from
        ⟨lives_at HSB9.out w9.heap.size HSZ9.out (Nat.le_refl _), come_start, ⟨rfl, rfl⟩, rfl, Nat.zero_le _⟩)
      clear hvx hvy hXY hz4 HSB9 HSZ9
      go_loopw [14, 15] (fun v14 i wr => ∃ j : Nat, j ≤ t.size ∧ i = .int .i64 j ∧ ∃ O : ByteArray, v14 = .string O ∧ Aside0 (∃ s o cs A, ByteAt w (fun k => w9.heap.size ≤ k) gb t j O wr s o cs A)) (fun _ i _ => t.size - (intOf i).toNat)
      case atStart => exact ⟨0, Nat.zero_le _, rfl, _, rfl, ⟨_, _, _, _, HS.out⟩⟩
      case round =>
        clear HS
        obtain ⟨j, hj, rfl, O, rfl, hJ⟩ := hrel
        obtain ⟨s, o, cs, A, HA⟩ := hJ.out
        clear hJ
        obtain ⟨hlv, hcm, hpt, hou, hol⟩ := HA
        have hbl := bnums_length t
        by_cases hlt : j < t.size
        · have hlen : j < (bnums t).length := by omega
          obtain ⟨c, hc, hbyte, hdr⟩ : ∃ c : Int, ((t[j]'hlt).toNat : Int) = c ∧ (0 ≤ c ∧ c < 256) ∧ (bnums t).take (j + 1) = (bnums t).take j ++ [c] :=
            ⟨(bnums t)[j], by simp [bnums]; rfl, bnums_byte t _ (List.getElem_mem hlen), List.take_succ_eq_append_getElem hlen⟩
          have hone : bnums (strOfNums [c]) = [c] := bnums_str (by intro x hx; rw [List.mem_singleton.1 hx]; exact hbyte)
          have htk : (bnums t).take j ++ bnums (strOfNums [c]) = (bnums t).take (j + 1) := by rw [hone, hdr]
          obtain ⟨e0, cs', A', C0, P0⟩ := put_good HG.out.val HG.out.bytes HO.out hcm (strOfNums [c]) ((bnums t).drop (j + 1)) (by rw [htk, List.take_append_drop])
          rw [htk] at C0
          have hk0 := (put_keeps hlv.fits (strOfNums [c])).2
          rw [strNums_size] at hk0
          have hk0 : (s.put (strOfNums [c])).1.length ≤ 40 * j + 40 * 1 := hk0
          have HL := Aside0.mk hlv
          have HC := Aside0.mk hc
          have HOU := Aside0.mk hou
          have C0 := Aside0.mk C0
          have P0 := Aside0.mk P0
          have E0 := Aside0.mk e0
          clear hlv hcm hpt hou hone htk hdr hc e0 hlen hbl
          go_wp2_with (fail)
          have hba : Below wr.heap.size wr (wr.alloc (.cells #[.int .u8 ((t[j]'hlt).toNat : Int)] 5)) := below_alloc (Below.refl _ _) _
          refine (put_calls (HL.out.step hba) (some ⟨wr.heap.size, 0, none⟩) 1 [c] (strOfNums [c]) (by rw [HC.out]; exact lit_C wr [c] (by rw [List.length_singleton]; omega)) rfl (by show 40 * j + 40 * 1 ≤ 800000; omega)).mono ?_
          rintro e w1 ⟨vz, he, hl, hz, hk⟩
          rw [E0.out] at he
          subst he
          have C0 := C0.out
          have P0 := P0.out
          generalize s.put (strOfNums [c]) = r at hl hz hk0 C0 P0
          obtain ⟨Az, cz, ez, hcz, hCz⟩ := Kd.R_reads hz
          subst ez
          have hvz : (convert 35 9 (.slice Az r.1.length cz)).run Try.prog w1 = .ok (.string (strOfNums r.1)) w1 := Kd.C_string Try.underlying35 Try.underlying5 Try.underlying9 hCz
          have hsz := strNums_size r.1
          obtain ⟨Z, hZ⟩ : ∃ Z, Z = strOfNums r.1 := ⟨_, rfl⟩
          rw [← hZ] at hvz hsz
          have hz4 : (9223372036854775807 < O.size + Z.size) = False := by simp; omega
          have HN := Aside0.mk (show ByteAt w (fun k => w9.heap.size ≤ k) gb t (j + 1) (O ++ Z) w1 r.2.2 (o ++ r.1) cs' A' from
            ⟨hl, C0, P0, by rw [HOU.out, hZ, sn_append], by rw [ByteArray.size_append]; omega⟩)
          clear hl hz hk hcz hCz hba hZ hsz hk0 C0 P0 HL HOU HC E0
          go_wp2
          go_roundw
          case rel => exact ⟨j + 1, by omega, by go_num, _, rfl, ⟨_, _, _, _, HN.out⟩⟩
          case measure => simp [intOf]; omega
        · have e : j = t.size := by omega
          subst e
          rw [List.take_of_length_le (by omega)] at hcm
          obtain ⟨c1, c2⟩ := close_good HG.out.val HG.out.bytes hcm hpt
          have hk1 := (close_keeps hlv.fits).2
          have HL := Aside0.mk hlv
          have HOU := Aside0.mk hou
          have C1 := Aside0.mk c1
          have C2 := Aside0.mk c2
          clear hlv hcm hpt hou hbl c1 c2
          go_wp2_with (fail)
          refine (close_calls HL.out (by omega)).mono ?_
          rintro e w1 ⟨vz, he, hl, hz, hk⟩
          rw [C1.out] at he
          subst he
          have c2 := C2.out
          have LZ := Aside0.mk hl.inv.below
          generalize s.close = r at hz hk1 c2
          obtain ⟨Az, cz, ez, hcz, hCz⟩ := Kd.R_reads hz
          subst ez
          have hvz : (convert 35 9 (.slice Az r.1.length cz)).run Try.prog w1 = .ok (.string (strOfNums r.1)) w1 := Kd.C_string Try.underlying35 Try.underlying5 Try.underlying9 hCz
          have hXY := strNums_join (c2.trans HG.out.form.symm)
          rw [← HOU.out] at hXY
          have hsz := strNums_size r.1
          generalize strOfNums r.1 = Z at hvz hXY hsz
          have hz4 : (9223372036854775807 < O.size + Z.size) = False := by simp; omega
          clear hl hz hk hcz hCz hsz hk1 c2 C1 C2 HOU HL
          go_wp2
          go_ret
          exact ⟨rfl, LZ.out⟩
end Go.Proofs.Ytiplbhjllkfemaa.MSt
