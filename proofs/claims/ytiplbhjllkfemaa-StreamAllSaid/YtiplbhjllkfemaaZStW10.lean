/-
  The law of pieces: walked.
-/
import Derived.Test.YtiplbhjllkfemaaZStW9
namespace Go.Proofs.Ytiplbhjllkfemaa.MSt
open Go.RowKit Go.Proofs.YtiplbhjllkfemaaW.PrintWords Go.Proofs.YtiplbhjllkfemaaW.PrintLast Go.Proofs.YtiplbhjllkfemaaW.PrintMore
attribute [local go_sem] max2_int min2_int max_two min_two max_three min_three max_four min_four
open Go.Proofs.Ytiplbhjllkfemaa.Stm (S S0 Fits put_keeps close_keeps over begs Come Part come_start put_ok)
open Go.Proofs.Ytiplbhjllkfemaa.Utf (valid bnums dec chars isByte bnums_length bnums_str bnums_byte bnums_append str_nums bnums_inj encAll bnums_extract bnums_nil)
open Go.Proofs.Ytiplbhjllkfemaa.NChars (canon expand clf_range)
open Go.Proofs.Ytiplbhjllkfemaa.NText (cut_f canon_len_le chars_len)
open Go.Proofs.Ytiplbhjllkfemaa.StP
set_option linter.unusedVariables false
set_option linter.unusedSimpArgs false

theorem Lives.more {w0 w : World} {P : Nat → Prop} {g N M : Nat} {s : S} (h : Lives w0 P g N s w) (hM : N ≤ M) : Lives w0 P g M s w := ⟨h.inv, h.ng, h.fr, h.fits.more hM⟩
theorem take_piece (t : ByteArray) (a b : Nat) (hab : a ≤ b) : (bnums t).take a ++ bnums (t.extract a b) = (bnums t).take b := by
  rw [bnums_extract]
  conv => rhs; rw [← List.take_append_drop a ((bnums t).take b)]
  rw [List.take_take, Nat.min_eq_left hab]
/-- Between the rounds, where the text is none, or has too many marks. -/
structure NoAt (w : World) (P : Nat → Prop) (g : Nat) (t : ByteArray) (n j a : Nat) (O : ByteArray) (f : Bool) (wr : World) (s : S) : Prop where
  lives : Lives w P g (40 * a) s wr
  len : O.size ≤ 10000 * j
  fin : j = 61 ∨ j = n + 1 → a = t.size
  come : f = false → ∃ cs A o, Come ((bnums t).take a) cs s o A ∧ Part (bnums s.rest)
/-- Between the rounds of a text that has a form. -/
structure YesAt (w : World) (P : Nat → Prop) (g : Nat) (t : ByteArray) (n j a : Nat) (O : ByteArray) (wr : World) (s : S) (o cs A : List Int) : Prop where
  lives : Lives w P g (40 * a) s wr
  len : O.size ≤ 10000 * j
  fin : j = 61 ∨ j = n + 1 → a = t.size
  come : Come ((bnums t).take a) cs s o A
  part : Part (bnums s.rest)
  out : O = strOfNums o
theorem bounds (t : ByteArray) (a : Nat) (c : Int) (ha : a ≤ t.size) (ht : t.size ≤ 200) : ∃ (m1 m2 : Int) (b : Nat), (if (50 : Int) < c then (50 : Int) else c) = m1 ∧ (if (0 : Int) < m1 then m1 else 0) = m2 ∧ (if (a : Int) + m2 < (t.size : Int) then (a : Int) + m2 else (t.size : Int)) = (b : Int) ∧ 0 ≤ m2 ∧ m2 ≤ 50 ∧ a ≤ b ∧ b ≤ t.size := by
  refine ⟨_, _, (if (a : Int) + (if (0 : Int) < (if (50 : Int) < c then (50 : Int) else c) then (if (50 : Int) < c then (50 : Int) else c) else 0) < (t.size : Int) then (a : Int) + (if (0 : Int) < (if (50 : Int) < c then (50 : Int) else c) then (if (50 : Int) < c then (50 : Int) else c) else 0) else (t.size : Int)).toNat, rfl, rfl, ?_, ?_, ?_, ?_, ?_⟩ <;> (repeat' split) <;> omega

set_option maxHeartbeats 3000000 in
set_option maxRecDepth 100000 in
theorem StreamAll.calls (text : ByteArray) (A1 : Option Addr) (c1 : Nat) (zs : List Int) (w : World) (hz : Kd.C (Kd.int .i64) w A1 zs.length zs) (hc1 : zs.length ≤ c1) : Calls Try.prog 4 #[.string text, .slice A1 zs.length c1] w fun e w' => e = .returned (.bool true) ∧ Below w.heap.size w w' := by
  obtain ⟨t, hcut, htl⟩ := cut_f text 200 (by omega)
  have htl : t.size ≤ 200 := by omega
  have HCUT := Aside0.mk hcut
  have HZ := Aside0.mk hz
  have hzl : zs.length ≤ 9223372036854775807 := Kd.C_max hz
  have kb := fun (W : World) (s : ByteArray) => print_bytes (P := Try.prog) 9 35 5 Try.underlying9 Try.underlying35 Try.underlying5 s W
  clear hcut hz
  rcases text_cases t (by omega) with ⟨kt, kr, km, HN⟩ | ⟨m, F, kt, kr, km, HG⟩
  · have HNG := Aside0.mk (show ∀ m, chars (bnums t) = some m → over 0 (expand m) = true from fun m h => by rw [HN.ch] at h; cases h)
    have HN := Aside0.mk HN
    go_enter Try.func4, Try.ntmps4
    go_wp2_with (first
      | (go_at_call 12; refine (begun.calls _).mono ?_; rintro e w1 ⟨rfl, hb1⟩; have HB1 := Aside0.mk hb1; clear hb1)
      | (go_at_call 9; refine (incipitlaw1_Cut.calls text 200 t _ HCUT.out).mono ?_; rintro e w2 ⟨rfl, ⟨nd, rfl⟩⟩)
      | (go_at_call 13; refine (incipitref1_Text.calls kt t _ false _ HN.out.text).mono ?_; rintro e w3 ⟨rfl, hb3⟩; have HB3 := Aside0.mk hb3; clear hb3)
      | (go_at_call 14; refine (incipitref1_Read.calls kr _ [] true _ HN.out.read).mono ?_; rintro e w4 ⟨vl, rfl, -, hb4⟩; have HB5 := Aside0.mk (below_step (below_step (pw_below_drewN HB1.out nd) HB3.out) hb4); clear hb4 HB1 HB3))
    refine (New.calls w _ HB5.out).mono ?_
    rintro e w6 ⟨g, rfl, hg, hs, hb6⟩
    have HL6 := Aside0.mk (lives_new (w0 := w) (w := w) hs)
    clear hg hs hb6 HB5
    go_wp2_with (fail)
    have HS := Aside0.mk (show NoAt w (fun k => w6.heap.size ≤ k) g t zs.length 0 0 ⟨#[]⟩ false w6 S0 from ⟨HL6.out, Nat.zero_le _, fun h => by rcases h with h | h <;> omega, fun _ => ⟨[], [], [], come_start, rfl, rfl⟩⟩)
    clear HL6
    go_loopw [11, 12, 13, 14] (fun v11 v12 v13 v14 wr => ∃ (j a : Nat) (O : ByteArray) (f : Bool), j ≤ 61 ∧ j ≤ zs.length + 1 ∧ a ≤ t.size ∧ v11 = .string O ∧ v12 = .int .i64 a ∧ v13 = .bool f ∧ v14 = .int .i64 j ∧ Aside0 (∃ s, NoAt w (fun k => w6.heap.size ≤ k) g t zs.length j a O f wr s)) (fun _ _ _ i _ => 62 - (intOf i).toNat)
    case atStart => exact ⟨0, 0, ⟨#[]⟩, false, by omega, by omega, Nat.zero_le _, rfl, rfl, rfl, rfl, ⟨_, HS.out⟩⟩
    case round =>
      clear HS
      obtain ⟨j, a, O, f, hj, hjz, ha, rfl, rfl, rfl, rfl, hJ⟩ := hrel
      obtain ⟨s, hA⟩ := hJ.out
      clear hJ
      obtain ⟨hlv, hol, hfin, hcome⟩ := hA
      have HL := Aside0.mk hlv
      have HFIN := Aside0.mk hfin
      have HCOME := Aside0.mk hcome
      clear hlv hfin hcome
      by_cases hlo : j ≤ zs.length ∧ j ≤ 60
      · obtain ⟨hlo1, hlo2⟩ := hlo
        have hlo3 : (j : Int) ≤ 60 := by omega
        by_cases hin : j < zs.length ∧ j < 60
        · obtain ⟨hin1, hin2⟩ := hin
          have hin3 : (j : Int) < 60 := by omega
          obtain ⟨ad, c2, ea, hcc, hK, hcell⟩ := Kd.C_get (Kd.C_below HZ.out HL.out.inv.below) 0 (j : Int) (by omega) (by omega)
          cases ea
          have hx : wr.cell? (ad.add j) = some (.int .i64 (zs[j]'hin1)) := by
            have e : zs.getD (j : Int).toNat 0 = zs[j]'hin1 := by rw [Int.toNat_natCast, List.getD_eq_getElem?_getD, List.getElem?_eq_getElem hin1, Option.getD_some]
            rw [e] at hK
            have e2 : c2 = [.int .i64 (zs[j]'hin1)] := hK
            have := hcell 0 (.int .i64 (zs[j]'hin1)) (by rw [e2]; rfl)
            simpa [Kd.int, Kd.scalar] using this
          generalize zs[j]'hin1 = c at hx
          obtain ⟨m1, m2, b, hm1, hm2, hb, hm3, hm4, hab, hbt⟩ := bounds t a c ha htl
          clear hcc hK hcell
          cases f with
          | true =>
            go_wp2_with (fail)
            refine (put_bytes HL.out (t.extract a b) _ _ (by rw [ByteArray.size_extract]; omega) (by omega)).mono ?_
            rintro e w7 ⟨vz, he, hl, hz, hk⟩
            have hun : (t.extract a b).size = b - a := by rw [ByteArray.size_extract]; omega
            have htk := take_piece t a b hab
            have hpk := (put_keeps HL.out.fits (t.extract a b)).2
            rw [hun] at hpk
            have hl := Lives.more (M := 40 * b) hl (by omega)
            generalize S.put s (t.extract a b) = r at he hl hz hpk
            subst he
            obtain ⟨Az, cz, ez, hcz, hCz⟩ := Kd.R_reads hz
            subst ez
            have hvz : (convert 35 9 (.slice Az r.1.length cz)).run Try.prog w7 = .ok (.string (strOfNums r.1)) w7 := Kd.C_string Try.underlying35 Try.underlying5 Try.underlying9 hCz
            have hsz := strNums_size r.1
            obtain ⟨Z, hZ⟩ : ∃ Z, Z = strOfNums r.1 := ⟨_, rfl⟩
            rw [← hZ] at hvz hsz
            have hz4 : (9223372036854775807 < O.size + Z.size) = False := by simp; omega
            have HN2 := Aside0.mk (show NoAt w (fun k => w6.heap.size ≤ k) g t zs.length (j + 1) b (O ++ Z) true w7 r.2.2 from ⟨hl, by rw [ByteArray.size_append]; omega, fun h => by exfalso; rcases h with h | h <;> omega, fun h => by cases h⟩)
            clear hl hz hk hcz hCz hZ hsz hpk htk hun
            go_wp2
            go_roundw
            case rel => exact ⟨j + 1, b, _, true, by omega, by omega, by omega, rfl, rfl, rfl, by go_num, ⟨_, HN2.out⟩⟩
            case measure => simp [intOf]; omega
          | false =>
            obtain ⟨cs, A, o, hC, hP⟩ := HCOME.out rfl
            go_wp2_with (fail)
            refine (put_bytes HL.out (t.extract a b) _ _ (by rw [ByteArray.size_extract]; omega) (by omega)).mono ?_
            rintro e w7 ⟨vz, he, hl, hz, hk⟩
            have hun : (t.extract a b).size = b - a := by rw [ByteArray.size_extract]; omega
            have htk := take_piece t a b hab
            have hpk := (put_keeps HL.out.fits (t.extract a b)).2
            rw [hun] at hpk
            have hl := Lives.more (M := 40 * b) hl (by omega)
            have hwr := put_ok (pre := o) hC (t.extract a b)
            rw [htk] at hwr
            generalize S.put s (t.extract a b) = r at he hl hz hpk hwr
            rcases hwr with ⟨h0, cs', A', C0, P0⟩ | ⟨-, -, ⟨h0, -⟩ | ⟨h0, -⟩⟩
            all_goals
              rw [h0] at he
              subst he
              obtain ⟨Az, cz, ez, hcz, hCz⟩ := Kd.R_reads hz
              subst ez
              have hvz : (convert 35 9 (.slice Az r.1.length cz)).run Try.prog w7 = .ok (.string (strOfNums r.1)) w7 := Kd.C_string Try.underlying35 Try.underlying5 Try.underlying9 hCz
              have hsz := strNums_size r.1
              obtain ⟨Z, hZ⟩ : ∃ Z, Z = strOfNums r.1 := ⟨_, rfl⟩
              rw [← hZ] at hvz hsz
              have hz4 : (9223372036854775807 < O.size + Z.size) = False := by simp; omega
            · have HN2 := Aside0.mk (show NoAt w (fun k => w6.heap.size ≤ k) g t zs.length (j + 1) b (O ++ Z) false w7 r.2.2 from ⟨hl, by rw [ByteArray.size_append]; omega, fun h => by exfalso; rcases h with h | h <;> omega, fun _ => ⟨cs', A', _, C0, P0⟩⟩)
              clear hl hz hk hcz hCz hZ hsz hpk htk hun h0 C0 P0 hC hP
              go_wp2
              go_roundw
              case rel => exact ⟨j + 1, b, _, false, by omega, by omega, by omega, rfl, rfl, rfl, by go_num, ⟨_, HN2.out⟩⟩
              case measure => simp [intOf]; omega
            all_goals
              have HN2 := Aside0.mk (show NoAt w (fun k => w6.heap.size ≤ k) g t zs.length (j + 1) b (O ++ Z) true w7 r.2.2 from ⟨hl, by rw [ByteArray.size_append]; omega, fun h => by exfalso; rcases h with h | h <;> omega, fun h => by cases h⟩)
              clear hl hz hk hcz hCz hZ hsz hpk htk hun h0 hC hP
              go_wp2
              go_roundw
              case rel => exact ⟨j + 1, b, _, true, by omega, by omega, by omega, rfl, rfl, rfl, by go_num, ⟨_, HN2.out⟩⟩
              case measure => simp [intOf]; omega
        · have HIN := Aside0.mk hin
          rcases (show (decide (j < zs.length) = false) ∨ (j < zs.length ∧ decide ((j : Int) < 60) = false) by
            by_cases q : j < zs.length
            · exact .inr ⟨q, decide_eq_false (fun h => hin ⟨q, by omega⟩)⟩
            · exact .inl (decide_eq_false q)) with hd | ⟨hd1, hd⟩
          all_goals
            clear hin
            cases f with
            | true =>
              go_wp2_with (fail)
              refine (put_bytes HL.out (t.extract a t.size) _ _ (by rw [ByteArray.size_extract]; omega) (by omega)).mono ?_
              rintro e w7 ⟨vz, he, hl, hz, hk⟩
              have hun : (t.extract a t.size).size = t.size - a := by rw [ByteArray.size_extract]; omega
              have htk := take_piece t a t.size ha
              have hpk := (put_keeps HL.out.fits (t.extract a t.size)).2
              rw [hun] at hpk
              have hl := Lives.more (M := 40 * t.size) hl (by omega)
              generalize S.put s (t.extract a t.size) = r at he hl hz hpk
              subst he
              obtain ⟨Az, cz, ez, hcz, hCz⟩ := Kd.R_reads hz
              subst ez
              have hvz : (convert 35 9 (.slice Az r.1.length cz)).run Try.prog w7 = .ok (.string (strOfNums r.1)) w7 := Kd.C_string Try.underlying35 Try.underlying5 Try.underlying9 hCz
              have hsz := strNums_size r.1
              obtain ⟨Z, hZ⟩ : ∃ Z, Z = strOfNums r.1 := ⟨_, rfl⟩
              rw [← hZ] at hvz hsz
              have hz4 : (9223372036854775807 < O.size + Z.size) = False := by simp; omega
              have HN2 := Aside0.mk (show NoAt w (fun k => w6.heap.size ≤ k) g t zs.length (j + 1) t.size (O ++ Z) true w7 r.2.2 from ⟨hl, by rw [ByteArray.size_append]; omega, fun h => rfl, fun h => by cases h⟩)
              clear hl hz hk hcz hCz hZ hsz hpk htk hun
              go_wp2
              go_roundw
              case rel => exact ⟨j + 1, t.size, _, true, by omega, by omega, by omega, rfl, rfl, rfl, by go_num, ⟨_, HN2.out⟩⟩
              case measure => simp [intOf]; omega
            | false =>
              obtain ⟨cs, A, o, hC, hP⟩ := HCOME.out rfl
              go_wp2_with (fail)
              refine (put_bytes HL.out (t.extract a t.size) _ _ (by rw [ByteArray.size_extract]; omega) (by omega)).mono ?_
              rintro e w7 ⟨vz, he, hl, hz, hk⟩
              have hun : (t.extract a t.size).size = t.size - a := by rw [ByteArray.size_extract]; omega
              have htk := take_piece t a t.size ha
              have hpk := (put_keeps HL.out.fits (t.extract a t.size)).2
              rw [hun] at hpk
              have hl := Lives.more (M := 40 * t.size) hl (by omega)
              have hwr := put_ok (pre := o) hC (t.extract a t.size)
              rw [htk] at hwr
              generalize S.put s (t.extract a t.size) = r at he hl hz hpk hwr
              rcases hwr with ⟨h0, cs', A', C0, P0⟩ | ⟨-, -, ⟨h0, -⟩ | ⟨h0, -⟩⟩
              all_goals
                rw [h0] at he
                subst he
                obtain ⟨Az, cz, ez, hcz, hCz⟩ := Kd.R_reads hz
                subst ez
                have hvz : (convert 35 9 (.slice Az r.1.length cz)).run Try.prog w7 = .ok (.string (strOfNums r.1)) w7 := Kd.C_string Try.underlying35 Try.underlying5 Try.underlying9 hCz
                have hsz := strNums_size r.1
                obtain ⟨Z, hZ⟩ : ∃ Z, Z = strOfNums r.1 := ⟨_, rfl⟩
                rw [← hZ] at hvz hsz
                have hz4 : (9223372036854775807 < O.size + Z.size) = False := by simp; omega
              · have HN2 := Aside0.mk (show NoAt w (fun k => w6.heap.size ≤ k) g t zs.length (j + 1) t.size (O ++ Z) false w7 r.2.2 from ⟨hl, by rw [ByteArray.size_append]; omega, fun h => rfl, fun _ => ⟨cs', A', _, C0, P0⟩⟩)
                clear hl hz hk hcz hCz hZ hsz hpk htk hun h0 C0 P0 hC hP
                go_wp2
                go_roundw
                case rel => exact ⟨j + 1, t.size, _, false, by omega, by omega, by omega, rfl, rfl, rfl, by go_num, ⟨_, HN2.out⟩⟩
                case measure => simp [intOf]; omega
              all_goals
                have HN2 := Aside0.mk (show NoAt w (fun k => w6.heap.size ≤ k) g t zs.length (j + 1) t.size (O ++ Z) true w7 r.2.2 from ⟨hl, by rw [ByteArray.size_append]; omega, fun h => rfl, fun h => by cases h⟩)
                clear hl hz hk hcz hCz hZ hsz hpk htk hun h0 hC hP
                go_wp2
                go_roundw
                case rel => exact ⟨j + 1, t.size, _, true, by omega, by omega, by omega, rfl, rfl, rfl, by go_num, ⟨_, HN2.out⟩⟩
                case measure => simp [intOf]; omega
      · have hend : j = 61 ∨ j = zs.length + 1 := by omega
        rcases (show (decide (j ≤ zs.length) = false) ∨ (j ≤ zs.length ∧ decide ((j : Int) ≤ 60) = false) by
          by_cases q : j ≤ zs.length
          · exact .inr ⟨q, decide_eq_false (fun h => hlo ⟨q, by omega⟩)⟩
          · exact .inl (decide_eq_false q)) with hd | ⟨hd1, hd⟩
        all_goals
          clear hlo
          go_wp2_with (fail)
          have HAT := Aside0.mk (HFIN.out hend)
          refine (close_calls HL.out (by omega)).mono ?_
          rintro e w7 ⟨vz, he, hl, hz, hk⟩
          have hpk := (close_keeps HL.out.fits).2
          have HBL := Aside0.mk hl.inv.below
          have hone : f = false → s.close.2.1 = 1 := fun hf => by
            obtain ⟨cs, A, o, hC, hP⟩ := HCOME.out hf
            rw [HAT.out, List.take_of_length_le (by rw [bnums_length]; exact Nat.le_refl _)] at hC
            have hr : bnums s.rest ≠ [] := fun hr => by
              have hb := hC.bytes
              rw [hr, List.append_nil] at hb
              have := HNG.out cs (by rw [hb]; exact chars_all hC.val)
              rw [hC.inv.ok] at this
              cases this
            unfold S.close
            rw [if_neg (show ¬ s.closed = true by rw [hC.inv.cl]; decide), if_neg (fun z => z hC.inv.err), if_pos hr]
          have HONE := Aside0.mk hone
          clear hl hk hone
          generalize s.close = r at he hz hpk HONE
          cases f with
          | true =>
            subst he
            obtain ⟨Az, cz, ez, hcz, hCz⟩ := Kd.R_reads hz
            subst ez
            have hvz : (convert 35 9 (.slice Az r.1.length cz)).run Try.prog w7 = .ok (.string (strOfNums r.1)) w7 := Kd.C_string Try.underlying35 Try.underlying5 Try.underlying9 hCz
            have hsz := strNums_size r.1
            obtain ⟨Z, hZ⟩ : ∃ Z, Z = strOfNums r.1 := ⟨_, rfl⟩
            rw [← hZ] at hvz hsz
            have hz4 : (9223372036854775807 < O.size + Z.size) = False := by simp; omega
            clear hz hcz hCz hZ hsz hpk HONE
            go_wp2
            go_ret
            exact ⟨rfl, HBL.out⟩
          | false =>
            rw [HONE.out rfl] at he
            subst he
            obtain ⟨Az, cz, ez, hcz, hCz⟩ := Kd.R_reads hz
            subst ez
            have hvz : (convert 35 9 (.slice Az r.1.length cz)).run Try.prog w7 = .ok (.string (strOfNums r.1)) w7 := Kd.C_string Try.underlying35 Try.underlying5 Try.underlying9 hCz
            have hsz := strNums_size r.1
            obtain ⟨Z, hZ⟩ : ∃ Z, Z = strOfNums r.1 := ⟨_, rfl⟩
            rw [← hZ] at hvz hsz
            have hz4 : (9223372036854775807 < O.size + Z.size) = False := by simp; omega
            clear hz hcz hCz hZ hsz hpk HONE
            go_wp2
            go_ret
            exact ⟨rfl, HBL.out⟩
  · have HG := Aside0.mk HG
    cases ho : over 0 (expand m) with
    | true =>
      have HNG := Aside0.mk (show ∀ m, chars (bnums t) = some m → over 0 (expand m) = true from fun m' h => by rw [HG.out.ch] at h; rw [← Option.some.inj h]; exact ho)
      have HO := Aside0.mk ho
      clear ho
      go_enter Try.func4, Try.ntmps4
      go_wp2_with (first
        | (go_at_call 12; refine (begun.calls _).mono ?_; rintro e w1 ⟨rfl, hb1⟩; have HB1 := Aside0.mk hb1; clear hb1)
        | (go_at_call 9; refine (incipitlaw1_Cut.calls text 200 t _ HCUT.out).mono ?_; rintro e w2 ⟨rfl, ⟨nd, rfl⟩⟩)
        | (go_at_call 13; refine (incipitref1_Text.calls kt t _ true _ HG.out.text).mono ?_; rintro e w3 ⟨rfl, hb3⟩; have HB3 := Aside0.mk hb3; clear hb3)
        | (go_at_call 14; refine (incipitref1_Read.calls kr F (canon m) true _ HG.out.read).mono ?_; rintro e w4 ⟨vl, rfl, hl, hb4⟩; obtain ⟨Al, cl, el, hcl, hCl⟩ := Kd.R_reads hl; subst el; have HCL := Aside0.mk hcl; have HCC := Aside0.mk hCl; have HB4 := Aside0.mk hb4; clear hb4 hl hcl hCl)
        | (go_at_call 15; refine (incipitlaw5_marks.calls km Al cl (canon m) 30 true _ HCC.out HCL.out (HO.out ▸ HG.out.marks)).mono ?_; rintro e w5 ⟨rfl, hb5⟩; have HB5 := Aside0.mk (below_step (below_step (below_step (pw_below_drewN HB1.out nd) HB3.out) HB4.out) hb5); clear hb5 HB1 HB3 HB4 HCC HCL))
      refine (New.calls w _ HB5.out).mono ?_
      rintro e w6 ⟨g, rfl, hg, hs, hb6⟩
      have HL6 := Aside0.mk (lives_new (w0 := w) (w := w) hs)
      clear hg hs hb6 HB5
      go_wp2_with (fail)
      have HS := Aside0.mk (show NoAt w (fun k => w6.heap.size ≤ k) g t zs.length 0 0 ⟨#[]⟩ false w6 S0 from ⟨HL6.out, Nat.zero_le _, fun h => by rcases h with h | h <;> omega, fun _ => ⟨[], [], [], come_start, rfl, rfl⟩⟩)
      clear HL6
      go_loopw [11, 12, 13, 14] (fun v11 v12 v13 v14 wr => ∃ (j a : Nat) (O : ByteArray) (f : Bool), j ≤ 61 ∧ j ≤ zs.length + 1 ∧ a ≤ t.size ∧ v11 = .string O ∧ v12 = .int .i64 a ∧ v13 = .bool f ∧ v14 = .int .i64 j ∧ Aside0 (∃ s, NoAt w (fun k => w6.heap.size ≤ k) g t zs.length j a O f wr s)) (fun _ _ _ i _ => 62 - (intOf i).toNat)
      case atStart => exact ⟨0, 0, ⟨#[]⟩, false, by omega, by omega, Nat.zero_le _, rfl, rfl, rfl, rfl, ⟨_, HS.out⟩⟩
      case round =>
        clear HS
        obtain ⟨j, a, O, f, hj, hjz, ha, rfl, rfl, rfl, rfl, hJ⟩ := hrel
        obtain ⟨s, hA⟩ := hJ.out
        clear hJ
        obtain ⟨hlv, hol, hfin, hcome⟩ := hA
        have HL := Aside0.mk hlv
        have HFIN := Aside0.mk hfin
        have HCOME := Aside0.mk hcome
        clear hlv hfin hcome
        by_cases hlo : j ≤ zs.length ∧ j ≤ 60
        · obtain ⟨hlo1, hlo2⟩ := hlo
          have hlo3 : (j : Int) ≤ 60 := by omega
          by_cases hin : j < zs.length ∧ j < 60
          · obtain ⟨hin1, hin2⟩ := hin
            have hin3 : (j : Int) < 60 := by omega
            obtain ⟨ad, c2, ea, hcc, hK, hcell⟩ := Kd.C_get (Kd.C_below HZ.out HL.out.inv.below) 0 (j : Int) (by omega) (by omega)
            cases ea
            have hx : wr.cell? (ad.add j) = some (.int .i64 (zs[j]'hin1)) := by
              have e : zs.getD (j : Int).toNat 0 = zs[j]'hin1 := by rw [Int.toNat_natCast, List.getD_eq_getElem?_getD, List.getElem?_eq_getElem hin1, Option.getD_some]
              rw [e] at hK
              have e2 : c2 = [.int .i64 (zs[j]'hin1)] := hK
              have := hcell 0 (.int .i64 (zs[j]'hin1)) (by rw [e2]; rfl)
              simpa [Kd.int, Kd.scalar] using this
            generalize zs[j]'hin1 = c at hx
            obtain ⟨m1, m2, b, hm1, hm2, hb, hm3, hm4, hab, hbt⟩ := bounds t a c ha htl
            clear hcc hK hcell
            cases f with
            | true =>
              go_wp2_with (fail)
              refine (put_bytes HL.out (t.extract a b) _ _ (by rw [ByteArray.size_extract]; omega) (by omega)).mono ?_
              rintro e w7 ⟨vz, he, hl, hz, hk⟩
              have hun : (t.extract a b).size = b - a := by rw [ByteArray.size_extract]; omega
              have htk := take_piece t a b hab
              have hpk := (put_keeps HL.out.fits (t.extract a b)).2
              rw [hun] at hpk
              have hl := Lives.more (M := 40 * b) hl (by omega)
              generalize S.put s (t.extract a b) = r at he hl hz hpk
              subst he
              obtain ⟨Az, cz, ez, hcz, hCz⟩ := Kd.R_reads hz
              subst ez
              have hvz : (convert 35 9 (.slice Az r.1.length cz)).run Try.prog w7 = .ok (.string (strOfNums r.1)) w7 := Kd.C_string Try.underlying35 Try.underlying5 Try.underlying9 hCz
              have hsz := strNums_size r.1
              obtain ⟨Z, hZ⟩ : ∃ Z, Z = strOfNums r.1 := ⟨_, rfl⟩
              rw [← hZ] at hvz hsz
              have hz4 : (9223372036854775807 < O.size + Z.size) = False := by simp; omega
              have HN2 := Aside0.mk (show NoAt w (fun k => w6.heap.size ≤ k) g t zs.length (j + 1) b (O ++ Z) true w7 r.2.2 from ⟨hl, by rw [ByteArray.size_append]; omega, fun h => by exfalso; rcases h with h | h <;> omega, fun h => by cases h⟩)
              clear hl hz hk hcz hCz hZ hsz hpk htk hun
              go_wp2
              go_roundw
              case rel => exact ⟨j + 1, b, _, true, by omega, by omega, by omega, rfl, rfl, rfl, by go_num, ⟨_, HN2.out⟩⟩
              case measure => simp [intOf]; omega
            | false =>
              obtain ⟨cs, A, o, hC, hP⟩ := HCOME.out rfl
              go_wp2_with (fail)
              refine (put_bytes HL.out (t.extract a b) _ _ (by rw [ByteArray.size_extract]; omega) (by omega)).mono ?_
              rintro e w7 ⟨vz, he, hl, hz, hk⟩
              have hun : (t.extract a b).size = b - a := by rw [ByteArray.size_extract]; omega
              have htk := take_piece t a b hab
              have hpk := (put_keeps HL.out.fits (t.extract a b)).2
              rw [hun] at hpk
              have hl := Lives.more (M := 40 * b) hl (by omega)
              have hwr := put_ok (pre := o) hC (t.extract a b)
              rw [htk] at hwr
              generalize S.put s (t.extract a b) = r at he hl hz hpk hwr
              rcases hwr with ⟨h0, cs', A', C0, P0⟩ | ⟨-, -, ⟨h0, -⟩ | ⟨h0, -⟩⟩
              all_goals
                rw [h0] at he
                subst he
                obtain ⟨Az, cz, ez, hcz, hCz⟩ := Kd.R_reads hz
                subst ez
                have hvz : (convert 35 9 (.slice Az r.1.length cz)).run Try.prog w7 = .ok (.string (strOfNums r.1)) w7 := Kd.C_string Try.underlying35 Try.underlying5 Try.underlying9 hCz
                have hsz := strNums_size r.1
                obtain ⟨Z, hZ⟩ : ∃ Z, Z = strOfNums r.1 := ⟨_, rfl⟩
                rw [← hZ] at hvz hsz
                have hz4 : (9223372036854775807 < O.size + Z.size) = False := by simp; omega
              · have HN2 := Aside0.mk (show NoAt w (fun k => w6.heap.size ≤ k) g t zs.length (j + 1) b (O ++ Z) false w7 r.2.2 from ⟨hl, by rw [ByteArray.size_append]; omega, fun h => by exfalso; rcases h with h | h <;> omega, fun _ => ⟨cs', A', _, C0, P0⟩⟩)
                clear hl hz hk hcz hCz hZ hsz hpk htk hun h0 C0 P0 hC hP
                go_wp2
                go_roundw
                case rel => exact ⟨j + 1, b, _, false, by omega, by omega, by omega, rfl, rfl, rfl, by go_num, ⟨_, HN2.out⟩⟩
                case measure => simp [intOf]; omega
              all_goals
                have HN2 := Aside0.mk (show NoAt w (fun k => w6.heap.size ≤ k) g t zs.length (j + 1) b (O ++ Z) true w7 r.2.2 from ⟨hl, by rw [ByteArray.size_append]; omega, fun h => by exfalso; rcases h with h | h <;> omega, fun h => by cases h⟩)
                clear hl hz hk hcz hCz hZ hsz hpk htk hun h0 hC hP
                go_wp2
                go_roundw
                case rel => exact ⟨j + 1, b, _, true, by omega, by omega, by omega, rfl, rfl, rfl, by go_num, ⟨_, HN2.out⟩⟩
                case measure => simp [intOf]; omega
          · have HIN := Aside0.mk hin
            rcases (show (decide (j < zs.length) = false) ∨ (j < zs.length ∧ decide ((j : Int) < 60) = false) by
              by_cases q : j < zs.length
              · exact .inr ⟨q, decide_eq_false (fun h => hin ⟨q, by omega⟩)⟩
              · exact .inl (decide_eq_false q)) with hd | ⟨hd1, hd⟩
            all_goals
              clear hin
              cases f with
              | true =>
                go_wp2_with (fail)
                refine (put_bytes HL.out (t.extract a t.size) _ _ (by rw [ByteArray.size_extract]; omega) (by omega)).mono ?_
                rintro e w7 ⟨vz, he, hl, hz, hk⟩
                have hun : (t.extract a t.size).size = t.size - a := by rw [ByteArray.size_extract]; omega
                have htk := take_piece t a t.size ha
                have hpk := (put_keeps HL.out.fits (t.extract a t.size)).2
                rw [hun] at hpk
                have hl := Lives.more (M := 40 * t.size) hl (by omega)
                generalize S.put s (t.extract a t.size) = r at he hl hz hpk
                subst he
                obtain ⟨Az, cz, ez, hcz, hCz⟩ := Kd.R_reads hz
                subst ez
                have hvz : (convert 35 9 (.slice Az r.1.length cz)).run Try.prog w7 = .ok (.string (strOfNums r.1)) w7 := Kd.C_string Try.underlying35 Try.underlying5 Try.underlying9 hCz
                have hsz := strNums_size r.1
                obtain ⟨Z, hZ⟩ : ∃ Z, Z = strOfNums r.1 := ⟨_, rfl⟩
                rw [← hZ] at hvz hsz
                have hz4 : (9223372036854775807 < O.size + Z.size) = False := by simp; omega
                have HN2 := Aside0.mk (show NoAt w (fun k => w6.heap.size ≤ k) g t zs.length (j + 1) t.size (O ++ Z) true w7 r.2.2 from ⟨hl, by rw [ByteArray.size_append]; omega, fun h => rfl, fun h => by cases h⟩)
                clear hl hz hk hcz hCz hZ hsz hpk htk hun
                go_wp2
                go_roundw
                case rel => exact ⟨j + 1, t.size, _, true, by omega, by omega, by omega, rfl, rfl, rfl, by go_num, ⟨_, HN2.out⟩⟩
                case measure => simp [intOf]; omega
              | false =>
                obtain ⟨cs, A, o, hC, hP⟩ := HCOME.out rfl
                go_wp2_with (fail)
                refine (put_bytes HL.out (t.extract a t.size) _ _ (by rw [ByteArray.size_extract]; omega) (by omega)).mono ?_
                rintro e w7 ⟨vz, he, hl, hz, hk⟩
                have hun : (t.extract a t.size).size = t.size - a := by rw [ByteArray.size_extract]; omega
                have htk := take_piece t a t.size ha
                have hpk := (put_keeps HL.out.fits (t.extract a t.size)).2
                rw [hun] at hpk
                have hl := Lives.more (M := 40 * t.size) hl (by omega)
                have hwr := put_ok (pre := o) hC (t.extract a t.size)
                rw [htk] at hwr
                generalize S.put s (t.extract a t.size) = r at he hl hz hpk hwr
                rcases hwr with ⟨h0, cs', A', C0, P0⟩ | ⟨-, -, ⟨h0, -⟩ | ⟨h0, -⟩⟩
                all_goals
                  rw [h0] at he
                  subst he
                  obtain ⟨Az, cz, ez, hcz, hCz⟩ := Kd.R_reads hz
                  subst ez
                  have hvz : (convert 35 9 (.slice Az r.1.length cz)).run Try.prog w7 = .ok (.string (strOfNums r.1)) w7 := Kd.C_string Try.underlying35 Try.underlying5 Try.underlying9 hCz
                  have hsz := strNums_size r.1
                  obtain ⟨Z, hZ⟩ : ∃ Z, Z = strOfNums r.1 := ⟨_, rfl⟩
                  rw [← hZ] at hvz hsz
                  have hz4 : (9223372036854775807 < O.size + Z.size) = False := by simp; omega
                · have HN2 := Aside0.mk (show NoAt w (fun k => w6.heap.size ≤ k) g t zs.length (j + 1) t.size (O ++ Z) false w7 r.2.2 from ⟨hl, by rw [ByteArray.size_append]; omega, fun h => rfl, fun _ => ⟨cs', A', _, C0, P0⟩⟩)
                  clear hl hz hk hcz hCz hZ hsz hpk htk hun h0 C0 P0 hC hP
                  go_wp2
                  go_roundw
                  case rel => exact ⟨j + 1, t.size, _, false, by omega, by omega, by omega, rfl, rfl, rfl, by go_num, ⟨_, HN2.out⟩⟩
                  case measure => simp [intOf]; omega
                all_goals
                  have HN2 := Aside0.mk (show NoAt w (fun k => w6.heap.size ≤ k) g t zs.length (j + 1) t.size (O ++ Z) true w7 r.2.2 from ⟨hl, by rw [ByteArray.size_append]; omega, fun h => rfl, fun h => by cases h⟩)
                  clear hl hz hk hcz hCz hZ hsz hpk htk hun h0 hC hP
                  go_wp2
                  go_roundw
                  case rel => exact ⟨j + 1, t.size, _, true, by omega, by omega, by omega, rfl, rfl, rfl, by go_num, ⟨_, HN2.out⟩⟩
                  case measure => simp [intOf]; omega
        · have hend : j = 61 ∨ j = zs.length + 1 := by omega
          rcases (show (decide (j ≤ zs.length) = false) ∨ (j ≤ zs.length ∧ decide ((j : Int) ≤ 60) = false) by
            by_cases q : j ≤ zs.length
            · exact .inr ⟨q, decide_eq_false (fun h => hlo ⟨q, by omega⟩)⟩
            · exact .inl (decide_eq_false q)) with hd | ⟨hd1, hd⟩
          all_goals
            clear hlo
            go_wp2_with (fail)
            have HAT := Aside0.mk (HFIN.out hend)
            refine (close_calls HL.out (by omega)).mono ?_
            rintro e w7 ⟨vz, he, hl, hz, hk⟩
            have hpk := (close_keeps HL.out.fits).2
            have HBL := Aside0.mk hl.inv.below
            have hone : f = false → s.close.2.1 = 1 := fun hf => by
              obtain ⟨cs, A, o, hC, hP⟩ := HCOME.out hf
              rw [HAT.out, List.take_of_length_le (by rw [bnums_length]; exact Nat.le_refl _)] at hC
              have hr : bnums s.rest ≠ [] := fun hr => by
                have hb := hC.bytes
                rw [hr, List.append_nil] at hb
                have := HNG.out cs (by rw [hb]; exact chars_all hC.val)
                rw [hC.inv.ok] at this
                cases this
              unfold S.close
              rw [if_neg (show ¬ s.closed = true by rw [hC.inv.cl]; decide), if_neg (fun z => z hC.inv.err), if_pos hr]
            have HONE := Aside0.mk hone
            clear hl hk hone
            generalize s.close = r at he hz hpk HONE
            cases f with
            | true =>
              subst he
              obtain ⟨Az, cz, ez, hcz, hCz⟩ := Kd.R_reads hz
              subst ez
              have hvz : (convert 35 9 (.slice Az r.1.length cz)).run Try.prog w7 = .ok (.string (strOfNums r.1)) w7 := Kd.C_string Try.underlying35 Try.underlying5 Try.underlying9 hCz
              have hsz := strNums_size r.1
              obtain ⟨Z, hZ⟩ : ∃ Z, Z = strOfNums r.1 := ⟨_, rfl⟩
              rw [← hZ] at hvz hsz
              have hz4 : (9223372036854775807 < O.size + Z.size) = False := by simp; omega
              clear hz hcz hCz hZ hsz hpk HONE
              go_wp2
              go_ret
              exact ⟨rfl, HBL.out⟩
            | false =>
              rw [HONE.out rfl] at he
              subst he
              obtain ⟨Az, cz, ez, hcz, hCz⟩ := Kd.R_reads hz
              subst ez
              have hvz : (convert 35 9 (.slice Az r.1.length cz)).run Try.prog w7 = .ok (.string (strOfNums r.1)) w7 := Kd.C_string Try.underlying35 Try.underlying5 Try.underlying9 hCz
              have hsz := strNums_size r.1
              obtain ⟨Z, hZ⟩ : ∃ Z, Z = strOfNums r.1 := ⟨_, rfl⟩
              rw [← hZ] at hvz hsz
              have hz4 : (9223372036854775807 < O.size + Z.size) = False := by simp; omega
              clear hz hcz hCz hZ hsz hpk HONE
              go_wp2
              go_ret
              exact ⟨rfl, HBL.out⟩
    | false =>
      have HO := Aside0.mk ho
      clear ho
      go_enter Try.func4, Try.ntmps4
      go_wp2_with (first
        | (go_at_call 12; refine (begun.calls _).mono ?_; rintro e w1 ⟨rfl, hb1⟩; have HB1 := Aside0.mk hb1; clear hb1)
        | (go_at_call 9; refine (incipitlaw1_Cut.calls text 200 t _ HCUT.out).mono ?_; rintro e w2 ⟨rfl, ⟨nd, rfl⟩⟩)
        | (go_at_call 13; refine (incipitref1_Text.calls kt t _ true _ HG.out.text).mono ?_; rintro e w3 ⟨rfl, hb3⟩; have HB3 := Aside0.mk hb3; clear hb3)
        | (go_at_call 14; refine (incipitref1_Read.calls kr F (canon m) true _ HG.out.read).mono ?_; rintro e w4 ⟨vl, rfl, hl, hb4⟩; obtain ⟨Al, cl, el, hcl, hCl⟩ := Kd.R_reads hl; subst el; have HCL := Aside0.mk hcl; have HCC := Aside0.mk hCl; have HB4 := Aside0.mk hb4; clear hb4 hl hcl hCl)
        | (go_at_call 15; refine (incipitlaw5_marks.calls km Al cl (canon m) 30 false _ HCC.out HCL.out (HO.out ▸ HG.out.marks)).mono ?_; rintro e w5 ⟨rfl, hb5⟩; have HB5 := Aside0.mk (below_step (below_step (below_step (pw_below_drewN HB1.out nd) HB3.out) HB4.out) hb5); clear hb5 HB1 HB3 HB4 HCC HCL))
      refine (New.calls w _ HB5.out).mono ?_
      rintro e w6 ⟨g, rfl, hg, hs, hb6⟩
      have HL6 := Aside0.mk (lives_new (w0 := w) (w := w) hs)
      clear hg hs hb6 HB5
      go_wp2_with (fail)
      have HS := Aside0.mk (show YesAt w (fun k => w6.heap.size ≤ k) g t zs.length 0 0 ⟨#[]⟩ w6 S0 [] [] [] from ⟨HL6.out, Nat.zero_le _, fun h => by rcases h with h | h <;> omega, come_start, ⟨rfl, rfl⟩, rfl⟩)
      clear HL6
      go_loopw [11, 12, 13, 14] (fun v11 v12 v13 v14 wr => ∃ (j a : Nat) (O : ByteArray), j ≤ 61 ∧ j ≤ zs.length + 1 ∧ a ≤ t.size ∧ v11 = .string O ∧ v12 = .int .i64 a ∧ v13 = .bool false ∧ v14 = .int .i64 j ∧ Aside0 (∃ s o cs A, YesAt w (fun k => w6.heap.size ≤ k) g t zs.length j a O wr s o cs A)) (fun _ _ _ i _ => 62 - (intOf i).toNat)
      case atStart => exact ⟨0, 0, ⟨#[]⟩, by omega, by omega, Nat.zero_le _, rfl, rfl, rfl, rfl, ⟨_, _, _, _, HS.out⟩⟩
      case round =>
        clear HS
        obtain ⟨j, a, O, hj, hjz, ha, rfl, rfl, rfl, rfl, hJ⟩ := hrel
        obtain ⟨s, o, cs, A, hA⟩ := hJ.out
        clear hJ
        obtain ⟨hlv, hol, hfin, hcm, hpt, hou⟩ := hA
        have HL := Aside0.mk hlv
        have HFIN := Aside0.mk hfin
        have HCM := Aside0.mk hcm
        have HPT := Aside0.mk hpt
        have HOU := Aside0.mk hou
        clear hlv hfin hcm hpt hou
        by_cases hlo : j ≤ zs.length ∧ j ≤ 60
        · obtain ⟨hlo1, hlo2⟩ := hlo
          have hlo3 : (j : Int) ≤ 60 := by omega
          by_cases hin : j < zs.length ∧ j < 60
          · obtain ⟨hin1, hin2⟩ := hin
            have hin3 : (j : Int) < 60 := by omega
            obtain ⟨ad, c2, ea, hcc, hK, hcell⟩ := Kd.C_get (Kd.C_below HZ.out HL.out.inv.below) 0 (j : Int) (by omega) (by omega)
            cases ea
            have hx : wr.cell? (ad.add j) = some (.int .i64 (zs[j]'hin1)) := by
              have e : zs.getD (j : Int).toNat 0 = zs[j]'hin1 := by rw [Int.toNat_natCast, List.getD_eq_getElem?_getD, List.getElem?_eq_getElem hin1, Option.getD_some]
              rw [e] at hK
              have e2 : c2 = [.int .i64 (zs[j]'hin1)] := hK
              have := hcell 0 (.int .i64 (zs[j]'hin1)) (by rw [e2]; rfl)
              simpa [Kd.int, Kd.scalar] using this
            generalize zs[j]'hin1 = c at hx
            obtain ⟨m1, m2, b, hm1, hm2, hb, hm3, hm4, hab, hbt⟩ := bounds t a c ha htl
            clear hcc hK hcell
            go_wp2_with (fail)
            refine (put_bytes HL.out (t.extract a b) _ _ (by rw [ByteArray.size_extract]; omega) (by omega)).mono ?_
            rintro e w7 ⟨vz, he, hl, hz, hk⟩
            have hun : (t.extract a b).size = b - a := by rw [ByteArray.size_extract]; omega
            have htk := take_piece t a b hab
            have hpk := (put_keeps HL.out.fits (t.extract a b)).2
            rw [hun] at hpk
            have hl := Lives.more (M := 40 * b) hl (by omega)
            obtain ⟨e0, cs', A', C0, P0⟩ := put_good HG.out.val HG.out.bytes HO.out HCM.out (t.extract a b) ((bnums t).drop b) (by rw [htk, List.take_append_drop])
            rw [htk] at C0
            rw [e0] at he
            subst he
            generalize S.put s (t.extract a b) = r at hl hz hpk C0 P0
            obtain ⟨Az, cz, ez, hcz, hCz⟩ := Kd.R_reads hz
            subst ez
            have hvz : (convert 35 9 (.slice Az r.1.length cz)).run Try.prog w7 = .ok (.string (strOfNums r.1)) w7 := Kd.C_string Try.underlying35 Try.underlying5 Try.underlying9 hCz
            have hsz := strNums_size r.1
            obtain ⟨Z, hZ⟩ : ∃ Z, Z = strOfNums r.1 := ⟨_, rfl⟩
            rw [← hZ] at hvz hsz
            have hz4 : (9223372036854775807 < O.size + Z.size) = False := by simp; omega
            have HN2 := Aside0.mk (show YesAt w (fun k => w6.heap.size ≤ k) g t zs.length (j + 1) b (O ++ Z) w7 r.2.2 (o ++ r.1) cs' A' from ⟨hl, by rw [ByteArray.size_append]; omega, fun h => by exfalso; rcases h with h | h <;> omega, C0, P0, by rw [HOU.out, hZ, sn_append]⟩)
            have hext : bnums (t.extract 0 b) = (bnums t).take b := by rw [bnums_extract, List.drop_zero]
            have HEX := Aside0.mk hext
            have hes : ((t.extract 0 b)).size ≤ 1000 := by rw [ByteArray.size_extract]; omega
            have HES := Aside0.mk hes
            clear hl hz hk hcz hCz hZ hsz hpk htk hun e0 C0 P0 hext hes
            go_wp2_with (
              go_at_call 18
              refine (early.calls w (fun k => w6.heap.size ≤ k) g (40 * b) r.2.2 (t.extract 0 b) (O ++ Z) cs' A' (o ++ r.1) _ HN2.out.lives (by rw [HEX.out]; exact HN2.out.come) HN2.out.part HN2.out.out HES.out).mono ?_
              rintro e w8 ⟨rfl, hb8⟩
              have HN3 := Aside0.mk (show YesAt w (fun k => w6.heap.size ≤ k) g t zs.length (j + 1) b (O ++ Z) w8 r.2.2 (o ++ r.1) cs' A' from ⟨HN2.out.lives.step hb8, HN2.out.len, HN2.out.fin, HN2.out.come, HN2.out.part, HN2.out.out⟩)
              clear hb8)
            go_roundw
            case rel => exact ⟨j + 1, b, _, by omega, by omega, by omega, rfl, rfl, rfl, by go_num, ⟨_, _, _, _, HN3.out⟩⟩
            case measure => simp [intOf]; omega
          · have HIN := Aside0.mk hin
            rcases (show (decide (j < zs.length) = false) ∨ (j < zs.length ∧ decide ((j : Int) < 60) = false) by
              by_cases q : j < zs.length
              · exact .inr ⟨q, decide_eq_false (fun h => hin ⟨q, by omega⟩)⟩
              · exact .inl (decide_eq_false q)) with hd | ⟨hd1, hd⟩
            all_goals
              clear hin
              go_wp2_with (fail)
              refine (put_bytes HL.out (t.extract a t.size) _ _ (by rw [ByteArray.size_extract]; omega) (by omega)).mono ?_
              rintro e w7 ⟨vz, he, hl, hz, hk⟩
              have hun : (t.extract a t.size).size = t.size - a := by rw [ByteArray.size_extract]; omega
              have htk := take_piece t a t.size ha
              have hpk := (put_keeps HL.out.fits (t.extract a t.size)).2
              rw [hun] at hpk
              have hl := Lives.more (M := 40 * t.size) hl (by omega)
              obtain ⟨e0, cs', A', C0, P0⟩ := put_good HG.out.val HG.out.bytes HO.out HCM.out (t.extract a t.size) ((bnums t).drop t.size) (by rw [htk, List.take_append_drop])
              rw [htk] at C0
              rw [e0] at he
              subst he
              generalize S.put s (t.extract a t.size) = r at hl hz hpk C0 P0
              obtain ⟨Az, cz, ez, hcz, hCz⟩ := Kd.R_reads hz
              subst ez
              have hvz : (convert 35 9 (.slice Az r.1.length cz)).run Try.prog w7 = .ok (.string (strOfNums r.1)) w7 := Kd.C_string Try.underlying35 Try.underlying5 Try.underlying9 hCz
              have hsz := strNums_size r.1
              obtain ⟨Z, hZ⟩ : ∃ Z, Z = strOfNums r.1 := ⟨_, rfl⟩
              rw [← hZ] at hvz hsz
              have hz4 : (9223372036854775807 < O.size + Z.size) = False := by simp; omega
              have HN2 := Aside0.mk (show YesAt w (fun k => w6.heap.size ≤ k) g t zs.length (j + 1) t.size (O ++ Z) w7 r.2.2 (o ++ r.1) cs' A' from ⟨hl, by rw [ByteArray.size_append]; omega, fun h => rfl, C0, P0, by rw [HOU.out, hZ, sn_append]⟩)
              have hext : bnums t = (bnums t).take t.size := by rw [List.take_of_length_le (by rw [bnums_length]; exact Nat.le_refl _)]
              have HEX := Aside0.mk hext
              have hes : (t).size ≤ 1000 := by omega
              have HES := Aside0.mk hes
              clear hl hz hk hcz hCz hZ hsz hpk htk hun e0 C0 P0 hext hes
              go_wp2_with (
                go_at_call 18
                refine (early.calls w (fun k => w6.heap.size ≤ k) g (40 * t.size) r.2.2 t (O ++ Z) cs' A' (o ++ r.1) _ HN2.out.lives (by rw [HEX.out]; exact HN2.out.come) HN2.out.part HN2.out.out HES.out).mono ?_
                rintro e w8 ⟨rfl, hb8⟩
                have HN3 := Aside0.mk (show YesAt w (fun k => w6.heap.size ≤ k) g t zs.length (j + 1) t.size (O ++ Z) w8 r.2.2 (o ++ r.1) cs' A' from ⟨HN2.out.lives.step hb8, HN2.out.len, HN2.out.fin, HN2.out.come, HN2.out.part, HN2.out.out⟩)
                clear hb8)
              go_roundw
              case rel => exact ⟨j + 1, t.size, _, by omega, by omega, by omega, rfl, rfl, rfl, by go_num, ⟨_, _, _, _, HN3.out⟩⟩
              case measure => simp [intOf]; omega
        · have hend : j = 61 ∨ j = zs.length + 1 := by omega
          rcases (show (decide (j ≤ zs.length) = false) ∨ (j ≤ zs.length ∧ decide ((j : Int) ≤ 60) = false) by
            by_cases q : j ≤ zs.length
            · exact .inr ⟨q, decide_eq_false (fun h => hlo ⟨q, by omega⟩)⟩
            · exact .inl (decide_eq_false q)) with hd | ⟨hd1, hd⟩
          all_goals
            clear hlo
            go_wp2_with (fail)
            have hat := HFIN.out hend
            have hcm := HCM.out
            rw [hat, List.take_of_length_le (by rw [bnums_length]; exact Nat.le_refl _)] at hcm
            obtain ⟨k1, k2⟩ := close_good HG.out.val HG.out.bytes hcm HPT.out
            refine (close_calls HL.out (by omega)).mono ?_
            rintro e w7 ⟨vz, he, hl, hz, hk⟩
            have hpk := (close_keeps HL.out.fits).2
            have HBL := Aside0.mk hl.inv.below
            rw [k1] at he
            subst he
            generalize s.close = r at hz hpk k2
            obtain ⟨Az, cz, ez, hcz, hCz⟩ := Kd.R_reads hz
            subst ez
            have hvz : (convert 35 9 (.slice Az r.1.length cz)).run Try.prog w7 = .ok (.string (strOfNums r.1)) w7 := Kd.C_string Try.underlying35 Try.underlying5 Try.underlying9 hCz
            have hsz := strNums_size r.1
            obtain ⟨Z, hZ⟩ : ∃ Z, Z = strOfNums r.1 := ⟨_, rfl⟩
            rw [← hZ] at hvz hsz
            have hz4 : (9223372036854775807 < O.size + Z.size) = False := by simp; omega
            have hXY := strNums_join (k2.trans HG.out.form.symm)
            rw [← HOU.out, ← hZ] at hXY
            clear hl hk hz hcz hCz hZ hsz hpk k1 k2 hcm hat
            go_wp2
            go_ret
            exact ⟨rfl, HBL.out⟩
end Go.Proofs.Ytiplbhjllkfemaa.MSt
