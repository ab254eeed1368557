/-
  A stream is written to: walked.
-/
import Derived.Test.YtiplbhjllkfemaaZStW3
import Derived.StillTailTactics
namespace Go.Proofs.Ytiplbhjllkfemaa.MSt
open Go.RowKit Go.Proofs.YtiplbhjllkfemaaW.PrintWords Go.Proofs.YtiplbhjllkfemaaW.PrintLast Go.Proofs.YtiplbhjllkfemaaW.PrintMore
attribute [local go_sem] max2_int min2_int max_two min_two max_three min_three max_four min_four
open Go.Proofs.Ytiplbhjllkfemaa.Stm (S S0 begs take_keeps)
open Go.Proofs.Ytiplbhjllkfemaa.Utf (valid enc encAll bnums dec bnums_length bnums_byte bnums_nil bnums_ne dec_pos dec_some)
open Go.Proofs.Ytiplbhjllkfemaa.NOrd (Evr order order_perm)
open Go.Proofs.Ytiplbhjllkfemaa.NTab (clf apt class_f apart_f)
open Go.Proofs.Ytiplbhjllkfemaa.NChars (order_f clf_range apt_len)
open Go.Proofs.Ytiplbhjllkfemaa.NText (apt_valid)
open Go.Proofs.Ytiplbhjllkfemaa.PureSt (begins_any first_any)
set_option linter.unusedVariables false
set_option linter.unusedSimpArgs false

theorem SBlk.drewN {w : World} {g : Nat} {vh : Value} {s : S} (h : SBlk w g vh s) (n : Nat) : SBlk (w.drewN n) g vh s := h
/-- A round's state. -/
structure WriteAt (w0 w : World) (P : Nat → Prop) (g : Nat) (r : List Int × Int × S) (n : Nat) (vb : Value) (wr : World) (sc : S) (bc : List Int) : Prop where
  run : S.write n sc bc = r
  rest : sc.rest.size < n
  inv : SInv w0 (fun k => P k) g sc wr
  out : Kd.R (Kd.int .u8) 5 wr w0.heap.size (fun k => P k) vb bc
  kept : Kept w wr (fun k => k = g ∨ P k)
  val : ∀ x ∈ sc.held, valid x
  m0 : 0 ≤ sc.marks
  m1 : sc.marks ≤ 30
  size : bc.length + 4 * sc.held.length + 40 * sc.rest.size ≤ 800000

set_option maxHeartbeats 2000000 in
set_option maxRecDepth 100000 in
theorem Write.calls (w0 : World) (P : Nat → Prop) (g : Nat) (s : S) (A0 : Option Addr) (c0 : Nat) (p : List Int) (w : World) (hp : Kd.C (Kd.int .u8) w A0 p.length p) (hI : SInv w0 (fun k => P k) g s w) (hPg : ¬ P g) (hPf : ∀ k, w.heap.size ≤ k → P k)
    (hh : ∀ x ∈ s.held, valid x) (hm0 : 0 ≤ s.marks) (hm1 : s.marks ≤ 30) (hN : 4 * s.held.length + 40 * (s.rest.size + p.length) ≤ 800000) (t : ByteArray) (ht : strOfNums p = t) (htl : t.size = p.length) :
    Calls Try.prog 17 #[.pointer (some ⟨g, 0, none⟩), .slice A0 p.length c0] w fun e w' => ∃ v0_ : Value, e = .returned (.tuple #[v0_, .int .i64 (s.put t).2.1]) ∧ SInv w0 (fun k => P k) g (s.put t).2.2 w' ∧ Kd.R (Kd.int .u8) 5 w' w0.heap.size (fun k => P k) v0_ (s.put t).1 ∧ Kept w w' (fun k => k = g ∨ P k) := by
  have HI := Aside0.mk hI
  obtain ⟨hb, hg, vh, hblk, hr⟩ := hI
  obtain ⟨q0, q1, q2, q3, q4⟩ := hblk.cells
  obtain ⟨f0, f1, f2, f3, f4⟩ := hblk.free
  have HB := Aside0.mk hb
  have HBLK := Aside0.mk hblk
  have HHELD := Aside0.mk hr
  have HH := Aside0.mk hh
  have HP := Aside0.mk hp
  have HT := Aside0.mk ht
  clear hb hblk hr hh hp ht
  unfold S.put
  by_cases h1 : s.closed = true
  · rw [if_pos h1]
    rw [h1] at q4
    clear h1
    go_enter Try.func17, Try.ntmps17
    go_wp2
    go_ret2
    exact ⟨_, rfl, HI.out, Kd.R_nil _ _ _ _ _, Kept.refl _ _⟩
  · rw [if_neg h1]
    have h1' : s.closed = false := by simpa using h1
    rw [h1'] at q4
    clear h1 h1'
    by_cases h2 : s.err ≠ 0
    · rw [if_pos h2]
      have h2' : (s.err != 0) = true := bne_iff_ne.2 h2
      have h2'' : (s.err == 0) = false := beq_eq_false_iff_ne.2 h2
      clear h2
      go_enter Try.func17, Try.ntmps17
      go_wp2
      go_quiet (fail)
      go_wp2
      go_ret2
      exact ⟨_, rfl, HI.out.drewN _, Kd.R_nil _ _ _ _ _, Kept.drewN (Kept.refl _ _) _⟩
    · rw [if_neg h2]
      have h2' : s.err = 0 := by simpa using h2
      obtain ⟨r, hr⟩ : ∃ r, r = S.write ((s.rest ++ t).size + 1) { s with rest := s.rest ++ t } [] := ⟨_, rfl⟩
      rw [← hr]
      have HR := Aside0.mk hr
      clear hr
      rw [h2'] at q3
      clear h2 h2'
      have hz1 : s.rest.size + t.size ≤ 20000 := by omega
      have hz2 : s.rest.size ≤ 20000 := by omega
      have hz3 : t.size ≤ 20000 := by omega
      have hz4 : (9223372036854775807 < s.rest.size + t.size) = False := by simp; omega
      have HTL := Aside0.mk htl
      clear htl
      have hcv : (convert 35 9 (.slice A0 p.length c0)).run Try.prog w.drew = .ok (.string t) w.drew := by
        rw [← HT.out]; exact Kd.C_string Try.underlying35 Try.underlying5 Try.underlying9 (Kd.C_drew HP.out)
      go_enter Try.func17, Try.ntmps17
      go_wp2
      go_still_tail 9, (by kernel_rfl)
      change wpList _ _ _ _ _ w.drew
      go_wp2
      have hsz : (s.rest ++ t).size = s.rest.size + t.size := ByteArray.size_append ..
      have HS := Aside0.mk (show WriteAt w0 w P g r ((s.rest ++ t).size + 1) (.slice none 0 0) (w.setCell ⟨g, 0, none⟩ (.string (s.rest ++ t))).drew { s with rest := s.rest ++ t } [] from
        ⟨HR.out.symm, Nat.lt_succ_self _, ⟨below_drew (HB.out.setCell hg _), hg, vh, HBLK.out.set0 _, Kd.R_drew (Kd.R_far HHELD.out (fun k (hk : P k) (e : k = g) => hPg (e ▸ hk)) _)⟩, Kd.R_nil _ _ _ _ _, Kept.drew (Kept.setCell (Kept.refl _ _) (.inl (.inl rfl)) _), HH.out, hm0, hm1, by
          show 0 + 4 * s.held.length + 40 * (s.rest ++ t).size ≤ 800000
          have := HTL.out; omega⟩)
      clear hsz hcv hz1 hz2 hz3 hz4 q0 q1 q2 q3 q4 f0 f1 f2 f3 f4
      go_loopg [6] ((s.rest ++ t).size + 1) (fun kq v6 wr => Aside0 (∃ sc bc, WriteAt w0 w P g r kq v6 wr sc bc))
      case atStart => exact ⟨_, _, HS.out⟩
      case round =>
        clear HS HBLK HHELD HI HP HT HB
        obtain ⟨sc, bc, HA⟩ := hrel.out
        clear hrel
        obtain ⟨hrun, hrest, hinv, hout, hkept, hval, hsm0, hsm1, hsize⟩ := HA
        cases gk with
        | zero => exact absurd hrest (Nat.not_lt_zero _)
        | succ k1 =>
          have HINV := Aside0.mk hinv
          obtain ⟨hb1, hg1, vh1, hblk1, hr1⟩ := hinv
          obtain ⟨q0, q1, q2, q3, q4⟩ := hblk1.cells
          obtain ⟨f0, f1, f2, f3, f4⟩ := hblk1.free
          have HBLK := Aside0.mk hblk1
          have HB := Aside0.mk hb1
          have HHELD := Aside0.mk hr1
          have HOUT := Aside0.mk hout
          have HKEPT := Aside0.mk hkept
          have HVAL := Aside0.mk hval
          have HSIZE := Aside0.mk hsize
          have HREST := Aside0.mk hrest
          have hby := bnums_byte sc.rest
          have hbl := bnums_length sc.rest
          clear hb1 hblk1 hr1 hout hkept hval hsize hrest
          rw [S.write] at hrun
          by_cases h0 : bnums sc.rest = []
          · rw [if_pos h0] at hrun
            have h4 : sc.rest.toList = [] := Decidable.byContradiction fun e => bnums_ne e h0
            have HRUN := Aside0.mk hrun
            clear hrun h0 hby hbl
            go_wp2
            go_ret2
            rw [← HRUN.out]
            exact ⟨_, rfl, HINV.out, HOUT.out, HKEPT.out⟩
          · rw [if_neg h0] at hrun
            have h4 : sc.rest.toList ≠ [] := fun e => h0 (bnums_nil e)
            have h4' : (sc.rest.toList == ([] : List UInt8)) = false := beq_eq_false_iff_ne.2 h4
            have h4'' : (!sc.rest.toList.isEmpty) = true := by cases e : sc.rest.toList with
              | nil => exact absurd e h4
              | cons => rfl
            obtain ⟨kf, hkf⟩ := first_any sc.rest
            by_cases h2 : (dec (bnums sc.rest)).2 = 0
            · rw [if_pos h2] at hrun
              obtain ⟨kb, hkb⟩ := begins_any sc.rest
              obtain ⟨d1, hd1⟩ : ∃ d1, d1 = (dec (bnums sc.rest)).1 := ⟨_, rfl⟩
              have HKF := Aside0.mk (show utf_First.f kf sc.rest = some (d1, 0) by rw [hkf, hd1, ← h2])
              clear hkf h2 hd1 h0 hby hbl
              by_cases hbg : begs (bnums sc.rest) = true
              · rw [if_pos hbg] at hrun
                rw [hbg] at hkb
                have HKB := Aside0.mk hkb
                have HRUN := Aside0.mk hrun
                clear hrun hkb hbg
                go_wp2_with (first
                  | (go_at_call 31
                     refine (utf_First.calls kf sc.rest d1 0 _ HKF.out).mono ?_
                     rintro e w' ⟨rfl, ⟨nd, rfl⟩⟩)
                  | (go_at_call 32
                     refine (utf_Begins.calls kb sc.rest true _ HKB.out).mono ?_
                     rintro e w' ⟨rfl, ⟨nd2, rfl⟩⟩))
                go_ret2
                rw [← HRUN.out]
                exact ⟨_, rfl, HINV.out.drewN _, Kd.R_drewN HOUT.out _, Kept.drewN HKEPT.out _⟩
              · rw [if_neg hbg] at hrun
                have hbg' : begs (bnums sc.rest) = false := by simpa using hbg
                rw [hbg'] at hkb
                have HKB := Aside0.mk hkb
                have HRUN := Aside0.mk hrun
                clear hrun hkb hbg hbg'
                go_wp2_with (first
                  | (go_at_call 31
                     refine (utf_First.calls kf sc.rest d1 0 _ HKF.out).mono ?_
                     rintro e w' ⟨rfl, ⟨nd, rfl⟩⟩)
                  | (go_at_call 32
                     refine (utf_Begins.calls kb sc.rest false _ HKB.out).mono ?_
                     rintro e w' ⟨rfl, ⟨nd2, rfl⟩⟩)
                  | (go_at_call 33
                     refine (fail.calls g vh1 sc 1 _ (HBLK.out.drewN _)).mono ?_
                     rintro e w' ⟨rfl, rfl⟩))
                go_ret2
                rw [← HRUN.out]
                exact ⟨_, rfl, (HINV.out.drewN _).fail 1, Kd.R_nil _ _ _ _ _, kept_fail (P := fun k => k = g ∨ P k) (Kept.drewN HKEPT.out _) (.inl rfl) 1⟩
            · rw [if_neg h2] at hrun
              have hp := dec_pos hby h2
              obtain ⟨hv, -, -⟩ := dec_some hby h2
              obtain ⟨d1, hd1⟩ : ∃ d1, d1 = (dec (bnums sc.rest)).1 := ⟨_, rfl⟩
              obtain ⟨d2, hd2⟩ : ∃ d2, d2 = (dec (bnums sc.rest)).2 := ⟨_, rfl⟩
              rw [← hd1] at hv hrun
              rw [← hd2] at hp h2 hrun
              have HKF := Aside0.mk (show utf_First.f kf sc.rest = some (d1, d2) by rw [hkf, hd1, hd2])
              obtain ⟨s2, hs2⟩ : ∃ s2 : S, s2 = { sc with rest := sc.rest.extract d2.toNat sc.rest.size } := ⟨_, rfl⟩
              rw [← hs2] at hrun
              have hx : s2.rest.size = sc.rest.size - d2.toNat := by rw [hs2]; show (sc.rest.extract _ _).size = _; rw [ByteArray.size_extract]; omega
              have hva : ∀ x ∈ apt d1, valid x := fun x hx => apt_valid d1 x hv hx
              obtain ⟨i1, i2, i3, i4, i5⟩ := take_keeps (apt d1) s2 bc hva (by rw [hs2]; exact HVAL.out) (by rw [hs2]; exact hsm0) (by rw [hs2]; exact hsm1)
              have hal := apt_len d1
              have e2 : s2.held.length = sc.held.length := by rw [hs2]
              obtain ⟨z, hz⟩ : ∃ z, z = S.take (apt d1) s2 bc := ⟨_, rfl⟩
              rw [← hz] at hrun i1 i2 i3 i4 i5
              have HZ := Aside0.mk hz
              have HS2 := Aside0.mk hs2
              have hd0 : 0 ≤ d2 := hp.2.2
              have hdl : d2 ≤ (sc.rest.size : Int) := by omega
              have hn2 : (d2 == 0) = false := beq_eq_false_iff_ne.2 h2
              have hpp : d2.toNat ≥ 1 := by omega
              have HVA := Aside0.mk hva
              have HI1 := Aside0.mk i1
              have HX := Aside0.mk (show z.2.rest.size < k1 ∧ z.1.length + 4 * z.2.held.length + 40 * z.2.rest.size ≤ 800000 by have := HSIZE.out; have := HREST.out; omega)
              clear hkf h0 hby hbl hp hd1 hd2 h2 hs2 hz hx hva i1 i4 i5 hal e2 hpp
              by_cases hze : z.2.err ≠ 0
              · rw [if_pos hze] at hrun
                have hze' : (z.2.err != 0) = true := bne_iff_ne.2 hze
                have hze'' : (z.2.err == 0) = false := beq_eq_false_iff_ne.2 hze
                have HRUN := Aside0.mk hrun
                clear hrun hze
                go_wp2_with (first
                  | (go_at_call 31
                     refine (utf_First.calls kf sc.rest d1 d2 _ HKF.out).mono ?_
                     rintro e w' ⟨rfl, ⟨nd, rfl⟩⟩)
                  | (go_at_call 34
                     have hK2 := Kept.setCell (S := fun k => k = g ∨ P k) (Kept.drewN HKEPT.out nd) (p := ⟨g, 0, none⟩) (.inl (.inl rfl)) (.string (sc.rest.extract d2.toNat sc.rest.size))
                     have hI2 : SInv w0 (fun k => P k) g s2 ((wr.drewN nd).setCell ⟨g, 0, none⟩ (.string (sc.rest.extract d2.toNat sc.rest.size))) := by
                       rw [HS2.out]
                       exact ⟨(pw_below_drewN HB.out nd).setCell hg1 _, hg1, vh1, (HBLK.out.drewN nd).set0 _, Kd.R_far (Kd.R_drewN HHELD.out nd) (fun k (hk : P k) (e : k = g) => hPg (e ▸ hk)) _⟩
                     refine (take.calls w0 P g s2 bc _ d1 _ hI2 hPg (fun k hk => hPf k (Nat.le_trans hK2.1 hk)) (Kd.R_far (Kd.R_drewN HOUT.out nd) (fun k (hk : P k) (e : k = g) => hPg (e ▸ hk)) _) hv HVA.out (by rw [HS2.out]; exact HVAL.out) (by rw [HS2.out]; exact hsm0) (by rw [HS2.out]; exact hsm1) (by rw [HS2.out]; show bc.length + 4 * sc.held.length ≤ 900000; have := HSIZE.out; omega)).mono ?_
                     rintro e w3 ⟨v3, rfl, hI3, hO3, hK3⟩
                     rw [← HZ.out] at hI3 hO3
                     have HI3 := Aside0.mk hI3
                     have HO3 := Aside0.mk hO3
                     have HK3 := Aside0.mk (Kept.then_ hK2 hK3 (fun _ h => .inl h))
                     obtain ⟨hb3, hg3, vh3, hblk3, hr3⟩ := hI3
                     obtain ⟨Ao, co, eo⟩ := Kd.R_slice hO3
                     subst eo
                     obtain ⟨p0, p1, p2, p3, p4⟩ := hblk3.cells
                     clear hb3 hg3 hblk3 hr3 hO3 hK3 hK2 hI2 q0 q1 q2 q3 q4 f0 f1 f2 f3 f4 HINV HBLK HB HHELD HOUT HKEPT))
                go_quiet (fail)
                go_wp2
                go_ret2
                rw [← HRUN.out]
                exact ⟨_, rfl, HI3.out.drewN _, Kd.R_nil _ _ _ _ _, Kept.drewN HK3.out _⟩
              · rw [if_neg hze] at hrun
                have hze' : z.2.err = 0 := by simpa using hze
                have HRUN := Aside0.mk hrun
                have HZE := Aside0.mk hze'
                clear hrun hze hze'
                go_wp2_with (first
                  | (go_at_call 31
                     refine (utf_First.calls kf sc.rest d1 d2 _ HKF.out).mono ?_
                     rintro e w' ⟨rfl, ⟨nd, rfl⟩⟩)
                  | (go_at_call 34
                     have hK2 := Kept.setCell (S := fun k => k = g ∨ P k) (Kept.drewN HKEPT.out nd) (p := ⟨g, 0, none⟩) (.inl (.inl rfl)) (.string (sc.rest.extract d2.toNat sc.rest.size))
                     have hI2 : SInv w0 (fun k => P k) g s2 ((wr.drewN nd).setCell ⟨g, 0, none⟩ (.string (sc.rest.extract d2.toNat sc.rest.size))) := by
                       rw [HS2.out]
                       exact ⟨(pw_below_drewN HB.out nd).setCell hg1 _, hg1, vh1, (HBLK.out.drewN nd).set0 _, Kd.R_far (Kd.R_drewN HHELD.out nd) (fun k (hk : P k) (e : k = g) => hPg (e ▸ hk)) _⟩
                     refine (take.calls w0 P g s2 bc _ d1 _ hI2 hPg (fun k hk => hPf k (Nat.le_trans hK2.1 hk)) (Kd.R_far (Kd.R_drewN HOUT.out nd) (fun k (hk : P k) (e : k = g) => hPg (e ▸ hk)) _) hv HVA.out (by rw [HS2.out]; exact HVAL.out) (by rw [HS2.out]; exact hsm0) (by rw [HS2.out]; exact hsm1) (by rw [HS2.out]; show bc.length + 4 * sc.held.length ≤ 900000; have := HSIZE.out; omega)).mono ?_
                     rintro e w3 ⟨v3, rfl, hI3, hO3, hK3⟩
                     rw [← HZ.out] at hI3 hO3
                     have HI3 := Aside0.mk hI3
                     have HO3 := Aside0.mk hO3
                     have HK3 := Aside0.mk (Kept.then_ hK2 hK3 (fun _ h => .inl h))
                     obtain ⟨hb3, hg3, vh3, hblk3, hr3⟩ := hI3
                     obtain ⟨Ao, co, eo⟩ := Kd.R_slice hO3
                     subst eo
                     obtain ⟨p0, p1, p2, p3, p4⟩ := hblk3.cells
                     rw [HZE.out] at p3
                     clear hb3 hg3 hblk3 hr3 hO3 hK3 hK2 hI2 q0 q1 q2 q3 q4 f0 f1 f2 f3 f4 HINV HBLK HB HHELD HOUT HKEPT))
                go_roundg k1
                case measure => omega
                case rel => exact ⟨z.2, z.1, HRUN.out, HX.out.1, HI3.out, HO3.out, HK3.out, HI1.out, i2, i3, HX.out.2⟩
end Go.Proofs.Ytiplbhjllkfemaa.MSt
