/-
  The law of bad bytes: walked.
-/
import Derived.Test.YtiplbhjllkfemaaZStP
namespace Go.Proofs.Ytiplbhjllkfemaa.MSt
open Go.RowKit Go.Proofs.YtiplbhjllkfemaaW.PrintWords Go.Proofs.YtiplbhjllkfemaaW.PrintLast Go.Proofs.YtiplbhjllkfemaaW.PrintMore
attribute [local go_sem] max2_int min2_int max_two min_two max_three min_three max_four min_four
open Go.Proofs.Ytiplbhjllkfemaa.Stm (S S0 Fits put_keeps close_keeps over begs)
open Go.Proofs.Ytiplbhjllkfemaa.Utf (valid bnums dec chars isByte)
open Go.Proofs.Ytiplbhjllkfemaa.NChars (canon expand)
open Go.Proofs.Ytiplbhjllkfemaa.NText (cut_f)
open Go.Proofs.Ytiplbhjllkfemaa.StP
set_option linter.unusedVariables false
set_option linter.unusedSimpArgs false

theorem bytesOf_nums (s : ByteArray) : strOfNums (bytesOf s) = s := Utf.str_nums s
theorem put_calls2 {w0 : World} {P : Nat → Prop} {g N : Nat} {s : S} {w : World} (h : Lives w0 P g N s w) (A0 : Option Addr) (c0 n : Nat) (p : List Int) (t : ByteArray) (hn : p.length = n) (hp : Kd.C (Kd.int .u8) w A0 n p) (ht : strOfNums p = t) (hN : N + 40 * n ≤ 800000) :
    Calls Try.prog 17 #[.pointer (some ⟨g, 0, none⟩), .slice A0 n c0] w fun e w' => ∃ v0_ : Value, e = .returned (.tuple #[v0_, .int .i64 (s.put t).2.1]) ∧ Lives w0 P g (N + 40 * n) (s.put t).2.2 w' ∧ Kd.R (Kd.int .u8) 5 w' w0.heap.size P v0_ (s.put t).1 ∧ Kept w w' (fun k => k = g ∨ P k) := by
  subst hn
  exact put_calls h A0 c0 p t hp ht hN
theorem bytes_C (W : World) (s : ByteArray) (hs : s.size ≤ 1000000) : Kd.C (Kd.int .u8) (Lib.bytesWorld W 5 s) (some ⟨W.heap.size, 0, none⟩) s.size (bytesOf s) :=
  Kd.C_of_reads (enc := Value.int .u8) (d := (0 : Int)) (h1 := fun _ => rfl) (bytes_reads W 5 s (by omega))

theorem bytes_Cn (W : World) (s : ByteArray) (n : Nat) (hn : s.size = n) (hs : s.size ≤ 1000000) : Kd.C (Kd.int .u8) (Lib.bytesWorld W 5 s) (some ⟨W.heap.size, 0, none⟩) n (bytesOf s) := by
  subst hn; exact bytes_C W s hs

theorem put_bytes {w0 : World} {P : Nat → Prop} {g N : Nat} {s : S} {w : World} (h : Lives w0 P g N s w) (u : ByteArray) (n c0 : Nat) (hn : u.size = n) (hN : N + 40 * n ≤ 800000) :
    Calls Try.prog 17 #[.pointer (some ⟨g, 0, none⟩), .slice (some ⟨w.heap.size, 0, none⟩) n c0] (Lib.bytesWorld w 5 u) fun e w' => ∃ v0_ : Value, e = .returned (.tuple #[v0_, .int .i64 (s.put u).2.1]) ∧ Lives w0 P g (N + 40 * n) (s.put u).2.2 w' ∧ Kd.R (Kd.int .u8) 5 w' w0.heap.size P v0_ (s.put u).1 ∧ Kept w w' (fun k => k = g ∨ P k) := by
  have hb : Below w.heap.size w (Lib.bytesWorld w 5 u) := bytes_below (Below.refl _ _) (Nat.le_refl _) 5 u
  refine (put_calls2 (h.step hb) (some ⟨w.heap.size, 0, none⟩) c0 n (bytesOf u) u (by rw [bytesOf_length]; exact hn) (bytes_Cn w u n hn (by omega)) (bytesOf_nums u) hN).mono ?_
  rintro e w' ⟨v, h1, h2, h3, h4⟩
  exact ⟨v, h1, h2, h3, Kept.then_ (Kept.of_below hb _) h4 (fun _ h => .inl h)⟩

/-- What the bad bytes must be. -/
structure BadB (bad : ByteArray) (r : Int) : Prop where
  d : (dec (bnums bad)).2 = 0
  ne : bnums bad ≠ []
  len : bad.size ≤ 3
  run : ∀ (t : ByteArray) (m : List Int), (∀ c ∈ m, valid c) → bnums t = Utf.encAll m → over 0 (expand m) = false → (S0.put (t ++ bad)).2.1 = r ∧ (S0.put (t ++ bad)).2.2.close.2.1 = 1 ∧ (S0.put (t ++ bad)).2.2.close.2.2.held = []
theorem badB_no {bad : ByteArray} (d : (dec (bnums bad)).2 = 0) (ne : bnums bad ≠ []) (len : bad.size ≤ 3) (hb : begs (bnums bad) = false) : BadB bad 1 :=
  ⟨d, ne, len, fun t m h1 h2 h3 => by
    have := bad_ok h1 h2 h3 d ne [] Stm.isByte_nil (fun h => by rw [hb] at h; cases h)
    rw [hb] at this; exact this⟩
theorem badB_yes {bad : ByteArray} (d : (dec (bnums bad)).2 = 0) (ne : bnums bad ≠ []) (len : bad.size ≤ 3) (hb : begs (bnums bad) = true) (q : List Int) (hq : isByte q) (hx : chars (bnums bad ++ q) ≠ none) : BadB bad 0 :=
  ⟨d, ne, len, fun t m h1 h2 h3 => by
    have := bad_ok h1 h2 h3 d ne q hq (fun _ => hx)
    rw [hb] at this; exact this⟩
theorem byte128 : isByte [128] := by intro x hx; simp at hx; omega
set_option maxRecDepth 100000 in
theorem bad0 : BadB ⟨#[255]⟩ 1 := badB_no (by decide +kernel) (by decide +kernel) (by decide) (by decide +kernel)
set_option maxRecDepth 100000 in
theorem bad1 : BadB ⟨#[192]⟩ 1 := badB_no (by decide +kernel) (by decide +kernel) (by decide) (by decide +kernel)
set_option maxRecDepth 100000 in
theorem bad2 : BadB ⟨#[237, 160]⟩ 1 := badB_no (by decide +kernel) (by decide +kernel) (by decide) (by decide +kernel)
set_option maxRecDepth 100000 in
theorem bad3 : BadB ⟨#[128]⟩ 1 := badB_no (by decide +kernel) (by decide +kernel) (by decide) (by decide +kernel)
set_option maxRecDepth 100000 in
theorem bad4 : BadB ⟨#[226, 130]⟩ 0 := badB_yes (by decide +kernel) (by decide +kernel) (by decide) (by decide +kernel) [128] byte128 (by decide +kernel)
set_option maxRecDepth 100000 in
theorem bad5 : BadB ⟨#[240, 159, 152]⟩ 0 := badB_yes (by decide +kernel) (by decide +kernel) (by decide) (by decide +kernel) [128] byte128 (by decide +kernel)

set_option maxHeartbeats 4000000 in
set_option maxRecDepth 100000 in
theorem StreamBad.calls (lead : ByteArray) (kind : Int) (w : World) : Calls Try.prog 6 #[.string lead, .int .i64 kind] w fun e w' => e = .returned (.bool true) ∧ Below w.heap.size w w' := by
  obtain ⟨t, hcut, htl⟩ := cut_f lead 40 (by omega)
  have htl : t.size ≤ 40 := by omega
  have HCUT := Aside0.mk hcut
  have kb := fun (W : World) (s : ByteArray) => print_bytes (P := Try.prog) 9 35 5 Try.underlying9 Try.underlying35 Try.underlying5 s W
  clear hcut
  rcases text_cases t (by omega) with ⟨kt, kr, km, HN⟩ | ⟨m, F, kt, kr, km, HG⟩
  · have HN := Aside0.mk HN
    go_enter Try.func6, Try.ntmps6
    go_wp2_with (first
      | (go_at_call 12; refine (begun.calls _).mono ?_; rintro e w1 ⟨rfl, hb1⟩; have HB1 := Aside0.mk hb1; clear hb1)
      | (go_at_call 9; refine (incipitlaw1_Cut.calls lead 40 t _ HCUT.out).mono ?_; rintro e w2 ⟨rfl, ⟨nd, rfl⟩⟩)
      | (go_at_call 13; refine (incipitref1_Text.calls kt t _ false _ HN.out.text).mono ?_; rintro e w3 ⟨rfl, hb3⟩; have HB3 := Aside0.mk hb3; clear hb3)
      | (go_at_call 14; refine (incipitref1_Read.calls kr _ [] true _ HN.out.read).mono ?_; rintro e w4 ⟨vl, rfl, -, hb4⟩; have HB4 := Aside0.mk hb4; clear hb4))
    go_ret
    exact ⟨rfl, below_step (below_step (pw_below_drewN HB1.out nd) HB3.out) HB4.out⟩
  · have hFs := HG.size
    have HG := Aside0.mk HG
    cases ho : over 0 (expand m) with
    | true =>
      have HO := Aside0.mk ho
      clear ho
      go_enter Try.func6, Try.ntmps6
      go_wp2_with (first
        | (go_at_call 12; refine (begun.calls _).mono ?_; rintro e w1 ⟨rfl, hb1⟩; have HB1 := Aside0.mk hb1; clear hb1)
        | (go_at_call 9; refine (incipitlaw1_Cut.calls lead 40 t _ HCUT.out).mono ?_; rintro e w2 ⟨rfl, ⟨nd, rfl⟩⟩)
        | (go_at_call 13; refine (incipitref1_Text.calls kt t _ true _ HG.out.text).mono ?_; rintro e w3 ⟨rfl, hb3⟩; have HB3 := Aside0.mk hb3; clear hb3)
        | (go_at_call 14; refine (incipitref1_Read.calls kr F (canon m) true _ HG.out.read).mono ?_; rintro e w4 ⟨vl, rfl, hl, hb4⟩; obtain ⟨Al, cl, el, hcl, hCl⟩ := Kd.R_reads hl; subst el; have HCL := Aside0.mk hcl; have HCC := Aside0.mk hCl; have HB4 := Aside0.mk hb4; clear hb4 hl hcl hCl)
        | (go_at_call 15; refine (incipitlaw5_marks.calls km Al cl (canon m) 30 true _ HCC.out HCL.out (HO.out ▸ HG.out.marks)).mono ?_; rintro e w5 ⟨rfl, hb5⟩; have HB5 := Aside0.mk hb5; clear hb5))
      go_ret
      exact ⟨rfl, below_step (below_step (below_step (pw_below_drewN HB1.out nd) HB3.out) HB4.out) HB5.out⟩
    | false =>
      have HO := Aside0.mk ho
      clear ho
      have hr : kind.tmod 6 = -5 ∨ kind.tmod 6 = -4 ∨ kind.tmod 6 = -3 ∨ kind.tmod 6 = -2 ∨ kind.tmod 6 = -1 ∨ kind.tmod 6 = 0 ∨ kind.tmod 6 = 1 ∨ kind.tmod 6 = 2 ∨ kind.tmod 6 = 3 ∨ kind.tmod 6 = 4 ∨ kind.tmod 6 = 5 := by
        have h1 := Int.tmod_lt_of_pos kind (b := 6) (by omega)
        have h2 := Int.tmod_lt_of_pos (-kind) (b := 6) (by omega)
        rw [Int.neg_tmod] at h2
        omega
      rcases hr with hr | hr | hr | hr | hr | hr | hr | hr | hr | hr | hr
      all_goals
        go_enter Try.func6, Try.ntmps6
        go_wp2_with (first
          | (go_at_call 12; refine (begun.calls _).mono ?_; rintro e w1 ⟨rfl, hb1⟩; have HB1 := Aside0.mk hb1; clear hb1)
          | (go_at_call 9; refine (incipitlaw1_Cut.calls lead 40 t _ HCUT.out).mono ?_; rintro e w2 ⟨rfl, ⟨nd, rfl⟩⟩)
          | (go_at_call 13; refine (incipitref1_Text.calls kt t _ true _ HG.out.text).mono ?_; rintro e w3 ⟨rfl, hb3⟩; have HB3 := Aside0.mk hb3; clear hb3)
          | (go_at_call 14; refine (incipitref1_Read.calls kr F (canon m) true _ HG.out.read).mono ?_; rintro e w4 ⟨vl, rfl, hl, hb4⟩; obtain ⟨Al, cl, el, hcl, hCl⟩ := Kd.R_reads hl; subst el; have HCL := Aside0.mk hcl; have HCC := Aside0.mk hCl; have HB4 := Aside0.mk hb4; clear hb4 hl hcl hCl)
          | (go_at_call 15; refine (incipitlaw5_marks.calls km Al cl (canon m) 30 false _ HCC.out HCL.out (HO.out ▸ HG.out.marks)).mono ?_; rintro e w5 ⟨rfl, hb5⟩; have HB5 := Aside0.mk (below_step (below_step (below_step (pw_below_drewN HB1.out nd) HB3.out) HB4.out) hb5); clear hb5 HB1 HB3 HB4 HCC HCL))
        refine (New.calls w _ (below_alloc HB5.out _)).mono ?_
        rintro e w6 ⟨g, rfl, hg, hs, hb6⟩
        have L6 := Aside0.mk (lives_new (w0 := w) (w := w) hs)
        clear hg hs hb6
        go_wp2_with (fail)
        refine (put_bytes L6.out _ _ _ ?hn ?hN).mono ?_
        case hn => rw [ByteArray.size_append]; rfl
        case hN => omega
        rintro e w7 ⟨vx, he, hl, -, -⟩
        obtain ⟨s7, hl7, he7, r7⟩ : ∃ s7 : List Int × Int × S, Lives w _ g _ s7.2.2 w7 ∧ e = .returned (.tuple #[vx, .int .i64 s7.2.1]) ∧ s7.2.1 = _ ∧ s7.2.2.close.2.1 = 1 ∧ s7.2.2.close.2.2.held = [] := by
          first | exact ⟨_, hl, he, bad0.run t m HG.out.val HG.out.bytes HO.out⟩ | exact ⟨_, hl, he, bad1.run t m HG.out.val HG.out.bytes HO.out⟩ | exact ⟨_, hl, he, bad2.run t m HG.out.val HG.out.bytes HO.out⟩ | exact ⟨_, hl, he, bad3.run t m HG.out.val HG.out.bytes HO.out⟩ | exact ⟨_, hl, he, bad4.run t m HG.out.val HG.out.bytes HO.out⟩ | exact ⟨_, hl, he, bad5.run t m HG.out.val HG.out.bytes HO.out⟩
        obtain ⟨r1, r2, r3⟩ := r7
        rw [r1] at he7
        subst he7
        have L7 := Aside0.mk hl7
        have R2 := Aside0.mk r2
        have R3 := Aside0.mk r3
        clear he hl hl7 r1 r2 r3 L6
        go_wp2_with (fail)
        refine (close_calls L7.out (by omega)).mono ?_
        rintro e w8 ⟨vy, he, hl, -, -⟩
        rw [R2.out] at he
        subst he
        have L8 := Aside0.mk hl
        clear hl L7
        go_wp2_with (fail)
        refine (Held.calls w _ g _ _ L8.out.inv).mono ?_
        rintro e w' ⟨he, rfl⟩
        rw [R3.out] at he
        subst he
        go_wp2
        go_ret
        exact ⟨rfl, L8.out.inv.below⟩
end Go.Proofs.Ytiplbhjllkfemaa.MSt
