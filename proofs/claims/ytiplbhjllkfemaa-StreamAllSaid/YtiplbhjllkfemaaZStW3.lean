/-
  A stream is made, written to, closed, asked: walked.
-/
import Derived.Test.YtiplbhjllkfemaaZStW2
import Derived.Test.YtiplbhjllkfemaaZBegSt
namespace Go.Proofs.Ytiplbhjllkfemaa.MSt
open Go.RowKit Go.Proofs.YtiplbhjllkfemaaW.PrintWords Go.Proofs.YtiplbhjllkfemaaW.PrintLast Go.Proofs.YtiplbhjllkfemaaW.PrintMore
attribute [local go_sem] max2_int min2_int max_two min_two max_three min_three max_four min_four
open Go.Proofs.Ytiplbhjllkfemaa.Stm (S S0 begs)
open Go.Proofs.Ytiplbhjllkfemaa.Utf (valid enc encAll bnums dec bnums_length bnums_byte bnums_nil bnums_ne dec_pos dec_some)
open Go.Proofs.Ytiplbhjllkfemaa.NOrd (Evr order order_perm)
open Go.Proofs.Ytiplbhjllkfemaa.NTab (clf apt class_f apart_f)
open Go.Proofs.Ytiplbhjllkfemaa.NChars (order_f clf_range apt_len)
open Go.Proofs.Ytiplbhjllkfemaa.PureSt (begins_any first_any)
set_option linter.unusedVariables false
set_option linter.unusedSimpArgs false

set_option maxHeartbeats 8000000 in
set_option maxRecDepth 100000 in
theorem New.calls (w0 w : World) (hB : Below w0.heap.size w0 w) :
    Calls Try.prog 16 #[] w fun e w' => ∃ g : Nat, e = .returned (.pointer (some ⟨g, 0, none⟩)) ∧ w.heap.size ≤ g ∧ (∀ P, SInv w0 P g S0 w') ∧ Below w.heap.size w w' := by
  have HB := Aside0.mk hB
  clear hB
  go_enter Try.func16, Try.ntmps16
  go_wp2_with (
    (with_reducible refine gate_dst (N := 2) rfl ?_)
    refine box_event ?hg (N := 2) ?hd (cs := #[.string (⟨#[]⟩ : ByteArray), .slice none 0 0, .int .i64 0, .int .i64 0, .bool false]) (t := 66) ?hr ?_
    (case hd => rfl)
    (case hg => rfl)
    (case hr => first | (go_simp; done) | (go_simp; rfl))
    intro g hg w1 hbox hb
    have HG := Aside0.mk hg
    have HBOX := Aside0.mk hbox
    have HB1 := Aside0.mk hb
    clear hg hbox hb)
  go_ret
  refine ⟨g, rfl, by rw [HG.out]; exact Nat.le_refl _, fun P => ⟨below_then HB.out HB.out.size HB1.out, by rw [HG.out]; exact HB.out.size, _, HBOX.out, Kd.R_nil _ _ _ _ _⟩, HB1.out⟩

set_option maxHeartbeats 8000000 in
set_option maxRecDepth 100000 in
theorem Held.calls (w0 : World) (P : Nat → Prop) (g : Nat) (s : S) (w : World) (hI : SInv w0 P g s w) :
    Calls Try.prog 20 #[.pointer (some ⟨g, 0, none⟩)] w fun e w' => e = .returned (.int .i64 s.held.length) ∧ w' = w := by
  obtain ⟨hb, hg, vh, hblk, hr⟩ := hI
  obtain ⟨A1, c1, e1, hc1, hC1⟩ := Kd.R_reads hr
  have hl : s.held.length ≤ 9223372036854775807 := Kd.C_max hC1
  subst e1
  obtain ⟨q0, q1, q2, q3, q4⟩ := hblk.cells
  clear hb hg hblk hr hc1 hC1
  go_enter Try.func20, Try.ntmps20
  go_wp2
  go_ret
  exact ⟨rfl, rfl⟩

set_option maxHeartbeats 8000000 in
set_option maxRecDepth 100000 in
theorem Close.calls (w0 : World) (P : Nat → Prop) (g : Nat) (s : S) (w : World) (hI : SInv w0 (fun k => P k) g s w) (hPg : ¬ P g) (hPf : ∀ k, w.heap.size ≤ k → P k) (hh : ∀ x ∈ s.held, valid x) (hN : s.held.length ≤ 1000000) :
    Calls Try.prog 19 #[.pointer (some ⟨g, 0, none⟩)] w fun e w' => ∃ v0_ : Value, e = .returned (.tuple #[v0_, .int .i64 s.close.2.1]) ∧ SInv w0 (fun k => P k) g s.close.2.2 w' ∧ Kd.R (Kd.int .u8) 5 w' w0.heap.size (fun k => w.heap.size ≤ k) v0_ s.close.1 ∧ Kept w w' (fun k => k = g) := by
  have HI := Aside0.mk hI
  obtain ⟨hb, hg, vh, hblk, hr⟩ := hI
  obtain ⟨Ah, ch, eh, hch, hCh⟩ := Kd.R_reads hr
  subst eh
  obtain ⟨q0, q1, q2, q3, q4⟩ := hblk.cells
  obtain ⟨f0, f1, f2, f3, f4⟩ := hblk.free
  have HB := Aside0.mk hb
  have HBLK := Aside0.mk hblk
  have HC := Aside0.mk hCh
  have HCH := Aside0.mk hch
  clear hb hblk hr hCh hch
  unfold S.close
  by_cases h1 : s.closed = true
  · rw [if_pos h1]
    rw [h1] at q4
    clear h1
    go_enter Try.func19, Try.ntmps19
    go_wp2
    go_ret2
    exact ⟨_, rfl, HI.out, Kd.R_nil _ _ _ _ _, Kept.refl _ _⟩
  · rw [if_neg h1]
    have h1' : s.closed = false := by simpa using h1
    rw [h1'] at q4
    clear h1 h1'
    by_cases h2 : s.err ≠ 0
    · rw [if_pos h2]
      have h2' : (s.err != 0) = true := bne_iff_ne.2 h2
      have h2'' : (s.err == 0) = false := beq_eq_false_iff_ne.2 h2
      clear h2
      go_enter Try.func19, Try.ntmps19
      go_wp2
      go_quiet (fail)
      go_wp2
      go_ret2
      exact ⟨_, rfl, HI.out.drewN _, Kd.R_nil _ _ _ _ _, Kept.drewN (Kept.refl _ _) _⟩
    · rw [if_neg h2]
      have h2' : s.err = 0 := by simpa using h2
      rw [h2'] at q3
      clear h2 h2'
      by_cases h3 : bnums s.rest ≠ []
      · rw [if_pos h3]
        have h4 : s.rest.toList ≠ [] := fun e => h3 (bnums_nil e)
        have h4' : (s.rest.toList == ([] : List UInt8)) = false := beq_eq_false_iff_ne.2 h4
        have h4'' : (!s.rest.toList.isEmpty) = true := by cases e : s.rest.toList with
          | nil => exact absurd e h4
          | cons => rfl
        clear h3
        go_enter Try.func19, Try.ntmps19
        go_wp2_with (
          go_at_call 33
          refine (fail.calls g (.slice Ah s.held.length ch) s 1 _ HBLK.out).mono ?_
          rintro e w' ⟨rfl, rfl⟩)
        go_ret2
        exact ⟨_, rfl, HI.out.fail 1, Kd.R_nil _ _ _ _ _, kept_fail (P := fun k => k = g) (Kept.refl _ _) rfl 1⟩
      · rw [if_neg h3]
        have h4 : s.rest.toList = [] := by
          refine Decidable.byContradiction fun e => h3 (bnums_ne e)
        obtain ⟨kg, hkg⟩ := give_any s.held hh hN
        obtain ⟨y, hy⟩ : ∃ y, y = s.give := ⟨_, rfl⟩
        have HKG := Aside0.mk (show stream_give.f kg s.held = some y by rw [hy]; exact hkg)
        rw [← hy]
        clear h3 hkg hy
        go_enter Try.func19, Try.ntmps19
        go_wp2_with (
          go_at_call 35
          refine (stream_give.calls kg Ah ch s.held y _ HC.out HCH.out HKG.out).mono ?_
          rintro e w2 ⟨vy, rfl, hy2, hb2⟩
          obtain ⟨Ay, cy, ey, hcy, hCy⟩ := Kd.R_reads hy2
          have hylm : y.length ≤ 9223372036854775807 := Kd.C_max hCy
          subst ey
          have hbl2 : SBlk w2 g (.slice Ah s.held.length ch) s := (hb2.block g (blk_lt HBLK.out)).trans HBLK.out
          have HB2 := Aside0.mk hb2
          have HY2 := Aside0.mk hy2
          obtain ⟨p0, p1, p2, p3, p4⟩ := hbl2.cells
          obtain ⟨z0, z1, z2, z3, z4⟩ := hbl2.free
          have HBLK2 := Aside0.mk hbl2
          clear hy2 hb2 hcy hCy hbl2 q0 q1 q2 q3 q4 f0 f1 f2 f3 f4)
        go_ret2
        have hb3 := below_then HB.out HB.out.size HB2.out
        have hgw : g < w.heap.size := HI.out.lt
        refine ⟨_, rfl, ⟨(hb3.setCell hg _).setCell hg _, hg, .slice none 0 0, (HBLK2.out.set4 true).set1 _ [], Kd.R_nil _ _ _ _ _⟩, ?_, Kept.setCell (S := fun k => k = g) (Kept.setCell (S := fun k => k = g) (Kept.of_below HB2.out _) (p := ⟨g, 4, none⟩) (.inl rfl) _) (p := ⟨g, 1, none⟩) (.inl rfl) _⟩
        refine Kd.R_far (Kd.R_far (Kd.R_lower (Kd.R_mono (Kd.R_bound HY2.out) (fun k hk => hk.2.1)) HB.out.size) (fun k hk => ?_) _) (fun k hk => ?_) _
        · show k ≠ g; omega
        · show k ≠ g; omega
end Go.Proofs.Ytiplbhjllkfemaa.MSt
