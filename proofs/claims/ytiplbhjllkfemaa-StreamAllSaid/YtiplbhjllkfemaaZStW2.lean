/-
  A stream takes a character: walked.
-/
import Derived.Test.YtiplbhjllkfemaaZStW1
namespace Go.Proofs.Ytiplbhjllkfemaa.MSt
open Go.RowKit Go.Proofs.YtiplbhjllkfemaaW.PrintWords Go.Proofs.YtiplbhjllkfemaaW.PrintLast Go.Proofs.YtiplbhjllkfemaaW.PrintMore
attribute [local go_sem] max2_int min2_int max_two min_two max_three min_three max_four min_four
open Go.Proofs.Ytiplbhjllkfemaa.Stm (S S0)
open Go.Proofs.Ytiplbhjllkfemaa.Utf (valid enc encAll)
open Go.Proofs.Ytiplbhjllkfemaa.NOrd (Evr order order_perm)
open Go.Proofs.Ytiplbhjllkfemaa.NTab (clf apt class_f apart_f)
open Go.Proofs.Ytiplbhjllkfemaa.NChars (order_f clf_range apt_len)
set_option linter.unusedVariables false
set_option linter.unusedSimpArgs false

theorem class_any (x : Int) : ∃ k, ucd_Class.f k x = some (clf x) := by
  obtain ⟨k, h⟩ := class_f x
  exact ⟨k, h k (Nat.le_refl _)⟩
theorem apart_any (x : Int) : ∃ k, norm_Apart.f k x = some (apt x) := by
  obtain ⟨k, h⟩ := apart_f x
  exact ⟨k, h k (Nat.le_refl _)⟩
theorem give_l (l : List Int) (hv : ∀ x ∈ l, valid x) (hl : l.length ≤ 1000000) : ∀ (rest pre : List Int), l = pre ++ rest → Evr (fun k => stream_give.l0 k (encAll pre) l (l.length : Int) (pre.length : Int)) (encAll l)
  | [], pre, e => by
    rw [List.append_nil] at e
    subst e
    refine Evr.succ (h := fun _ => some (encAll l)) (fun k => ?_) (Evr.of fun _ => rfl)
    rw [stream_give.l0, if_neg (by omega)]
  | c :: rest, pre, e => by
    have hlen : l.length = pre.length + 1 + rest.length := by rw [e]; simp; omega
    have hr : rd l (pre.length : Int) = c := by rw [e]; simp [rd]
    have hc : valid c := hv c (by rw [e]; simp)
    have hp := PureSt.encAll_len pre
    have ih := give_l l hv hl rest (pre ++ [c]) (by rw [e]; simp)
    have ex : encAll (pre ++ [c]) = encAll pre ++ enc c := by simp [encAll]
    rw [ex, List.length_append, List.length_singleton, Int.natCast_add] at ih
    refine Evr.succ (fun k => by rw [stream_give.l0, if_pos (by omega), if_pos (by omega), if_pos (by omega), hr, PureSt.put_f _ _ hc (by omega), Option.bind_some]) (Evr.congr (fun k => ?_) ih)
    rw [w64_s (by omega) (by omega)]; rfl
theorem give_any (l : List Int) (hv : ∀ x ∈ l, valid x) (hl : l.length ≤ 1000000) : ∃ k, stream_give.f k l = some (encAll (order clf l)) := by
  have hp := order_perm clf l
  have h : Evr (fun k => stream_give.f k l) (encAll (order clf l)) := by
    unfold stream_give.f
    refine Evr.bind (order_f l (by omega)) ?_
    exact give_l (order clf l) (fun x hx => hv x (hp.mem_iff.1 hx)) (by rw [hp.length_eq]; exact hl) (order clf l) [] rfl
  obtain ⟨k, h⟩ := h
  exact ⟨k, h k (Nat.le_refl _)⟩

/-- A stream's block and its row. -/
structure SInv (w0 : World) (P : Nat → Prop) (g : Nat) (s : S) (w : World) : Prop where
  below : Below w0.heap.size w0 w
  base : w0.heap.size ≤ g
  blk : ∃ vh, SBlk w g vh s ∧ Kd.R (Kd.int .i64) 3 w w0.heap.size P vh s.held
theorem SInv.step {w0 w w1 : World} {P : Nat → Prop} {g : Nat} {s : S} (h : SInv w0 P g s w) (hb : Below w.heap.size w w1) : SInv w0 P g s w1 := by
  obtain ⟨h1, h2, vh, h3, h4⟩ := h
  exact ⟨below_then h1 h1.size hb, h2, vh, (hb.block g (blk_lt h3)).trans h3, Kd.R_below h4 hb⟩
theorem SInv.mono {w0 w : World} {P P' : Nat → Prop} {g : Nat} {s : S} (h : SInv w0 P g s w) (hP : ∀ k, P k → P' k) : SInv w0 P' g s w := by
  obtain ⟨h1, h2, vh, h3, h4⟩ := h
  exact ⟨h1, h2, vh, h3, Kd.R_mono h4 hP⟩
theorem SInv.drewN {w0 w : World} {P : Nat → Prop} {g : Nat} {s : S} (h : SInv w0 P g s w) (n : Nat) : SInv w0 P g s (w.drewN n) := h.step (pw_below_drewN (Below.refl _ _) n)
theorem SInv.lt {w0 w : World} {P : Nat → Prop} {g : Nat} {s : S} (h : SInv w0 P g s w) : g < w.heap.size := by
  obtain ⟨h1, h2, vh, h3, h4⟩ := h
  exact blk_lt h3
/-- The stream fails. -/
theorem SInv.fail {w0 w : World} {P : Nat → Prop} {g : Nat} {s : S} (h : SInv w0 P g s w) (e : Int) :
    SInv w0 P g (s.fail e) ((((w.setCell ⟨g, 3, none⟩ (.int .i64 e)).setCell ⟨g, 1, none⟩ (.slice none 0 0)).setCell ⟨g, 0, none⟩ (.string ⟨#[]⟩)).setCell ⟨g, 2, none⟩ (.int .i64 0)) := by
  obtain ⟨h1, h2, vh, h3, h4⟩ := h
  exact ⟨(((h1.setCell h2 _).setCell h2 _).setCell h2 _).setCell h2 _, h2, .slice none 0 0, (((h3.set3 e).set1 _ []).set0 ⟨#[]⟩).set2 0, Kd.R_nil _ _ _ _ _⟩
theorem kept_fail {w w1 : World} {P : Nat → Prop} {g : Nat} (h : Kept w w1 P) (hg : P g) (e : Int) :
    Kept w ((((w1.setCell ⟨g, 3, none⟩ (.int .i64 e)).setCell ⟨g, 1, none⟩ (.slice none 0 0)).setCell ⟨g, 0, none⟩ (.string ⟨#[]⟩)).setCell ⟨g, 2, none⟩ (.int .i64 0)) P :=
  (((h.setCell (.inl hg) _).setCell (.inl hg) _).setCell (.inl hg) _).setCell (.inl hg) _

/-- A round's state. -/
structure TakeAt (w0 w : World) (P : Nat → Prop) (g : Nat) (vx : Value) (xs : List Int) (r : List Int × S) (j : Nat) (vb : Value) (wr : World) (sc : S) (bc : List Int) : Prop where
  run : S.take (xs.drop j) sc bc = r
  inv : SInv w0 (fun k => P k ∧ some k ≠ vx.ownBlock) g sc wr
  out : Kd.R (Kd.int .u8) 5 wr w0.heap.size (fun k => P k) vb bc
  row : Kd.R (Kd.int .i64) 3 wr w0.heap.size (fun k => some k = vx.ownBlock) vx xs
  kept : Kept w wr (fun k => k = g ∨ P k)
  val : ∀ x ∈ sc.held, valid x
  m0 : 0 ≤ sc.marks
  m1 : sc.marks ≤ 30
  size : bc.length + 4 * sc.held.length + 8 * (xs.length - j) ≤ 1000000

set_option maxHeartbeats 8000000 in
set_option maxRecDepth 100000 in
theorem take.calls (w0 : World) (P : Nat → Prop) (g : Nat) (s : S) (b : List Int) (vb : Value) (c : Int) (w : World) (hI : SInv w0 (fun k => P k) g s w) (hPg : ¬ P g) (hPf : ∀ k, w.heap.size ≤ k → P k) (hb : Kd.R (Kd.int .u8) 5 w w0.heap.size (fun k => P k) vb b)
    (hc : valid c) (hca : ∀ x ∈ apt c, valid x) (hh : ∀ x ∈ s.held, valid x) (hm0 : 0 ≤ s.marks) (hm1 : s.marks ≤ 30) (hN : b.length + 4 * s.held.length ≤ 900000) :
    Calls Try.prog 34 #[.pointer (some ⟨g, 0, none⟩), vb, .int .i64 c] w fun e w' => ∃ v0_ : Value, e = .returned (v0_) ∧ SInv w0 (fun k => P k) g (S.take (apt c) s b).2 w' ∧ Kd.R (Kd.int .u8) 5 w' w0.heap.size (fun k => P k) v0_ (S.take (apt c) s b).1 ∧ Kept w w' (fun k => k = g ∨ P k) := by
  obtain ⟨ka, hka⟩ := apart_any c
  have HKA := Aside0.mk hka
  have HI := Aside0.mk hI
  have HO := Aside0.mk hb
  have HCA := Aside0.mk hca
  have HH := Aside0.mk hh
  have hal := apt_len c
  obtain ⟨r, hr⟩ : ∃ r, r = S.take (apt c) s b := ⟨_, rfl⟩
  rw [← hr]
  have HR := Aside0.mk hr
  generalize apt c = xs at HKA HCA HR hal
  clear hr hka hI hb hca hh
  go_enter Try.func34, Try.ntmps34
  go_wp2_with (
    go_at_call 50
    refine (norm_Apart.calls ka c xs _ HKA.out).mono ?_
    rintro e w1 ⟨vx, rfl, hx, hb1⟩
    obtain ⟨A1, c1, e1, hc1, hC1⟩ := Kd.R_reads hx
    have hxl : xs.length ≤ 9223372036854775807 := Kd.C_max hC1
    subst e1
    have HX := Aside0.mk hx
    have HB1 := Aside0.mk hb1
    clear hx hb1 hc1 hC1)
  have hstart : TakeAt w0 w P g (.slice A1 xs.length c1) xs r 0 vb w1 s b := by
    have h1 := HI.out
    have h2 := HB1.out
    obtain ⟨k1, k2, vh, k3, k4⟩ := h1
    refine ⟨HR.out.symm, ⟨below_then k1 k1.size h2, k2, vh, (h2.block g (blk_lt k3)).trans k3, Kd.R_below (Kd.R_mono (Kd.R_bound k4) (fun k hk => ⟨hk.1, fun e => ?_⟩)) h2⟩, Kd.R_below HO.out h2, Kd.R_mono (Kd.R_lower (Kd.R_tight rfl HX.out) (by have := k1.size; omega)) (fun _ h => h), Kept.of_below h2 _, HH.out, hm0, hm1, by omega⟩
    have := Kd.R_base HX.out k e.symm
    omega
  have HVG := Aside0.mk (show ∀ k, some k = (Value.slice A1 xs.length c1).ownBlock → k ≠ g from fun k e => by have := Kd.R_base HX.out k e.symm; have := HI.out.lt; omega)
  have HS := Aside0.mk hstart
  clear hstart
  go_loopw [1, 12] (fun vb1 i wr => ∃ j : Nat, j ≤ xs.length ∧ i = .int .i64 j ∧ Aside0 (∃ sc bc, TakeAt w0 w P g (.slice A1 xs.length c1) xs r j vb1 wr sc bc)) (fun _ i _ => xs.length - (intOf i).toNat)
  case atStart => exact ⟨0, Nat.zero_le _, rfl, ⟨_, _, HS.out⟩⟩
  case round =>
    obtain ⟨j, hj, rfl, hJ⟩ := hrel
    obtain ⟨sc, bc, HA⟩ := hJ.out
    clear hJ
    obtain ⟨hrun, hinv, hout, hrow, hkept, hval, hsm0, hsm1, hsize⟩ := HA
    obtain ⟨hbel, hbase, vh, hblk, hheld⟩ := hinv
    by_cases hlt : j < xs.length
    · have hd : xs.drop j = xs[j] :: xs.drop (j + 1) := List.drop_eq_getElem_cons hlt
      rw [hd, S.take] at hrun
      obtain ⟨ad, cc, ea, hcc, hK, hcell⟩ := Kd.C_get (Kd.R_reads' hrow).2.2 0 (j : Int) (by omega) (by omega)
      cases ea
      have hx : wr.cell? (ad.add j) = some (.int .i64 xs[j]) := by
        have e : xs.getD (j : Int).toNat 0 = xs[j] := by rw [Int.toNat_natCast, List.getD_eq_getElem?_getD, List.getElem?_eq_getElem hlt, Option.getD_some]
        rw [e] at hK
        have e2 : cc = [.int .i64 xs[j]] := hK
        have := hcell 0 (.int .i64 xs[j]) (by rw [e2]; rfl)
        simpa [Kd.int, Kd.scalar] using this
      have hxv : valid xs[j] := HCA.out _ (List.getElem_mem hlt)
      generalize xs[j] = x at hx hrun hxv
      obtain ⟨kc, hkc⟩ := class_any x
      have hcr := (clf_range x).1
      generalize clf x = cl at hkc hrun hcr
      have HKC := Aside0.mk hkc
      obtain ⟨q0, q1, q2, q3, q4⟩ := hblk.cells
      obtain ⟨f0, f1, f2, f3, f4⟩ := hblk.free
      have HBLK := Aside0.mk hblk
      have HBEL := Aside0.mk hbel
      have HHELD := Aside0.mk hheld
      have HOUT := Aside0.mk hout
      have HROW := Aside0.mk hrow
      have HKEPT := Aside0.mk hkept
      have HVAL := Aside0.mk hval
      clear hkc hblk hbel hheld hout hrow hkept hval hcell hK hd hcc
      obtain ⟨Ah, ch, eh⟩ := Kd.R_slice HHELD.out
      subst eh
      by_cases hpos : 0 < cl
      · rw [if_pos hpos] at hrun
        have hpos' : decide (0 < cl) = true := decide_eq_true hpos
        by_cases hgt : sc.marks + 1 > 30
        · rw [if_pos hgt] at hrun
          have hgt' : decide (30 < sc.marks + 1) = true := decide_eq_true hgt
          have HRUN := Aside0.mk hrun
          have HLEN := Aside0.mk hsize
          clear hrun hgt hpos
          go_wp2_with (first
            | (go_at_call 51
               refine (ucd_Class.calls kc x cl _ HKC.out).mono ?_
               rintro e w' ⟨rfl, ⟨nd, rfl⟩⟩)
            | (at_builtin
               refine Kd.R_append (Kd.int .i64) (w0 := w0) w0.heap.size rfl (.tmp 23) (.tmp 25) 27 3 (.int .i64 0) 8 rfl Try.underlying27 info3 rfl (by decide) (by omega) (.slice Ah sc.held.length ch) sc.held x [.int .i64 x] (fun k => P k ∧ some k ≠ (Value.slice (some ad) xs.length c1).ownBlock) (fun _ => False) rfl (by first | (go_simp; done) | (go_simp; rfl)) ?aP (fun _ hk => hk.elim) ?aF ?aO ?aB ?aS ?aL ?_
               (case aP => exact rfl)
               (case aF => exact fun k hk => ⟨hPf k (Nat.le_trans HKEPT.out.1 hk), fun e => Nat.lt_irrefl _ (Nat.lt_of_lt_of_le (Kd.R_lt HROW.out k e.symm) hk)⟩)
               (case aO => exact Kd.R_drewN HHELD.out _)
               (case aB => exact pw_below_drewN HBEL.out _)
               (case aS => exact HBEL.out.size)
               (case aL => have := HLEN.out; omega)
               intro v3 w3 ho hb hg hat
               obtain ⟨A3, c3, e3⟩ := Kd.R_slice ho
               rw [List.length_append, List.length_singleton] at e3
               subst e3
               have hbl3 : SBlk w3 g (.slice Ah sc.held.length ch) sc := blk_grown (show (wr.drewN nd).heap[g]? = _ from HBLK.out) hg (Kd.R_ne HHELD.out HBLK.out (by decide))
               have HOUT3 := Aside0.mk (Kd.R_over' (Kd.R_drewN HOUT.out nd) (Kd.R_typed (Kd.R_drewN HHELD.out nd)) (by decide) hg)
               have HROW3 := Aside0.mk (Kd.R_grown (Kd.R_drewN HROW.out nd) hg (fun k hk he => ((HHELD.out.1 k he.symm).2 hk)))
               have HKEPT3 := Aside0.mk (Kept.of_grown hg (Kept.drewN HKEPT.out nd) (fun k he => .inl (.inr (HHELD.out.1 k he).1)))
               have HBEL3 := Aside0.mk hb
               have HHELD3 := Aside0.mk ho
               obtain ⟨p0, p1, p2, p3, p4⟩ := hbl3.cells
               obtain ⟨z0, z1, z2, z3, z4⟩ := hbl3.free
               have HBLK3 := Aside0.mk hbl3
               clear hbl3 ho hb hg hat q0 q1 q2 q3 q4 f0 f1 f2 f3 f4 hx HBLK HOUT HROW HKEPT HBEL)
            | (go_at_call 33
               refine (fail.calls g (.slice A3 (sc.held.length + 1) c3) (sc.more x) 2 _ (show SBlk _ g (.slice A3 (sc.held.length + 1) c3) (sc.more x) from (HBLK3.out.set1 (.slice A3 (sc.held.length + 1) c3) (sc.held ++ [x])).set2 (sc.marks + 1))).mono ?_
               rintro e w' ⟨rfl, rfl⟩))
          go_ret
          have HI3 : SInv w0 (fun k => P k) g (sc.more x) ((w3.setCell ⟨g, 1, none⟩ (.slice A3 (sc.held.length + 1) c3)).setCell ⟨g, 2, none⟩ (.int .i64 (sc.marks + 1))) :=
            ⟨(HBEL3.out.setCell hbase _).setCell hbase _, hbase, .slice A3 (sc.held.length + 1) c3, (HBLK3.out.set1 (.slice A3 (sc.held.length + 1) c3) (sc.held ++ [x])).set2 (sc.marks + 1), Kd.R_far (Kd.R_far (Kd.R_mono HHELD3.out (fun _ hk => hk.1)) (fun k (hk : P k) (e : k = g) => hPg (e ▸ hk)) _) (fun k (hk : P k) (e : k = g) => hPg (e ▸ hk)) _⟩
          rw [← HRUN.out]
          exact ⟨_, rfl, HI3.fail 2, Kd.R_nil _ _ _ _ _, kept_fail ((HKEPT3.out.setCell (.inl (.inl rfl)) _).setCell (.inl (.inl rfl)) _) (.inl rfl) 2⟩
        · rw [if_neg hgt] at hrun
          have hgt' : decide (30 < sc.marks + 1) = false := decide_eq_false hgt
          have hgt2 : sc.marks + 1 ≤ 30 := by omega
          have HRUN := Aside0.mk hrun
          have HLEN := Aside0.mk hsize
          clear hrun hgt hpos
          go_wp2_with (first
            | (go_at_call 51
               refine (ucd_Class.calls kc x cl _ HKC.out).mono ?_
               rintro e w' ⟨rfl, ⟨nd, rfl⟩⟩)
            | (at_builtin
               refine Kd.R_append (Kd.int .i64) (w0 := w0) w0.heap.size rfl (.tmp 23) (.tmp 25) 27 3 (.int .i64 0) 8 rfl Try.underlying27 info3 rfl (by decide) (by omega) (.slice Ah sc.held.length ch) sc.held x [.int .i64 x] (fun k => P k ∧ some k ≠ (Value.slice (some ad) xs.length c1).ownBlock) (fun _ => False) rfl (by first | (go_simp; done) | (go_simp; rfl)) ?aP (fun _ hk => hk.elim) ?aF ?aO ?aB ?aS ?aL ?_
               (case aP => exact rfl)
               (case aF => exact fun k hk => ⟨hPf k (Nat.le_trans HKEPT.out.1 hk), fun e => Nat.lt_irrefl _ (Nat.lt_of_lt_of_le (Kd.R_lt HROW.out k e.symm) hk)⟩)
               (case aO => exact Kd.R_drewN HHELD.out _)
               (case aB => exact pw_below_drewN HBEL.out _)
               (case aS => exact HBEL.out.size)
               (case aL => have := HLEN.out; omega)
               intro v3 w3 ho hb hg hat
               obtain ⟨A3, c3, e3⟩ := Kd.R_slice ho
               rw [List.length_append, List.length_singleton] at e3
               subst e3
               have hbl3 : SBlk w3 g (.slice Ah sc.held.length ch) sc := blk_grown (show (wr.drewN nd).heap[g]? = _ from HBLK.out) hg (Kd.R_ne HHELD.out HBLK.out (by decide))
               have HOUT3 := Aside0.mk (Kd.R_over' (Kd.R_drewN HOUT.out nd) (Kd.R_typed (Kd.R_drewN HHELD.out nd)) (by decide) hg)
               have HROW3 := Aside0.mk (Kd.R_grown (Kd.R_drewN HROW.out nd) hg (fun k hk he => ((HHELD.out.1 k he.symm).2 hk)))
               have HKEPT3 := Aside0.mk (Kept.of_grown hg (Kept.drewN HKEPT.out nd) (fun k he => .inl (.inr (HHELD.out.1 k he).1)))
               have HBEL3 := Aside0.mk hb
               have HHELD3 := Aside0.mk ho
               obtain ⟨p0, p1, p2, p3, p4⟩ := hbl3.cells
               obtain ⟨z0, z1, z2, z3, z4⟩ := hbl3.free
               have HBLK3 := Aside0.mk hbl3
               clear hbl3 ho hb hg hat q0 q1 q2 q3 q4 f0 f1 f2 f3 f4 hx HBLK HOUT HROW HKEPT HBEL))
          go_roundw
          case rel =>
            refine ⟨j + 1, by omega, by go_num, ⟨sc.more x, bc, HRUN.out, ⟨(HBEL3.out.setCell hbase _).setCell hbase _, hbase, .slice A3 (sc.held.length + 1) c3, (HBLK3.out.set1 (.slice A3 (sc.held.length + 1) c3) (sc.held ++ [x])).set2 (sc.marks + 1), Kd.R_far (Kd.R_far HHELD3.out (fun k hk (e : k = g) => hPg (e ▸ hk.1)) _) (fun k hk (e : k = g) => hPg (e ▸ hk.1)) _⟩, ?_, ?_, (HKEPT3.out.setCell (.inl (.inl rfl)) _).setCell (.inl (.inl rfl)) _, ?_, ?_, hgt2, ?_⟩⟩
            · exact Kd.R_far (Kd.R_far HOUT3.out (fun k (hk : P k) (e : k = g) => hPg (e ▸ hk)) _) (fun k (hk : P k) (e : k = g) => hPg (e ▸ hk)) _
            · exact Kd.R_far (Kd.R_far HROW3.out (fun k hk => HVG.out k hk) _) (fun k hk => HVG.out k hk) _
            · intro y hy
              rcases List.mem_append.1 (show y ∈ sc.held ++ [x] from hy) with q | q
              · exact HVAL.out y q
              · rw [List.mem_singleton.1 q]; exact hxv
            · show 0 ≤ sc.marks + 1; omega
            · have := HLEN.out
              show bc.length + 4 * (sc.held ++ [x]).length + 8 * (xs.length - (j + 1)) ≤ 1000000
              rw [List.length_append, List.length_singleton]; omega
          case measure => simp [intOf]; omega
      · rw [if_neg hpos] at hrun
        have hpos' : decide (0 < cl) = false := decide_eq_false hpos
        have HRUN := Aside0.mk hrun
        have HLEN := Aside0.mk hsize
        obtain ⟨kg, hkg⟩ := give_any sc.held HVAL.out (by omega)
        have hgl := PureSt.encAll_len (order clf sc.held)
        rw [(order_perm clf sc.held).length_eq] at hgl
        obtain ⟨y, hy⟩ : ∃ y, y = sc.give := ⟨_, rfl⟩
        have hkg' : stream_give.f kg sc.held = some y := by rw [hy]; exact hkg
        have hyl : y.length ≤ 4 * sc.held.length := by rw [hy]; exact hgl
        have HKG := Aside0.mk hkg'
        have HY := Aside0.mk hy
        have HHR := Aside0.mk (Kd.R_reads' HHELD.out)
        clear hrun hpos hkg hgl hkg' hy
        go_wp2_with (first
          | (go_at_call 51
             refine (ucd_Class.calls kc x cl _ HKC.out).mono ?_
             rintro e w' ⟨rfl, ⟨nd, rfl⟩⟩)
          | (go_at_call 35
             refine (stream_give.calls kg Ah ch sc.held y _ (Kd.C_drewN HHR.out.2.2 _) HHR.out.2.1 HKG.out).mono ?_
             rintro e w2 ⟨vy, rfl, hy2, hb2⟩
             obtain ⟨Ay, cy, ey, hcy, hCy⟩ := Kd.R_reads hy2
             have hylm : y.length ≤ 9223372036854775807 := Kd.C_max hCy
             subst ey
             have hbd : Below wr.heap.size wr w2 := below_then (pw_below_drewN (Below.refl _ _) nd) (Nat.le_refl _) hb2
             have hbl2 : SBlk w2 g (.slice Ah sc.held.length ch) sc := (hbd.block g (blk_lt HBLK.out)).trans HBLK.out
             have HBEL2 := Aside0.mk (below_then HBEL.out HBEL.out.size hbd)
             have HOUT2 := Aside0.mk (Kd.R_below HOUT.out hbd)
             have HROW2 := Aside0.mk (Kd.R_below HROW.out hbd)
             have HKEPT2 := Aside0.mk (Kept.below HKEPT.out hbd)
             have HYC := Aside0.mk (show Kd.C (Kd.int .u8) w2 Ay y.length y from hCy)
             obtain ⟨p0, p1, p2, p3, p4⟩ := hbl2.cells
             obtain ⟨z0, z1, z2, z3, z4⟩ := hbl2.free
             have HBLK2 := Aside0.mk hbl2
             clear hy2 hb2 hcy hCy hbd hbl2 q0 q1 q2 q3 q4 f0 f1 f2 f3 f4 hx HBLK HBEL HOUT HROW HKEPT)
          | (at_builtin
             refine Kd.R_append_rows (Kd.int .u8) (w0 := w0) w0.heap.size rfl (.tmp 43) (.tmp 48) 35 5 (.int .u8 0) 1 rfl Try.underlying35 info5 rfl (by decide) (by omega) _ bc y Ay y.length cy (fun k => P k) (fun _ => False) rfl rfl ?aO ?aR (fun _ _ h => h) (fun _ h => h.elim) ?aF ?aB ?aS ?aL ?_
             (case aR => exact HYC.out)
             (case aF => exact fun k hk => hPf k (Nat.le_trans HKEPT2.out.1 hk))
             (case aO => exact HOUT2.out)
             (case aB => exact HBEL2.out)
             (case aS => exact HBEL2.out.size)
             (case aL => have := HLEN.out; omega)
             intro v3 w3 ho hb hg hat
             obtain ⟨A3, c3, e3⟩ := Kd.R_slice ho
             rw [List.length_append] at e3
             subst e3
             have hbl3 : SBlk w3 g (.slice Ah sc.held.length ch) sc := blk_grown HBLK2.out hg (Kd.R_ne HOUT2.out HBLK2.out (by decide))
             have HROW3 := Aside0.mk (Kd.R_over' HROW2.out (Kd.R_typed HOUT2.out) (by decide) hg)
             have HKEPT3 := Aside0.mk (Kept.of_grown hg HKEPT2.out (fun k he => .inl (.inr (HOUT2.out.1 k he))))
             have HBEL3 := Aside0.mk hb
             have HOUT3 := Aside0.mk ho
             obtain ⟨p0', p1', p2', p3', p4'⟩ := hbl3.cells
             obtain ⟨z0', z1', z2', z3', z4'⟩ := hbl3.free
             have HBLK3 := Aside0.mk hbl3
             clear hbl3 ho hb hg hat p0 p1 p2 p3 p4 z0 z1 z2 z3 z4 HBLK2 HROW2 HKEPT2 HBEL2 HOUT2)
          | ((with_reducible refine gate_dst (N := 53) rfl ?_)
             refine Kd.R_lit (Kd.int .i64) (w0 := w0) w0.heap.size 3 ?hg (N := 53) ?hd (xs := [x]) (inner := [.int .i64 x]) (ok := fun k => P k ∧ some k ≠ (Value.slice (some ad) xs.length c1).ownBlock) (okp := fun _ => False) ?hr ?hp (fun _ hk => hk.elim) ?hf ?aB ?aS (by simp) ?_
             (case hd => rfl)
             (case hg => rfl)
             (case hr => first | (go_simp; done) | (go_simp; rfl))
             (case hp => exact Reps.one (show Kd.M (Kd.int .i64) _ _ _ x [.int .i64 x] from rfl) (Reps.none _ _))
             (case hf => exact ⟨hPf _ HKEPT3.out.1, fun e => Nat.lt_irrefl _ (Kd.R_lt HROW3.out _ e.symm)⟩)
             (case aB => exact HBEL3.out)
             (case aS => exact HBEL3.out.size)
             intro v4 w4 ho hb hg hat
             obtain ⟨A4, c4, e4⟩ := Kd.R_slice ho
             rw [List.length_singleton] at e4
             subst e4
             have hb4 : Below w3.heap.size w3 w4 := ⟨hg.os, hg.tape, hg.output, hg.size, fun k hk => hg.block k hk (by simp)⟩
             have hbl4 : SBlk w4 g (.slice Ah sc.held.length ch) sc := (hb4.block g (blk_lt HBLK3.out)).trans HBLK3.out
             have HROW4 := Aside0.mk (Kd.R_below HROW3.out hb4)
             have HKEPT4 := Aside0.mk (Kept.below HKEPT3.out hb4)
             have HBEL4 := Aside0.mk hb
             have HOUT4 := Aside0.mk (Kd.R_below HOUT3.out hb4)
             have HHELD4 := Aside0.mk ho
             obtain ⟨p0, p1, p2, p3, p4⟩ := hbl4.cells
             obtain ⟨z0, z1, z2, z3, z4⟩ := hbl4.free
             have HBLK4 := Aside0.mk hbl4
             clear hbl4 ho hb hg hat hb4 p0' p1' p2' p3' p4' z0' z1' z2' z3' z4' HBLK3 HROW3 HKEPT3 HBEL3 HOUT3))
        go_roundw
        case rel =>
          refine ⟨j + 1, by omega, by go_num, ⟨sc.next x, bc ++ y, by rw [HY.out]; exact HRUN.out, ⟨(HBEL4.out.setCell hbase _).setCell hbase _, hbase, .slice A4 1 c4, (HBLK4.out.set1 (.slice A4 1 c4) [x]).set2 0, Kd.R_far (Kd.R_far HHELD4.out (fun k hk (e : k = g) => hPg (e ▸ hk.1)) _) (fun k hk (e : k = g) => hPg (e ▸ hk.1)) _⟩, ?_, ?_, (HKEPT4.out.setCell (.inl (.inl rfl)) _).setCell (.inl (.inl rfl)) _, ?_, ?_, ?_, ?_⟩⟩
          · exact Kd.R_far (Kd.R_far HOUT4.out (fun k (hk : P k) (e : k = g) => hPg (e ▸ hk)) _) (fun k (hk : P k) (e : k = g) => hPg (e ▸ hk)) _
          · exact Kd.R_far (Kd.R_far HROW4.out (fun k hk => HVG.out k hk) _) (fun k hk => HVG.out k hk) _
          · intro z hz
            rw [List.mem_singleton.1 (show z ∈ [x] from hz)]; exact hxv
          · exact Int.le_refl 0
          · show (0 : Int) ≤ 30; omega
          · have := HLEN.out
            show (bc ++ y).length + 4 * 1 + 8 * (xs.length - (j + 1)) ≤ 1000000
            rw [List.length_append]; omega
        case measure => simp [intOf]; omega
    · have e : j = xs.length := by omega
      subst e
      rw [List.drop_of_length_le (Nat.le_refl _), S.take] at hrun
      have HRUN := Aside0.mk hrun
      have HINV := Aside0.mk (SInv.mono ⟨hbel, hbase, vh, hblk, hheld⟩ (fun _ (hk : P _ ∧ _) => hk.1) : SInv w0 (fun k => P k) g sc wr)
      have HOUT := Aside0.mk hout
      have HKEPT := Aside0.mk hkept
      clear hrun hbel hblk hheld hout hrow hkept hval
      go_wp2
      go_ret
      rw [← HRUN.out]
      exact ⟨_, rfl, HINV.out, HOUT.out, HKEPT.out⟩
end Go.Proofs.Ytiplbhjllkfemaa.MSt
