/-
  Versions: Apply, walked.
-/
import Derived.Test.YtjhijcehcklipaaZVeW10
import Derived.IntWalk
import Derived.StillTailTactics
import Derived.Deep.RegionHeld3
namespace Go.Proofs.Ytjhijcehcklipaa.MVe
open Go.RowKit Go.Proofs.YtjhijcehcklipaaW.PrintWords Go.Proofs.YtjhijcehcklipaaW.PrintLast Go.Proofs.YtjhijcehcklipaaW.PrintMore
attribute [local go_sem] max2_int min2_int max_two min_two max_three min_three max_four min_four
set_option linter.unusedVariables false
set_option linter.unusedSimpArgs false

set_option maxHeartbeats 1000000 in
set_option maxRecDepth 100000 in
theorem later2.calls (a0 a1 r1 : Int) (r2 : Bool) (w : World) (h : version_later.f a0 a1 = some (r1, r2)) : Calls Try.prog 52 #[.int .i64 a0, .int .i64 a1] w fun e w' => e = .returned (.tuple #[.int .i64 r1, .bool r2]) ∧ w' = w := by
  have H : (if a1 = 0 then (some (a0, true)) else (some (a1, decide (a1 ≥ a0)))) = some (r1, r2) := h
  clear h
  by_cases c3 : a1 = 0
  · rw [if_pos c3] at H
    obtain ⟨H1, H2⟩ := Prod.mk.inj (Option.some.inj H)
    subst H1
    subst H2
    subst c3
    go_enter Try.func52, Try.ntmps52
    go_wp2
    go_ret2
    exact ⟨rfl, rfl⟩
  · rw [if_neg c3] at H
    obtain ⟨H1, H2⟩ := Prod.mk.inj (Option.some.inj H)
    subst H1
    subst H2
    have c3b0 : (a1 == 0) = false := beq_eq_false_iff_ne.mpr c3
    go_enter Try.func52, Try.ntmps52
    go_wp2
    go_ret2
    exact ⟨rfl, rfl⟩
theorem Ap_fin {w0 w wv : World} {X g g' : Nat} {cells : Array Value} {v c : Ver} {vf : Value} (hI : VInv w0 (fun k => k ≠ g) g v w) (h : AInv w X g' cells c wv) (hb : VBlk wv g' vf c) (hr : Kd.R k41 41 wv w.heap.size (fun k => g' < k ∧ k ≠ X) vf c.files) :
    VInv w0 (fun k => k ≠ g) g c ((((wv.setCell ⟨g, 0, none⟩ vf).setCell ⟨g, 1, none⟩ (.int .i64 c.next)).setCell ⟨g, 2, none⟩ (.int .i64 c.log)).setCell ⟨g, 3, none⟩ (.int .i64 c.last)) ∧
      Kept w ((((wv.setCell ⟨g, 0, none⟩ vf).setCell ⟨g, 1, none⟩ (.int .i64 c.next)).setCell ⟨g, 2, none⟩ (.int .i64 c.log)).setCell ⟨g, 3, none⟩ (.int .i64 c.last)) (fun k => k = g) := by
  obtain ⟨h1, h2, vo, h3, h4⟩ := hI
  have hlt := blk_lt h3
  have hv : VBlk wv g vo v := (h.below.block g hlt).trans h3
  have hne : ∀ k, (g' < k ∧ k ≠ X) → k ≠ g := fun k hk => by have := h.ord.1; omega
  refine ⟨⟨(((((below_then h1 h1.size h.below).setCell (p := ⟨g, 0, none⟩) h2 _).setCell (p := ⟨g, 1, none⟩) h2 _).setCell (p := ⟨g, 2, none⟩) h2 _).setCell (p := ⟨g, 3, none⟩) h2 _), h2, vf, ?_, ?_⟩, ?_⟩
  · exact (((VBlk.set0 hv vf c.files).set1 c.next).set2 c.log).set3 c.last
  · exact Kd.R_mono (Kd.R_lower (Kd.R_far (Kd.R_far (Kd.R_far (Kd.R_far hr (p := ⟨g, 0, none⟩) hne _) (p := ⟨g, 1, none⟩) hne _) (p := ⟨g, 2, none⟩) hne _) (p := ⟨g, 3, none⟩) hne _) h1.size) hne
  · exact ((((Kept.of_below h.below (fun k => k = g)).setCell (p := ⟨g, 0, none⟩) (.inl rfl) _).setCell (p := ⟨g, 1, none⟩) (.inl rfl) _).setCell (p := ⟨g, 2, none⟩) (.inl rfl) _).setCell (p := ⟨g, 3, none⟩) (.inl rfl) _
def ApPost (w0 w : World) (g : Nat) (r : Option Ver) (e : Ending) (w' : World) : Prop :=
  (r = none ∧ e = .returned (.int .i64 12) ∧ Below w.heap.size w w') ∨ ∃ v', r = some v' ∧ e = .returned (.int .i64 0) ∧ VInv w0 (fun k => k ≠ g) g v' w' ∧ Kept w w' (fun k => k = g)

set_option maxHeartbeats 16000000 in
set_option maxRecDepth 100000 in
theorem Apply.calls (w0 : World) (g : Nat) (v : Ver) (n l m : Int) (Aa Ad : Option Addr) (ca cd : Nat) (adds : List S41) (dels : List Int) (w : World) (hI : VInv w0 (fun k => k ≠ g) g v w) (hl : v.files.length ≤ 200)
    (ha : Kd.C k41 w Aa adds.length adds) (hca : adds.length ≤ ca) (hd : Kd.C (Kd.int .i64) w Ad dels.length dels) (hcd : dels.length ≤ cd) (hdl : dels.length ≤ 1000000) :
    Calls Try.prog 22 #[.pointer (some ⟨g, 0, none⟩), .agg #[.int .i64 n, .int .i64 l, .int .i64 m, .slice Aa adds.length ca, .slice Ad dels.length cd]] w (ApPost w0 w g (apV v n l m adds dels)) := by
  have hu41 := Try.underlying41
  have hu45 := Try.underlying45
  have hu93 := Try.underlying93
  have hal : adds.length ≤ 9223372036854775807 := Kd.C_max ha
  have HA := Aside0.mk ha
  have HD := Aside0.mk hd
  have HI := Aside0.mk hI
  have HB := Aside0.mk (below_alloc (Below.refl w.heap.size w) (.cells #[.int .i64 n, .int .i64 l, .int .i64 m, .slice Aa adds.length ca, .slice Ad dels.length cd] 45))
  have HK := Aside0.mk (blk_new w (.cells #[.int .i64 n, .int .i64 l, .int .i64 m, .slice Aa adds.length ca, .slice Ad dels.length cd] 45))
  have HS := Aside0.mk (show (w.alloc (.cells #[.int .i64 n, .int .i64 l, .int .i64 m, .slice Aa adds.length ca, .slice Ad dels.length cd] 45)).heap.size = w.heap.size + 1 by simp)
  clear ha hd hI
  unfold apV
  cases hok : editOk n l m adds dels with
  | false =>
    rw [if_neg (by decide)]
    have HOK := Aside0.mk hok
    clear hok
    go_enter Try.func22, Try.ntmps22
    go_wp2_with (
      go_at_call 48
      refine (Check.calls n l m Aa Ad ca cd adds dels _ (Kd.C_below HA.out HB.out) hca (Kd.C_below HD.out HB.out) hcd hdl).mono ?_
      rintro e w1 ⟨he, hb⟩
      rw [HOK.out] at he
      subst he
      have HB1 := Aside0.mk (below_step HB.out hb)
      clear hb)
    go_ret
    exact .inl ⟨rfl, rfl, HB1.out⟩
  | true =>
    rw [if_pos rfl]
    have HOK := Aside0.mk hok
    clear hok
    go_enter Try.func22, Try.ntmps22
    go_wp2_with (first
      | (go_at_call 48
         refine (Check.calls n l m Aa Ad ca cd adds dels _ (Kd.C_below HA.out HB.out) hca (Kd.C_below HD.out HB.out) hcd hdl).mono ?_
         rintro e w1 ⟨he, hb⟩
         rw [HOK.out] at he
         subst he
         have HB1 := Aside0.mk (below_step HB.out hb)
         have HK1 := Aside0.mk ((hb.block w.heap.size (blk_lt HK.out)).trans HK.out)
         clear hb)
      | (go_at_call 49
         refine (Copy.calls w0 (fun k => k ≠ g) g v _ (HI.out.step HB1.out) (by omega)).mono ?_
         rintro e w2 ⟨g', rfl, hg', hI2, hb2⟩
         have HAI := Aside0.mk (AInv.start (P := fun _ => True) (below_step HB1.out hb2) ((hb2.block w.heap.size (blk_lt HK1.out)).trans HK1.out) (by have := blk_lt HK1.out; omega) hI2)
         obtain ⟨q3, q4⟩ := ecells ((hb2.block w.heap.size (blk_lt HK1.out)).trans HK1.out)
         have hlt4 := World.block_lt_of_cell? w2 _ q4
         clear hb2 hg' hI2))
    clear q3 q4 hlt4 HK1 HB1 HK HB HS
    go_loopw [27] (fun i wr => ∃ (j : Nat) (xs : List S41), j ≤ dels.length ∧ i = .int .i64 j ∧ Aside0 (xs.length ≤ 200) ∧ Aside0 (delV v n l m adds xs (dels.drop j) = delV v n l m adds v.files dels) ∧ Aside0 (AInv w w2.heap.size g' #[.int .i64 n, .int .i64 l, .int .i64 m, .slice Aa adds.length ca, .slice Ad dels.length cd] ⟨xs, v.next, v.log, v.last⟩ wr)) (fun i _ => dels.length - (intOf i).toNat)
    case atStart => exact ⟨0, v.files, Nat.zero_le _, rfl, ⟨hl⟩, ⟨rfl⟩, HAI⟩
    case round =>
      clear HAI
      obtain ⟨j, xs, hj, rfl, HL, HV, HAI⟩ := hrel
      by_cases hlt : j < dels.length
      · obtain ⟨ad, ea, hx0⟩ := Kd.at_int (Kd.C_below HD.out HAI.out.below) (j : Int) (by omega) (by omega)
        cases ea
        have e : rd dels (j : Int) = dels[j] := by simp [rd, rdOf, hlt]
        rw [e, Int.toNat_natCast] at hx0
        obtain ⟨d, hdd⟩ : ∃ d, dels[j] = d := ⟨_, rfl⟩
        rw [hdd] at hx0
        have HV2 := Aside0.mk (show delV v n l m adds v.files dels = if idx (fun x => x.f0 == d) xs < 0 then none else delV v n l m adds (xs.eraseIdx (idx (fun x => x.f0 == d) xs).toNat) (dels.drop (j + 1)) by rw [← HV.out, List.drop_eq_getElem_cons hlt, hdd, delV_cons])
        obtain ⟨Af, cf, hblk, hR, hC, hcf, hx⟩ := HAI.out.row
        obtain ⟨q0, q1, q2, q3⟩ := hblk.cells
        have HC := Aside0.mk hC
        clear e hdd hblk hR hC hcf q1 q2 q3
        rcases idx_cases (fun x => x.f0 == d) xs with hi | ⟨i, hil, hi⟩
        · have HX := Aside0.mk hi
          have HN := Aside0.mk (show delV v n l m adds v.files dels = none by rw [HV2.out, hi]; rfl)
          clear hi
          go_wp2_with (
            go_at_call 50
            refine (by_.calls Af cf xs d _ HC.out).mono ?_
            rintro e w3 ⟨he, hb⟩
            rw [HX.out] at he
            subst he
            have HAI3 := Aside0.mk (HAI.out.step hb)
            clear hb)
          go_ret
          exact .inl ⟨HN.out, rfl, HAI3.out.below⟩
        · have HX := Aside0.mk hi
          have HN := Aside0.mk (show delV v n l m adds (xs.eraseIdx i) (dels.drop (j + 1)) = delV v n l m adds v.files dels by rw [HV2.out, hi, if_neg (by omega), Int.toNat_natCast])
          have hib : i ≤ 200 := by have := HL.out; omega
          clear hi
          go_wp2_with (
            go_at_call 50
            refine (by_.calls Af cf xs d _ HC.out).mono ?_
            rintro e w3 ⟨he, hb⟩
            rw [HX.out] at he
            subst he
            have HAI3 := Aside0.mk (HAI.out.step hb)
            clear hb)
          obtain ⟨Ag, cg, hblk3, hR3, hC3, hcg, hx3⟩ := HAI3.out.row
          obtain ⟨p0, p1, p2, p3⟩ := hblk3.cells
          obtain ⟨z0, z1, z2, z3⟩ := hblk3.free
          have HR3 := Aside0.mk hR3
          have HBLK3 := Aside0.mk hblk3
          have hwr : IntKind.i64.wrap ((i : Int) + 1) = (i : Int) + 1 := IntWalk.i64_in _ (by omega)
          clear hblk3 hR3 hC3 hcg p1 p2 p3 z1 z2 z3 q0 hx hx0
          go_region_with (
            go_at_call 51
            refine (Delete.calls w _ _ xs i _ hil (Kd.R_drew HR3.out) (below_drew HAI3.out.below)).mono ?_
            rintro e w4 ⟨v', rfl, hR4, hown, hb4, hk4⟩
            obtain ⟨A', c', e'⟩ := Kd.R_slice hR4
            subst e'
            have hk5 : Kept w3 w4 (fun k => g' < k ∧ k ≠ w2.heap.size) := Kept.mono (show Kept w3 w4 _ from hk4) (fun k hk => HR3.out.1 k hk.symm)
            have hx4 := cell_kept hx3 hk5 (fun q => q.2 rfl)
            have hblk4 : VBlk w4 g' _ _ := blk_kept HBLK3.out hk5 (fun q => Nat.lt_irrefl _ q.1)
            have y0 := hblk4.cells.1
            have y1 := hblk4.free.1
            have HAI4 := Aside0.mk (HAI3.out.put hb4 hk5 hR4)
            clear hR4 hb4 hk4 hk5 hblk4)
          all_goals
            clear HR3 HBLK3 hwr hx3 p0 z0
            go_wp2
            go_roundw
            (case rel => exact ⟨j + 1, xs.eraseIdx i, by omega, by go_num, ⟨by rw [List.length_eraseIdx, if_pos hil]; have := HL.out; omega⟩, ⟨HN.out⟩, HAI4⟩)
            (case measure => simp [intOf]; omega)
      · obtain rfl : j = dels.length := by omega
        obtain ⟨q3, q4⟩ := ecells HAI.out.e
        rw [List.drop_length, delV_nil] at HV
        have hal2 := (editOk_len HOK.out).1
        clear q4
        go_wp2
        clear q3
        go_loopw [54] (fun i wr => ∃ (j : Nat) (ys : List S41), j ≤ adds.length ∧ i = .int .i64 j ∧ Aside0 (ys.length ≤ 200 + j) ∧ Aside0 (addV v n l m ys (adds.drop j) = delV v n l m adds v.files dels) ∧ Aside0 (AInv w w2.heap.size g' #[.int .i64 n, .int .i64 l, .int .i64 m, .slice Aa adds.length ca, .slice Ad dels.length cd] ⟨ys, v.next, v.log, v.last⟩ wr)) (fun i _ => adds.length - (intOf i).toNat)
        case atStart => exact ⟨0, xs, Nat.zero_le _, rfl, HL, HV, HAI⟩
        case round =>
          clear HAI HL HV
          obtain ⟨j, ys, hj, rfl, HL, HV, HAI⟩ := hrel
          by_cases hlt : j < adds.length
          · obtain ⟨ad, ea, hx0, hx1, hx2, hx3, hx4⟩ := at_T41 (Kd.C_below HA.out HAI.out.below) (j : Int) (by omega) (by omega)
            cases ea
            have e : rd_T41 adds (j : Int) = adds[j] := by unfold rd_T41; rw [Int.toNat_natCast, List.getD_eq_getElem?_getD, List.getElem?_eq_getElem hlt, Option.getD_some]
            rw [e, Int.toNat_natCast] at hx0 hx1 hx2 hx3 hx4
            obtain ⟨x, hxx⟩ : ∃ x, adds[j] = x := ⟨_, rfl⟩
            rw [hxx] at hx0 hx1 hx2 hx3 hx4
            have HV2 := Aside0.mk (show delV v n l m adds v.files dels = if idx (fun y => y.f0 == x.f0) ys ≥ 0 then none else addV v n l m (ys ++ [x]) (adds.drop (j + 1)) by rw [← HV.out, List.drop_eq_getElem_cons hlt, hxx, addV_cons])
            obtain ⟨W, hW⟩ : ∃ W, W = wr.alloc (.cells #[.int .i64 x.f0, .int .i64 x.f1, .int .i64 x.f2, .string x.f3, .string x.f4] 41) := ⟨_, rfl⟩
            have HAI1 := Aside0.mk (HAI.out.step (below_alloc (Below.refl _ _) (.cells #[.int .i64 x.f0, .int .i64 x.f1, .int .i64 x.f2, .string x.f3, .string x.f4] 41)))
            have HBX := Aside0.mk (blk_new wr (.cells #[.int .i64 x.f0, .int .i64 x.f1, .int .i64 x.f2, .string x.f3, .string x.f4] 41))
            rw [← hW] at HAI1 HBX
            have HW := Aside0.mk hW
            have b0 : W.cell? ⟨wr.heap.size, 0, none⟩ = some (.int .i64 x.f0) := (blk_cell HBX.out 0).trans rfl
            clear hW
            obtain ⟨Af, cf, hblk, hR, hC, hcf, hx⟩ := HAI1.out.row
            obtain ⟨q0, q1, q2, q3⟩ := hblk.cells
            have HC := Aside0.mk hC
            clear e hxx hblk hR hC hcf q1 q2 q3
            rcases idx_cases (fun y => y.f0 == x.f0) ys with hi | ⟨i, hil, hi⟩
            · have HX := Aside0.mk hi
              have HN := Aside0.mk (show addV v n l m (ys ++ [x]) (adds.drop (j + 1)) = delV v n l m adds v.files dels by rw [HV2.out, hi]; rfl)
              clear hi
              go_wp2
              rw [← HW.out]
              go_still_tail 6, (by kernel_rfl)
              change wpList _ _ _ _ _ (World.drew _)
              go_wp2_with (
                go_at_call 50
                refine (by_.calls Af cf ys x.f0 _ (Kd.C_drew HC.out)).mono ?_
                rintro e w3 ⟨he, hb⟩
                rw [HX.out] at he
                subst he
                have HAI3 := Aside0.mk ((HAI1.out.step (below_drew (Below.refl _ _))).step hb)
                have HBW := Aside0.mk (show Below wr.heap.size wr w3 by
                  have h1 : Below wr.heap.size wr W := by rw [HW.out]; exact below_alloc (Below.refl _ _) _
                  exact below_then (below_drew h1) (below_drew h1).size hb)
                have HB3 := Aside0.mk ((hb.block wr.heap.size (blk_lt HBX.out)).trans HBX.out)
                clear hb)
              obtain ⟨-, -, -, -, -, -, hxx3⟩ := HAI3.out.row
              obtain ⟨Ag, cg, hblk0, hR0, hC3, hcg, -⟩ := HAI.out.row
              have hblk3 : VBlk w3 g' (.slice Ag ys.length cg) ⟨ys, v.next, v.log, v.last⟩ := (HBW.out.block g' (blk_lt hblk0)).trans hblk0
              have hR3 := Kd.R_below hR0 HBW.out
              have HNX := Aside0.mk (show ¬ (some wr.heap.size = (Value.slice Ag ys.length cg).ownBlock) from fun e => Nat.lt_irrefl _ ((Kd.R_bound hR0).1 _ e.symm).2.2.1)
              clear hblk0 hR0
              obtain ⟨p0, p1, p2, p3⟩ := hblk3.cells
              obtain ⟨z0, z1, z2, z3⟩ := hblk3.free
              have HR3 := Aside0.mk hR3
              have HBLK3 := Aside0.mk hblk3
              have s0 : w3.cell? ⟨wr.heap.size, 0, none⟩ = some (.int .i64 x.f0) := (blk_cell HB3.out 0).trans rfl
              have s1 : w3.cell? ⟨wr.heap.size, 1, none⟩ = some (.int .i64 x.f1) := (blk_cell HB3.out 1).trans rfl
              have s2 : w3.cell? ⟨wr.heap.size, 2, none⟩ = some (.int .i64 x.f2) := (blk_cell HB3.out 2).trans rfl
              have s3 : w3.cell? ⟨wr.heap.size, 3, none⟩ = some (.string x.f3) := (blk_cell HB3.out 3).trans rfl
              have s4 : w3.cell? ⟨wr.heap.size, 4, none⟩ = some (.string x.f4) := (blk_cell HB3.out 4).trans rfl
              have hlx := World.block_lt_of_cell? w3 _ hxx3
              have hlp := World.block_lt_of_cell? w3 _ p0
              clear hblk3 hR3 hC3 hcg p1 p2 p3 z1 z2 z3 q0 hx hx0 hx1 hx2 hx3 hx4 b0
              have hnb : w2.heap.size ≠ g' := Nat.ne_of_gt HAI3.out.ord.2
              have hnxg : wr.heap.size ≠ g' := by have := HAI.out.lt; have := HAI.out.ord.2; omega
              have hnx : ¬ (some wr.heap.size = (Value.slice Ag ys.length cg).ownBlock) := HNX.out
              refine wp_region_held_drew (S := fun w' => w'.cell? ⟨w2.heap.size, 0, none⟩ = some (.pointer (some ⟨g', 0, none⟩)) ∧ w'.cell? ⟨wr.heap.size, 0, none⟩ = some (.int .i64 x.f0) ∧ w'.cell? ⟨wr.heap.size, 1, none⟩ = some (.int .i64 x.f1) ∧ w'.cell? ⟨wr.heap.size, 2, none⟩ = some (.int .i64 x.f2) ∧ w'.cell? ⟨wr.heap.size, 3, none⟩ = some (.string x.f3) ∧ w'.cell? ⟨wr.heap.size, 4, none⟩ = some (.string x.f4)) (by kernel_rfl) ⟨hxx3, s0, s1, s2, s3, s4⟩ (fun hHeld => ?_)
              refine wpAnyH_take (i := 0) (v := ?_) rfl (by kernel_rfl) (by kernel_rfl) (by kernel_rfl) (fun _ _ _ h => h) (Or.inl ⟨by rfl, ?_⟩) (by assumption) ?_
              rotate_left
              · (intro w hSw; (try dsimp only at hSw); go_simp; try with_reducible rfl)
              try simp only [Act.put, List.setIfInBounds_toArray, List.set_cons_zero, List.set_cons_succ]
              refine wpAnyH_take (i := 1) (v := ?_) rfl (by kernel_rfl) (by kernel_rfl) (by kernel_rfl) (fun _ _ _ h => h) (Or.inl ⟨by rfl, ?_⟩) (by assumption) ?_
              rotate_left
              · (intro w hSw; (try dsimp only at hSw); go_simp; try with_reducible rfl)
              try simp only [Act.put, List.setIfInBounds_toArray, List.set_cons_zero, List.set_cons_succ]
              refine wpAnyH_take (i := 2) (v := ?_) rfl (by kernel_rfl) (by kernel_rfl) (by kernel_rfl) (fun _ _ _ h => h) (Or.inl ⟨by rfl, ?_⟩) (by assumption) ?_
              rotate_left
              · (intro w hSw; (try dsimp only at hSw); go_simp; try with_reducible rfl)
              try simp only [Act.put, List.setIfInBounds_toArray, List.set_cons_zero, List.set_cons_succ]
              refine wpAnyH_take (i := 3) (v := ?_) rfl (by kernel_rfl) (by kernel_rfl) (by kernel_rfl) (fun _ _ _ h => h) (Or.inl ⟨by rfl, ?_⟩) (by assumption) ?_
              rotate_left
              · (intro w hSw; (try dsimp only at hSw); go_simp; try with_reducible rfl)
              try simp only [Act.put, List.setIfInBounds_toArray, List.set_cons_zero, List.set_cons_succ]
              refine wpAnyH_take (i := 5) (v := ?_) rfl (by kernel_rfl) (by kernel_rfl) (by kernel_rfl) (fun _ _ _ h => h) (Or.inl ⟨by rfl, ?_⟩) (by assumption) ?_
              rotate_left
              · (intro w hSw; (try dsimp only at hSw); go_simp; try with_reducible rfl)
              try simp only [Act.put, List.setIfInBounds_toArray, List.set_cons_zero, List.set_cons_succ]
              refine wpAnyH_ready (rs := [4, 6]) (by kernel_rfl) (by simp) ?_
              refine AllReadyH.cons rfl (fun K hK => ?_) ?_
              · go_simp
                refine hK.out _ _ ?_ (fun hHeld => ?_)
                · first | exact ⟨hxx3, s0, s1, s2, s3, s4⟩ | exact ⟨pw_cell_below (below_alloc (Below.refl w3.heap.size w3) (.cells #[.int .i64 x.f0, .int .i64 x.f1, .int .i64 x.f2, .string x.f3, .string x.f4] 41)) hxx3, pw_cell_below (below_alloc (Below.refl w3.heap.size w3) (.cells #[.int .i64 x.f0, .int .i64 x.f1, .int .i64 x.f2, .string x.f3, .string x.f4] 41)) s0, pw_cell_below (below_alloc (Below.refl w3.heap.size w3) (.cells #[.int .i64 x.f0, .int .i64 x.f1, .int .i64 x.f2, .string x.f3, .string x.f4] 41)) s1, pw_cell_below (below_alloc (Below.refl w3.heap.size w3) (.cells #[.int .i64 x.f0, .int .i64 x.f1, .int .i64 x.f2, .string x.f3, .string x.f4] 41)) s2, pw_cell_below (below_alloc (Below.refl w3.heap.size w3) (.cells #[.int .i64 x.f0, .int .i64 x.f1, .int .i64 x.f2, .string x.f3, .string x.f4] 41)) s3, pw_cell_below (below_alloc (Below.refl w3.heap.size w3) (.cells #[.int .i64 x.f0, .int .i64 x.f1, .int .i64 x.f2, .string x.f3, .string x.f4] 41)) s4⟩
                clear hK K
                try simp only [Act.put, List.setIfInBounds_toArray, List.set_cons_zero, List.set_cons_succ]
                refine wpAnyH_ready (rs := [6]) (by kernel_rfl) (by simp) ?_
                refine AllReadyH.cons rfl (fun K hK => ?_) AllReadyH.nil
                go_simp
                refine hK.out _ _ ?_ (fun hHeld => ?_)
                · first | exact ⟨hxx3, s0, s1, s2, s3, s4⟩ | exact ⟨pw_cell_below (below_alloc (Below.refl w3.heap.size w3) (.cells #[.int .i64 x.f0, .int .i64 x.f1, .int .i64 x.f2, .string x.f3, .string x.f4] 41)) hxx3, pw_cell_below (below_alloc (Below.refl w3.heap.size w3) (.cells #[.int .i64 x.f0, .int .i64 x.f1, .int .i64 x.f2, .string x.f3, .string x.f4] 41)) s0, pw_cell_below (below_alloc (Below.refl w3.heap.size w3) (.cells #[.int .i64 x.f0, .int .i64 x.f1, .int .i64 x.f2, .string x.f3, .string x.f4] 41)) s1, pw_cell_below (below_alloc (Below.refl w3.heap.size w3) (.cells #[.int .i64 x.f0, .int .i64 x.f1, .int .i64 x.f2, .string x.f3, .string x.f4] 41)) s2, pw_cell_below (below_alloc (Below.refl w3.heap.size w3) (.cells #[.int .i64 x.f0, .int .i64 x.f1, .int .i64 x.f2, .string x.f3, .string x.f4] 41)) s3, pw_cell_below (below_alloc (Below.refl w3.heap.size w3) (.cells #[.int .i64 x.f0, .int .i64 x.f1, .int .i64 x.f2, .string x.f3, .string x.f4] 41)) s4⟩
                clear hK K
                try simp only [Act.put, List.setIfInBounds_toArray, List.set_cons_zero, List.set_cons_succ]
                refine wpAnyH_ready (rs := [7]) (by kernel_rfl) (by simp) ?_
                refine AllReadyH.cons rfl (fun K hK => ?_) AllReadyH.nil
                refine Kd.R_append_step k41 (w0 := w) (W := w3.drew) w.heap.size (by rfl) (.tmp 70) (.tmp 72) 39 41 (.agg #[.int .i64 0, .int .i64 0, .int .i64 0, .string ⟨#[]⟩, .string ⟨#[]⟩]) 56 rfl Try.underlying39 info41 rfl (by decide) (by decide) (.slice Ag ys.length cg) ys x [.int .i64 x.f0, .int .i64 x.f1, .int .i64 x.f2, .string x.f3, .string x.f4] (fun k => g' < k ∧ k ≠ w2.heap.size) (fun _ => False) (by rfl) (by rfl) (k41_mkM _ _ _ x) (fun _ h => h.elim) (fun k hk => by have hk' : w3.heap.size ≤ k := hk; have h1 : w2.heap.size < w3.heap.size := hlx; have h2 : g' < w3.heap.size := hlp; omega) (Kd.R_drew HR3.out) (below_drew HAI3.out.below) HAI3.out.below.size (by have := HL.out; omega) ?_
                intro v1 w4 hR4 hb4 hg4 hat4
                obtain ⟨A', c', e'⟩ := Kd.R_slice hR4
                subst e'
                rw [show (ys ++ [x]).length = ys.length + 1 by rw [List.length_append]; rfl] at hR4
                have hk5 : Kept w3 w4 (fun k => g' < k ∧ k ≠ w2.heap.size) := Kept.of_grown (W := w3.drew) hg4 (Kept.drew (Kept.refl w3 _)) (fun k hk => .inl (HR3.out.1 k hk))
                have hk6 : Kept w3 w4 (fun k => some k = (Value.slice Ag ys.length cg).ownBlock) := Kept.of_grown (W := w3.drew) hg4 (Kept.drew (Kept.refl w3 _)) (fun k hk => .inl hk.symm)
                have hx4 := cell_kept hxx3 hk5 (fun q => q.2 rfl)
                have hblk4 : VBlk w4 g' _ _ := blk_kept HBLK3.out hk5 (fun q => Nat.lt_irrefl _ q.1)
                have y0 := hblk4.cells.1
                have y1 := hblk4.free.1
                have HAI4 := Aside0.mk (HAI3.out.put hb4 hk5 hR4)
                have hxn := hnx
                have c0 := cell_kept s0 hk6 hxn
                have c1 := cell_kept s1 hk6 hxn
                have c2 := cell_kept s2 hk6 hxn
                have c3 := cell_kept s3 hk6 hxn
                have c4 := cell_kept s4 hk6 hxn
                clear hR4 hb4 hg4 hat4 hk5 hk6 hblk4
                refine hK.out _ _ ?_ (fun hHeld => ?_)
                · exact ⟨hx4, c0, c1, c2, c3, c4⟩
                clear hK K
                try simp only [Act.put, List.setIfInBounds_toArray, List.set_cons_zero, List.set_cons_succ]
                refine wpAnyH_take (i := 8) (v := ?_) rfl (by kernel_rfl) (by kernel_rfl) (by kernel_rfl) (fun _ _ _ h => h) (Or.inl ⟨by rfl, ?_⟩) (by assumption) ?_
                rotate_left
                · (intro w hSw; (try dsimp only at hSw); go_simp; try with_reducible rfl)
                try simp only [Act.put, List.setIfInBounds_toArray, List.set_cons_zero, List.set_cons_succ]
                refine wpAnyH_take (i := 9) (v := ?_) rfl (by kernel_rfl) (by kernel_rfl) (by kernel_rfl) (fun _ _ _ h => h) (Or.inl ⟨by rfl, ?_⟩) (by assumption) ?_
                rotate_left
                · (intro w hSw; (try dsimp only at hSw); go_simp; try with_reducible rfl)
                try simp only [Act.put, List.setIfInBounds_toArray, List.set_cons_zero, List.set_cons_succ]
                refine wpAnyH_ready (rs := [10]) (by kernel_rfl) (by simp) ?_
                refine AllReadyH.cons rfl (fun K hK => ?_) AllReadyH.nil
                go_simp
                refine hK.out _ _ ?_ (fun hHeld => ?_)
                · exact ⟨(far_cell w4 ⟨w2.heap.size, 0, none⟩ g' 0 _ hnb).trans hx4, (far_cell w4 ⟨wr.heap.size, 0, none⟩ g' 0 _ hnxg).trans c0, (far_cell w4 ⟨wr.heap.size, 1, none⟩ g' 0 _ hnxg).trans c1, (far_cell w4 ⟨wr.heap.size, 2, none⟩ g' 0 _ hnxg).trans c2, (far_cell w4 ⟨wr.heap.size, 3, none⟩ g' 0 _ hnxg).trans c3, (far_cell w4 ⟨wr.heap.size, 4, none⟩ g' 0 _ hnxg).trans c4⟩
                clear hK K
                try simp only [Act.put, List.setIfInBounds_toArray, List.set_cons_zero, List.set_cons_succ]
                refine wpAnyH_done (by kernel_rfl) ?_ _
                clear HR3 HBLK3 hxx3 p0 z0 s0 s1 s2 s3 s4 hlx hlp c0 c1 c2 c3 c4 hx4 y0 y1
                go_wp2
                go_roundw
                (case rel => exact ⟨j + 1, ys ++ [x], by omega, by go_num, ⟨by rw [List.length_append]; have := HL.out; simp; omega⟩, ⟨HN.out⟩, HAI4⟩)
                (case measure => simp [intOf]; omega)
              refine AllReadyH.cons rfl (fun K hK => ?_) ?_
              · go_simp
                refine hK.out _ _ ?_ (fun hHeld => ?_)
                · first | exact ⟨hxx3, s0, s1, s2, s3, s4⟩ | exact ⟨pw_cell_below (below_alloc (Below.refl w3.heap.size w3) (.cells #[.int .i64 x.f0, .int .i64 x.f1, .int .i64 x.f2, .string x.f3, .string x.f4] 41)) hxx3, pw_cell_below (below_alloc (Below.refl w3.heap.size w3) (.cells #[.int .i64 x.f0, .int .i64 x.f1, .int .i64 x.f2, .string x.f3, .string x.f4] 41)) s0, pw_cell_below (below_alloc (Below.refl w3.heap.size w3) (.cells #[.int .i64 x.f0, .int .i64 x.f1, .int .i64 x.f2, .string x.f3, .string x.f4] 41)) s1, pw_cell_below (below_alloc (Below.refl w3.heap.size w3) (.cells #[.int .i64 x.f0, .int .i64 x.f1, .int .i64 x.f2, .string x.f3, .string x.f4] 41)) s2, pw_cell_below (below_alloc (Below.refl w3.heap.size w3) (.cells #[.int .i64 x.f0, .int .i64 x.f1, .int .i64 x.f2, .string x.f3, .string x.f4] 41)) s3, pw_cell_below (below_alloc (Below.refl w3.heap.size w3) (.cells #[.int .i64 x.f0, .int .i64 x.f1, .int .i64 x.f2, .string x.f3, .string x.f4] 41)) s4⟩
                clear hK K
                try simp only [Act.put, List.setIfInBounds_toArray, List.set_cons_zero, List.set_cons_succ]
                refine wpAnyH_ready (rs := [4]) (by kernel_rfl) (by simp) ?_
                refine AllReadyH.cons rfl (fun K hK => ?_) AllReadyH.nil
                go_simp
                refine hK.out _ _ ?_ (fun hHeld => ?_)
                · first | exact ⟨hxx3, s0, s1, s2, s3, s4⟩ | exact ⟨pw_cell_below (below_alloc (Below.refl w3.heap.size w3) (.cells #[.int .i64 x.f0, .int .i64 x.f1, .int .i64 x.f2, .string x.f3, .string x.f4] 41)) hxx3, pw_cell_below (below_alloc (Below.refl w3.heap.size w3) (.cells #[.int .i64 x.f0, .int .i64 x.f1, .int .i64 x.f2, .string x.f3, .string x.f4] 41)) s0, pw_cell_below (below_alloc (Below.refl w3.heap.size w3) (.cells #[.int .i64 x.f0, .int .i64 x.f1, .int .i64 x.f2, .string x.f3, .string x.f4] 41)) s1, pw_cell_below (below_alloc (Below.refl w3.heap.size w3) (.cells #[.int .i64 x.f0, .int .i64 x.f1, .int .i64 x.f2, .string x.f3, .string x.f4] 41)) s2, pw_cell_below (below_alloc (Below.refl w3.heap.size w3) (.cells #[.int .i64 x.f0, .int .i64 x.f1, .int .i64 x.f2, .string x.f3, .string x.f4] 41)) s3, pw_cell_below (below_alloc (Below.refl w3.heap.size w3) (.cells #[.int .i64 x.f0, .int .i64 x.f1, .int .i64 x.f2, .string x.f3, .string x.f4] 41)) s4⟩
                clear hK K
                try simp only [Act.put, List.setIfInBounds_toArray, List.set_cons_zero, List.set_cons_succ]
                refine wpAnyH_ready (rs := [7]) (by kernel_rfl) (by simp) ?_
                refine AllReadyH.cons rfl (fun K hK => ?_) AllReadyH.nil
                refine Kd.R_append_step k41 (w0 := w) (W := w3.drew) w.heap.size (by rfl) (.tmp 70) (.tmp 72) 39 41 (.agg #[.int .i64 0, .int .i64 0, .int .i64 0, .string ⟨#[]⟩, .string ⟨#[]⟩]) 56 rfl Try.underlying39 info41 rfl (by decide) (by decide) (.slice Ag ys.length cg) ys x [.int .i64 x.f0, .int .i64 x.f1, .int .i64 x.f2, .string x.f3, .string x.f4] (fun k => g' < k ∧ k ≠ w2.heap.size) (fun _ => False) (by rfl) (by rfl) (k41_mkM _ _ _ x) (fun _ h => h.elim) (fun k hk => by have hk' : w3.heap.size ≤ k := hk; have h1 : w2.heap.size < w3.heap.size := hlx; have h2 : g' < w3.heap.size := hlp; omega) (Kd.R_drew HR3.out) (below_drew HAI3.out.below) HAI3.out.below.size (by have := HL.out; omega) ?_
                intro v1 w4 hR4 hb4 hg4 hat4
                obtain ⟨A', c', e'⟩ := Kd.R_slice hR4
                subst e'
                rw [show (ys ++ [x]).length = ys.length + 1 by rw [List.length_append]; rfl] at hR4
                have hk5 : Kept w3 w4 (fun k => g' < k ∧ k ≠ w2.heap.size) := Kept.of_grown (W := w3.drew) hg4 (Kept.drew (Kept.refl w3 _)) (fun k hk => .inl (HR3.out.1 k hk))
                have hk6 : Kept w3 w4 (fun k => some k = (Value.slice Ag ys.length cg).ownBlock) := Kept.of_grown (W := w3.drew) hg4 (Kept.drew (Kept.refl w3 _)) (fun k hk => .inl hk.symm)
                have hx4 := cell_kept hxx3 hk5 (fun q => q.2 rfl)
                have hblk4 : VBlk w4 g' _ _ := blk_kept HBLK3.out hk5 (fun q => Nat.lt_irrefl _ q.1)
                have y0 := hblk4.cells.1
                have y1 := hblk4.free.1
                have HAI4 := Aside0.mk (HAI3.out.put hb4 hk5 hR4)
                have hxn := hnx
                have c0 := cell_kept s0 hk6 hxn
                have c1 := cell_kept s1 hk6 hxn
                have c2 := cell_kept s2 hk6 hxn
                have c3 := cell_kept s3 hk6 hxn
                have c4 := cell_kept s4 hk6 hxn
                clear hR4 hb4 hg4 hat4 hk5 hk6 hblk4
                refine hK.out _ _ ?_ (fun hHeld => ?_)
                · exact ⟨hx4, c0, c1, c2, c3, c4⟩
                clear hK K
                try simp only [Act.put, List.setIfInBounds_toArray, List.set_cons_zero, List.set_cons_succ]
                refine wpAnyH_take (i := 8) (v := ?_) rfl (by kernel_rfl) (by kernel_rfl) (by kernel_rfl) (fun _ _ _ h => h) (Or.inl ⟨by rfl, ?_⟩) (by assumption) ?_
                rotate_left
                · (intro w hSw; (try dsimp only at hSw); go_simp; try with_reducible rfl)
                try simp only [Act.put, List.setIfInBounds_toArray, List.set_cons_zero, List.set_cons_succ]
                refine wpAnyH_take (i := 9) (v := ?_) rfl (by kernel_rfl) (by kernel_rfl) (by kernel_rfl) (fun _ _ _ h => h) (Or.inl ⟨by rfl, ?_⟩) (by assumption) ?_
                rotate_left
                · (intro w hSw; (try dsimp only at hSw); go_simp; try with_reducible rfl)
                try simp only [Act.put, List.setIfInBounds_toArray, List.set_cons_zero, List.set_cons_succ]
                refine wpAnyH_ready (rs := [10]) (by kernel_rfl) (by simp) ?_
                refine AllReadyH.cons rfl (fun K hK => ?_) AllReadyH.nil
                go_simp
                refine hK.out _ _ ?_ (fun hHeld => ?_)
                · exact ⟨(far_cell w4 ⟨w2.heap.size, 0, none⟩ g' 0 _ hnb).trans hx4, (far_cell w4 ⟨wr.heap.size, 0, none⟩ g' 0 _ hnxg).trans c0, (far_cell w4 ⟨wr.heap.size, 1, none⟩ g' 0 _ hnxg).trans c1, (far_cell w4 ⟨wr.heap.size, 2, none⟩ g' 0 _ hnxg).trans c2, (far_cell w4 ⟨wr.heap.size, 3, none⟩ g' 0 _ hnxg).trans c3, (far_cell w4 ⟨wr.heap.size, 4, none⟩ g' 0 _ hnxg).trans c4⟩
                clear hK K
                try simp only [Act.put, List.setIfInBounds_toArray, List.set_cons_zero, List.set_cons_succ]
                refine wpAnyH_done (by kernel_rfl) ?_ _
                clear HR3 HBLK3 hxx3 p0 z0 s0 s1 s2 s3 s4 hlx hlp c0 c1 c2 c3 c4 hx4 y0 y1
                go_wp2
                go_roundw
                (case rel => exact ⟨j + 1, ys ++ [x], by omega, by go_num, ⟨by rw [List.length_append]; have := HL.out; simp; omega⟩, ⟨HN.out⟩, HAI4⟩)
                (case measure => simp [intOf]; omega)
              exact AllReadyH.nil
            · have HX := Aside0.mk hi
              have HN := Aside0.mk (show delV v n l m adds v.files dels = none by rw [HV2.out, hi, if_pos (by omega)])
              have hge : decide ((i : Int) ≥ 0) = true := decide_eq_true (by omega)
              clear hi
              go_wp2
              rw [← HW.out]
              go_still_tail 6, (by kernel_rfl)
              change wpList _ _ _ _ _ (World.drew _)
              go_wp2_with (
                go_at_call 50
                refine (by_.calls Af cf ys x.f0 _ (Kd.C_drew HC.out)).mono ?_
                rintro e w3 ⟨he, hb⟩
                rw [HX.out] at he
                subst he
                have HAI3 := Aside0.mk ((HAI1.out.step (below_drew (Below.refl _ _))).step hb)
                clear hb)
              go_ret
              exact .inl ⟨HN.out, rfl, HAI3.out.below⟩
          · obtain rfl : j = adds.length := by omega
            rw [List.drop_length, addV_nil] at HV
            have hyl : ys.length ≤ 400 := by have := HL.out; omega
            obtain ⟨⟨a1, b1⟩, h1⟩ : ∃ r, r = ltr v.next n := ⟨_, rfl⟩
            obtain ⟨⟨a2, b2⟩, h2⟩ : ∃ r, r = ltr v.log l := ⟨_, rfl⟩
            obtain ⟨⟨a3, b3⟩, h3⟩ : ∃ r, r = ltr v.last m := ⟨_, rfl⟩
            have HE := Aside0.mk (show delV v n l m adds v.files dels = if finOk (a1, b1) (a2, b2) (a3, b3) ys = true then some ⟨ys, a1, a2, a3⟩ else none by rw [← HV.out, endV, ← h1, ← h2, ← h3])
            have L1 : version_later.f v.next n = some (a1, b1) := by rw [ltr_f, ← h1]
            have L2 : version_later.f v.log l = some (a2, b2) := by rw [ltr_f, ← h2]
            have L3 : version_later.f v.last m = some (a3, b3) := by rw [ltr_f, ← h3]
            have M1 := Aside0.mk L1
            have M2 := Aside0.mk L2
            have M3 := Aside0.mk L3
            clear h1 h2 h3 L1 L2 L3 HV
            go_wp2
            obtain ⟨qx, qe, -, -, q1, -, -, f1, -, -, n1, n2⟩ := HAI.out.nums
            refine wp_region_held_drew (S := fun w' => w'.cell? ⟨w2.heap.size, 0, none⟩ = some (.pointer (some ⟨g', 0, none⟩)) ∧ w'.cell? ⟨w.heap.size, 0, none⟩ = some (.int .i64 n)) (by kernel_rfl) ⟨qx, qe⟩ (fun hHeld => ?_)
            refine wpAnyH_take (i := 0) (v := ?_) rfl (by kernel_rfl) (by kernel_rfl) (by kernel_rfl) (fun _ _ _ h => h) (Or.inl ⟨by rfl, ?_⟩) (by assumption) ?_
            rotate_left
            · (intro w hSw; (try dsimp only at hSw); go_simp; try with_reducible rfl)
            try simp only [Act.put, List.setIfInBounds_toArray, List.set_cons_zero, List.set_cons_succ]
            refine wpAnyH_take (i := 1) (v := ?_) rfl (by kernel_rfl) (by kernel_rfl) (by kernel_rfl) (fun _ _ _ h => h) (Or.inl ⟨by rfl, ?_⟩) (by assumption) ?_
            rotate_left
            · (intro w hSw; (try dsimp only at hSw); go_simp; try with_reducible rfl)
            try simp only [Act.put, List.setIfInBounds_toArray, List.set_cons_zero, List.set_cons_succ]
            refine wpAnyH_take (i := 2) (v := ?_) rfl (by kernel_rfl) (by kernel_rfl) (by kernel_rfl) (fun _ _ _ h => h) (Or.inl ⟨by rfl, ?_⟩) (by assumption) ?_
            rotate_left
            · (intro w hSw; (try dsimp only at hSw); go_simp; try with_reducible rfl)
            try simp only [Act.put, List.setIfInBounds_toArray, List.set_cons_zero, List.set_cons_succ]
            refine wpAnyH_take (i := 3) (v := ?_) rfl (by kernel_rfl) (by kernel_rfl) (by kernel_rfl) (fun _ _ _ h => h) (Or.inl ⟨by rfl, ?_⟩) (by assumption) ?_
            rotate_left
            · (intro w hSw; (try dsimp only at hSw); go_simp; try with_reducible rfl)
            try simp only [Act.put, List.setIfInBounds_toArray, List.set_cons_zero, List.set_cons_succ]
            refine wpAnyH_take (i := 5) (v := ?_) rfl (by kernel_rfl) (by kernel_rfl) (by kernel_rfl) (fun _ _ _ h => h) (Or.inl ⟨by rfl, ?_⟩) (by assumption) ?_
            rotate_left
            · (intro w hSw; (try dsimp only at hSw); go_simp; try with_reducible rfl)
            try simp only [Act.put, List.setIfInBounds_toArray, List.set_cons_zero, List.set_cons_succ]
            refine wpAnyH_take (i := 6) (v := ?_) rfl (by kernel_rfl) (by kernel_rfl) (by kernel_rfl) (fun _ _ _ h => h) (Or.inl ⟨by rfl, ?_⟩) (by assumption) ?_
            rotate_left
            · (intro w hSw; (try dsimp only at hSw); go_simp; try with_reducible rfl)
            try simp only [Act.put, List.setIfInBounds_toArray, List.set_cons_zero, List.set_cons_succ]
            refine wpAnyH_ready (rs := [4]) (by kernel_rfl) (by simp) ?_
            refine AllReadyH.cons rfl (fun K hK => ?_) AllReadyH.nil
            go_simp
            refine hK.out _ _ ?_ (fun hHeld => ?_)
            · exact ⟨qx, qe⟩
            clear hK K
            try simp only [Act.put, List.setIfInBounds_toArray, List.set_cons_zero, List.set_cons_succ]
            refine wpAnyH_ready (rs := [7]) (by kernel_rfl) (by simp) ?_
            refine AllReadyH.cons rfl (fun K hK => ?_) AllReadyH.nil
            go_simp
            go_at_call 52
            refine (later2.calls v.next n a1 b1 _ M1.out).mono ?_
            rintro e w5 ⟨rfl, rfl⟩
            refine hK.out _ _ ?_ (fun hHeld => ?_)
            · exact ⟨qx, qe⟩
            clear hK K
            try simp only [Act.put, List.setIfInBounds_toArray, List.set_cons_zero, List.set_cons_succ]
            refine wpAnyH_take (i := 8) (v := ?_) rfl (by kernel_rfl) (by kernel_rfl) (by kernel_rfl) (fun _ _ _ h => h) (Or.inl ⟨by rfl, ?_⟩) (by assumption) ?_
            rotate_left
            · (intro w hSw; (try dsimp only at hSw); go_simp; try with_reducible rfl)
            try simp only [Act.put, List.setIfInBounds_toArray, List.set_cons_zero, List.set_cons_succ]
            refine wpAnyH_take (i := 9) (v := ?_) rfl (by kernel_rfl) (by kernel_rfl) (by kernel_rfl) (fun _ _ _ h => h) (Or.inl ⟨by rfl, ?_⟩) (by assumption) ?_
            rotate_left
            · (intro w hSw; (try dsimp only at hSw); go_simp; try with_reducible rfl)
            try simp only [Act.put, List.setIfInBounds_toArray, List.set_cons_zero, List.set_cons_succ]
            refine wpAnyH_take (i := 10) (v := ?_) rfl (by kernel_rfl) (by kernel_rfl) (by kernel_rfl) (fun _ _ _ h => h) (Or.inl ⟨by rfl, ?_⟩) (by assumption) ?_
            rotate_left
            · (intro w hSw; (try dsimp only at hSw); go_simp; try with_reducible rfl)
            try simp only [Act.put, List.setIfInBounds_toArray, List.set_cons_zero, List.set_cons_succ]
            refine wpAnyH_take (i := 11) (v := ?_) rfl (by kernel_rfl) (by kernel_rfl) (by kernel_rfl) (fun _ _ _ h => h) (Or.inl ⟨by rfl, ?_⟩) (by assumption) ?_
            rotate_left
            · (intro w hSw; (try dsimp only at hSw); go_simp; try with_reducible rfl)
            try simp only [Act.put, List.setIfInBounds_toArray, List.set_cons_zero, List.set_cons_succ]
            refine wpAnyH_take (i := 12) (v := ?_) rfl (by kernel_rfl) (by kernel_rfl) (by kernel_rfl) (fun _ _ _ h => h) (Or.inl ⟨by rfl, ?_⟩) (by assumption) ?_
            rotate_left
            · (intro w hSw; (try dsimp only at hSw); go_simp; try with_reducible rfl)
            try simp only [Act.put, List.setIfInBounds_toArray, List.set_cons_zero, List.set_cons_succ]
            refine wpAnyH_ready (rs := [13]) (by kernel_rfl) (by simp) ?_
            refine AllReadyH.cons rfl (fun K hK => ?_) AllReadyH.nil
            go_simp
            refine hK.out _ _ ?_ (fun hHeld => ?_)
            · exact ⟨(far_cell wr ⟨w2.heap.size, 0, none⟩ g' 1 (.int .i64 a1) n1).trans qx, (far_cell wr ⟨w.heap.size, 0, none⟩ g' 1 (.int .i64 a1) n2).trans qe⟩
            clear hK K
            try simp only [Act.put, List.setIfInBounds_toArray, List.set_cons_zero, List.set_cons_succ]
            refine wpAnyH_take (i := 14) (v := ?_) rfl (by kernel_rfl) (by kernel_rfl) (by kernel_rfl) (fun _ _ _ h => h) (Or.inl ⟨by rfl, ?_⟩) (by assumption) ?_
            rotate_left
            · (intro w hSw; (try dsimp only at hSw); go_simp; try with_reducible rfl)
            try simp only [Act.put, List.setIfInBounds_toArray, List.set_cons_zero, List.set_cons_succ]
            refine wpAnyH_done (by kernel_rfl) ?_ _
            have HAI5 := Aside0.mk ((HAI.out.set1 a1).step (below_drew (Below.refl _ _)))
            obtain ⟨W5, hW5⟩ : ∃ W, W = (wr.setCell ⟨g', 1, none⟩ (.int .i64 a1)).drew := ⟨_, rfl⟩
            rw [← hW5] at HAI5
            rw [← hW5]
            clear hW5 qx qe q1 f1
            go_wp2
            obtain ⟨qx, -, qe, -, -, q1, -, -, f1, -, -, -⟩ := HAI5.out.nums
            refine wp_region_held_drew (S := fun w' => w'.cell? ⟨w2.heap.size, 0, none⟩ = some (.pointer (some ⟨g', 0, none⟩)) ∧ w'.cell? ⟨w.heap.size, 1, none⟩ = some (.int .i64 l)) (by kernel_rfl) ⟨qx, qe⟩ (fun hHeld => ?_)
            refine wpAnyH_take (i := 0) (v := ?_) rfl (by kernel_rfl) (by kernel_rfl) (by kernel_rfl) (fun _ _ _ h => h) (Or.inl ⟨by rfl, ?_⟩) (by assumption) ?_
            rotate_left
            · (intro w hSw; (try dsimp only at hSw); go_simp; try with_reducible rfl)
            try simp only [Act.put, List.setIfInBounds_toArray, List.set_cons_zero, List.set_cons_succ]
            refine wpAnyH_take (i := 1) (v := ?_) rfl (by kernel_rfl) (by kernel_rfl) (by kernel_rfl) (fun _ _ _ h => h) (Or.inl ⟨by rfl, ?_⟩) (by assumption) ?_
            rotate_left
            · (intro w hSw; (try dsimp only at hSw); go_simp; try with_reducible rfl)
            try simp only [Act.put, List.setIfInBounds_toArray, List.set_cons_zero, List.set_cons_succ]
            refine wpAnyH_take (i := 2) (v := ?_) rfl (by kernel_rfl) (by kernel_rfl) (by kernel_rfl) (fun _ _ _ h => h) (Or.inl ⟨by rfl, ?_⟩) (by assumption) ?_
            rotate_left
            · (intro w hSw; (try dsimp only at hSw); go_simp; try with_reducible rfl)
            try simp only [Act.put, List.setIfInBounds_toArray, List.set_cons_zero, List.set_cons_succ]
            refine wpAnyH_take (i := 3) (v := ?_) rfl (by kernel_rfl) (by kernel_rfl) (by kernel_rfl) (fun _ _ _ h => h) (Or.inl ⟨by rfl, ?_⟩) (by assumption) ?_
            rotate_left
            · (intro w hSw; (try dsimp only at hSw); go_simp; try with_reducible rfl)
            try simp only [Act.put, List.setIfInBounds_toArray, List.set_cons_zero, List.set_cons_succ]
            refine wpAnyH_take (i := 5) (v := ?_) rfl (by kernel_rfl) (by kernel_rfl) (by kernel_rfl) (fun _ _ _ h => h) (Or.inl ⟨by rfl, ?_⟩) (by assumption) ?_
            rotate_left
            · (intro w hSw; (try dsimp only at hSw); go_simp; try with_reducible rfl)
            try simp only [Act.put, List.setIfInBounds_toArray, List.set_cons_zero, List.set_cons_succ]
            refine wpAnyH_take (i := 6) (v := ?_) rfl (by kernel_rfl) (by kernel_rfl) (by kernel_rfl) (fun _ _ _ h => h) (Or.inl ⟨by rfl, ?_⟩) (by assumption) ?_
            rotate_left
            · (intro w hSw; (try dsimp only at hSw); go_simp; try with_reducible rfl)
            try simp only [Act.put, List.setIfInBounds_toArray, List.set_cons_zero, List.set_cons_succ]
            refine wpAnyH_ready (rs := [4]) (by kernel_rfl) (by simp) ?_
            refine AllReadyH.cons rfl (fun K hK => ?_) AllReadyH.nil
            go_simp
            refine hK.out _ _ ?_ (fun hHeld => ?_)
            · exact ⟨qx, qe⟩
            clear hK K
            try simp only [Act.put, List.setIfInBounds_toArray, List.set_cons_zero, List.set_cons_succ]
            refine wpAnyH_ready (rs := [7]) (by kernel_rfl) (by simp) ?_
            refine AllReadyH.cons rfl (fun K hK => ?_) AllReadyH.nil
            go_simp
            go_at_call 52
            refine (later2.calls v.log l a2 b2 _ M2.out).mono ?_
            rintro e w5 ⟨rfl, rfl⟩
            refine hK.out _ _ ?_ (fun hHeld => ?_)
            · exact ⟨qx, qe⟩
            clear hK K
            try simp only [Act.put, List.setIfInBounds_toArray, List.set_cons_zero, List.set_cons_succ]
            refine wpAnyH_take (i := 8) (v := ?_) rfl (by kernel_rfl) (by kernel_rfl) (by kernel_rfl) (fun _ _ _ h => h) (Or.inl ⟨by rfl, ?_⟩) (by assumption) ?_
            rotate_left
            · (intro w hSw; (try dsimp only at hSw); go_simp; try with_reducible rfl)
            try simp only [Act.put, List.setIfInBounds_toArray, List.set_cons_zero, List.set_cons_succ]
            refine wpAnyH_take (i := 9) (v := ?_) rfl (by kernel_rfl) (by kernel_rfl) (by kernel_rfl) (fun _ _ _ h => h) (Or.inl ⟨by rfl, ?_⟩) (by assumption) ?_
            rotate_left
            · (intro w hSw; (try dsimp only at hSw); go_simp; try with_reducible rfl)
            try simp only [Act.put, List.setIfInBounds_toArray, List.set_cons_zero, List.set_cons_succ]
            refine wpAnyH_take (i := 10) (v := ?_) rfl (by kernel_rfl) (by kernel_rfl) (by kernel_rfl) (fun _ _ _ h => h) (Or.inl ⟨by rfl, ?_⟩) (by assumption) ?_
            rotate_left
            · (intro w hSw; (try dsimp only at hSw); go_simp; try with_reducible rfl)
            try simp only [Act.put, List.setIfInBounds_toArray, List.set_cons_zero, List.set_cons_succ]
            refine wpAnyH_take (i := 11) (v := ?_) rfl (by kernel_rfl) (by kernel_rfl) (by kernel_rfl) (fun _ _ _ h => h) (Or.inl ⟨by rfl, ?_⟩) (by assumption) ?_
            rotate_left
            · (intro w hSw; (try dsimp only at hSw); go_simp; try with_reducible rfl)
            try simp only [Act.put, List.setIfInBounds_toArray, List.set_cons_zero, List.set_cons_succ]
            refine wpAnyH_take (i := 12) (v := ?_) rfl (by kernel_rfl) (by kernel_rfl) (by kernel_rfl) (fun _ _ _ h => h) (Or.inl ⟨by rfl, ?_⟩) (by assumption) ?_
            rotate_left
            · (intro w hSw; (try dsimp only at hSw); go_simp; try with_reducible rfl)
            try simp only [Act.put, List.setIfInBounds_toArray, List.set_cons_zero, List.set_cons_succ]
            refine wpAnyH_ready (rs := [13]) (by kernel_rfl) (by simp) ?_
            refine AllReadyH.cons rfl (fun K hK => ?_) AllReadyH.nil
            go_simp
            refine hK.out _ _ ?_ (fun hHeld => ?_)
            · exact ⟨(far_cell W5 ⟨w2.heap.size, 0, none⟩ g' 2 (.int .i64 a2) n1).trans qx, (far_cell W5 ⟨w.heap.size, 1, none⟩ g' 2 (.int .i64 a2) n2).trans qe⟩
            clear hK K
            try simp only [Act.put, List.setIfInBounds_toArray, List.set_cons_zero, List.set_cons_succ]
            refine wpAnyH_take (i := 14) (v := ?_) rfl (by kernel_rfl) (by kernel_rfl) (by kernel_rfl) (fun _ _ _ h => h) (Or.inl ⟨by rfl, ?_⟩) (by assumption) ?_
            rotate_left
            · (intro w hSw; (try dsimp only at hSw); go_simp; try with_reducible rfl)
            try simp only [Act.put, List.setIfInBounds_toArray, List.set_cons_zero, List.set_cons_succ]
            refine wpAnyH_done (by kernel_rfl) ?_ _
            have HAI6 := Aside0.mk ((HAI5.out.set2 a2).step (below_drew (Below.refl _ _)))
            obtain ⟨W6, hW6⟩ : ∃ W, W = (W5.setCell ⟨g', 2, none⟩ (.int .i64 a2)).drew := ⟨_, rfl⟩
            rw [← hW6] at HAI6
            rw [← hW6]
            clear hW6 qx qe q1 f1
            go_wp2
            obtain ⟨qx, -, -, qe, -, -, q1, -, -, f1, -, -⟩ := HAI6.out.nums
            refine wp_region_held_drew (S := fun w' => w'.cell? ⟨w2.heap.size, 0, none⟩ = some (.pointer (some ⟨g', 0, none⟩)) ∧ w'.cell? ⟨w.heap.size, 2, none⟩ = some (.int .i64 m)) (by kernel_rfl) ⟨qx, qe⟩ (fun hHeld => ?_)
            refine wpAnyH_take (i := 0) (v := ?_) rfl (by kernel_rfl) (by kernel_rfl) (by kernel_rfl) (fun _ _ _ h => h) (Or.inl ⟨by rfl, ?_⟩) (by assumption) ?_
            rotate_left
            · (intro w hSw; (try dsimp only at hSw); go_simp; try with_reducible rfl)
            try simp only [Act.put, List.setIfInBounds_toArray, List.set_cons_zero, List.set_cons_succ]
            refine wpAnyH_take (i := 1) (v := ?_) rfl (by kernel_rfl) (by kernel_rfl) (by kernel_rfl) (fun _ _ _ h => h) (Or.inl ⟨by rfl, ?_⟩) (by assumption) ?_
            rotate_left
            · (intro w hSw; (try dsimp only at hSw); go_simp; try with_reducible rfl)
            try simp only [Act.put, List.setIfInBounds_toArray, List.set_cons_zero, List.set_cons_succ]
            refine wpAnyH_take (i := 2) (v := ?_) rfl (by kernel_rfl) (by kernel_rfl) (by kernel_rfl) (fun _ _ _ h => h) (Or.inl ⟨by rfl, ?_⟩) (by assumption) ?_
            rotate_left
            · (intro w hSw; (try dsimp only at hSw); go_simp; try with_reducible rfl)
            try simp only [Act.put, List.setIfInBounds_toArray, List.set_cons_zero, List.set_cons_succ]
            refine wpAnyH_take (i := 3) (v := ?_) rfl (by kernel_rfl) (by kernel_rfl) (by kernel_rfl) (fun _ _ _ h => h) (Or.inl ⟨by rfl, ?_⟩) (by assumption) ?_
            rotate_left
            · (intro w hSw; (try dsimp only at hSw); go_simp; try with_reducible rfl)
            try simp only [Act.put, List.setIfInBounds_toArray, List.set_cons_zero, List.set_cons_succ]
            refine wpAnyH_take (i := 5) (v := ?_) rfl (by kernel_rfl) (by kernel_rfl) (by kernel_rfl) (fun _ _ _ h => h) (Or.inl ⟨by rfl, ?_⟩) (by assumption) ?_
            rotate_left
            · (intro w hSw; (try dsimp only at hSw); go_simp; try with_reducible rfl)
            try simp only [Act.put, List.setIfInBounds_toArray, List.set_cons_zero, List.set_cons_succ]
            refine wpAnyH_take (i := 6) (v := ?_) rfl (by kernel_rfl) (by kernel_rfl) (by kernel_rfl) (fun _ _ _ h => h) (Or.inl ⟨by rfl, ?_⟩) (by assumption) ?_
            rotate_left
            · (intro w hSw; (try dsimp only at hSw); go_simp; try with_reducible rfl)
            try simp only [Act.put, List.setIfInBounds_toArray, List.set_cons_zero, List.set_cons_succ]
            refine wpAnyH_ready (rs := [4]) (by kernel_rfl) (by simp) ?_
            refine AllReadyH.cons rfl (fun K hK => ?_) AllReadyH.nil
            go_simp
            refine hK.out _ _ ?_ (fun hHeld => ?_)
            · exact ⟨qx, qe⟩
            clear hK K
            try simp only [Act.put, List.setIfInBounds_toArray, List.set_cons_zero, List.set_cons_succ]
            refine wpAnyH_ready (rs := [7]) (by kernel_rfl) (by simp) ?_
            refine AllReadyH.cons rfl (fun K hK => ?_) AllReadyH.nil
            go_simp
            go_at_call 52
            refine (later2.calls v.last m a3 b3 _ M3.out).mono ?_
            rintro e w5 ⟨rfl, rfl⟩
            refine hK.out _ _ ?_ (fun hHeld => ?_)
            · exact ⟨qx, qe⟩
            clear hK K
            try simp only [Act.put, List.setIfInBounds_toArray, List.set_cons_zero, List.set_cons_succ]
            refine wpAnyH_take (i := 8) (v := ?_) rfl (by kernel_rfl) (by kernel_rfl) (by kernel_rfl) (fun _ _ _ h => h) (Or.inl ⟨by rfl, ?_⟩) (by assumption) ?_
            rotate_left
            · (intro w hSw; (try dsimp only at hSw); go_simp; try with_reducible rfl)
            try simp only [Act.put, List.setIfInBounds_toArray, List.set_cons_zero, List.set_cons_succ]
            refine wpAnyH_take (i := 9) (v := ?_) rfl (by kernel_rfl) (by kernel_rfl) (by kernel_rfl) (fun _ _ _ h => h) (Or.inl ⟨by rfl, ?_⟩) (by assumption) ?_
            rotate_left
            · (intro w hSw; (try dsimp only at hSw); go_simp; try with_reducible rfl)
            try simp only [Act.put, List.setIfInBounds_toArray, List.set_cons_zero, List.set_cons_succ]
            refine wpAnyH_take (i := 10) (v := ?_) rfl (by kernel_rfl) (by kernel_rfl) (by kernel_rfl) (fun _ _ _ h => h) (Or.inl ⟨by rfl, ?_⟩) (by assumption) ?_
            rotate_left
            · (intro w hSw; (try dsimp only at hSw); go_simp; try with_reducible rfl)
            try simp only [Act.put, List.setIfInBounds_toArray, List.set_cons_zero, List.set_cons_succ]
            refine wpAnyH_take (i := 11) (v := ?_) rfl (by kernel_rfl) (by kernel_rfl) (by kernel_rfl) (fun _ _ _ h => h) (Or.inl ⟨by rfl, ?_⟩) (by assumption) ?_
            rotate_left
            · (intro w hSw; (try dsimp only at hSw); go_simp; try with_reducible rfl)
            try simp only [Act.put, List.setIfInBounds_toArray, List.set_cons_zero, List.set_cons_succ]
            refine wpAnyH_take (i := 12) (v := ?_) rfl (by kernel_rfl) (by kernel_rfl) (by kernel_rfl) (fun _ _ _ h => h) (Or.inl ⟨by rfl, ?_⟩) (by assumption) ?_
            rotate_left
            · (intro w hSw; (try dsimp only at hSw); go_simp; try with_reducible rfl)
            try simp only [Act.put, List.setIfInBounds_toArray, List.set_cons_zero, List.set_cons_succ]
            refine wpAnyH_ready (rs := [13]) (by kernel_rfl) (by simp) ?_
            refine AllReadyH.cons rfl (fun K hK => ?_) AllReadyH.nil
            go_simp
            refine hK.out _ _ ?_ (fun hHeld => ?_)
            · exact ⟨(far_cell W6 ⟨w2.heap.size, 0, none⟩ g' 3 (.int .i64 a3) n1).trans qx, (far_cell W6 ⟨w.heap.size, 2, none⟩ g' 3 (.int .i64 a3) n2).trans qe⟩
            clear hK K
            try simp only [Act.put, List.setIfInBounds_toArray, List.set_cons_zero, List.set_cons_succ]
            refine wpAnyH_take (i := 14) (v := ?_) rfl (by kernel_rfl) (by kernel_rfl) (by kernel_rfl) (fun _ _ _ h => h) (Or.inl ⟨by rfl, ?_⟩) (by assumption) ?_
            rotate_left
            · (intro w hSw; (try dsimp only at hSw); go_simp; try with_reducible rfl)
            try simp only [Act.put, List.setIfInBounds_toArray, List.set_cons_zero, List.set_cons_succ]
            refine wpAnyH_done (by kernel_rfl) ?_ _
            have HAI7 := Aside0.mk ((HAI6.out.set3 a3).step (below_drew (Below.refl _ _)))
            obtain ⟨W7, hW7⟩ : ∃ W, W = (W6.setCell ⟨g', 3, none⟩ (.int .i64 a3)).drew := ⟨_, rfl⟩
            rw [← hW7] at HAI7
            rw [← hW7]
            clear hW7 qx qe q1 f1
            go_wp2
            obtain ⟨Ay, cy, hblk, hR, hC, hcy, hx⟩ := HAI7.out.row
            obtain ⟨p0, p1, p2, p3⟩ := hblk.cells
            have HC := Aside0.mk hC
            clear hblk hR hC p3 hal2 hcd hca hdl hal hl HA HD HOK M1 M2 M3 HAI HAI5 HAI6
            cases b1 with
            | false =>
              have HN := Aside0.mk (show delV v n l m adds v.files dels = none by rw [HE.out]; exact if_neg (by simp [finOk]))
              go_quiet (fail)
              go_wp2
              go_ret
              exact .inl ⟨HN.out, rfl, pw_below_drewN HAI7.out.below _⟩
            | true =>
              cases b2 with
              | false =>
                have HN := Aside0.mk (show delV v n l m adds v.files dels = none by rw [HE.out]; exact if_neg (by simp [finOk]))
                go_quiet (fail)
                go_wp2
                go_ret
                exact .inl ⟨HN.out, rfl, pw_below_drewN HAI7.out.below _⟩
              | true =>
                cases b3 with
                | false =>
                  have HN := Aside0.mk (show delV v n l m adds v.files dels = none by rw [HE.out]; exact if_neg (by simp [finOk]))
                  go_quiet (fail)
                  go_wp2
                  go_ret
                  exact .inl ⟨HN.out, rfl, pw_below_drewN HAI7.out.below _⟩
                | true =>
                  obtain ⟨px, -, -, -, -, -, -, -, -, -, -, -⟩ := HAI7.out.nums
                  have k0 : ∀ p : BelowBy W7, p.v.cell? ⟨w2.heap.size, 0, none⟩ = some (.pointer (some ⟨g', 0, none⟩)) := fun p => pw_cell_below p.h px
                  have k1 : ∀ p : BelowBy W7, p.v.cell? ⟨g', 0, none⟩ = some (.slice Ay ys.length cy) := fun p => pw_cell_below p.h p0
                  have k2 : ∀ p : BelowBy W7, p.v.cell? ⟨g', 1, none⟩ = some (.int .i64 a1) := fun p => pw_cell_below p.h p1
                  have k3 : ∀ p : BelowBy W7, p.v.cell? ⟨g', 2, none⟩ = some (.int .i64 a2) := fun p => pw_cell_below p.h p2
                  cases hap : apartB ys with
                  | false =>
                    have HAP := Aside0.mk hap
                    have HN := Aside0.mk (show delV v n l m adds v.files dels = none by rw [HE.out]; exact if_neg (by simp [finOk, hap]))
                    clear hap
                    refine wp_region_quiet_below (by kernel_rfl) (by kernel_rfl) ?_
                    generalize haa : Act.mk _ _ = aa
                    repeat (
                      refine wpQuiet_step (fun K hK => ?_)
                      have HK9 := Aside0.mk hK
                      clear hK
                      subst haa
                      go_simp
                      first
                        | (generalize haa : Act.mk _ _ = aa; refine HK9.out _ ?_; clear HK9 K)
                        | (apply Exists.intro
                           refine ⟨fun pq => ?_, ?_⟩
                           (go_at_call 53
                            refine (apart.calls Ay cy ys _ (Kd.C_below HC.out pq.h) hcy).mono ?_
                            rintro e w8 ⟨he, hb⟩
                            rw [HAP.out] at he
                            exact ⟨he, ⟨w8, below_step pq.h hb⟩, rfl⟩)
                           generalize haa : Act.mk _ _ = aa
                           refine HK9.out _ ?_
                           clear HK9 K))
                    refine wpQuiet_nil ?_
                    rintro _ ⟨pq, rfl⟩
                    subst haa
                    have HAI8 := Aside0.mk (HAI7.out.step pq.h)
                    go_wp2
                    go_ret
                    exact .inl ⟨HN.out, rfl, HAI8.out.below⟩
                  | true =>
                    have HAP := Aside0.mk hap
                    clear hap
                    cases hlo : decide (a2 ≥ a1) with
                    | true =>
                      have HN := Aside0.mk (show delV v n l m adds v.files dels = none by rw [HE.out]; exact if_neg (by simp [finOk, of_decide_eq_true hlo]))
                      refine wp_region_quiet_below (by kernel_rfl) (by kernel_rfl) ?_
                      generalize haa : Act.mk _ _ = aa
                      repeat (
                        refine wpQuiet_step (fun K hK => ?_)
                        have HK9 := Aside0.mk hK
                        clear hK
                        subst haa
                        go_simp
                        first
                          | (generalize haa : Act.mk _ _ = aa; refine HK9.out _ ?_; clear HK9 K)
                          | (apply Exists.intro
                             refine ⟨fun pq => ?_, ?_⟩
                             (go_at_call 53
                              refine (apart.calls Ay cy ys _ (Kd.C_below HC.out pq.h) hcy).mono ?_
                              rintro e w8 ⟨he, hb⟩
                              rw [HAP.out] at he
                              exact ⟨he, ⟨w8, below_step pq.h hb⟩, rfl⟩)
                             generalize haa : Act.mk _ _ = aa
                             refine HK9.out _ ?_
                             clear HK9 K))
                      refine wpQuiet_nil ?_
                      rintro _ ⟨pq, rfl⟩
                      subst haa
                      have HAI8 := Aside0.mk (HAI7.out.step pq.h)
                      go_wp2
                      go_ret
                      exact .inl ⟨HN.out, rfl, HAI8.out.below⟩
                    | false =>
                      have hlo' : ¬ (a2 ≥ a1) := of_decide_eq_false hlo
                      have HCF := fun (p : BelowBy W7) => ContainsFunc.calls 55 #[.pointer (some ⟨w2.heap.size, 0, none⟩)] (fun x => decide (x.f0 ≥ a1)) Ay cy ys p.v (Kd.C_below HC.out p.h) (by
                        obtain ⟨-, -, hx7, -, vf, hv7, -⟩ := HAI7.out.step p.h
                        exact apply1_tells _ _ vf ⟨ys, a1, a2, a3⟩ p.v hx7 hv7)
                      have HCF := Aside0.mk HCF
                      obtain ⟨cf, hcf⟩ : ∃ cf, cf = decide (idx (fun x => decide (x.f0 ≥ a1)) ys ≥ 0) := ⟨_, rfl⟩
                      rw [← hcf] at HCF
                      have HE2 := Aside0.mk (show delV v n l m adds v.files dels = if cf = true then none else some ⟨ys, a1, a2, a3⟩ by rw [HE.out]; simp only [finOk, HAP.out, hlo, ← hcf, Bool.true_and, Bool.not_false]; cases cf <;> rfl)
                      clear hcf
                      cases cf with
                      | true =>
                        refine wp_region_quiet_below (by kernel_rfl) (by kernel_rfl) ?_
                        generalize haa : Act.mk _ _ = aa
                        repeat (
                          refine wpQuiet_step (fun K hK => ?_)
                          have HK9 := Aside0.mk hK
                          clear hK
                          subst haa
                          go_simp
                          first
                            | (generalize haa : Act.mk _ _ = aa; refine HK9.out _ ?_; clear HK9 K)
                            | (apply Exists.intro
                               refine ⟨fun pq => ?_, ?_⟩
                               (first
                                | (go_at_call 53
                                   refine (apart.calls Ay cy ys _ (Kd.C_below HC.out pq.h) hcy).mono ?_
                                   rintro e w8 ⟨he, hb⟩
                                   rw [HAP.out] at he
                                   exact ⟨he, ⟨w8, below_step pq.h hb⟩, rfl⟩)
                                | (go_at_call 54
                                   refine (HCF.out pq).mono ?_
                                   rintro e w8 ⟨he, hb⟩
                                   exact ⟨he, ⟨w8, below_step pq.h hb⟩, rfl⟩))
                               generalize haa : Act.mk _ _ = aa
                               refine HK9.out _ ?_
                               clear HK9 K))
                        refine wpQuiet_nil ?_
                        rintro _ ⟨pq, rfl⟩
                        subst haa
                        have HAI8 := Aside0.mk (HAI7.out.step pq.h)
                        go_wp2
                        go_ret
                        exact .inl ⟨HE2.out, rfl, HAI8.out.below⟩
                      | false =>
                        refine wp_region_quiet_below (by kernel_rfl) (by kernel_rfl) ?_
                        generalize haa : Act.mk _ _ = aa
                        repeat (
                          refine wpQuiet_step (fun K hK => ?_)
                          have HK9 := Aside0.mk hK
                          clear hK
                          subst haa
                          go_simp
                          first
                            | (generalize haa : Act.mk _ _ = aa; refine HK9.out _ ?_; clear HK9 K)
                            | (apply Exists.intro
                               refine ⟨fun pq => ?_, ?_⟩
                               (first
                                | (go_at_call 53
                                   refine (apart.calls Ay cy ys _ (Kd.C_below HC.out pq.h) hcy).mono ?_
                                   rintro e w8 ⟨he, hb⟩
                                   rw [HAP.out] at he
                                   exact ⟨he, ⟨w8, below_step pq.h hb⟩, rfl⟩)
                                | (go_at_call 54
                                   refine (HCF.out pq).mono ?_
                                   rintro e w8 ⟨he, hb⟩
                                   exact ⟨he, ⟨w8, below_step pq.h hb⟩, rfl⟩))
                               generalize haa : Act.mk _ _ = aa
                               refine HK9.out _ ?_
                               clear HK9 K))
                        refine wpQuiet_nil ?_
                        rintro _ ⟨pq, rfl⟩
                        subst haa
                        have HAI8 := Aside0.mk (HAI7.out.step pq.h)
                        obtain ⟨Az, cz, hblk8, hR8, hC8, hcz, hx8⟩ := HAI8.out.row
                        obtain ⟨r0, r1, r2, r3⟩ := hblk8.cells
                        obtain ⟨-, -, vfo, hv0, -⟩ := HI.out
                        have hv8 : VBlk pq.v g vfo v := (HAI8.out.below.block g (blk_lt hv0)).trans hv0
                        obtain ⟨t0, t1, t2, t3⟩ := hv8.cells
                        obtain ⟨y0, y1, y2, y3⟩ := hv8.free
                        have HFIN := Aside0.mk (Ap_fin HI.out HAI8.out hblk8 hR8)
                        clear hblk8 hR8 hC8 hv0 hv8 k0 k1 k2 k3 px p0 p1 p2 HCF HC HAI7 HAP HE
                        go_wp2
                        go_ret
                        exact .inr ⟨_, HE2.out, rfl, HFIN.out.1, HFIN.out.2⟩
end Go.Proofs.Ytjhijcehcklipaa.MVe
