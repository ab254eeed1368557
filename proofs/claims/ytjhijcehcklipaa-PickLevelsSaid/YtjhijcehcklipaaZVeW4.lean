/-
  Versions: a version's copy; tables apart.
-/
import Derived.Test.YtjhijcehcklipaaZVeW3
namespace Go.Proofs.Ytjhijcehcklipaa.MVe
open Go.RowKit Go.Proofs.YtjhijcehcklipaaW.PrintWords Go.Proofs.YtjhijcehcklipaaW.PrintLast Go.Proofs.YtjhijcehcklipaaW.PrintMore
attribute [local go_sem] max2_int min2_int max_two min_two max_three min_three max_four min_four
set_option linter.unusedVariables false
set_option linter.unusedSimpArgs false

set_option maxHeartbeats 1000000 in
set_option maxRecDepth 100000 in
theorem Copy.calls (w0 : World) (P : Nat → Prop) (g : Nat) (v : Ver) (w : World) (hI : VInv w0 P g v w) (hl : v.files.length ≤ 1000000) :
    Calls Try.prog 49 #[.pointer (some ⟨g, 0, none⟩)] w fun e w' => ∃ g' : Nat, e = .returned (.pointer (some ⟨g', 0, none⟩)) ∧ w.heap.size ≤ g' ∧ VInv w0 (fun k => g' < k) g' v w' ∧ Below w.heap.size w w' := by
  have HI := Aside0.mk hI
  obtain ⟨hb, hg, vf, hblk, hr⟩ := hI
  obtain ⟨Af, cf, ef, hcf, hCf⟩ := Kd.R_reads hr
  subst ef
  have hnil : Af = none → cf = 0 := fun e => by
    subst e
    obtain ⟨inner, ho⟩ := Kd.R_own hr
    rcases ho.2 with ⟨h1, h2⟩ | ⟨g1, c1, cur, h1, _⟩
    · injection h1
    · cases h1
  obtain ⟨q0, q1, q2, q3⟩ := hblk.cells
  have hlt := blk_lt hblk
  have HC := Aside0.mk hCf
  have HNIL := Aside0.mk hnil
  have hu93 := Try.underlying93
  clear hb hr hCf hcf hblk hnil
  go_enter Try.func49, Try.ntmps49
  go_wp2_with (fail)
  have hba : Below w.heap.size w (w.alloc (.cells #[.slice Af v.files.length cf, .int .i64 v.next, .int .i64 v.log, .int .i64 v.last] 93)) := below_alloc (Below.refl _ _) _
  refine (Clone.calls Af cf v.files _ (Kd.C_below HC.out hba) HNIL.out hl).mono ?_
  rintro e w2 ⟨vc, rfl, hc, hb2⟩
  obtain ⟨Ac, cc, ec⟩ := Kd.R_slice hc
  subst ec
  have hsz : (w.alloc (.cells #[.slice Af v.files.length cf, .int .i64 v.next, .int .i64 v.log, .int .i64 v.last] 93)).heap.size = w.heap.size + 1 := by simp
  have hblk : VBlk w2 w.heap.size (.slice Af v.files.length cf) v := (hb2.block w.heap.size (by rw [hsz]; omega)).trans (blk_new w _)
  obtain ⟨p0, p1, p2, p3⟩ := hblk.cells
  obtain ⟨z0, z1, z2, z3⟩ := hblk.free
  have HBLK := Aside0.mk hblk
  have HB2 := Aside0.mk (below_step hba hb2)
  have HCC := Aside0.mk hc
  have HSZ := Aside0.mk hsz
  clear hba hc hb2 hsz hblk q0 q1 q2 q3
  go_wp2
  go_ret
  refine ⟨w.heap.size, rfl, Nat.le_refl _, ⟨(below_then HI.out.below HI.out.below.size HB2.out).setCell HI.out.below.size _, HI.out.below.size, _, HBLK.out.set0 _ v.files, ?_⟩, HB2.out.setCell (Nat.le_refl _) _⟩
  refine Kd.R_far (Kd.R_lower (Kd.R_mono (Kd.R_bound HCC.out) (fun k hk => ?_)) ?_) (fun k (hk : w.heap.size < k) => Nat.ne_of_gt hk) _
  · have := hk.2.1; rw [HSZ.out] at this; show w.heap.size < k; omega
  · rw [HSZ.out]; have := HI.out.below.size; omega

theorem all_snoc {xs : List S41} {p : S41 → Bool} {k : Nat} {y : S41} (h : ∀ z ∈ xs.take k, p z = false) (hk : k < xs.length) (hy : xs[k] = y) (hp : p y = false) : ∀ z ∈ xs.take (k + 1), p z = false := by
  intro z hz
  rw [List.take_succ_eq_append_getElem hk, hy] at hz
  rcases List.mem_append.1 hz with q | q
  · exact h z q
  · rw [List.mem_singleton.1 q]; exact hp

/-- May tables stand together? -/
def apartB (xs : List S41) : Bool := decide (xs.Pairwise fun b a => hit a b = false) && decide (xs.length ≤ 200)
set_option maxHeartbeats 1000000 in
set_option maxRecDepth 100000 in
theorem apart.calls (A0 : Option Addr) (c0 : Nat) (xs : List S41) (w : World) (hr : Kd.C k41 w A0 xs.length xs) (hc : xs.length ≤ c0) :
    Calls Try.prog 53 #[.slice A0 xs.length c0] w fun e w' => e = .returned (.bool (apartB xs)) ∧ Below w.heap.size w w' := by
  have hxl : xs.length ≤ 9223372036854775807 := Kd.C_max hr
  have HR := Aside0.mk hr
  have HB0 := Aside0.mk (Below.refl w.heap.size w)
  have hu41 := Try.underlying41
  clear hr
  go_enter Try.func53, Try.ntmps53
  go_wp2
  go_loopw [9] (fun i wr => ∃ j : Nat, j ≤ xs.length ∧ i = .int .i64 j ∧ Aside0 ((xs.take j).Pairwise fun b a => hit a b = false) ∧ Aside0 (Below w.heap.size w wr)) (fun i _ => xs.length - (intOf i).toNat)
  case atStart => exact ⟨0, Nat.zero_le _, rfl, ⟨by simp⟩, HB0⟩
  case round =>
    clear HB0
    obtain ⟨j, hj, rfl, HP, HB⟩ := hrel
    by_cases hlt : j < xs.length
    · obtain ⟨ad, ea, hx0, hx1, hx2, hx3, hx4⟩ := at_T41 (Kd.C_below HR.out HB.out) (j : Int) (by omega) (by omega)
      cases ea
      have e : rd_T41 xs (j : Int) = xs[j] := by unfold rd_T41; rw [Int.toNat_natCast, List.getD_eq_getElem?_getD, List.getElem?_eq_getElem hlt, Option.getD_some]
      rw [e, Int.toNat_natCast] at hx0 hx1 hx2 hx3 hx4
      obtain ⟨x, hxx⟩ : ∃ x, xs[j] = x := ⟨_, rfl⟩
      rw [hxx] at hx0 hx1 hx2 hx3 hx4
      have HX := Aside0.mk hxx
      have hcutf : ∀ W : World, (Instr.slice 39 (.slice (some ad) xs.length c0) none (some (.int .i64 (j : Int))) none).run Try.prog W = .ok (.slice (some ad) j c0) W := fun W => by
        obtain ⟨ti, hti, htz⟩ := Option.map_eq_some_iff.1 info41
        exact cut_to (P := Try.prog) 39 41 .i64 Try.underlying39 hti (some ad) xs.length c0 (j : Int) (by omega) (by omega) hc W
      obtain ⟨B, hB⟩ : ∃ B, wr.heap.size = B := ⟨_, rfl⟩
      have HBX := Aside0.mk (show (wr.alloc (.cells #[.int .i64 x.f0, .int .i64 x.f1, .int .i64 x.f2, .string x.f3, .string x.f4] 41)).heap[B]? = some (.cells #[.int .i64 x.f0, .int .i64 x.f1, .int .i64 x.f2, .string x.f3, .string x.f4] 41 (0, 0)) by rw [← hB]; exact blk_new wr _)
      have HBA := Aside0.mk (below_alloc HB.out (.cells #[.int .i64 x.f0, .int .i64 x.f1, .int .i64 x.f2, .string x.f3, .string x.f4] 41))
      clear e hxx
      go_wp2
      clear hx0 hx1 hx2 hx3 hx4 hcutf hB
      go_loopw [18] (fun i wr2 => ∃ k : Nat, k ≤ j ∧ i = .int .i64 k ∧ Aside0 (∀ y ∈ xs.take k, hit x y = false) ∧ Aside0 (Below w.heap.size w wr2) ∧ Aside0 (wr2.heap[B]? = some (.cells #[.int .i64 x.f0, .int .i64 x.f1, .int .i64 x.f2, .string x.f3, .string x.f4] 41 (0, 0)))) (fun i _ => j - (intOf i).toNat)
      case atStart => exact ⟨0, Nat.zero_le _, rfl, ⟨by simp⟩, HBA, HBX⟩
      case round =>
        clear HBX HBA HB
        obtain ⟨k, hk, rfl, HN, HB, HK⟩ := hrel
        by_cases hlt2 : k < j
        · obtain ⟨ad2, ea, hx0, hx1, hx2, hx3, hx4⟩ := at_T41 (Kd.C_below HR.out HB.out) (k : Int) (by omega) (by omega)
          cases ea
          have hkl : k < xs.length := by omega
          have e : rd_T41 xs (k : Int) = xs[k] := by unfold rd_T41; rw [Int.toNat_natCast, List.getD_eq_getElem?_getD, List.getElem?_eq_getElem hkl, Option.getD_some]
          rw [e, Int.toNat_natCast] at hx0 hx1 hx2 hx3 hx4
          obtain ⟨y, hyy⟩ : ∃ y, xs[k] = y := ⟨_, rfl⟩
          rw [hyy] at hx0 hx1 hx2 hx3 hx4
          have HY := Aside0.mk hyy
          have HYM := Aside0.mk (show y ∈ xs.take j by rw [← hyy]; exact List.mem_take_iff_getElem.2 ⟨k, by omega, rfl⟩)
          have hBlt := blk_lt HK.out
          obtain ⟨b0, b1, b2, b3, b4⟩ : wr.cell? ⟨B, 0, none⟩ = some (.int .i64 x.f0) ∧ wr.cell? ⟨B, 1, none⟩ = some (.int .i64 x.f1) ∧ wr.cell? ⟨B, 2, none⟩ = some (.int .i64 x.f2) ∧ wr.cell? ⟨B, 3, none⟩ = some (.string x.f3) ∧ wr.cell? ⟨B, 4, none⟩ = some (.string x.f4) :=
            ⟨(blk_cell HK.out 0).trans rfl, (blk_cell HK.out 1).trans rfl, (blk_cell HK.out 2).trans rfl, (blk_cell HK.out 3).trans rfl, (blk_cell HK.out 4).trans rfl⟩
          clear e hyy
          by_cases d1 : 0 < x.f1
          · have d1' : decide (0 < x.f1) = true := decide_eq_true d1
            by_cases d2 : x.f1 = y.f1
            · have d2' : (x.f1 == y.f1) = true := beq_iff_eq.2 d2
              have D2 := Aside0.mk d2
              clear d2
              cases hm : meetB x y with
              | true =>
                have HM := Aside0.mk hm
                have HH := Aside0.mk (show hit x y = true by unfold hit; rw [decide_eq_true d1, d2', hm]; rfl)
                clear hm
                go_wp2_with (first
                  | (go_at_call 58
                     refine (meet.calls x y _).mono ?_
                     rintro e w1 ⟨he, hb⟩
                     rw [HM.out] at he
                     subst he
                     have HB1 := Aside0.mk (below_step (below_alloc HB.out _) hb)
                     have HK1 := Aside0.mk ((hb.block B (by have := blk_lt HK.out; simp; omega)).trans (blk_alloc HK.out _))
                     clear hb))
                go_ret
                have hA : apartB xs = false := by
                  unfold apartB
                  rw [Bool.and_eq_false_iff]
                  refine .inl (decide_eq_false fun hp => ?_)
                  obtain ⟨i2, hi2, hi3⟩ := List.mem_take_iff_getElem.1 HYM.out
                  have := List.pairwise_iff_getElem.1 hp i2 j (by omega) hlt (by omega)
                  rw [HX.out, hi3, HH.out] at this
                  cases this
                rw [hA]
                exact ⟨rfl, HB1.out⟩
              | false =>
                have HM := Aside0.mk hm
                have HH := Aside0.mk (show hit x y = false by unfold hit; rw [hm, Bool.and_false])
                clear hm
                go_wp2_with (first
                  | (go_at_call 58
                     refine (meet.calls x y _).mono ?_
                     rintro e w1 ⟨he, hb⟩
                     rw [HM.out] at he
                     subst he
                     have HB1 := Aside0.mk (below_step (below_alloc HB.out _) hb)
                     have HK1 := Aside0.mk ((hb.block B (by have := blk_lt HK.out; simp; omega)).trans (blk_alloc HK.out _))
                     clear hb))
                go_roundw
                case rel => exact ⟨k + 1, by omega, by go_num, ⟨all_snoc HN.out (by omega) HY.out HH.out⟩, HB1, HK1⟩
                case measure => simp [intOf]; omega
            · have d2' : (x.f1 == y.f1) = false := beq_eq_false_iff_ne.2 d2
              have HH := Aside0.mk (show hit x y = false by unfold hit; rw [d2', Bool.and_false, Bool.false_and])
              clear d2
              have HB1 := Aside0.mk (below_alloc HB.out (.cells #[.int .i64 y.f0, .int .i64 y.f1, .int .i64 y.f2, .string y.f3, .string y.f4] 41))
              have HK1 := Aside0.mk (blk_alloc HK.out (.cells #[.int .i64 y.f0, .int .i64 y.f1, .int .i64 y.f2, .string y.f3, .string y.f4] 41))
              go_wp2
              go_roundw
              case rel => exact ⟨k + 1, by omega, by go_num, ⟨all_snoc HN.out (by omega) HY.out HH.out⟩, HB1, HK1⟩
              case measure => simp [intOf]; omega
          · have d1' : decide (0 < x.f1) = false := decide_eq_false d1
            have HH := Aside0.mk (show hit x y = false by unfold hit; rw [decide_eq_false d1, Bool.false_and, Bool.false_and])
            clear d1
            have HB1 := Aside0.mk (below_alloc HB.out (.cells #[.int .i64 y.f0, .int .i64 y.f1, .int .i64 y.f2, .string y.f3, .string y.f4] 41))
            have HK1 := Aside0.mk (blk_alloc HK.out (.cells #[.int .i64 y.f0, .int .i64 y.f1, .int .i64 y.f2, .string y.f3, .string y.f4] 41))
            go_wp2
            go_roundw
            case rel => exact ⟨k + 1, by omega, by go_num, ⟨all_snoc HN.out (by omega) HY.out HH.out⟩, HB1, HK1⟩
            case measure => simp [intOf]; omega
        · obtain rfl : k = j := by omega
          go_wp2
          go_roundw
          case rel =>
            refine ⟨k + 1, by omega, by go_num, ⟨?_⟩, HB⟩
            rw [List.take_succ_eq_append_getElem hlt, HX.out]
            refine List.pairwise_append.2 ⟨HP.out, by simp, fun y hy z hz => ?_⟩
            rw [List.mem_singleton.1 hz]; exact HN.out y hy
          case measure => simp [intOf]; omega
    · obtain rfl : j = xs.length := by omega
      have hA : apartB xs = decide ((xs.length : Int) ≤ 200) := by
        unfold apartB
        have := HP.out
        rw [List.take_of_length_le (Nat.le_refl _)] at this
        rw [decide_eq_true this, Bool.true_and]
        exact decide_eq_decide.2 (by omega)
      have HA := Aside0.mk hA
      clear hA
      go_wp2
      go_ret
      rw [HA.out]
      exact ⟨rfl, HB.out⟩
end Go.Proofs.Ytjhijcehcklipaa.MVe
