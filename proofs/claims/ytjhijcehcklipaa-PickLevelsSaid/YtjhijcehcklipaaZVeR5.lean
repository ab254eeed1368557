/-
  The document's Level, walked.
-/
import Derived.Test.YtjhijcehcklipaaZVeR3
import Derived.Test.YtjhijcehcklipaaZVeM1
namespace Go.Proofs.Ytjhijcehcklipaa.MVe
open Go.RowKit Go.Proofs.YtjhijcehcklipaaW.PrintWords Go.Proofs.YtjhijcehcklipaaW.PrintLast Go.Proofs.YtjhijcehcklipaaW.PrintMore
attribute [local go_sem] max2_int min2_int max_two min_two max_three min_three max_four min_four
set_option linter.unusedVariables false
set_option linter.unusedSimpArgs false

theorem C_some {w : World} {A : Option Addr} {xs : List S41} (h : Kd.C k41 w A xs.length xs) (h0 : 0 < xs.length) : ∃ ad, A = some ad := by
  obtain ⟨ad, h1, _⟩ := h.2.2 h0
  exact ⟨ad, h1⟩
/-- Does a table stand ahead of another one, by the document's word? -/
def befR (n : Int) (f y : S41) : Bool := ((n == 0) && decide (f.f0 < y.f0)) || (decide (0 < n) && Op.bytesLess y.f3.toList f.f3.toList)
def insR (n : Int) (f : S41) (ys : List S41) : List S41 := ys.takeWhile (befR n f) ++ f :: ys.dropWhile (befR n f)
def levR (n : Int) (xs : List S41) : List S41 := xs.foldl (fun l f => if (f.f1 == n) = true then insR n f l else l) []
theorem levR_take {n : Int} {xs : List S41} {j : Nat} (h : j < xs.length) : levR n (xs.take (j + 1)) = if (xs[j].f1 == n) = true then insR n xs[j] (levR n (xs.take j)) else levR n (xs.take j) := by
  unfold levR
  rw [List.take_succ_eq_append_getElem h, List.foldl_append]
  rfl
theorem insR_perm (n : Int) (f : S41) (ys : List S41) : (insR n f ys).Perm (f :: ys) := by
  unfold insR
  refine List.perm_middle.trans ?_
  rw [List.takeWhile_append_dropWhile]
theorem levR_perm_aux (n : Int) : ∀ (xs l : List S41), (xs.foldl (fun l f => if (f.f1 == n) = true then insR n f l else l) l).Perm (l ++ xs.filter fun x => x.f1 == n)
  | [], l => by simp
  | x :: r, l => by
    rw [List.foldl_cons, List.filter_cons]
    by_cases h : (x.f1 == n) = true
    · rw [if_pos h, if_pos h]
      refine (levR_perm_aux n r _).trans ?_
      refine (List.Perm.append_right _ (insR_perm n x l)).trans ?_
      exact (List.perm_middle (l₁ := l)).symm
    · rw [if_neg h, if_neg h]
      exact levR_perm_aux n r l
theorem levR_perm (n : Int) (xs : List S41) : (levR n xs).Perm (xs.filter fun x => x.f1 == n) := by
  have h := levR_perm_aux n xs []
  rwa [List.nil_append] at h
theorem levR_len (n : Int) (xs : List S41) : (levR n xs).length ≤ xs.length := by
  rw [(levR_perm n xs).length_eq]; exact List.length_filter_le _ _
theorem while_at {p : S41 → Bool} : ∀ (ys : List S41) (k : Nat), k ≤ ys.length → (∀ y ∈ ys.take k, p y = true) → (∀ h : k < ys.length, p ys[k] = false) → ys.takeWhile p = ys.take k ∧ ys.dropWhile p = ys.drop k
  | [], k, hk, _, _ => by rw [List.take_nil, List.drop_nil]; exact ⟨rfl, rfl⟩
  | y :: r, 0, _, _, h => by
    have h0 := h (by simp)
    have h1 : p y = false := h0
    rw [List.takeWhile_cons, List.dropWhile_cons, h1]
    exact ⟨rfl, rfl⟩
  | y :: r, k + 1, hk, ha, h => by
    have h1 : p y = true := ha y (by simp)
    obtain ⟨i1, i2⟩ := while_at r k (by simpa using hk) (fun z hz => ha z (by rw [List.take_succ_cons]; exact List.mem_cons_of_mem _ hz)) (fun hl => h (by simpa using hl))
    rw [List.takeWhile_cons, List.dropWhile_cons, h1]
    exact ⟨by show y :: _ = _; rw [i1]; rfl, i2⟩
theorem insR_at {n : Int} {f : S41} {ys : List S41} {k : Nat} (hk : k ≤ ys.length) (ha : ∀ y ∈ ys.take k, befR n f y = true) (h : ∀ h : k < ys.length, befR n f ys[k] = false) : ys.take k ++ ([f] ++ ys.drop k) = insR n f ys := by
  obtain ⟨h1, h2⟩ := while_at ys k hk ha h
  unfold insR
  rw [h1, h2]; rfl
theorem all_snocT {xs : List S41} {p : S41 → Bool} {k : Nat} {y : S41} (h : ∀ z ∈ xs.take k, p z = true) (hk : k < xs.length) (hy : xs[k] = y) (hp : p y = true) : ∀ z ∈ xs.take (k + 1), p z = true := by
  intro z hz
  rw [List.take_succ_eq_append_getElem hk, hy] at hz
  rcases List.mem_append.1 hz with q | q
  · exact h z q
  · rw [List.mem_singleton.1 q]; exact hp
theorem lit41_R (W : World) (b : Nat) (hb : b ≤ W.heap.size) (x : S41) : Kd.R k41 41 (W.alloc (.cells #[.int .i64 x.f0, .int .i64 x.f1, .int .i64 x.f2, .string x.f3, .string x.f4] 41)) b (fun _ => True) (.slice (some ⟨W.heap.size, 0, none⟩) 1 1) [x] :=
  ⟨fun _ _ => trivial, OwnRow.lit W b (one_reps x) hb (by simp)⟩
theorem cut_cap41 {i : TypeInfo} (hi : Try.prog.info? 41 = some i) (A : Option Addr) (n c : Nat) (j : Int) (h0 : 0 ≤ j) (hm : j ≤ n) (hc : n ≤ c) :
    ∀ W : World, (Instr.slice 39 (.slice A n c) none (some (.int .i64 j)) (some (.int .i64 j))).run Try.prog W = .ok (.slice A j.toNat j.toNat) W := by
  intro W
  have ht := Try.underlying39
  have hel : Try.prog.elem 39 = 41 := by simp [Program.elem, ht]
  have hu : Try.prog.underlying 39 = some (.slice (Try.prog.elem 39)) := by rw [hel]; exact ht
  have ha : (A.map fun x => x.add 0) = A := by cases A <;> simp [Addr.add]
  rw [run_slice_hm W 39 A n c hu .i64 .i64 j j h0 (by omega) (by omega), hel]
  simp [sizeOf, typeInfo, hi, sliced, Result.andThen, ha]
set_option maxHeartbeats 4000000 in
set_option maxRecDepth 100000 in
theorem RLevel.calls (w0 : World) (P : Nat → Prop) (g : Nat) (v : Ver) (n : Int) (w : World) (hI : RInv w0 P g v w) (hl : v.files.length ≤ 400) :
    Calls Try.prog 71 #[.pointer (some ⟨g, 0, none⟩), .int .i64 n] w fun e w' => ∃ vf, e = .returned vf ∧ Kd.R k41 41 w' w.heap.size (fun _ => True) vf (levR n v.files) ∧ Below w.heap.size w w' := by
  have hu41 := Try.underlying41
  have hu113 := Try.underlying113
  have HI := Aside0.mk hI
  have HB := Aside0.mk (Below.refl w.heap.size w)
  clear hI
  go_enter Try.func71, Try.ntmps71
  go_wp2
  go_loopw [5, 6] (fun s i wr => ∃ j : Nat, j ≤ v.files.length ∧ i = .int .i64 j ∧ Aside0 (Kd.R k41 41 wr w.heap.size (fun _ => True) s (levR n (v.files.take j))) ∧ Aside0 (Below w.heap.size w wr)) (fun _ i _ => v.files.length - (intOf i).toNat)
  case atStart => exact ⟨0, Nat.zero_le _, rfl, ⟨Kd.R_nil _ _ _ _ _⟩, HB⟩
  case round =>
    clear HB
    obtain ⟨j, hj, rfl, HR, HB⟩ := hrel
    obtain ⟨Af, cf, hblk, hCf, hcf⟩ := (HI.out.step HB.out).row
    obtain ⟨q0, -, -, -⟩ := hblk.cells
    have hltg := blk_lt hblk
    clear hblk
    by_cases hlt : j < v.files.length
    · obtain ⟨ad, ea, hx0, hx1, hx2, hx3, hx4⟩ := at_T41 hCf (j : Int) (by omega) (by omega)
      cases ea
      rw [rd_at hlt, Int.toNat_natCast] at hx0 hx1 hx2 hx3 hx4
      have HT := Aside0.mk (levR_take (n := n) hlt)
      have HYL := Aside0.mk (levR_len n (v.files.take j))
      obtain ⟨f, hff⟩ : ∃ f, v.files[j] = f := ⟨_, rfl⟩
      obtain ⟨ys, hys⟩ : ∃ ys, levR n (v.files.take j) = ys := ⟨_, rfl⟩
      rw [hff] at hx0 hx1 hx2 hx3 hx4 HT
      rw [hys] at HT HR HYL
      have hyl : ys.length ≤ 400 := by have := HYL.out; rw [List.length_take] at this; omega
      clear hff hys hCf HYL
      have HB1 := Aside0.mk (below_alloc HB.out (.cells #[.int .i64 f.f0, .int .i64 f.f1, .int .i64 f.f2, .string f.f3, .string f.f4] 41))
      have HX1 := Aside0.mk (blk_new wr (.cells #[.int .i64 f.f0, .int .i64 f.f1, .int .i64 f.f2, .string f.f3, .string f.f4] 41))
      have HR1 := Aside0.mk (Kd.R_below HR.out (below_alloc (Below.refl _ _) (.cells #[.int .i64 f.f0, .int .i64 f.f1, .int .i64 f.f2, .string f.f3, .string f.f4] 41)))
      by_cases hq : f.f1 = n
      · have HN := Aside0.mk (show levR n (v.files.take (j + 1)) = insR n f ys by rw [HT.out, if_pos (beq_iff_eq.2 hq)])
        have h1 : (f.f1 != n) = false := bne_eq_false_iff_eq.mpr hq
        have HQ := Aside0.mk hq
        clear hq
        obtain ⟨Al, cl, el, hcl, hCl⟩ := Kd.R_reads HR1.out
        subst el
        clear hCl
        go_upto_block 2 with (fail)
        obtain ⟨B, hB⟩ : ∃ B, wr.heap.size = B := ⟨_, rfl⟩
        obtain ⟨W, hW⟩ : ∃ W, W = wr.alloc (.cells #[.int .i64 f.f0, .int .i64 f.f1, .int .i64 f.f2, .string f.f3, .string f.f4] 41) := ⟨_, rfl⟩
        rw [← hW] at HB1 HX1 HR1
        rw [← hW]
        simp only [hB] at HX1 ⊢
        clear hx0 hx1 hx2 hx3 hx4 q0 hltg hW hB HR HB h1
        go_cut [8] (fun v8 wc => ∃ k : Nat, v8 = .int .i64 k ∧ k ≤ ys.length ∧ Aside0 (∀ y ∈ ys.take k, befR n f y = true) ∧ Aside0 (∀ h : k < ys.length, befR n f ys[k] = false) ∧ Aside0 (Kd.R k41 41 wc w.heap.size (fun _ => True) (.slice Al ys.length cl) ys) ∧ Aside0 (Below w.heap.size w wc) ∧ Aside0 (wc.heap[B]? = some (.cells #[.int .i64 f.f0, .int .i64 f.f1, .int .i64 f.f2, .string f.f3, .string f.f4] 41 (0, 0))))
        case first =>
          go_wp2
          go_loopw [8] (fun i wr => ∃ k : Nat, k ≤ ys.length ∧ i = .int .i64 k ∧ Aside0 (∀ y ∈ ys.take k, befR n f y = true) ∧ Aside0 (Kd.R k41 41 wr w.heap.size (fun _ => True) (.slice Al ys.length cl) ys) ∧ Aside0 (Below w.heap.size w wr) ∧ Aside0 (wr.heap[B]? = some (.cells #[.int .i64 f.f0, .int .i64 f.f1, .int .i64 f.f2, .string f.f3, .string f.f4] 41 (0, 0)))) (fun i _ => ys.length - (intOf i).toNat)
          case atStart => exact ⟨0, Nat.zero_le _, rfl, ⟨by simp⟩, HR1, HB1, HX1⟩
          case round =>
            clear HR1 HB1 HX1
            obtain ⟨k, hk, rfl, HA, HR, HB, HX⟩ := hrel
            by_cases hlt2 : k < ys.length
            · obtain ⟨A9, c9, e9, -, hC9⟩ := Kd.R_reads HR.out
              injection e9 with e9 _ e10
              subst e9
              subst e10
              obtain ⟨ad, ea, hy0, hy1, hy2, hy3, hy4⟩ := at_T41 hC9 (k : Int) (by omega) (by omega)
              cases ea
              rw [rd_at hlt2, Int.toNat_natCast] at hy0 hy1 hy2 hy3 hy4
              obtain ⟨y, hyy⟩ : ∃ y, ys[k] = y := ⟨_, rfl⟩
              rw [hyy] at hy0 hy1 hy2 hy3 hy4
              have HY := Aside0.mk hyy
              obtain ⟨s0, s1, s2, s3, s4⟩ := xcells HX.out
              clear hyy hC9 hy1 hy2 hy4 s1 s2 s4
              cases d1 : (n == 0) with
              | true =>
                have hn0 : n = 0 := beq_iff_eq.1 d1
                have d2 : decide (0 < n) = false := decide_eq_false (by omega)
                have HN0 := Aside0.mk hn0
                clear hn0
                cases d3 : decide (f.f0 < y.f0) with
                | true =>
                  have HH := Aside0.mk (show befR n f y = true by unfold befR; rw [d1, d3]; rfl)
                  go_wp2
                  go_quiet (fail)
                  go_wp2
                  go_roundw
                  case rel => exact ⟨k + 1, by omega, by go_num, ⟨all_snocT HA.out hlt2 HY.out HH.out⟩, ⟨Kd.R_below HR.out (pw_below_drewN (Below.refl _ _) _)⟩, ⟨pw_below_drewN HB.out _⟩, HX⟩
                  case measure => simp [intOf]; omega
                | false =>
                  have HH := Aside0.mk (show befR n f y = false by unfold befR; rw [d1, d2, d3]; rfl)
                  go_wp2
                  go_quiet (fail)
                  go_wp2
                  go_meet
                  case rel => exact ⟨k, rfl, hk, HA, ⟨fun h => by rw [HY.out]; exact HH.out⟩, ⟨Kd.R_below HR.out (pw_below_drewN (Below.refl _ _) _)⟩, ⟨pw_below_drewN HB.out _⟩, HX⟩
              | false =>
                cases d2 : decide (0 < n) with
                | true =>
                  cases d3 : Op.bytesLess y.f3.toList f.f3.toList with
                  | true =>
                    have HH := Aside0.mk (show befR n f y = true by unfold befR; rw [d1, d2, d3]; rfl)
                    go_wp2
                    go_quiet (fail)
                    go_wp2
                    go_roundw
                    case rel => exact ⟨k + 1, by omega, by go_num, ⟨all_snocT HA.out hlt2 HY.out HH.out⟩, ⟨Kd.R_below HR.out (pw_below_drewN (Below.refl _ _) _)⟩, ⟨pw_below_drewN HB.out _⟩, HX⟩
                    case measure => simp [intOf]; omega
                  | false =>
                    have HH := Aside0.mk (show befR n f y = false by unfold befR; rw [d1, d2, d3]; rfl)
                    go_wp2
                    go_quiet (fail)
                    go_wp2
                    go_meet
                    case rel => exact ⟨k, rfl, hk, HA, ⟨fun h => by rw [HY.out]; exact HH.out⟩, ⟨Kd.R_below HR.out (pw_below_drewN (Below.refl _ _) _)⟩, ⟨pw_below_drewN HB.out _⟩, HX⟩
                | false =>
                  have HH := Aside0.mk (show befR n f y = false by unfold befR; rw [d1, d2]; rfl)
                  go_wp2
                  go_quiet (fail)
                  go_wp2
                  go_meet
                  case rel => exact ⟨k, rfl, hk, HA, ⟨fun h => by rw [HY.out]; exact HH.out⟩, ⟨Kd.R_below HR.out (pw_below_drewN (Below.refl _ _) _)⟩, ⟨pw_below_drewN HB.out _⟩, HX⟩
            · obtain rfl : k = ys.length := by omega
              go_wp2
              go_quiet (fail)
              go_wp2
              go_meet
              case rel => exact ⟨_, rfl, Nat.le_refl _, HA, ⟨fun h => absurd h (Nat.lt_irrefl _)⟩, ⟨Kd.R_below HR.out (pw_below_drewN (Below.refl _ _) _)⟩, ⟨pw_below_drewN HB.out _⟩, HX⟩
        obtain ⟨k, rfl, hk, HA, HE, HR2, HB2, HX2⟩ := hcut
        clear HR1 HB1 HX1
        obtain ⟨A9, c9, e9, -, hC9⟩ := Kd.R_reads HR2.out
        injection e9 with e9 _ e10
        subst e9
        subst e10
        obtain ⟨ti, hti, htz⟩ := Option.map_eq_some_iff.1 info41
        obtain ⟨A2, hA2⟩ : ∃ A2 : Option Addr, A2 = (if cl = k then Al else Al.map (·.add (k * 5))) := ⟨_, rfl⟩
        have hcut1 : ∀ W : World, (Instr.slice 39 (.slice Al ys.length cl) none (some (.int .i64 (k : Int))) (some (.int .i64 (k : Int)))).run Try.prog W = .ok (.slice Al k k) W := fun W => by
          have h := cut_cap41 hti Al ys.length cl (k : Int) (by omega) (by omega) hcl W
          rwa [Int.toNat_natCast] at h
        have hcut2 : ∀ W : World, (Instr.slice 39 (.slice Al ys.length cl) (some (.int .i64 (k : Int))) none none).run Try.prog W = .ok (.slice A2 (ys.length - k) (cl - k)) W := fun W => by
          have h := cut_from (P := Try.prog) 39 41 .i64 Try.underlying39 hti 5 (by injection htz with h1 h2; injection h2) Al ys.length cl (k : Int) (by omega) (by omega) W
          rw [Int.toNat_natCast] at h
          rw [hA2]; exact h
        have HC1 := Aside0.mk (show Kd.C k41 wc Al k (ys.take k) by have h := Kd.C_take hC9 (m := k) (by omega); rwa [List.length_take, Nat.min_eq_left (by omega)] at h)
        have HC2 := Aside0.mk (show Kd.C k41 wc A2 (ys.length - k) (ys.drop k) by have h := Kd.C_drop hC9 (m := k) (by omega) hcl; rw [List.length_drop] at h; rw [hA2]; exact h)
        have HC0 := Aside0.mk hC9
        obtain ⟨s0, s1, s2, s3, s4⟩ := xcells HX2.out
        have hltB := blk_lt HX2.out
        clear hA2 htz hti hC9
        have HBD := Aside0.mk (below_alloc (below_drew (Below.refl wc.heap.size wc)) (.cells #[.int .i64 f.f0, .int .i64 f.f1, .int .i64 f.f2, .string f.f3, .string f.f4] 41))
        obtain ⟨L72, hL⟩ : ∃ L, ([f] ++ ys.drop k).length = L := ⟨_, rfl⟩
        have HL := Aside0.mk hL
        have hL2 : L72 ≤ 401 := by rw [← hL]; simp; omega
        clear hL
        go_wp2
        go_region_law (first
          | (refine Kd.R_append_rows_step k41 (w0 := w) w.heap.size (by rfl) (.tmp 68) (.tmp 71) 39 41 (.agg #[.int .i64 0, .int .i64 0, .int .i64 0, .string ⟨#[]⟩, .string ⟨#[]⟩]) 56 rfl Try.underlying39 info41 rfl (by decide) (by decide) (.slice (some ⟨wc.drew.heap.size, 0, none⟩) 1 1) [f] (ys.drop k) A2 (ys.length - k) (cl - k) (fun _ => True) (fun _ => False) (by rfl) (by rfl) (lit41_R wc.drew w.heap.size HB2.out.size f) (ReadsRow.imp_ HC2.out HBD.out (fun x cs h => by rw [k41_open h]; exact k41_mkM _ _ _ x)) (fun _ _ h => h) (fun _ h => h.elim) (fun _ _ => trivial) (below_alloc (below_drew HB2.out) _) (below_alloc (below_drew HB2.out) _).size (by simp; omega) ?_
             intro v72 w72 hR72 hb72 hg72 hat72
             obtain ⟨A72, c72, e72, -, hC72⟩ := Kd.R_reads hR72
             rw [HL.out] at e72 hC72
             subst e72
             have HC72 := Aside0.mk hC72
             have HB72 := Aside0.mk hb72
             have HW72 := Aside0.mk (show Below wc.heap.size wc w72 from HBD.out.grown hg72 HBD.out.size (fun k hk => by simp [Value.ownBlock] at hk; omega))
             clear hR72 hb72 hg72 hat72 hC72)
          | (refine append_full_step (w0 := w) w.heap.size (by rfl) (.tmp 66) (.tmp 72) rfl Al k (ys.take k) ([f] ++ ys.drop k) A72 L72 c72 (fun _ => True) (by rfl) (by rfl) (Kd.C_below HC1.out HW72.out) HC72.out (by simp) (fun _ _ => trivial) HB72.out HB72.out.size (by rw [List.length_take]; omega) ?_
             intro v73 w73 hR73 hb73 hg73 hat73
             have HR73 := Aside0.mk hR73
             have HB73 := Aside0.mk hb73
             clear hR73 hb73 hg73 hat73))
        all_goals
          go_wp2
          go_roundw
          (case rel => exact ⟨j + 1, by omega, by go_num, ⟨by rw [HN.out, ← insR_at hk HA.out HE.out]; exact HR73.out⟩, HB73⟩)
          (case measure => simp [intOf]; omega)
      · have HN := Aside0.mk (show levR n (v.files.take (j + 1)) = ys by rw [HT.out, if_neg (fun h => hq (beq_iff_eq.1 h))])
        have h1 : (f.f1 != n) = true := bne_iff_ne.mpr hq
        go_wp2
        go_roundw
        case rel => exact ⟨j + 1, by omega, by go_num, ⟨by rw [HN.out]; exact HR1.out⟩, HB1⟩
        case measure => simp [intOf]; omega
    · obtain rfl : j = v.files.length := by omega
      rw [List.take_length] at HR
      go_wp2
      go_ret
      exact ⟨_, rfl, HR.out, HB.out⟩
end Go.Proofs.Ytjhijcehcklipaa.MVe
