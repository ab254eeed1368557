/-
  The document's Over; the law's Cut, walked.
-/
import Derived.Test.YtjhijcehcklipaaZVeR6
namespace Go.Proofs.Ytjhijcehcklipaa.MVe
open Go.RowKit Go.Proofs.YtjhijcehcklipaaW.PrintWords Go.Proofs.YtjhijcehcklipaaW.PrintLast Go.Proofs.YtjhijcehcklipaaW.PrintMore
attribute [local go_sem] max2_int min2_int max_two min_two max_three min_three max_four min_four
set_option linter.unusedVariables false
set_option linter.unusedSimpArgs false

def keepO (sx sy : ByteArray) (f : S41) : Bool := leS sx sy && (leS f.f3 sy && leS sx f.f4)
def overR (n : Int) (sx sy : ByteArray) (files : List S41) : List S41 := (levR n files).filter (keepO sx sy)
theorem filter_take {p : S41 → Bool} {xs : List S41} {j : Nat} (h : j < xs.length) : (xs.take (j + 1)).filter p = (xs.take j).filter p ++ (if p xs[j] = true then [xs[j]] else []) := by
  rw [List.take_succ_eq_append_getElem h, filter_snoc]
set_option maxHeartbeats 4000000 in
set_option maxRecDepth 100000 in
theorem ROver.calls (w0 : World) (P : Nat → Prop) (g : Nat) (v : Ver) (n : Int) (sx sy : ByteArray) (w : World) (hI : RInv w0 P g v w) (hl : v.files.length ≤ 400) :
    Calls Try.prog 68 #[.pointer (some ⟨g, 0, none⟩), .int .i64 n, .string sx, .string sy] w fun e w' => ∃ vf, e = .returned vf ∧ Kd.R k41 41 w' w.heap.size (fun _ => True) vf (overR n sx sy v.files) ∧ Below w.heap.size w w' := by
  have hu41 := Try.underlying41
  have HI := Aside0.mk hI
  clear hI
  have HLL := Aside0.mk (levR_len n v.files)
  obtain ⟨ls, hls⟩ : ∃ ls, levR n v.files = ls := ⟨_, rfl⟩
  unfold overR
  rw [hls]
  go_enter Try.func68, Try.ntmps68
  go_wp2_with (
    go_at_call 71
    refine (RLevel.calls w0 P g v n _ HI.out hl).mono ?_
    rintro e w1 ⟨vf, rfl, hR, hb⟩
    rw [hls] at hR
    obtain ⟨A1, c1, e1, hc1, hC1⟩ := Kd.R_reads hR
    subst e1
    have HC1 := Aside0.mk hC1
    have HB1 := Aside0.mk hb
    clear hR hb hC1)
  have hll : ls.length ≤ 400 := by have := HLL.out; rw [hls] at this; omega
  clear hls HLL
  go_loopw [9, 11] (fun s i wr => ∃ j : Nat, j ≤ ls.length ∧ i = .int .i64 j ∧ Aside0 (Kd.R k41 41 wr w1.heap.size (fun _ => True) s ((ls.take j).filter (keepO sx sy))) ∧ Aside0 (Below w1.heap.size w1 wr)) (fun _ i _ => ls.length - (intOf i).toNat)
  case atStart => exact ⟨0, Nat.zero_le _, rfl, ⟨Kd.R_nil _ _ _ _ _⟩, ⟨Below.refl _ _⟩⟩
  case round =>
    obtain ⟨j, hj, rfl, HR, HB⟩ := hrel
    by_cases hlt : j < ls.length
    · obtain ⟨ad, ea, hx0, hx1, hx2, hx3, hx4⟩ := at_T41 (Kd.C_below HC1.out HB.out) (j : Int) (by omega) (by omega)
      cases ea
      rw [rd_at hlt, Int.toNat_natCast] at hx0 hx1 hx2 hx3 hx4
      have HT := Aside0.mk (filter_take (p := keepO sx sy) hlt)
      have HYL := Aside0.mk (show ((ls.take j).filter (keepO sx sy)).length ≤ 400 from Nat.le_trans (List.length_filter_le _ _) (by rw [List.length_take]; omega))
      obtain ⟨f, hff⟩ : ∃ f, ls[j] = f := ⟨_, rfl⟩
      rw [hff] at hx0 hx1 hx2 hx3 hx4 HT
      clear hff
      cases h1 : leS sx sy with
      | false =>
        have HK := Aside0.mk (show keepO sx sy f = false by unfold keepO; rw [h1]; rfl)
        unfold leS at h1
        go_wp2
        go_roundw
        case rel => exact ⟨j + 1, by omega, by go_num, ⟨by rw [HT.out, HK.out, if_neg (by decide), List.append_nil]; exact HR.out⟩, HB⟩
        case measure => simp [intOf]; omega
      | true =>
        have H1 := Aside0.mk h1
        unfold leS at h1
        cases h2 : leS f.f3 sy with
        | false =>
          have HK := Aside0.mk (show keepO sx sy f = false by unfold keepO; rw [h2, Bool.false_and, Bool.and_false])
          unfold leS at h2
          go_wp2
          go_roundw
          case rel => exact ⟨j + 1, by omega, by go_num, ⟨by rw [HT.out, HK.out, if_neg (by decide), List.append_nil]; exact HR.out⟩, HB⟩
          case measure => simp [intOf]; omega
        | true =>
          have H2 := Aside0.mk h2
          unfold leS at h2
          cases h3 : leS sx f.f4 with
          | false =>
            have HK := Aside0.mk (show keepO sx sy f = false by unfold keepO; rw [h3, Bool.and_false, Bool.and_false])
            unfold leS at h3
            go_wp2
            go_roundw
            case rel => exact ⟨j + 1, by omega, by go_num, ⟨by rw [HT.out, HK.out, if_neg (by decide), List.append_nil]; exact HR.out⟩, HB⟩
            case measure => simp [intOf]; omega
          | true =>
            have HK := Aside0.mk (show keepO sx sy f = true by unfold keepO; rw [H1.out, H2.out, h3]; rfl)
            unfold leS at h3
            go_wp2_with (
              at_builtin
              refine Kd.R_append k41 (w0 := w1) w1.heap.size rfl (.tmp 42) (.tmp 47) 39 41 (.agg #[.int .i64 0, .int .i64 0, .int .i64 0, .string ⟨#[]⟩, .string ⟨#[]⟩]) 56 rfl Try.underlying39 info41 rfl (by decide) (by omega) u9 ((ls.take j).filter (keepO sx sy)) f [.int .i64 f.f0, .int .i64 f.f1, .int .i64 f.f2, .string f.f3, .string f.f4] (fun _ => True) (fun _ => False) rfl (by first | (go_simp; done) | (go_simp; rfl)) ?aP (fun _ hk => hk.elim) (fun _ _ => trivial) ?aO ?aB ?aS ?aL ?_
              (case aP => exact k41_mkM _ _ _ f)
              (case aO => exact HR.out)
              (case aB => exact HB.out)
              (case aS => exact HB.out.size)
              (case aL => have := HYL.out; omega)
              intro v3 w3 ho hb hg hat
              have HR3 := Aside0.mk ho
              have HB3 := Aside0.mk hb
              clear ho hb hg hat)
            go_roundw
            case rel => exact ⟨j + 1, by omega, by go_num, ⟨by rw [HT.out, HK.out, if_pos rfl]; exact HR3.out⟩, HB3⟩
            case measure => simp [intOf]; omega
    · obtain rfl : j = ls.length := by omega
      rw [List.take_length] at HR
      go_wp2
      go_ret
      exact ⟨_, rfl, Kd.R_lower HR.out HB1.out.size, below_step HB1.out HB.out⟩
/-- .. of levels that are. -/
def overL (n : Int) (sx sy : ByteArray) (files : List S41) : List S41 := if n < 0 ∨ 5 ≤ n then [] else overR n sx sy files
set_option maxHeartbeats 4000000 in
set_option maxRecDepth 100000 in
theorem over_.calls (w0 : World) (P : Nat → Prop) (g : Nat) (v : Ver) (n : Int) (sx sy : ByteArray) (w : World) (hI : RInv w0 P g v w) (hl : v.files.length ≤ 400) :
    Calls Try.prog 30 #[.pointer (some ⟨g, 0, none⟩), .int .i64 n, .string sx, .string sy] w fun e w' => ∃ vf, e = .returned vf ∧ Kd.R k41 41 w' w.heap.size (fun _ => True) vf (overL n sx sy v.files) ∧ Below w.heap.size w w' := by
  have HI := Aside0.mk hI
  have HB := Aside0.mk (Below.refl w.heap.size w)
  clear hI
  unfold overL
  by_cases c1 : n < 0
  · rw [if_pos (.inl c1)]
    have e1 : decide (n < 0) = true := decide_eq_true c1
    clear c1
    go_enter Try.func30, Try.ntmps30
    go_wp2
    go_ret
    exact ⟨_, rfl, Kd.R_nil _ _ _ _ _, HB.out⟩
  · have e1 : decide (n < 0) = false := decide_eq_false c1
    by_cases c2 : 5 ≤ n
    · rw [if_pos (.inr c2)]
      have e2 : decide (5 ≤ n) = true := decide_eq_true c2
      clear c1 c2
      go_enter Try.func30, Try.ntmps30
      go_wp2
      go_ret
      exact ⟨_, rfl, Kd.R_nil _ _ _ _ _, HB.out⟩
    · rw [if_neg (fun h => h.elim c1 c2)]
      have e2 : decide (5 ≤ n) = false := decide_eq_false c2
      clear c1 c2
      go_enter Try.func30, Try.ntmps30
      go_wp2_with (
        go_at_call 68
        refine (ROver.calls w0 P g v n sx sy _ HI.out hl).mono ?_
        rintro e w1 ⟨vf, rfl, hR, hb⟩
        have HR1 := Aside0.mk hR
        have HB1 := Aside0.mk hb
        clear hR hb)
      go_ret
      exact ⟨_, rfl, HR1.out, HB1.out⟩
/-- The program's Over is the document's. -/
theorem over_eq {v : Ver} (h : VGood v) {n : Int} {sx sy : ByteArray} {zs : List S41} (ho : OverOf n sx sy v.files zs) : zs = overL n sx sy v.files := by
  unfold overL
  unfold OverOf at ho
  by_cases hn : n < 0 ∨ 5 ≤ n
  · rw [if_pos hn]
    have he := levR_out h (n := n) (by omega)
    split at ho
    · obtain ⟨ys, hy, rfl⟩ := ho
      rw [lev_eq h hy, he]; rfl
    · exact ho
  · rw [if_neg hn]
    unfold overR
    split at ho
    · rename_i hs
      obtain ⟨ys, hy, rfl⟩ := ho
      rw [lev_eq h hy]
      refine List.filter_congr fun f hf => ?_
      have hok := h.ok f (List.mem_filter.1 ((levR_perm n v.files).subset hf)).1
      have hfs := fileOk_span hok
      rw [Bool.eq_iff_iff, meet_iff]
      unfold keepO
      rw [hs, Bool.true_and, Bool.and_eq_true]
      exact ⟨fun h => ⟨h.1.2, h.2.1⟩, fun h => ⟨⟨hfs, h.1⟩, h.2, by first | exact hs | rfl⟩⟩
    · rename_i hs
      rw [ho]
      refine (List.filter_eq_nil_iff.2 fun f hf => ?_).symm
      unfold keepO
      rw [Bool.eq_false_iff.2 hs, Bool.false_and]
      exact Bool.false_ne_true
/-- Cut, plainly. -/
def cut20 (s : ByteArray) : ByteArray := if (s.size : Int) > 20 then s.extract 0 20 else s
def cutF (x : S41) : S41 := ⟨x.f0, x.f1, x.f2, cut20 x.f3, cut20 x.f4⟩
theorem cut20_f (s : ByteArray) : incipitlaw1_Cut.f s 20 = some (cut20 s) := by
  unfold incipitlaw1_Cut.f cut20
  by_cases h : (s.size : Int) > 20
  · rw [if_pos h, if_pos h, if_pos (by omega), if_pos (by omega)]; rfl
  · rw [if_neg h, if_neg h]
theorem info45 : (Try.prog.info? 45).map (fun i => i.size) = some 5 := by kernel_rfl
/-- Cut's state: the edit's box, the result's block. -/
structure CSt (w : World) (n l m : Int) (va vd : Value) (W : World) : Prop where
  below : Below w.heap.size w W
  box : W.heap[w.heap.size]? = some (.cells #[.int .i64 n, .int .i64 l, .int .i64 m, va, vd] 45 (0, 0))
  res : W.heap[w.heap.size + 1]? = some (.cells #[.int .i64 0, .int .i64 0, .int .i64 0, .slice none 0 0, .slice none 0 0] 45 (0, 0))
theorem CSt.step {w W W2 : World} {n l m : Int} {va vd : Value} (h : CSt w n l m va vd W) (hb : Below W.heap.size W W2) : CSt w n l m va vd W2 := by
  obtain ⟨h1, h2, h3⟩ := h
  exact ⟨below_then h1 h1.size hb, (hb.block _ (blk_lt h2)).trans h2, (hb.block _ (blk_lt h3)).trans h3⟩
theorem CSt.set3 {w W : World} {n l m : Int} {va vd : Value} (h : CSt w n l m va vd W) (u : Value) : CSt w n l m u vd (W.setCell ⟨w.heap.size, 3, none⟩ u) := by
  obtain ⟨h1, h2, h3⟩ := h
  exact ⟨h1.setCell (p := ⟨w.heap.size, 3, none⟩) (Nat.le_refl _) _, (blk_set h2 3 _).trans rfl, blk_far (p := ⟨w.heap.size, 3, none⟩) h3 (by simp) _⟩
theorem CSt.set4 {w W : World} {n l m : Int} {va vd : Value} (h : CSt w n l m va vd W) (u : Value) : CSt w n l m va u (W.setCell ⟨w.heap.size, 4, none⟩ u) := by
  obtain ⟨h1, h2, h3⟩ := h
  exact ⟨h1.setCell (p := ⟨w.heap.size, 4, none⟩) (Nat.le_refl _) _, (blk_set h2 4 _).trans rfl, blk_far (p := ⟨w.heap.size, 4, none⟩) h3 (by simp) _⟩
theorem CSt.put {w W : World} {n l m : Int} {va vd : Value} (h : CSt w n l m va vd W) {B : Nat} (hB : w.heap.size + 1 < B) (j : Nat) (u : Value) : CSt w n l m va vd (W.setCell ⟨B, j, none⟩ u) := by
  obtain ⟨h1, h2, h3⟩ := h
  exact ⟨h1.setCell (p := ⟨B, j, none⟩) (show w.heap.size ≤ B by omega) _, blk_far (p := ⟨B, j, none⟩) h2 (show w.heap.size ≠ B by omega) _, blk_far (p := ⟨B, j, none⟩) h3 (show w.heap.size + 1 ≠ B by omega) _⟩
theorem CSt.all {w W : World} {n l m : Int} {va vd : Value} (h : CSt w n l m va vd W) : (W.cell? ⟨w.heap.size, 0, none⟩ = some (.int .i64 n) ∧ W.cell? ⟨w.heap.size, 1, none⟩ = some (.int .i64 l) ∧ W.cell? ⟨w.heap.size, 2, none⟩ = some (.int .i64 m)) ∧ (W.cell? ⟨w.heap.size + 1, 0, none⟩ = some (.int .i64 0) ∧ W.cell? ⟨w.heap.size + 1, 1, none⟩ = some (.int .i64 0) ∧ W.cell? ⟨w.heap.size + 1, 2, none⟩ = some (.int .i64 0) ∧ W.cell? ⟨w.heap.size + 1, 3, none⟩ = some (.slice none 0 0) ∧ W.cell? ⟨w.heap.size + 1, 4, none⟩ = some (.slice none 0 0)) ∧
    W.frozen? ⟨w.heap.size + 1, 0, none⟩ = false ∧ W.frozen? ⟨w.heap.size + 1, 1, none⟩ = false ∧ W.frozen? ⟨w.heap.size + 1, 2, none⟩ = false ∧ W.frozen? ⟨w.heap.size + 1, 3, none⟩ = false ∧ W.frozen? ⟨w.heap.size + 1, 4, none⟩ = false :=
  ⟨⟨(blk_cell h.box 0).trans rfl, (blk_cell h.box 1).trans rfl, (blk_cell h.box 2).trans rfl⟩, ⟨(blk_cell h.res 0).trans rfl, (blk_cell h.res 1).trans rfl, (blk_cell h.res 2).trans rfl, (blk_cell h.res 3).trans rfl, (blk_cell h.res 4).trans rfl⟩, blk_frozen h.res 0, blk_frozen h.res 1, blk_frozen h.res 2, blk_frozen h.res 3, blk_frozen h.res 4⟩
theorem CSt.cells {w W : World} {n l m : Int} {va vd : Value} (h : CSt w n l m va vd W) : W.cell? ⟨w.heap.size, 3, none⟩ = some va ∧ W.cell? ⟨w.heap.size, 4, none⟩ = some vd ∧ W.frozen? ⟨w.heap.size, 3, none⟩ = false ∧ W.frozen? ⟨w.heap.size, 4, none⟩ = false :=
  ⟨(blk_cell h.box 3).trans rfl, (blk_cell h.box 4).trans rfl, blk_frozen h.box 3, blk_frozen h.box 4⟩
theorem CSt.grown {w W W2 : World} {n l m : Int} {va vd : Value} {row : Option Nat} (h : CSt w n l m va vd W) (hg : W.grownBy W2 row) (hr : ∀ k, row = some k → w.heap.size + 1 < k) : CSt w n l m va vd W2 := by
  obtain ⟨h1, h2, h3⟩ := h
  exact ⟨h1.grown hg h1.size (fun k hk => by have := hr k hk; omega), blk_grown h2 hg (fun e => by have := hr _ e.symm; omega), blk_grown h3 hg (fun e => by have := hr _ e.symm; omega)⟩
set_option maxHeartbeats 4000000 in
set_option maxRecDepth 100000 in
theorem Cut.calls (n l m : Int) (Aa Ad : Option Addr) (ca cd : Nat) (adds : List S41) (dels : List Int) (w : World) (ha : Kd.C k41 w Aa adds.length adds) (hca : adds.length ≤ ca) (hd : Kd.C (Kd.int .i64) w Ad dels.length dels) (hcd : dels.length ≤ cd) :
    Calls Try.prog 66 #[.agg #[.int .i64 n, .int .i64 l, .int .i64 m, .slice Aa adds.length ca, .slice Ad dels.length cd]] w fun e w' => ∃ Al cl, e = .returned (.agg #[.int .i64 n, .int .i64 l, .int .i64 m, .slice Al ((adds.take 12).map cutF).length cl, .slice Ad (dels.take 12).length cd]) ∧
      Kd.R k41 41 w' w.heap.size (fun _ => True) (.slice Al ((adds.take 12).map cutF).length cl) ((adds.take 12).map cutF) ∧ Below w.heap.size w w' := by
  have hu41 := Try.underlying41
  have hu45 := Try.underlying45
  have hmax : adds.length ≤ 9223372036854775807 := Kd.C_max ha
  have hmaxd : dels.length ≤ 9223372036854775807 := Kd.C_max hd
  obtain ⟨ti, hti, htz⟩ := Option.map_eq_some_iff.1 info41
  obtain ⟨tj, htj, -⟩ := Option.map_eq_some_iff.1 info2
  have HA := Aside0.mk ha
  have HD := Aside0.mk hd
  obtain ⟨na, hna⟩ : ∃ na, na = min adds.length 12 := ⟨_, rfl⟩
  obtain ⟨nd, hnd⟩ : ∃ nd, nd = min dels.length 12 := ⟨_, rfl⟩
  have hl1 : ((adds.take 12).map cutF).length = na := by rw [List.length_map, List.length_take]; omega
  have hl2 : (dels.take 12).length = nd := by rw [List.length_take]; omega
  rw [hl1, hl2]
  have HNA := Aside0.mk hna
  have HND := Aside0.mk hnd
  have HL1 := Aside0.mk hl1
  clear ha hd hna hnd hl1 hl2
  have HB := Aside0.mk (below_alloc (below_alloc (Below.refl w.heap.size w) (.cells #[.int .i64 n, .int .i64 l, .int .i64 m, .slice Aa adds.length ca, .slice Ad dels.length cd] 45)) (.cells #[.int .i64 0, .int .i64 0, .int .i64 0, .slice none 0 0, .slice none 0 0] 45))
  go_enter Try.func66, Try.ntmps66
  go_upto_region 1 with (fail)
  have HS0 := Aside0.mk (show CSt w n l m (.slice Aa adds.length ca) (.slice Ad dels.length cd) ((w.alloc (.cells #[.int .i64 n, .int .i64 l, .int .i64 m, .slice Aa adds.length ca, .slice Ad dels.length cd] 45)).alloc (.cells #[.int .i64 0, .int .i64 0, .int .i64 0, .slice none 0 0, .slice none 0 0] 45)) from ⟨HB.out, blk_alloc (blk_new _ _) _, by have h := blk_new (w.alloc (.cells #[.int .i64 n, .int .i64 l, .int .i64 m, .slice Aa adds.length ca, .slice Ad dels.length cd] 45)) (.cells #[.int .i64 0, .int .i64 0, .int .i64 0, .slice none 0 0, .slice none 0 0] 45); simpa using h⟩)
  obtain ⟨W, hW⟩ : ∃ W, W = ((w.alloc (.cells #[.int .i64 n, .int .i64 l, .int .i64 m, .slice Aa adds.length ca, .slice Ad dels.length cd] 45)).alloc (.cells #[.int .i64 0, .int .i64 0, .int .i64 0, .slice none 0 0, .slice none 0 0] 45)) := ⟨_, rfl⟩
  rw [← hW] at HS0
  rw [← hW]
  clear hW HB
  obtain ⟨q3, q4, f3, f4⟩ := HS0.out.cells
  go_upto_if 9 with (fail)
  go_cut [] (fun wc => Aside0 (CSt w n l m (.slice Aa na ca) (.slice Ad dels.length cd) wc))
  case first =>
    by_cases c : (12 : Int) < adds.length
    · have e1 : decide ((12 : Int) < (adds.length : Int)) = true := decide_eq_true c
      have hcut : ∀ W : World, (Instr.slice 39 (.slice Aa adds.length ca) none (some (.int .i64 12)) none).run Try.prog W = .ok (.slice Aa 12 ca) W := fun W => cut_to (P := Try.prog) 39 41 .i64 Try.underlying39 hti Aa adds.length ca 12 (by omega) (by omega) hca W
      have E2 := Aside0.mk (show na = 12 by have := HNA.out; omega)
      rw [e1]
      go_wp2
      go_meet
      case rel => exact ⟨by rw [E2.out]; exact HS0.out.set3 _⟩
    · have e1 : decide ((12 : Int) < (adds.length : Int)) = false := decide_eq_false c
      have E2 := Aside0.mk (show na = adds.length by have := HNA.out; omega)
      rw [e1]
      go_wp2
      go_meet
      case rel => exact ⟨by rw [E2.out]; exact HS0.out⟩
  have HS := hcut
  clear hcut HS0 q3 q4 f3 f4
  have hna2 : na ≤ adds.length ∧ na ≤ 12 := by have := HNA.out; omega
  go_wp2
  go_loopw [3, 4] (fun s i wr => ∃ j : Nat, j ≤ na ∧ i = .int .i64 j ∧ Aside0 (Kd.R k41 41 wr w.heap.size (fun k => w.heap.size + 1 < k) s ((adds.take j).map cutF)) ∧ Aside0 (CSt w n l m (.slice Aa na ca) (.slice Ad dels.length cd) wr)) (fun _ i _ => na - (intOf i).toNat)
  case atStart => exact ⟨0, Nat.zero_le _, rfl, ⟨Kd.R_nil _ _ _ _ _⟩, HS⟩
  case round =>
    clear HS
    obtain ⟨j, hj, rfl, HR, HS⟩ := hrel
    obtain ⟨q3, q4, f3, f4⟩ := HS.out.cells
    by_cases hlt : j < na
    · have hlt2 : j < adds.length := by omega
      obtain ⟨ad, ea, hx0, hx1, hx2, hx3, hx4⟩ := at_T41 (Kd.C_below HA.out HS.out.below) (j : Int) (by omega) (by omega)
      cases ea
      rw [rd_at hlt2, Int.toNat_natCast] at hx0 hx1 hx2 hx3 hx4
      have HT := Aside0.mk (show (adds.take (j + 1)).map cutF = (adds.take j).map cutF ++ [cutF adds[j]] by rw [List.take_succ_eq_append_getElem hlt2, List.map_append]; rfl)
      have HL := Aside0.mk (show ((adds.take j).map cutF).length ≤ 12 by rw [List.length_map, List.length_take]; omega)
      obtain ⟨x, hxx⟩ : ∃ x, adds[j] = x := ⟨_, rfl⟩
      rw [hxx] at hx0 hx1 hx2 hx3 hx4 HT
      clear hxx
      go_upto_region 8 with (fail)
      have hltS := blk_lt HS.out.res
      have HS1 := Aside0.mk (HS.out.step (below_alloc (Below.refl _ _) (.cells #[.int .i64 x.f0, .int .i64 x.f1, .int .i64 x.f2, .string x.f3, .string x.f4] 41)))
      have HX1 := Aside0.mk (blk_new wr (.cells #[.int .i64 x.f0, .int .i64 x.f1, .int .i64 x.f2, .string x.f3, .string x.f4] 41))
      have HR1 := Aside0.mk (Kd.R_below (Kd.R_mono (Kd.R_bound HR.out) (fun k hk => (⟨hk.1, Nat.ne_of_lt hk.2.2.1⟩ : w.heap.size + 1 < k ∧ k ≠ wr.heap.size))) (below_alloc (Below.refl _ _) (.cells #[.int .i64 x.f0, .int .i64 x.f1, .int .i64 x.f2, .string x.f3, .string x.f4] 41)))
      obtain ⟨W1, hW⟩ : ∃ W, W = wr.alloc (.cells #[.int .i64 x.f0, .int .i64 x.f1, .int .i64 x.f2, .string x.f3, .string x.f4] 41) := ⟨_, rfl⟩
      rw [← hW] at HS1 HX1 HR1
      rw [← hW]
      obtain ⟨B, hB⟩ : ∃ B, wr.heap.size = B := ⟨_, rfl⟩
      simp only [hB] at HX1 HR1 hltS ⊢
      clear hx0 hx1 hx2 hx3 hx4 q3 q4 f3 f4 hW hB
      obtain ⟨s0, s1, s2, s3, s4⟩ := xcells HX1.out
      have z3 := blk_frozen HX1.out 3
      have z4 := blk_frozen HX1.out 4
      have hcf : cutF x = ⟨x.f0, x.f1, x.f2, cut20 x.f3, cut20 x.f4⟩ := rfl
      have hc3 := cut20_f x.f3
      have hc4 := cut20_f x.f4
      obtain ⟨y3, hy3⟩ : ∃ y, cut20 x.f3 = y := ⟨_, rfl⟩
      obtain ⟨y4, hy4⟩ : ∃ y, cut20 x.f4 = y := ⟨_, rfl⟩
      rw [hy3] at hc3 hcf
      rw [hy4] at hc4 hcf
      rw [hcf] at HT
      have H3 := Aside0.mk hc3
      have H4 := Aside0.mk hc4
      clear hy3 hy4 hcf hc3 hc4
      go_region_with (first
        | (go_at_call 87
           (with_reducible refine (incipitlaw1_Cut.calls x.f3 20 y3 _ H3.out).mono ?_)
           rintro e w5 ⟨rfl, ⟨nd1, rfl⟩⟩)
        | (go_at_call 87
           (with_reducible refine (incipitlaw1_Cut.calls x.f4 20 y4 _ H4.out).mono ?_)
           rintro e w5 ⟨rfl, ⟨nd2, rfl⟩⟩))
      all_goals
        obtain ⟨W2, hW2⟩ : ∃ W2, W2 = (((W1.drewN (1 + nd1 + nd2)).setCell ⟨B, 3, none⟩ (.string y3)).setCell ⟨B, 4, none⟩ (.string y4)) := ⟨_, rfl⟩
        have HS2 := Aside0.mk (((HS1.out.step (pw_below_drewN (Below.refl _ _) (1 + nd1 + nd2))).put hltS 3 (.string y3)).put hltS 4 (.string y4))
        have HX2 := Aside0.mk ((blk_set (blk_set (show (W1.drewN (1 + nd1 + nd2)).heap[B]? = _ from HX1.out) 3 (.string y3)) 4 (.string y4)).trans (show _ = some (.cells #[.int .i64 x.f0, .int .i64 x.f1, .int .i64 x.f2, .string y3, .string y4] 41 (0, 0)) from rfl))
        have HR2 := Aside0.mk (Kd.R_far (Kd.R_far (Kd.R_below HR1.out (pw_below_drewN (Below.refl _ _) (1 + nd1 + nd2))) (p := ⟨B, 3, none⟩) (fun k hk => hk.2) (.string y3)) (p := ⟨B, 4, none⟩) (fun k hk => hk.2) (.string y4))
        rw [← hW2] at HS2 HX2 HR2
        rw [← hW2]
        clear hW2 s0 s1 s2 s3 s4 z3 z4 HX1
        obtain ⟨x', hx'⟩ : ∃ x' : S41, x' = ⟨x.f0, x.f1, x.f2, y3, y4⟩ := ⟨_, rfl⟩
        have HX3 := Aside0.mk (show W2.heap[B]? = some (.cells #[.int .i64 x'.f0, .int .i64 x'.f1, .int .i64 x'.f2, .string x'.f3, .string x'.f4] 41 (0, 0)) by rw [hx']; exact HX2.out)
        rw [← hx'] at HT
        have hltB := blk_lt HX3.out
        clear hx' HX2
        obtain ⟨s0, s1, s2, s3, s4⟩ := xcells HX3.out
        go_wp2_with (
          at_builtin
          refine Kd.R_append k41 (w0 := w) w.heap.size rfl (.tmp 34) (.tmp 36) 39 41 (.agg #[.int .i64 0, .int .i64 0, .int .i64 0, .string ⟨#[]⟩, .string ⟨#[]⟩]) 56 rfl Try.underlying39 info41 rfl (by decide) (by omega) u3 ((adds.take j).map cutF) x' [.int .i64 x'.f0, .int .i64 x'.f1, .int .i64 x'.f2, .string x'.f3, .string x'.f4] (fun k => w.heap.size + 1 < k) (fun _ => False) rfl (by first | (go_simp; done) | (go_simp; rfl)) ?aP (fun _ hk => hk.elim) ?aF ?aO ?aB ?aS ?aL ?_
          (case aP => exact k41_mkM _ _ _ x')
          (case aF => exact fun k hk => by have h1 : B < W2.heap.size := hltB; have h2 : W2.heap.size ≤ k := hk; omega)
          (case aO => exact Kd.R_mono HR2.out (fun k hk => hk.1))
          (case aB => exact HS2.out.below)
          (case aS => exact HS2.out.below.size)
          (case aL => have := HL.out; omega)
          intro v3 w3 ho hb hg hat
          have HR3 := Aside0.mk ho
          have HS3 := Aside0.mk (HS2.out.grown hg (fun k hk => (HR2.out.1 k hk).1))
          clear ho hb hg hat)
        go_roundw
        (case rel => first
          | exact ⟨j + 1, by omega, by go_num, ⟨by rw [HT.out]; exact HR3.out⟩, HS3⟩
          | exact ⟨_, _, _, _, _, _, _, _, _, _, _, _, _, _, _, _, _, _, _, _, _, _, _, _, _, _, _, _, _, _, _, _, _, _, ⟨j + 1, by omega, by go_num, ⟨by rw [HT.out]; exact HR3.out⟩, HS3⟩, rfl⟩
          | (trace_state; fail))
        (case measure => simp [intOf]; omega)
    · obtain rfl : j = na := by omega
      have hta : adds.take j = adds.take 12 := by
        by_cases c : 12 ≤ adds.length
        · rw [show j = 12 by have := HNA.out; omega]
        · rw [List.take_of_length_le (by have := HNA.out; omega), List.take_of_length_le (by omega)]
      rw [hta] at HR
      obtain ⟨Al, cl, el, -, -⟩ := Kd.R_reads HR.out
      rw [HL1.out] at el
      subst el
      have HS5 := Aside0.mk (HS.out.set3 (.slice Al j cl))
      have HR5 := Aside0.mk (Kd.R_far HR.out (p := ⟨w.heap.size, 3, none⟩) (fun k hk => by show k ≠ w.heap.size; omega) (.slice Al j cl))
      go_upto_region 11 with (fail)
      obtain ⟨W5, hW5⟩ : ∃ W5, W5 = wr.setCell ⟨w.heap.size, 3, none⟩ (.slice Al j cl) := ⟨_, rfl⟩
      rw [← hW5] at HS5 HR5
      rw [← hW5]
      clear hW5 q3 q4 f3 f4 HR HS hta
      obtain ⟨q3, q4, f3, f4⟩ := HS5.out.cells
      go_upto_if 43 with (fail)
      go_cut [] (fun wc => Aside0 (CSt w n l m (.slice Al j cl) (.slice Ad nd cd) wc) ∧ Aside0 (Kd.R k41 41 wc w.heap.size (fun k => w.heap.size + 1 < k) (.slice Al j cl) ((adds.take 12).map cutF)))
      case first =>
        by_cases c : (12 : Int) < dels.length
        · have e1 : decide ((12 : Int) < (dels.length : Int)) = true := decide_eq_true c
          have hcut : ∀ W : World, (Instr.slice 43 (.slice Ad dels.length cd) none (some (.int .i64 12)) none).run Try.prog W = .ok (.slice Ad 12 cd) W := fun W => cut_to (P := Try.prog) 43 2 .i64 Try.underlying43 htj Ad dels.length cd 12 (by omega) (by omega) hcd W
          have E2 := Aside0.mk (show nd = 12 by have := HND.out; omega)
          rw [e1]
          go_wp2
          go_meet
          case rel => exact ⟨⟨by rw [E2.out]; exact HS5.out.set4 _⟩, ⟨Kd.R_far HR5.out (p := ⟨w.heap.size, 4, none⟩) (fun k hk => by show k ≠ w.heap.size; omega) _⟩⟩
        · have e1 : decide ((12 : Int) < (dels.length : Int)) = false := decide_eq_false c
          have E2 := Aside0.mk (show nd = dels.length by have := HND.out; omega)
          rw [e1]
          go_wp2
          go_meet
          case rel => exact ⟨⟨by rw [E2.out]; exact HS5.out⟩, HR5⟩
      obtain ⟨HS6, HR6⟩ := hcut
      clear HS5 HR5 q3 q4 f3 f4
      obtain ⟨q3, q4, -, -⟩ := HS6.out.cells
      obtain ⟨⟨q0, q1, q2⟩, ⟨r0, r1, r2, r3, r4⟩, z0, z1, z2, z3, z4⟩ := HS6.out.all
      have HE := Aside0.mk (show Below w.heap.size w (((((wc.setCell ⟨w.heap.size + 1, 0, none⟩ (.int .i64 n)).setCell ⟨w.heap.size + 1, 1, none⟩ (.int .i64 l)).setCell ⟨w.heap.size + 1, 2, none⟩ (.int .i64 m)).setCell ⟨w.heap.size + 1, 3, none⟩ (.slice Al j cl)).setCell ⟨w.heap.size + 1, 4, none⟩ (.slice Ad nd cd)) from (((((HS6.out.below.setCell (p := ⟨w.heap.size + 1, 0, none⟩) (Nat.le_succ _) _).setCell (p := ⟨w.heap.size + 1, 1, none⟩) (Nat.le_succ _) _).setCell (p := ⟨w.heap.size + 1, 2, none⟩) (Nat.le_succ _) _).setCell (p := ⟨w.heap.size + 1, 3, none⟩) (Nat.le_succ _) _).setCell (p := ⟨w.heap.size + 1, 4, none⟩) (Nat.le_succ _) _))
      have hne : ∀ k, w.heap.size + 1 < k → k ≠ w.heap.size + 1 := fun k hk => by omega
      have HRE := Aside0.mk (Kd.R_far (Kd.R_far (Kd.R_far (Kd.R_far (Kd.R_far HR6.out (p := ⟨w.heap.size + 1, 0, none⟩) hne (.int .i64 n)) (p := ⟨w.heap.size + 1, 1, none⟩) hne (.int .i64 l)) (p := ⟨w.heap.size + 1, 2, none⟩) hne (.int .i64 m)) (p := ⟨w.heap.size + 1, 3, none⟩) hne (.slice Al j cl)) (p := ⟨w.heap.size + 1, 4, none⟩) hne (.slice Ad nd cd))
      have HRES := Aside0.mk ((blk_set (blk_set (blk_set (blk_set (blk_set HS6.out.res 0 (.int .i64 n)) 1 (.int .i64 l)) 2 (.int .i64 m)) 3 (.slice Al j cl)) 4 (.slice Ad nd cd)).trans (show _ = some (.cells #[.int .i64 n, .int .i64 l, .int .i64 m, .slice Al j cl, .slice Ad nd cd] 45 (0, 0)) from rfl))
      clear hne
      go_wp2
      (try simp only [Exit.inBlock, Exit.then])
      refine bodyPost_ret (results_cell_row (P := Try.prog) rfl _ _ (w.heap.size + 1) 45 #[.int .i64 n, .int .i64 l, .int .i64 m, .slice Al j cl, .slice Ad nd cd] (0, 0) _ rfl HRES.out Try.underlying45 rfl info45) rfl ?_
      exact ⟨Al, cl, rfl, Kd.R_mono HRE.out (fun _ _ => trivial), HE.out⟩
end Go.Proofs.Ytjhijcehcklipaa.MVe
