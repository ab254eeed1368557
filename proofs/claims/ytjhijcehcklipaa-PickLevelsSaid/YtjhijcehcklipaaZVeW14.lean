/-
  Versions: slices.DeleteFunc at tables, by who meets a span.
-/
import Derived.Test.YtjhijcehcklipaaZVeW13
namespace Go.Proofs.Ytjhijcehcklipaa.MVe
open Go.RowKit Go.Proofs.YtjhijcehcklipaaW.PrintWords Go.Proofs.YtjhijcehcklipaaW.PrintLast Go.Proofs.YtjhijcehcklipaaW.PrintMore
attribute [local go_sem] max2_int min2_int max_two min_two max_three min_three max_four min_four
set_option linter.unusedVariables false
set_option linter.unusedSimpArgs false

theorem one_reps {w : World} {b : Nat} {P : Nat → Prop} (x : S41) : Reps (k41.M w b P) 5 [x] (enc5 x) := by
  refine ⟨rfl, fun j p hp => ?_⟩
  obtain ⟨hj, e⟩ := List.getElem?_eq_some_iff.1 hp
  have h0 : j = 0 := by simpa using hj
  subst h0
  have e' : x = p := e
  subst e'
  exact k41_mkM _ _ _ x
/-- A table put in a row's place. -/
theorem R_put {w : World} {b g cap i : Nat} {P : Nat → Prop} {xs : List S41} (x : S41) (hi : i < xs.length) (h : Kd.R k41 41 w b P (.slice (some ⟨g, 0, none⟩) xs.length cap) xs) :
    Kd.R k41 41 (w.setCells g (i * 5) (enc5 x)) b P (.slice (some ⟨g, 0, none⟩) xs.length cap) (xs.set i x) := by
  obtain ⟨hok, inner, ⟨hl, ho⟩, hr⟩ := h
  rcases ho with ⟨ho, _⟩ | ⟨g', cap', cur, e, hg, hblk, hcap, hmax, hsz, hcut⟩
  · cases ho
  · cases e
    have hsz' : cur.size = cap * 5 := hsz
    have hl' : inner.length = xs.length * 5 := hl
    have hcut' : cur.toList.take (xs.length * 5) = inner := hcut
    have hsl : (xs.set i x).length = xs.length := List.length_set ..
    have hcl : cur.toList.length = cap * 5 := by rw [Array.length_toList, hsz']
    refine ⟨hok, inner.take (i * 5) ++ enc5 x ++ inner.drop ((i + 1) * 5), ⟨?_, .inr ⟨g, cap, putL cur (i * 5) (enc5 x), by rw [hsl], hg, setCells_blk _ _ _ _ hblk, by rw [hsl]; exact hcap, hmax, ?_, ?_⟩⟩, ?_⟩
    · rw [List.length_append, List.length_append, List.length_take, List.length_drop, enc5_len, hsl, hl']
      show _ = xs.length * 5
      omega
    · rw [putL_size]; exact hsz
    · rw [hsl]
      show (putL cur (i * 5) (enc5 x)).toList.take (xs.length * 5) = _
      rw [putL_list _ _ _ (by rw [enc5_len, hsz']; omega), ← hcut', enc5_len]
      have e1 : (cur.toList.take (xs.length * 5)).take (i * 5) = cur.toList.take (i * 5) := by rw [List.take_take, Nat.min_eq_left (by omega)]
      rw [e1, List.take_append, List.length_append, List.length_take, enc5_len, hcl, List.take_of_length_le (by rw [List.length_append, List.length_take, enc5_len, hcl]; omega)]
      congr 1
      rw [List.drop_take, show i * 5 + 5 = (i + 1) * 5 by omega]
      congr 1
      omega
    · have hM : ∀ y cs, k41.M w b (fun k => P k ∧ some k ≠ (Value.slice (some ⟨g, 0, none⟩) xs.length cap).ownBlock) y cs → k41.M (w.setCells g (i * 5) (enc5 x)) b (fun k => P k ∧ some k ≠ (Value.slice (some ⟨g, 0, none⟩) xs.length cap).ownBlock) y cs := fun y cs h => by rw [k41_openM h]; exact k41_mkM _ _ _ y
      have hr' := hr.imp_ hM
      rw [List.set_eq_take_append_cons_drop, if_pos hi]
      have := Kd.reps_append (Kd.reps_append (Kd.reps_take hr' (Nat.le_of_lt hi)) (one_reps x)) (Kd.reps_drop (m := i + 1) hr')
      rw [List.append_assoc, List.singleton_append] at this
      exact this
theorem clear_rows (W : World) (b o m c : Nat) (hc : ∀ j, j < (m + 1) * 5 → (W.cell? ⟨b, o + j, none⟩).isSome = true) (hf : ∀ j, j < (m + 1) * 5 → W.frozen? ⟨b, o + j, none⟩ = false) :
    ∃ Z : List Value, Z.length = (m + 1) * 5 ∧ ∀ ty, (Builtin.clear_ #[39] ty #[.slice (some ⟨b, o, none⟩) (m + 1) c]).run Try.prog W = .ok (.tuple #[]) (W.setCells b o Z) := by
  have hsz : (Value.agg zs41.toArray).cells.size = 5 := rfl
  have hone : ∀ k, k < 5 → ((Value.agg zs41.toArray).cells[k]!).oneCell' = true := by
    intro k hk
    have : k = 0 ∨ k = 1 ∨ k = 2 ∨ k = 3 ∨ k = 4 := by omega
    rcases this with rfl | rfl | rfl | rfl | rfl <;> rfl
  have hlen : (Builtin.zeroCells (Value.agg zs41.toArray).cells (m + 1)).toList.length = (m + 1) * 5 := by rw [Array.length_toList]; unfold Builtin.zeroCells; rw [Array.size_map, Array.size_range, hsz]
  refine ⟨(Builtin.zeroCells (Value.agg zs41.toArray).cells (m + 1)).toList, hlen, fun ty => ?_⟩
  have hst := run_storeCells_cells (P := Try.prog) b o (Builtin.zeroCells (Value.agg zs41.toArray).cells (m + 1)).toList 0 W (by rw [hlen]; simpa using hc) (by rw [hlen]; simpa using hf) (by
    intro v hv
    have hv := Array.mem_toList_iff.1 hv
    unfold Builtin.zeroCells at hv
    obtain ⟨k, hk, rfl⟩ := Array.mem_map.1 hv
    exact hone _ (by rw [hsz]; omega))
  simp only [Nat.add_zero] at hst
  simp only [Builtin.clear_]
  simp [run_underlying Try.underlying39, zero41]
  erw [hst]
  rfl
/-- A row's cells, one by one. -/
theorem R_cells {w : World} {b g cap i : Nat} {P : Nat → Prop} {xs : List S41} (hi : i < xs.length) (h : Kd.R k41 41 w b P (.slice (some ⟨g, 0, none⟩) xs.length cap) xs) : ∀ k, k < 5 → (∃ u, w.cell? ⟨g, i * 5 + k, none⟩ = some u) ∧ w.frozen? ⟨g, i * 5 + k, none⟩ = false := by
  obtain ⟨hok, inner, ⟨hl, ho⟩, hr⟩ := h
  rcases ho with ⟨ho, _⟩ | ⟨g', cap', cur, e, hg, hblk, hcap, hmax, hsz, hcut⟩
  · cases ho
  · cases e
    have hsz' : cur.size = cap * 5 := hsz
    intro k hk
    refine ⟨⟨cur[i * 5 + k]'(by omega), ?_⟩, blk_frozen hblk _⟩
    rw [blk_cell hblk, Array.getElem?_eq_getElem (by omega)]
/-- What a cut and a clearing leave. -/
theorem del_fin {w0 w : World} {g i n c0 m : Nat} {P : Nat → Prop} {ys : List S41} {Z : List Value} (hi : i < n) (hR : Kd.R k41 41 w w0.heap.size P (.slice (some ⟨g, 0, none⟩) n c0) ys) (hn : ys.length = n) (hm : n - i = m + 1) (hZ : Z.length = (m + 1) * 5) (hB : Below w0.heap.size w0 w) :
    Kd.R k41 41 (w.setCells g (i * 5) Z) w0.heap.size P (.slice (some ⟨g, 0, none⟩) i c0) (ys.take i) ∧ Below w0.heap.size w0 (w.setCells g (i * 5) Z) := by
  subst hn
  obtain ⟨hok, inner, ⟨hl, ho⟩, hr⟩ := hR
  rcases ho with ⟨ho, _⟩ | ⟨g', cap', cur, e, hg, hblk, hcap, hmax, hsz, hcut⟩
  · cases ho
  · cases e
    have hsz' : cur.size = c0 * 5 := hsz
    have hl' : inner.length = ys.length * 5 := hl
    have hcut' : cur.toList.take (ys.length * 5) = inner := hcut
    have hcl : cur.toList.length = c0 * 5 := by rw [Array.length_toList, hsz']
    have htl : (ys.take i).length = i := by rw [List.length_take]; omega
    refine ⟨⟨hok, inner.take (i * 5), ⟨?_, .inr ⟨g, c0, putL cur (i * 5) Z, by rw [htl], hg, setCells_blk _ _ _ _ hblk, by rw [htl]; omega, hmax, ?_, ?_⟩⟩, ?_⟩, setCells_below hg _ _ _ hB⟩
    · rw [List.length_take, htl, hl']
      show min (i * 5) (ys.length * 5) = i * 5
      omega
    · rw [putL_size]; exact hsz
    · rw [htl]
      show (putL cur (i * 5) Z).toList.take (i * 5) = _
      rw [putL_list _ _ _ (by rw [hZ, hsz']; omega), List.append_assoc, List.take_left' (by rw [List.length_take, hcl]; omega), ← hcut', List.take_take, Nat.min_eq_left (by omega)]
    · have hM : ∀ y cs, k41.M w w0.heap.size (fun k => P k ∧ some k ≠ (Value.slice (some ⟨g, 0, none⟩) ys.length c0).ownBlock) y cs → k41.M (w.setCells g (i * 5) Z) w0.heap.size (fun k => P k ∧ some k ≠ (Value.slice (some ⟨g, 0, none⟩) i c0).ownBlock) y cs := fun y cs h => by rw [k41_openM h]; exact k41_mkM _ _ _ y
      exact Kd.reps_take (hr.imp_ hM) (by omega)
theorem put_round {w0 w3 : World} {g i n c0 b c : Nat} {P : Nat → Prop} {ys : List S41} {ob oc : Obj} (x : S41) (hn : ys.length = n) (hi : i < n) (hR : Kd.R k41 41 w3 w0.heap.size P (.slice (some ⟨g, 0, none⟩) ys.length c0) ys) (hg : w0.heap.size ≤ g) (hB : Below w0.heap.size w0 w3) (hb : w3.heap[b]? = some ob) (hc : w3.heap[c]? = some oc) (h1 : g ≠ b) (h2 : g ≠ c) :
    Kd.R k41 41 (((((w3.setCell ⟨g, i * 5, none⟩ (.int .i64 x.f0)).setCell ⟨g, i * 5 + 1, none⟩ (.int .i64 x.f1)).setCell ⟨g, i * 5 + 2, none⟩ (.int .i64 x.f2)).setCell ⟨g, i * 5 + 3, none⟩ (.string x.f3)).setCell ⟨g, i * 5 + 4, none⟩ (.string x.f4)) w0.heap.size P (.slice (some ⟨g, 0, none⟩) n c0) (ys.set i x) ∧ Below w0.heap.size w0 (((((w3.setCell ⟨g, i * 5, none⟩ (.int .i64 x.f0)).setCell ⟨g, i * 5 + 1, none⟩ (.int .i64 x.f1)).setCell ⟨g, i * 5 + 2, none⟩ (.int .i64 x.f2)).setCell ⟨g, i * 5 + 3, none⟩ (.string x.f3)).setCell ⟨g, i * 5 + 4, none⟩ (.string x.f4)) ∧ (((((w3.setCell ⟨g, i * 5, none⟩ (.int .i64 x.f0)).setCell ⟨g, i * 5 + 1, none⟩ (.int .i64 x.f1)).setCell ⟨g, i * 5 + 2, none⟩ (.int .i64 x.f2)).setCell ⟨g, i * 5 + 3, none⟩ (.string x.f3)).setCell ⟨g, i * 5 + 4, none⟩ (.string x.f4)).heap[b]? = some ob ∧ (((((w3.setCell ⟨g, i * 5, none⟩ (.int .i64 x.f0)).setCell ⟨g, i * 5 + 1, none⟩ (.int .i64 x.f1)).setCell ⟨g, i * 5 + 2, none⟩ (.int .i64 x.f2)).setCell ⟨g, i * 5 + 3, none⟩ (.string x.f3)).setCell ⟨g, i * 5 + 4, none⟩ (.string x.f4)).heap[c]? = some oc := by
  subst hn
  refine ⟨R_put x hi hR, setCells_below hg (enc5 x) (i * 5) w3 hB, ?_, ?_⟩
  · exact ((setCells_kept (S := fun k => k = g) rfl (enc5 x) (i * 5) w3 (Kept.refl w3 _)).2 b (blk_lt hb) (fun e => h1 e.symm)).trans hb
  · exact ((setCells_kept (S := fun k => k = g) rfl (enc5 x) (i * 5) w3 (Kept.refl w3 _)).2 c (blk_lt hc) (fun e => h2 e.symm)).trans hc

set_option maxHeartbeats 2000000 in
set_option maxRecDepth 100000 in
theorem DeleteFunc.calls (b c : Nat) (sx sy : ByteArray) (P : Nat → Prop) (w0 : World) (v : Value) (xs : List S41) (w : World) (hR : Kd.R k41 41 w w0.heap.size P v xs) (hB : Below w0.heap.size w0 w) (hl : xs.length ≤ 1000000) (hb : w.heap[b]? = some (.cells #[.string sx] 9 (0, 0))) (hc : w.heap[c]? = some (.cells #[.string sy] 9 (0, 0))) (hne : ∀ k, P k → k ≠ b ∧ k ≠ c) :
    Calls Try.prog 56 #[v, .func (.func 57) #[] #[.pointer (some ⟨b, 0, none⟩), .pointer (some ⟨c, 0, none⟩)]] w fun e w' => ∃ v', e = .returned v' ∧ Kd.R k41 41 w' w0.heap.size P v' (xs.filter fun f => meetB f ⟨0, 0, 0, sx, sy⟩) ∧ Below w0.heap.size w0 w' := by
  have hu41 := Try.underlying41
  have HR := Aside0.mk hR
  have HB := Aside0.mk hB
  have HBX := Aside0.mk hb
  have HCX := Aside0.mk hc
  obtain ⟨p, hp⟩ : ∃ p : S41 → Bool, p = fun f => !meetB f ⟨0, 0, 0, sx, sy⟩ := ⟨_, rfl⟩
  have hpf : (fun f => meetB f ⟨0, 0, 0, sx, sy⟩) = fun f => !p f := by rw [hp]; funext f; simp
  rw [hpf]
  have HP := Aside0.mk hp
  obtain ⟨A0, c0, hsl, hcap, hC⟩ := Kd.R_reads hR
  subst hsl
  have HC := Aside0.mk hC
  have HT := Aside0.mk (fun (W : World) (h1 : W.heap[b]? = some (.cells #[.string sx] 9 (0, 0))) (h2 : W.heap[c]? = some (.cells #[.string sy] 9 (0, 0))) => over1_tells b c sx sy W h1 h2)
  rw [← hp] at HT
  clear hR hB hb hc hC hp hpf
  rcases idx_cases p xs with hi | ⟨i0, hil, hi⟩
  · have HI := Aside0.mk hi
    clear hi
    go_enter Try.func56, Try.ntmps56
    go_wp2_with (
      go_at_call 79
      refine (IndexFunc.calls 57 #[.pointer (some ⟨b, 0, none⟩), .pointer (some ⟨c, 0, none⟩)] p A0 c0 xs _ HC.out (HT.out _ HBX.out HCX.out)).mono ?_
      rintro e w1 ⟨he, hb⟩
      rw [HI.out] at he
      subst he
      have HB1 := Aside0.mk hb
      clear hb)
    go_ret
    refine ⟨_, rfl, ?_, below_then HB.out HB.out.size HB1.out⟩
    have e : (xs.filter fun f => !p f) = xs := by
      rw [List.filter_eq_self]
      intro x hx
      have h := HI.out
      unfold idx at h
      cases hf : xs.findIdx? p with
      | none => rw [List.findIdx?_eq_none_iff] at hf; rw [hf x hx]; rfl
      | some k => rw [hf] at h; simp at h
    rw [e]
    exact Kd.R_below HR.out HB1.out
  · obtain ⟨g, hg⟩ : ∃ g, A0 = some ⟨g, 0, none⟩ := by
      rcases R_cases HR.out with ⟨_, h0⟩ | ⟨g, cap, h1, _⟩
      · subst h0; simp at hil
      · exact ⟨g, by injection h1⟩
    subst hg
    have HI := Aside0.mk hi
    have hi0 : (i0 : Int) ≠ -1 := by omega
    have hwr : IntKind.i64.wrap ((i0 : Int) + 1) = (i0 : Int) + 1 := IntWalk.i64_in _ (by omega)
    clear hi
    go_enter Try.func56, Try.ntmps56
    go_wp2_with (
      go_at_call 79
      refine (IndexFunc.calls 57 #[.pointer (some ⟨b, 0, none⟩), .pointer (some ⟨c, 0, none⟩)] p _ c0 xs _ HC.out (HT.out _ HBX.out HCX.out)).mono ?_
      rintro e w1 ⟨he, hb⟩
      rw [HI.out] at he
      subst he
      have HB1 := Aside0.mk hb
      clear hb)
    go_loopw [5, 6] (fun s5 s6 wr => ∃ (i j : Nat) (ys : List S41), s5 = .int .i64 i ∧ s6 = .int .i64 j ∧ i < j ∧ j ≤ xs.length ∧ ys.length = xs.length ∧ Aside0 (ys.take i = (xs.take j).filter fun f => !p f) ∧ Aside0 (ys.drop j = xs.drop j) ∧ Aside0 (Kd.R k41 41 wr w0.heap.size P (.slice (some ⟨g, 0, none⟩) xs.length c0) ys) ∧ Aside0 (Below w0.heap.size w0 wr) ∧ Aside0 (wr.heap[b]? = some (.cells #[.string sx] 9 (0, 0))) ∧ Aside0 (wr.heap[c]? = some (.cells #[.string sy] 9 (0, 0)))) (fun _ j _ => xs.length - (intOf j).toNat)
    case atStart =>
      refine ⟨i0, i0 + 1, xs, rfl, by go_num, by omega, by omega, rfl, ⟨?_⟩, ⟨rfl⟩, ⟨Kd.R_below HR.out HB1.out⟩, ⟨below_then HB.out HB.out.size HB1.out⟩, ⟨(HB1.out.block _ (blk_lt HBX.out)).trans HBX.out⟩, ⟨(HB1.out.block _ (blk_lt HCX.out)).trans HCX.out⟩⟩
      have h := HI.out
      unfold idx at h
      cases hf : xs.findIdx? p with
      | none => rw [hf] at h; simp at h
      | some k =>
        rw [hf] at h
        have hk : k = i0 := by simp at h; omega
        subst hk
        obtain ⟨_, h1, h2⟩ := List.findIdx?_eq_some_iff_getElem.1 hf
        rw [List.take_succ_eq_append_getElem hil, filter_snoc]
        rw [if_neg (by rw [h1]; decide), List.append_nil]
        refine (List.filter_eq_self.2 fun x hx => ?_).symm
        obtain ⟨m, hm, rfl⟩ := List.mem_take_iff_getElem.1 hx
        have := h2 m (by omega)
        simpa using this
    case round =>
      clear HI hi0 hwr HB1
      obtain ⟨i, j, ys, rfl, rfl, hij, hj, hyl, HY, HD, HRr, HBr, HBb, HCc⟩ := hrel
      by_cases hlt : j < xs.length
      · have hR' : Kd.R k41 41 wr w0.heap.size P (.slice (some ⟨g, 0, none⟩) ys.length c0) ys := by rw [hyl]; exact HRr.out
        obtain ⟨A', c', e1, -, hCr⟩ := Kd.R_reads hR'
        have e2 : A' = some ⟨g, 0, none⟩ := by injection e1 with h _ _; exact h.symm
        subst e2
        clear e1
        obtain ⟨ad, ea, hx0, hx1, hx2, hx3, hx4⟩ := at_T41 hCr (j : Int) (by omega) (by omega)
        cases ea
        have e : rd_T41 ys (j : Int) = xs[j] := by
          unfold rd_T41
          rw [Int.toNat_natCast, List.getD_eq_getElem?_getD, List.getElem?_eq_getElem (by omega), Option.getD_some]
          have h := HD.out
          have h1 : (ys.drop j)[0]? = (xs.drop j)[0]? := by rw [h]
          rw [List.getElem?_drop, List.getElem?_drop, Nat.add_zero, List.getElem?_eq_getElem (by omega), List.getElem?_eq_getElem hlt] at h1
          exact Option.some.inj h1
        rw [e, Int.toNat_natCast] at hx0 hx1 hx2 hx3 hx4
        have HDD := Aside0.mk (show (xs.take (j + 1)).filter (fun f => !p f) = ys.take i ++ (if (!p xs[j]) = true then [xs[j]] else []) by rw [List.take_succ_eq_append_getElem hlt, filter_snoc, ← HY.out])
        have HD2 := Aside0.mk (show ys.drop (j + 1) = xs.drop (j + 1) by have h := congrArg (List.drop 1) HD.out; rw [List.drop_drop, List.drop_drop] at h; exact h)
        obtain ⟨x, hxx⟩ : ∃ x, xs[j] = x := ⟨_, rfl⟩
        rw [hxx] at hx0 hx1 hx2 hx3 hx4 HDD
        rw [add_plain] at hx0 hx1 hx2 hx3 hx4
        have y0 : wr.cell? ⟨g, j * 5, none⟩ = some (.int .i64 x.f0) := hx0
        have y1 : wr.cell? ⟨g, j * 5 + 1, none⟩ = some (.int .i64 x.f1) := hx1
        have y2 : wr.cell? ⟨g, j * 5 + 2, none⟩ = some (.int .i64 x.f2) := hx2
        have y3 : wr.cell? ⟨g, j * 5 + 3, none⟩ = some (.string x.f3) := hx3
        have y4 : wr.cell? ⟨g, j * 5 + 4, none⟩ = some (.string x.f4) := hx4
        clear e hxx hCr hx0 hx1 hx2 hx3 hx4
        have HR2 := Aside0.mk hR'
        clear hR'
        obtain ⟨W, hW⟩ : ∃ W, W = wr.alloc (.cells #[.int .i64 x.f0, .int .i64 x.f1, .int .i64 x.f2, .string x.f3, .string x.f4] 41) := ⟨_, rfl⟩
        have HW := Aside0.mk (show Below wr.heap.size wr W by rw [hW]; exact below_alloc (Below.refl _ _) _)
        have HBL := Aside0.mk (show W.heap[wr.heap.size]? = some (.cells #[.int .i64 x.f0, .int .i64 x.f1, .int .i64 x.f2, .string x.f3, .string x.f4] 41 (0, 0)) by rw [hW]; exact blk_new _ _)
        have HWE := Aside0.mk hW
        clear hW
        cases hpx : p x with
        | true =>
          have HPX := Aside0.mk hpx
          clear hpx
          go_wp2_with (
            go_at_call 57
            refine ((HT.out wr HBb.out HCc.out).2 x _ (below_alloc (Below.refl _ _) _)).mono ?_
            rintro e w3 ⟨he, hb3⟩
            rw [HPX.out] at he
            subst he
            have HB3 := Aside0.mk (below_then (below_alloc (Below.refl wr.heap.size wr) _) (below_alloc (Below.refl wr.heap.size wr) _).size hb3)
            clear hb3)
          go_roundw
          case rel => exact ⟨_, _, _, _, _, _, _, _, _, _, _, _, _, _, _, _, _, _, _, _, _, _, _, ⟨i, j + 1, ys, rfl, by go_num, by omega, by omega, hyl, ⟨by rw [HDD.out, HPX.out]; exact (List.append_nil _).symm⟩, HD2, ⟨Kd.R_below HRr.out HB3.out⟩, ⟨below_then HBr.out HBr.out.size HB3.out⟩, ⟨(HB3.out.block _ (blk_lt HBb.out)).trans HBb.out⟩, ⟨(HB3.out.block _ (blk_lt HCc.out)).trans HCc.out⟩⟩, rfl⟩
          case measure => simp [intOf]; omega
        | false =>
          have HPX := Aside0.mk hpx
          clear hpx
          have hil2 : i < xs.length := by omega
          go_wp2_with (
            go_at_call 57
            refine ((HT.out wr HBb.out HCc.out).2 x _ (below_alloc (Below.refl _ _) _)).mono ?_
            rintro e w3 ⟨he, hb3⟩
            rw [HPX.out] at he
            subst he
            have HB3 := Aside0.mk (below_then (below_alloc (Below.refl wr.heap.size wr) _) (below_alloc (Below.refl wr.heap.size wr) _).size hb3)
            have hbx3 := (hb3.block wr.heap.size (by simp)).trans (blk_new wr (.cells #[.int .i64 x.f0, .int .i64 x.f1, .int .i64 x.f2, .string x.f3, .string x.f4] 41))
            have s0 : w3.cell? ⟨wr.heap.size, 0, none⟩ = some (.int .i64 x.f0) := (blk_cell hbx3 0).trans rfl
            have s1 : w3.cell? ⟨wr.heap.size, 1, none⟩ = some (.int .i64 x.f1) := (blk_cell hbx3 1).trans rfl
            have s2 : w3.cell? ⟨wr.heap.size, 2, none⟩ = some (.int .i64 x.f2) := (blk_cell hbx3 2).trans rfl
            have s3 : w3.cell? ⟨wr.heap.size, 3, none⟩ = some (.string x.f3) := (blk_cell hbx3 3).trans rfl
            have s4 : w3.cell? ⟨wr.heap.size, 4, none⟩ = some (.string x.f4) := (blk_cell hbx3 4).trans rfl
            have hlx := World.block_lt_of_cell? w3 _ s0
            have HR3 := Aside0.mk (Kd.R_below HR2.out HB3.out)
            obtain ⟨⟨u0, t0⟩, f0⟩ := R_cells (i := i) (by omega) HR3.out 0 (by omega)
            obtain ⟨⟨u1, t1⟩, f1⟩ := R_cells (i := i) (by omega) HR3.out 1 (by omega)
            obtain ⟨⟨u2, t2⟩, f2⟩ := R_cells (i := i) (by omega) HR3.out 2 (by omega)
            obtain ⟨⟨u3, t3⟩, f3⟩ := R_cells (i := i) (by omega) HR3.out 3 (by omega)
            obtain ⟨⟨u4, t4⟩, f4⟩ := R_cells (i := i) (by omega) HR3.out 4 (by omega)
            rw [Nat.add_zero] at t0 f0
            have hlt3 := World.block_lt_of_cell? w3 _ t0
            clear hb3 hbx3 y0 y1 y2 y3 y4)
          have hgP := Aside0.mk (HR3.out.1 g rfl)
          have hgb := Aside0.mk (show w0.heap.size ≤ g by
            rcases R_cases HR3.out with ⟨h, _⟩ | ⟨g', _, h, _, h2, _⟩
            · cases h
            · injection h with h _ _; injection h with h; injection h with h _ _; omega)
          obtain ⟨r1, r2, r3, r4⟩ := put_round x hyl hil2 HR3.out hgb.out (below_then HBr.out HBr.out.size HB3.out) ((HB3.out.block _ (blk_lt HBb.out)).trans HBb.out) ((HB3.out.block _ (blk_lt HCc.out)).trans HCc.out) (hne g hgP.out).1 (hne g hgP.out).2
          have Q1 := Aside0.mk r1
          have Q2 := Aside0.mk r2
          have Q3 := Aside0.mk r3
          have Q4 := Aside0.mk r4
          have Q5 := Aside0.mk (show (ys.set i x).take (i + 1) = (xs.take (j + 1)).filter (fun f => !p f) by
            rw [HDD.out, HPX.out, List.take_succ_eq_append_getElem (by rw [List.length_set]; omega), List.getElem_set_self, List.take_set_of_le (Nat.le_refl _)]; rfl)
          have Q6 := Aside0.mk (show (ys.set i x).drop (j + 1) = xs.drop (j + 1) by rw [List.drop_set_of_lt (by omega)]; exact HD2.out)
          have q7 : (ys.set i x).length = xs.length := by rw [List.length_set]; exact hyl
          clear r1 r2 r3 r4
          go_roundw
          case rel => exact ⟨_, _, _, _, _, _, _, _, _, _, _, _, _, _, _, _, _, _, _, _, _, _, _, ⟨i + 1, j + 1, ys.set i x, by go_num, by go_num, by omega, by omega, q7, Q5, Q6, Q1, Q2, Q3, Q4⟩, rfl⟩
          case measure => simp [intOf]; omega
      · obtain rfl : j = xs.length := by omega
        have hR' : Kd.R k41 41 wr w0.heap.size P (.slice (some ⟨g, 0, none⟩) ys.length c0) ys := by rw [hyl]; exact HRr.out
        obtain ⟨m, hm⟩ : ∃ m, xs.length - i = m + 1 := ⟨xs.length - i - 1, by omega⟩
        obtain ⟨Z, hZ, hclr⟩ := clear_rows wr g (i * 5) m (c0 - i) (fun t ht => by
          obtain ⟨⟨u, hu⟩, _⟩ := R_cells (i := i + t / 5) (by omega) hR' (t % 5) (by omega)
          rw [show (i + t / 5) * 5 + t % 5 = i * 5 + t by omega] at hu
          rw [hu]; rfl) (fun t ht => by
          obtain ⟨_, hu⟩ := R_cells (i := i + t / 5) (by omega) hR' (t % 5) (by omega)
          rw [show (i + t / 5) * 5 + t % 5 = i * 5 + t by omega] at hu
          exact hu)
        rw [← hm] at hclr
        have HFIN := Aside0.mk (del_fin (i := i) (by omega) HRr.out hyl hm hZ HBr.out)
        have HFY := Aside0.mk (show ys.take i = xs.filter fun f => !p f by rw [HY.out, List.take_length])
        obtain ⟨ti, hti0, htz⟩ := Option.map_eq_some_iff.1 info41
        injection htz with t1 t2
        injection t2 with t2 t3
        have hu39 := Try.underlying39
        have hne0 : ¬ c0 = i := by omega
        have hil3 : i ≤ xs.length := by omega
        clear t1 t3 hR' hZ hm
        go_wp2
        go_ret
        rw [← HFY.out]
        exact ⟨_, rfl, HFIN.out.1, HFIN.out.2⟩
end Go.Proofs.Ytjhijcehcklipaa.MVe
