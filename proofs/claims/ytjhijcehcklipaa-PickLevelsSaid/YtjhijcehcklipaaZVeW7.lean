/-
  slices.Delete at tables, walked.
-/
import Derived.Test.YtjhijcehcklipaaZVeW6
import Derived.Shelf.SlicesE.Delete
namespace Go.Proofs.Ytjhijcehcklipaa.MVe
open Go.RowKit Go.Proofs.YtjhijcehcklipaaW.PrintWords Go.Proofs.YtjhijcehcklipaaW.PrintLast Go.Proofs.YtjhijcehcklipaaW.PrintMore
attribute [local go_sem] max2_int min2_int max_two min_two max_three min_three max_four min_four
set_option linter.unusedVariables false
set_option linter.unusedSimpArgs false

/-- A row's cells, written from a place on. -/
def putL (cur : Array Value) : Nat → List Value → Array Value
  | _, [] => cur
  | o, v :: r => putL (cur.setIfInBounds o v) (o + 1) r
theorem setCells_blk {g e : Nat} : ∀ (vs : List Value) (o : Nat) (w : World) (cur : Array Value), w.heap[g]? = some (.cells cur e (0, 0)) → (w.setCells g o vs).heap[g]? = some (.cells (putL cur o vs) e (0, 0))
  | [], _, _, _, h => h
  | v :: r, o, w, cur, h => setCells_blk r (o + 1) _ _ (blk_set h o v)
theorem putL_size : ∀ (vs : List Value) (o : Nat) (cur : Array Value), (putL cur o vs).size = cur.size
  | [], _, _ => rfl
  | v :: r, o, cur => by rw [putL, putL_size r]; simp
theorem putL_list : ∀ (vs : List Value) (o : Nat) (cur : Array Value), o + vs.length ≤ cur.size → (putL cur o vs).toList = cur.toList.take o ++ vs ++ cur.toList.drop (o + vs.length)
  | [], o, cur, _ => by simp [putL]
  | v :: r, o, cur, h => by
    have h' : o + (r.length + 1) ≤ cur.size := h
    rw [putL, putL_list r (o + 1) _ (by simp; omega)]
    have ho : o < cur.toList.length := by rw [Array.length_toList]; omega
    have e1 : (cur.toList.set o v).take (o + 1) = cur.toList.take o ++ [v] := by
      rw [List.set_eq_take_append_cons_drop, if_pos ho, show cur.toList.take o ++ v :: cur.toList.drop (o + 1) = (cur.toList.take o ++ [v]) ++ cur.toList.drop (o + 1) by simp, List.take_left' (by rw [List.length_append, List.length_take, List.length_singleton]; omega)]
    rw [Array.toList_setIfInBounds, e1, List.drop_set_of_lt (by omega), List.length_cons, show o + 1 + r.length = o + (r.length + 1) by omega]
    simp
theorem setCells_below {w0 : World} {g : Nat} (hg : w0.heap.size ≤ g) : ∀ (vs : List Value) (o : Nat) (w : World), Below w0.heap.size w0 w → Below w0.heap.size w0 (w.setCells g o vs)
  | [], _, _, h => h
  | v :: r, o, w, h => setCells_below hg r (o + 1) _ (h.setCell hg v)
theorem setCells_kept {w0 : World} {g : Nat} {S : Nat → Prop} (hg : S g) : ∀ (vs : List Value) (o : Nat) (w : World), Kept w0 w S → Kept w0 (w.setCells g o vs) S
  | [], _, _, h => h
  | v :: r, o, w, h => setCells_kept hg r (o + 1) _ (h.setCell (p := ⟨g, o, none⟩) (.inl hg) v)
def zs41 : List Value := [.int .i64 0, .int .i64 0, .int .i64 0, .string ⟨#[]⟩, .string ⟨#[]⟩]
set_option maxRecDepth 100000 in
theorem zero41 (w : World) : (zeroValue 41).run Try.prog w = .ok (.agg zs41.toArray) w := by
  obtain ⟨ti, hti, htz⟩ := Option.map_eq_some_iff.1 info41
  injection htz with h1 h2
  simp [zeroValue, typeInfo, hti, h1, zs41]
theorem clear_one (W : World) (ty b o c : Nat) (hc : ∀ j, j < 5 → (W.cell? ⟨b, o + j, none⟩).isSome = true) (hf : ∀ j, j < 5 → W.frozen? ⟨b, o + j, none⟩ = false) :
    (Builtin.clear_ #[39] ty #[.slice (some ⟨b, o, none⟩) 1 c]).run Try.prog W = .ok (.tuple #[]) (W.setCells b o zs41) := by
  have hst := run_storeCells_cells (P := Try.prog) b o zs41 0 W (by simpa [zs41] using hc) (by simpa [zs41] using hf) (by simp [zs41, Value.oneCell'])
  simp only [Nat.add_zero] at hst
  have hz : (Builtin.zeroCells (Value.agg zs41.toArray).cells 1).toList = zs41 := by simp [Builtin.zeroCells, zs41, Value.cells, Array.toList_range, List.range_succ]
  simp only [Builtin.clear_]
  simp [run_underlying Try.underlying39, zero41]
  erw [hz, hst]
  rfl

theorem erase_split {α : Type} (xs : List α) (i : Nat) : xs.eraseIdx i = xs.take i ++ xs.drop (i + 1) := List.eraseIdx_eq_take_drop_succ xs i

set_option maxHeartbeats 2000000 in
set_option maxRecDepth 100000 in
theorem Delete.calls (w0 : World) (P : Nat → Prop) (v : Value) (xs : List S41) (i : Nat) (w : World) (hi : i < xs.length) (hr : Kd.R k41 41 w w0.heap.size P v xs) (hB : Below w0.heap.size w0 w) :
    Calls Try.prog 51 #[v, .int .i64 i, .int .i64 ((i : Int) + 1)] w fun e w' => ∃ v', e = .returned v' ∧ Kd.R k41 41 w' w0.heap.size P v' (xs.eraseIdx i) ∧ v'.ownBlock = v.ownBlock ∧ Below w0.heap.size w0 w' ∧ Kept w w' (fun k => some k = v.ownBlock) := by
  obtain ⟨hok, inner, ⟨hlen, hown⟩, hreps⟩ := hr
  rcases hown with ⟨_, h0⟩ | ⟨g, cap, cur, rfl, hg, hblk, hcap, hmax, hsz, hcut⟩
  · omega
  have hsize : (k41 : Kd S41).sz = 5 := rfl
  rw [hsize] at hlen hsz hcut
  have hmax' : cap ≤ 9223372036854775807 := hmax
  obtain ⟨news, hnews⟩ : ∃ news, news = inner.drop ((i + 1) * 5) := ⟨_, rfl⟩
  have hnl : news.length = (xs.length - (i + 1)) * 5 := by rw [hnews, List.length_drop, hlen]; omega
  have hcl : cur.toList.length = cap * 5 := by rw [Array.length_toList, hsz]
  have hin : ∀ t, t < xs.length * 5 → cur[t]? = inner[t]? := by
    intro t ht
    rw [← hcut, List.getElem?_take_of_lt ht, Array.getElem?_toList]
  obtain ⟨A, hA, hsrc⟩ : ∃ A : Addr, (if cap = i + 1 then some (⟨g, 0, none⟩ : Addr) else some ⟨g, (i + 1) * 5, none⟩) = some A ∧ Hid (∀ t u, news[t]? = some u → w.drew.cell? (A.add t) = some u) := by
    by_cases h : cap = i + 1
    · refine ⟨⟨g, 0, none⟩, by simp [h], fun t u hu => ?_⟩
      have h0 : news.length = 0 := by rw [hnl]; omega
      rw [List.length_eq_zero_iff.1 h0] at hu
      simp at hu
    · refine ⟨⟨g, (i + 1) * 5, none⟩, by simp [h], fun t u hu => ?_⟩
      have ht := (List.getElem?_eq_some_iff.1 hu).1
      rw [hnl] at ht
      rw [Addr.add_lit]
      rw [hnews, List.getElem?_drop, ← hin _ (by omega)] at hu
      exact (blk_cell hblk _).trans hu
  have s1 : Hid (news.length = (xs.length - (i + 1)) * 5) := hnl
  have s2 : Hid (∀ u ∈ news, u.oneCell' = true) := by
    intro u hu
    rw [hnews] at hu
    obtain ⟨t, ht, rfl⟩ := List.mem_iff_getElem.1 (List.mem_of_mem_drop hu)
    have hd : t / 5 < xs.length := by omega
    have h1 := hreps.2 (t / 5) _ (List.getElem?_eq_getElem hd)
    refine k41.K_one (k41.K_of_M h1) _ ?_
    rw [hsize]
    refine List.mem_take_iff_getElem.2 ⟨t % 5, by rw [List.length_drop]; omega, ?_⟩
    rw [List.getElem_drop]
    congr 1
    omega
  have s3 : Hid (∀ t, t < news.length → (w.drew.cell? ⟨g, 0 + i * 5 + t, none⟩).isSome = true ∧ w.drew.frozen? ⟨g, 0 + i * 5 + t, none⟩ = false) := by
    intro t ht
    rw [hnl] at ht
    refine ⟨?_, blk_frozen hblk _⟩
    show (w.cell? _).isSome = true
    rw [blk_cell hblk, Array.getElem?_eq_getElem (by omega)]
    rfl
  obtain ⟨W1, hW1⟩ : ∃ W1, W1 = w.drew.setCells g (0 + i * 5) news := ⟨_, rfl⟩
  have hb1 : W1.heap[g]? = some (.cells (putL cur (0 + i * 5) news) 41 (0, 0)) := by rw [hW1]; exact setCells_blk news _ _ _ hblk
  have hl1 : (putL cur (0 + i * 5) news).toList.take ((xs.length - 1) * 5) = inner.take (i * 5) ++ inner.drop ((i + 1) * 5) := by
    rw [putL_list _ _ _ (by rw [hnl]; omega), List.take_left' (by rw [List.length_append, List.length_take, hcl, hnl]; omega), hnews, ← hcut, Nat.zero_add, List.take_take, show min (i * 5) (xs.length * 5) = i * 5 by omega]
  have hs1 : (putL cur (0 + i * 5) news).size = cap * 5 := by rw [putL_size, hsz]
  have hclr : ∀ ty, (Builtin.clear_ #[39] ty #[.slice (some ⟨g, (xs.length - 1) * 5, none⟩) 1 (cap - (xs.length - 1))]).run Try.prog W1 = .ok (.tuple #[]) (W1.setCells g ((xs.length - 1) * 5) zs41) := fun ty =>
    clear_one W1 ty g _ _ (fun j hj => by rw [blk_cell hb1, Array.getElem?_eq_getElem (by omega)]; rfl) (fun j hj => blk_frozen hb1 _)
  obtain ⟨ti, hi0, htz⟩ := Option.map_eq_some_iff.1 info41
  injection htz with h1 h2
  injection h2 with h2 h3
  have hic : i ≤ cap := by omega
  have hjc : i + 1 ≤ cap := by omega
  have hu39 := Try.underlying39
  have hu41 := Try.underlying41
  have hW : Hid (W1 = w.drew.setCells g (0 + i * 5) news) := hW1
  have FIN : Hid (Kd.R k41 41 (W1.setCells g ((xs.length - 1) * 5) zs41) w0.heap.size P (.slice (some ⟨g, 0, none⟩) (xs.length - 1) cap) (xs.eraseIdx i) ∧ Below w0.heap.size w0 (W1.setCells g ((xs.length - 1) * 5) zs41) ∧ Kept w (W1.setCells g ((xs.length - 1) * 5) zs41) (fun k => some k = some g)) := by
    have hs2 : (putL cur (0 + i * 5) news).toList.length = cap * 5 := (Array.length_toList ..).trans hs1
    have hel : (xs.eraseIdx i).length = xs.length - 1 := by rw [List.length_eraseIdx, if_pos hi]
    refine ⟨⟨hok, inner.take (i * 5) ++ inner.drop ((i + 1) * 5), ⟨?_, .inr ⟨g, cap, _, by rw [hel], hg, setCells_blk _ _ _ _ hb1, by rw [hel]; omega, hmax, ?_, ?_⟩⟩, ?_⟩, ?_, ?_⟩
    · rw [List.length_append, List.length_take, List.length_drop, hlen, hel, hsize]; omega
    · rw [putL_size, hs1, hsize]
    · rw [hel, hsize, putL_list _ _ _ (by rw [hs1]; show (xs.length - 1) * 5 + 5 ≤ cap * 5; omega), List.append_assoc, List.take_left' (by rw [List.length_take, hs2]; omega), hl1]
    · rw [erase_split]
      have hM : ∀ x cs, k41.M w w0.heap.size P x cs → k41.M (W1.setCells g ((xs.length - 1) * 5) zs41) w0.heap.size P x cs := fun x cs h => by rw [k41_openM h]; exact k41_mkM _ _ _ x
      have hr' := hreps.imp_ hM
      exact Kd.reps_append (Kd.reps_take hr' (by omega)) (Kd.reps_drop hr')
    · refine setCells_below hg _ _ _ ?_
      rw [hW1]
      exact setCells_below hg _ _ _ (pw_below_drewN hB 1)
    · refine setCells_kept (S := fun k => some k = some g) rfl _ _ _ ?_
      rw [hW1]
      exact setCells_kept (S := fun k => some k = some g) rfl _ _ _ (Kept.refl w _)
  clear hW1 hb1 hl1 hs1 hin hcl hnl hnews hblk hsz hcut hlen hreps hB hok
  clear h1 h3
  go_enter Try.func51, Try.ntmps51
  have q1 : i + (xs.length - (i + 1)) = xs.length - 1 := by omega
  have hclr2 : ∀ ty, (Builtin.clear_ #[39] ty #[.slice (some ⟨g, (i + (xs.length - (i + 1))) * 5, none⟩) (xs.length - (i + (xs.length - (i + 1)))) (cap - (i + (xs.length - (i + 1))))]).run Try.prog W1 = .ok (.tuple #[]) (W1.setCells g ((xs.length - 1) * 5) zs41) := by
    rw [q1, show xs.length - (xs.length - 1) = 1 by omega]; exact hclr
  have Q1 : Hid (i + (xs.length - (i + 1)) = xs.length - 1) := q1
  have hc3 : (0 : Int) ≤ (i : Int) + 1 ∧ (i : Int) + 1 ≤ (xs.length : Int) := by omega
  clear hclr q1
  go_wp2_with fail
  go_region_law (refine step_append_room rfl (.tmp 22) (.tmp 25) 39 rfl 41 ti 5 hu39 hi0 h2 g 0 i cap (by simp [Act.eval, Act.put]) A (xs.length - (i + 1)) (cap - (i + 1)) news (by simp [Act.eval, Act.put]) s1.out hsrc.out s2.out (by omega) s3.out ?_; rw [← hW.out])
  go_wp2
  go_ret
  rw [Q1.out]
  exact ⟨_, rfl, FIN.out.1, rfl, FIN.out.2.1, FIN.out.2.2⟩
end Go.Proofs.Ytjhijcehcklipaa.MVe
