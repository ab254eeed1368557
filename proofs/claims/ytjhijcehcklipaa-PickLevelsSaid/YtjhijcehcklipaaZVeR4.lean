/-
  The document's Apply, walked.
-/
import Derived.Test.YtjhijcehcklipaaZVeR3
import Derived.Test.YtjhijcehcklipaaZVeM1
namespace Go.Proofs.Ytjhijcehcklipaa.MVe
open Go.RowKit Go.Proofs.YtjhijcehcklipaaW.PrintWords Go.Proofs.YtjhijcehcklipaaW.PrintLast Go.Proofs.YtjhijcehcklipaaW.PrintMore
attribute [local go_sem] max2_int min2_int max_two min_two max_three min_three max_four min_four
set_option linter.unusedVariables false
set_option linter.unusedSimpArgs false

def addR (v : Ver) (n l m : Int) (xs adds : List S41) : Option Ver := match addF xs adds with
  | none => none
  | some ys => endR v n l m ys
def delR (v : Ver) (n l m : Int) (adds : List S41) (xs : List S41) (dels : List Int) : Option Ver := match delF xs dels with
  | none => none
  | some xs => addR v n l m xs adds
theorem apR_def (v : Ver) (n l m : Int) (adds : List S41) (dels : List Int) : apR v n l m adds dels = if editOk n l m adds dels = true then delR v n l m adds v.files dels else none := rfl
theorem delR_cons {v : Ver} {n l m d : Int} {adds xs : List S41} {r : List Int} : delR v n l m adds xs (d :: r) = if idx (fun x => x.f0 == d) xs < 0 then none else delR v n l m adds (xs.eraseIdx (idx (fun x => x.f0 == d) xs).toNat) r := by
  unfold delR
  rw [delF]
  by_cases h : idx (fun x => x.f0 == d) xs < 0
  · rw [if_pos h, if_pos h]
  · rw [if_neg h, if_neg h]
theorem addR_cons {v : Ver} {n l m : Int} {a : S41} {xs r : List S41} : addR v n l m xs (a :: r) = if idx (fun x => x.f0 == a.f0) xs ≥ 0 then none else addR v n l m (xs ++ [a]) r := by
  unfold addR
  rw [addF]
  by_cases h : idx (fun x => x.f0 == a.f0) xs ≥ 0
  · rw [if_pos h, if_pos h]
  · rw [if_neg h, if_neg h]
theorem delR_nil {v : Ver} {n l m : Int} {adds xs : List S41} : delR v n l m adds xs [] = addR v n l m xs adds := rfl
theorem addR_nil {v : Ver} {n l m : Int} {xs : List S41} : addR v n l m xs [] = endR v n l m xs := rfl
def RPost (w0 w : World) (g : Nat) (r : Option Ver) (e : Ending) (w' : World) : Prop :=
  (r = none ∧ e = .returned (.int .i64 12) ∧ Below w.heap.size w w') ∨ ∃ v', r = some v' ∧ e = .returned (.int .i64 0) ∧ RInv w0 (fun k => k ≠ g) g v' w' ∧ Kept w w' (fun k => k = g)
theorem C_some {w : World} {A : Option Addr} {xs : List S41} (h : Kd.C k41 w A xs.length xs) (h0 : 0 < xs.length) : ∃ ad, A = some ad := by
  obtain ⟨ad, h1, _⟩ := h.2.2 h0
  exact ⟨ad, h1⟩
/-- Apply's state behind the copy: the edit's block, the new version's. -/
structure RSt (w : World) (N : Nat) (cells : Array Value) (vf : Value) (c : Ver) (W : World) : Prop where
  below : Below w.heap.size w W
  e : W.heap[w.heap.size]? = some (.cells cells 45 (0, 0))
  blk : RBlk W N vf c
  row : Kd.R k41 41 W w.heap.size (fun k => w.heap.size < k ∧ k ≠ N) vf c.files
  ord : w.heap.size < N
theorem RSt.step {w : World} {N : Nat} {cells : Array Value} {vf : Value} {c : Ver} {W W2 : World} (h : RSt w N cells vf c W) (hb : Below W.heap.size W W2) : RSt w N cells vf c W2 := by
  obtain ⟨h1, h2, h3, h4, h5⟩ := h
  exact ⟨below_then h1 h1.size hb, (hb.block _ (blk_lt h2)).trans h2, (hb.block _ (blk_lt h3)).trans h3, Kd.R_below h4 hb, h5⟩
theorem RSt.set1 {w : World} {N : Nat} {cells : Array Value} {vf : Value} {c : Ver} {W : World} (h : RSt w N cells vf c W) (a : Int) : RSt w N cells vf { c with next := a } (W.setCell ⟨N, 1, none⟩ (.int .i64 a)) := by
  obtain ⟨h1, h2, h3, h4, h5⟩ := h
  exact ⟨h1.setCell (Nat.le_of_lt h5) _, blk_far h2 (Nat.ne_of_lt h5) _, h3.set1 a, Kd.R_far h4 (fun k hk => hk.2) _, h5⟩
theorem RSt.set2 {w : World} {N : Nat} {cells : Array Value} {vf : Value} {c : Ver} {W : World} (h : RSt w N cells vf c W) (a : Int) : RSt w N cells vf { c with log := a } (W.setCell ⟨N, 2, none⟩ (.int .i64 a)) := by
  obtain ⟨h1, h2, h3, h4, h5⟩ := h
  exact ⟨h1.setCell (Nat.le_of_lt h5) _, blk_far h2 (Nat.ne_of_lt h5) _, h3.set2 a, Kd.R_far h4 (fun k hk => hk.2) _, h5⟩
theorem RSt.set3 {w : World} {N : Nat} {cells : Array Value} {vf : Value} {c : Ver} {W : World} (h : RSt w N cells vf c W) (a : Int) : RSt w N cells vf { c with last := a } (W.setCell ⟨N, 3, none⟩ (.int .i64 a)) := by
  obtain ⟨h1, h2, h3, h4, h5⟩ := h
  exact ⟨h1.setCell (Nat.le_of_lt h5) _, blk_far h2 (Nat.ne_of_lt h5) _, h3.set3 a, Kd.R_far h4 (fun k hk => hk.2) _, h5⟩
theorem RSt.nums {w : World} {N : Nat} {n l m : Int} {va vd : Value} {vf : Value} {c : Ver} {W : World} (h : RSt w N #[.int .i64 n, .int .i64 l, .int .i64 m, va, vd] vf c W) :
    W.cell? ⟨w.heap.size, 0, none⟩ = some (.int .i64 n) ∧ W.cell? ⟨w.heap.size, 1, none⟩ = some (.int .i64 l) ∧ W.cell? ⟨w.heap.size, 2, none⟩ = some (.int .i64 m) ∧ W.cell? ⟨N, 1, none⟩ = some (.int .i64 c.next) ∧ W.cell? ⟨N, 2, none⟩ = some (.int .i64 c.log) ∧ W.cell? ⟨N, 3, none⟩ = some (.int .i64 c.last) ∧
      W.frozen? ⟨N, 1, none⟩ = false ∧ W.frozen? ⟨N, 2, none⟩ = false ∧ W.frozen? ⟨N, 3, none⟩ = false :=
  ⟨(blk_cell h.e 0).trans rfl, (blk_cell h.e 1).trans rfl, (blk_cell h.e 2).trans rfl, h.blk.cells.2.1, h.blk.cells.2.2.1, h.blk.cells.2.2.2, h.blk.free.2.1, h.blk.free.2.2.1, h.blk.free.2.2.2⟩
theorem R_fin {w0 w W : World} {g N : Nat} {cells : Array Value} {v c : Ver} {vf : Value} (hI : RInv w0 (fun k => k ≠ g) g v w) (h : RSt w N cells vf c W) :
    RInv w0 (fun k => k ≠ g) g c ((((W.setCell ⟨g, 0, none⟩ vf).setCell ⟨g, 1, none⟩ (.int .i64 c.next)).setCell ⟨g, 2, none⟩ (.int .i64 c.log)).setCell ⟨g, 3, none⟩ (.int .i64 c.last)) ∧
      Kept w ((((W.setCell ⟨g, 0, none⟩ vf).setCell ⟨g, 1, none⟩ (.int .i64 c.next)).setCell ⟨g, 2, none⟩ (.int .i64 c.log)).setCell ⟨g, 3, none⟩ (.int .i64 c.last)) (fun k => k = g) := by
  obtain ⟨h1, h2, vo, h3, h4⟩ := hI
  have hlt := blk_lt h3
  have hv : RBlk W g vo v := (h.below.block g hlt).trans h3
  have hne : ∀ k, (w.heap.size < k ∧ k ≠ N) → k ≠ g := fun k hk => by omega
  refine ⟨⟨(((((below_then h1 h1.size h.below).setCell (p := ⟨g, 0, none⟩) h2 _).setCell (p := ⟨g, 1, none⟩) h2 _).setCell (p := ⟨g, 2, none⟩) h2 _).setCell (p := ⟨g, 3, none⟩) h2 _), h2, vf, ?_, ?_⟩, ?_⟩
  · exact (((RBlk.set0 hv vf c.files).set1 c.next).set2 c.log).set3 c.last
  · exact Kd.R_mono (Kd.R_lower (Kd.R_far (Kd.R_far (Kd.R_far (Kd.R_far h.row (p := ⟨g, 0, none⟩) hne _) (p := ⟨g, 1, none⟩) hne _) (p := ⟨g, 2, none⟩) hne _) (p := ⟨g, 3, none⟩) hne _) h1.size) hne
  · exact ((((Kept.of_below h.below (fun k => k = g)).setCell (p := ⟨g, 0, none⟩) (.inl rfl) _).setCell (p := ⟨g, 1, none⟩) (.inl rfl) _).setCell (p := ⟨g, 2, none⟩) (.inl rfl) _).setCell (p := ⟨g, 3, none⟩) (.inl rfl) _
theorem RSt.start {w wr : World} {cells : Array Value} {vf : Value} {ys : List S41} {a b c : Int} (hb : Below w.heap.size w wr) (he : wr.heap[w.heap.size]? = some (.cells cells 45 (0, 0))) (hr : Kd.R k41 41 wr w.heap.size (fun k => w.heap.size < k) vf ys) :
    RSt w wr.heap.size cells vf ⟨ys, a, b, c⟩ (wr.alloc (.cells #[vf, .int .i64 a, .int .i64 b, .int .i64 c] 113)) := by
  have hlt := blk_lt he
  exact ⟨below_alloc hb _, blk_alloc he _, blk_new _ _, Kd.R_below (Kd.R_mono (Kd.R_bound hr) (fun k hk => ⟨hk.1, Nat.ne_of_lt hk.2.2.1⟩)) (below_alloc (Below.refl _ _) _), hlt⟩
theorem any_take {N : Int} {xs : List S41} {k : Nat} (h : k < xs.length) : anyGe N (xs.take (k + 1)) = (anyGe N (xs.take k) || decide (N ≤ xs[k].f0)) := by
  unfold anyGe
  rw [List.take_succ_eq_append_getElem h, List.any_append, List.any_cons, List.any_nil, Bool.or_false]
theorem hitR_false {xs : List S41} {j k : Nat} {x y : S41} (hk : k < j) (hj : j < xs.length) (hx : xs[j] = x) (hy : xs[k]'(Nat.lt_trans hk hj) = y) (h : hitR x y = true) : apartR xs = false := by
  unfold apartR
  refine decide_eq_false fun hp => ?_
  have := List.pairwise_iff_getElem.1 hp k j (Nat.lt_trans hk hj) hj hk
  rw [hx, hy, h] at this
  cases this
theorem apartR_true {xs : List S41} (h : (xs.take xs.length).Pairwise fun b a => hitR a b = false) : apartR xs = true := by
  rw [List.take_of_length_le (Nat.le_refl _)] at h
  exact decide_eq_true h
set_option maxHeartbeats 16000000 in
set_option maxRecDepth 100000 in
theorem RApply.calls (w0 : World) (g : Nat) (v : Ver) (n l m : Int) (Aa Ad : Option Addr) (ca cd : Nat) (adds : List S41) (dels : List Int) (w : World) (hI : RInv w0 (fun k => k ≠ g) g v w) (hl : v.files.length ≤ 200)
    (ha : Kd.C k41 w Aa adds.length adds) (hca : adds.length ≤ ca) (hd : Kd.C (Kd.int .i64) w Ad dels.length dels) (hcd : dels.length ≤ cd) (hal : adds.length ≤ 1000000) (hdl : dels.length ≤ 1000000) :
    Calls Try.prog 67 #[.pointer (some ⟨g, 0, none⟩), .agg #[.int .i64 n, .int .i64 l, .int .i64 m, .slice Aa adds.length ca, .slice Ad dels.length cd]] w (RPost w0 w g (apR v n l m adds dels)) := by
  have hu39 := Try.underlying39
  have hu41 := Try.underlying41
  have hu45 := Try.underlying45
  have hu113 := Try.underlying113
  have HA := Aside0.mk ha
  have HD := Aside0.mk hd
  have HI := Aside0.mk hI
  have HGL := Aside0.mk hI.lt
  have HB := Aside0.mk (below_alloc (Below.refl w.heap.size w) (.cells #[.int .i64 n, .int .i64 l, .int .i64 m, .slice Aa adds.length ca, .slice Ad dels.length cd] 45))
  have HK := Aside0.mk (blk_new w (.cells #[.int .i64 n, .int .i64 l, .int .i64 m, .slice Aa adds.length ca, .slice Ad dels.length cd] 45))
  clear ha hd hI
  rw [apR_def]
  cases hok : editOk n l m adds dels with
  | false =>
    rw [if_neg (by decide)]
    have HOK := Aside0.mk hok
    clear hok
    go_enter Try.func67, Try.ntmps67
    go_wp2_with (
      go_at_call 88
      refine (MayEdit.calls n l m Aa Ad ca cd adds dels _ (Kd.C_below HA.out HB.out) hca (Kd.C_below HD.out HB.out) hcd hal hdl).mono ?_
      rintro e w1 ⟨he, hb⟩
      rw [HOK.out] at he
      subst he
      have HB1 := Aside0.mk (below_step HB.out hb)
      clear hb)
    go_ret
    exact .inl ⟨rfl, rfl, HB1.out⟩
  | true =>
    rw [if_pos rfl]
    have HOK := Aside0.mk hok
    have HAL := Aside0.mk (editOk_len hok)
    clear hok
    go_enter Try.func67, Try.ntmps67
    go_wp2_with (first
      | (go_at_call 88
         refine (MayEdit.calls n l m Aa Ad ca cd adds dels _ (Kd.C_below HA.out HB.out) hca (Kd.C_below HD.out HB.out) hcd hal hdl).mono ?_
         rintro e w1 ⟨he, hb⟩
         rw [HOK.out] at he
         subst he
         have HB1 := Aside0.mk (below_step HB.out hb)
         have HK1 := Aside0.mk ((hb.block w.heap.size (blk_lt HK.out)).trans HK.out)
         obtain ⟨Af, cf, hblk, hC, hcf⟩ := (HI.out.step HB1.out).row
         obtain ⟨q0, q1, q2, q3⟩ := hblk.cells
         have HC := Aside0.mk hC
         clear hb hblk hC q1 q2 q3 hcf)
      | (at_builtin
         refine Kd.R_append_rows k41 (w0 := w) w.heap.size rfl (.const (.slice none 0 0)) (.tmp 20) 39 41 (.agg #[.int .i64 0, .int .i64 0, .int .i64 0, .string ⟨#[]⟩, .string ⟨#[]⟩]) 56 rfl Try.underlying39 info41 rfl (by decide) (by omega) (.slice none 0 0) [] v.files Af v.files.length cf (fun k => w.heap.size < k) (fun _ => False) rfl rfl ?aO ?aR (fun _ _ h => h) (fun _ h => h.elim) ?aF ?aB ?aS ?aL ?_
         (case aR => exact ReadsRow.imp_ HC.out (Below.refl _ _) (fun x cs h => by rw [k41_open h]; exact k41_mkM _ _ _ x))
         (case aO => exact Kd.R_nil _ _ _ _ _)
         (case aF => exact fun k hk => Nat.lt_of_lt_of_le (blk_lt HK1.out) hk)
         (case aB => exact HB1.out)
         (case aS => exact HB1.out.size)
         (case aL => simp; omega)
         intro v5 w5 ho hb hg hat
         rw [List.nil_append] at ho
         have HB5 := Aside0.mk hb
         have HO5 := Aside0.mk ho
         have HK5 := Aside0.mk (blk_grown HK1.out hg (by simp [Value.ownBlock]))
         clear ho hb hg hat))
    clear HB HK HB1 HK1 q0 HC
    go_loopw [5, 6] (fun s i wr => ∃ (j : Nat) (xs : List S41), j ≤ dels.length ∧ i = .int .i64 j ∧ Aside0 (xs.length ≤ 200) ∧ Aside0 (delR v n l m adds xs (dels.drop j) = delR v n l m adds v.files dels) ∧ Aside0 (Kd.R k41 41 wr w.heap.size (fun k => w.heap.size < k) s xs) ∧ Aside0 (Below w.heap.size w wr) ∧ Aside0 (wr.heap[w.heap.size]? = some (.cells #[.int .i64 n, .int .i64 l, .int .i64 m, .slice Aa adds.length ca, .slice Ad dels.length cd] 45 (0, 0)))) (fun _ i _ => dels.length - (intOf i).toNat)
    case atStart => exact ⟨0, v.files, Nat.zero_le _, rfl, ⟨hl⟩, ⟨rfl⟩, HO5, HB5, HK5⟩
    case round =>
      clear HO5 HB5 HK5
      obtain ⟨j, xs, hj, rfl, HL, HV, HR, HB, HK⟩ := hrel
      obtain ⟨q3, q4⟩ := ecells HK.out
      have hltK := blk_lt HK.out
      by_cases hlt : j < dels.length
      · obtain ⟨ad, ea, hx0⟩ := Kd.at_int (Kd.C_below HD.out HB.out) (j : Int) (by omega) (by omega)
        cases ea
        have e : rd dels (j : Int) = dels[j] := by simp [rd, rdOf, hlt]
        rw [e, Int.toNat_natCast] at hx0
        obtain ⟨d, hdd⟩ : ∃ d, dels[j] = d := ⟨_, rfl⟩
        rw [hdd] at hx0
        have HV2 := Aside0.mk (show delR v n l m adds v.files dels = if idx (fun x => x.f0 == d) xs < 0 then none else delR v n l m adds (xs.eraseIdx (idx (fun x => x.f0 == d) xs).toNat) (dels.drop (j + 1)) by rw [← HV.out, List.drop_eq_getElem_cons hlt, hdd, delR_cons])
        obtain ⟨Al, cl, el, hcl, hCl⟩ := Kd.R_reads HR.out
        subst el
        have HC := Aside0.mk hCl
        obtain ⟨kn, hkn⟩ := num_any xs d (by have := HL.out; omega)
        clear e hdd hCl
        rcases idx_cases (fun x => x.f0 == d) xs with hi | ⟨i, hil, hi⟩
        · have HN := Aside0.mk (show delR v n l m adds v.files dels = none by rw [HV2.out, hi]; rfl)
          rw [hi] at hkn
          have HKN := Aside0.mk hkn
          clear hi hkn
          as_aux_lemma =>
          go_wp2_with (
            go_at_call 89
            refine (incipitref12_num.calls kn Al cl xs d (-1) _ HC.out hcl HKN.out).mono ?_
            rintro e w3 ⟨rfl, ⟨nd, rfl⟩⟩)
          go_ret
          exact .inl ⟨HN.out, rfl, pw_below_drewN HB.out _⟩
        · have HN := Aside0.mk (show delR v n l m adds (xs.eraseIdx i) (dels.drop (j + 1)) = delR v n l m adds v.files dels by rw [HV2.out, hi, if_neg (by omega), Int.toNat_natCast])
          rw [hi] at hkn
          have HKN := Aside0.mk hkn
          have hib : i ≤ 200 := by have := HL.out; omega
          clear hi hkn
          obtain ⟨ad2, rfl⟩ := C_some HC.out (by omega)
          obtain ⟨ti, hti, htz⟩ := Option.map_eq_some_iff.1 info41
          obtain ⟨A2, hA2⟩ : ∃ A2 : Option Addr, A2 = (if cl = i + 1 then some ad2 else (some ad2).map (·.add ((i + 1) * 5))) := ⟨_, rfl⟩
          have hwr : IntKind.i64.wrap ((i : Int) + 1) = (i : Int) + 1 := IntWalk.i64_in _ (by omega)
          have hcut1 : ∀ W : World, (Instr.slice 39 (.slice (some ad2) xs.length cl) none (some (.int .i64 (i : Int))) none).run Try.prog W = .ok (.slice (some ad2) i cl) W := fun W => cut_to (P := Try.prog) 39 41 .i64 Try.underlying39 hti (some ad2) xs.length cl (i : Int) (by omega) (by omega) hcl W
          have hcut2 : ∀ W : World, (Instr.slice 39 (.slice (some ad2) xs.length cl) (some (.int .i64 ((i : Int) + 1))) none none).run Try.prog W = .ok (.slice A2 (xs.length - (i + 1)) (cl - (i + 1))) W := fun W => by
            have h := cut_from (P := Try.prog) 39 41 .i64 Try.underlying39 hti 5 (by injection htz with h1 h2; injection h2) (some ad2) xs.length cl ((i : Int) + 1) (by omega) (by omega) W
            rw [show ((i : Int) + 1).toNat = i + 1 by omega] at h
            rw [hA2]; exact h
          have HC1 := Aside0.mk (show Kd.C k41 wr (some ad2) i (xs.take i) by have h := Kd.C_take HC.out (m := i) (by omega); rwa [List.length_take, Nat.min_eq_left (by omega)] at h)
          have HC2 := Aside0.mk (show Kd.C k41 wr A2 (xs.length - (i + 1)) (xs.drop (i + 1)) by have h := Kd.C_drop HC.out (m := i + 1) (by omega) hcl; rw [List.length_drop] at h; rw [hA2]; exact h)
          clear hA2 htz hti
          as_aux_lemma =>
          go_wp2_with (
            go_at_call 89
            refine (incipitref12_num.calls kn (some ad2) cl xs d (i : Int) _ HC.out hcl HKN.out).mono ?_
            rintro e w3 ⟨rfl, ⟨nd, rfl⟩⟩)
          have HBn := Aside0.mk (pw_below_drewN (Below.refl wr.heap.size wr) nd)
          go_region_law (first
            | (refine Kd.R_append_rows_step k41 (w0 := w) w.heap.size (by rfl) (.const (.slice none 0 0)) (.tmp 40) 39 41 (.agg #[.int .i64 0, .int .i64 0, .int .i64 0, .string ⟨#[]⟩, .string ⟨#[]⟩]) 56 rfl Try.underlying39 info41 rfl (by decide) (by decide) (.slice none 0 0) [] (xs.take i) (some ad2) i cl (fun k => w.heap.size < k) (fun _ => False) (by rfl) (by rfl) (Kd.R_nil _ _ _ _ _) (ReadsRow.imp_ HC1.out (below_drew HBn.out) (fun x cs h => by rw [k41_open h]; exact k41_mkM _ _ _ x)) (fun _ _ h => h) (fun _ h => h.elim) (fun k hk => Nat.lt_of_lt_of_le hltK hk) (below_drew (pw_below_drewN HB.out nd)) (below_drew (pw_below_drewN HB.out nd)).size (by simp; omega) ?_
               intro v41 w41 hR41 hb41 hg41 hat41
               rw [List.nil_append] at hR41
               obtain ⟨A41, c41, e41⟩ := Kd.R_slice hR41
               subst e41
               rw [List.length_take, Nat.min_eq_left (by omega)] at hR41
               rw [List.length_take, Nat.min_eq_left (by omega)] at hat41
               rw [List.length_take, Nat.min_eq_left (by omega)]
               have HR41 := Aside0.mk hR41
               have HB41 := Aside0.mk hb41
               have HW41 := Aside0.mk (below_then (below_drew HBn.out) (below_drew HBn.out).size (Below.grown (Below.refl _ _) hg41 (Nat.le_refl _) (fun k hk => by simp [Value.ownBlock] at hk)))
               clear hR41 hb41 hg41 hat41)
            | (refine Kd.R_append_rows_step k41 (w0 := w) w.heap.size (by rfl) (.tmp 41) (.tmp 45) 39 41 (.agg #[.int .i64 0, .int .i64 0, .int .i64 0, .string ⟨#[]⟩, .string ⟨#[]⟩]) 56 rfl Try.underlying39 info41 rfl (by decide) (by decide) (.slice A41 i c41) (xs.take i) (xs.drop (i + 1)) A2 (xs.length - (i + 1)) (cl - (i + 1)) (fun k => w.heap.size < k) (fun _ => False) (by rfl) (by rfl) HR41.out (ReadsRow.imp_ HC2.out HW41.out (fun x cs h => by rw [k41_open h]; exact k41_mkM _ _ _ x)) (fun _ _ h => h) (fun _ h => h.elim) (fun k hk => Nat.lt_of_lt_of_le hltK (Nat.le_trans HW41.out.size hk)) HB41.out HB41.out.size (by simp; have := HL.out; omega) ?_
               intro v46 w46 hR46 hb46 hg46 hat46
               rw [← erase_split] at hR46
               obtain ⟨A46, c46, e46⟩ := Kd.R_slice hR46
               subst e46
               have HR46 := Aside0.mk hR46
               have HB46 := Aside0.mk hb46
               have HK46 := Aside0.mk (blk_grown ((HW41.out.block w.heap.size hltK).trans HK.out) hg46 (fun e => Nat.lt_irrefl _ (HR41.out.1 _ e.symm)))
               clear hR46 hb46 hg46 hat46))
          all_goals
            go_wp2
            go_roundw
            (case rel => exact ⟨j + 1, xs.eraseIdx i, by omega, by go_num, ⟨by rw [List.length_eraseIdx, if_pos hil]; have := HL.out; omega⟩, ⟨HN.out⟩, HR46, HB46, HK46⟩)
            (case measure => simp [intOf]; omega)
      · obtain rfl : j = dels.length := by omega
        rw [List.drop_length, delR_nil] at HV
        go_wp2
        clear q3 q4
        go_loopw [5, 8] (fun s i wr => ∃ (j : Nat) (ys : List S41), j ≤ adds.length ∧ i = .int .i64 j ∧ Aside0 (ys.length ≤ 200 + j) ∧ Aside0 (addR v n l m ys (adds.drop j) = delR v n l m adds v.files dels) ∧ Aside0 (Kd.R k41 41 wr w.heap.size (fun k => w.heap.size < k) s ys) ∧ Aside0 (Below w.heap.size w wr) ∧ Aside0 (wr.heap[w.heap.size]? = some (.cells #[.int .i64 n, .int .i64 l, .int .i64 m, .slice Aa adds.length ca, .slice Ad dels.length cd] 45 (0, 0)))) (fun _ i _ => adds.length - (intOf i).toNat)
        case atStart => exact ⟨0, xs, Nat.zero_le _, rfl, HL, HV, HR, HB, HK⟩
        case round =>
          clear HR HB HK HL HV hltK
          obtain ⟨j, ys, hj, rfl, HL, HV, HR, HB, HK⟩ := hrel
          obtain ⟨q3, q4⟩ := ecells HK.out
          have hltK := blk_lt HK.out
          have hyl : ys.length ≤ 400 := by have := HL.out; have := HAL.out.1; omega
          by_cases hlt : j < adds.length
          · obtain ⟨ad, ea, hx0, hx1, hx2, hx3, hx4⟩ := at_T41 (Kd.C_below HA.out HB.out) (j : Int) (by omega) (by omega)
            cases ea
            rw [rd_at hlt, Int.toNat_natCast] at hx0 hx1 hx2 hx3 hx4
            obtain ⟨x, hxx⟩ : ∃ x, adds[j] = x := ⟨_, rfl⟩
            rw [hxx] at hx0 hx1 hx2 hx3 hx4
            have HV2 := Aside0.mk (show delR v n l m adds v.files dels = if idx (fun y => y.f0 == x.f0) ys ≥ 0 then none else addR v n l m (ys ++ [x]) (adds.drop (j + 1)) by rw [← HV.out, List.drop_eq_getElem_cons hlt, hxx, addR_cons])
            obtain ⟨Al, cl, el, hcl, hCl⟩ := Kd.R_reads HR.out
            subst el
            have HC := Aside0.mk hCl
            obtain ⟨kn, hkn⟩ := num_any ys x.f0 (by omega)
            clear hxx hCl
            rcases idx_cases (fun y => y.f0 == x.f0) ys with hi | ⟨i, hil, hi⟩
            · have HN := Aside0.mk (show addR v n l m (ys ++ [x]) (adds.drop (j + 1)) = delR v n l m adds v.files dels by rw [HV2.out, hi]; rfl)
              rw [hi] at hkn
              have HKN := Aside0.mk hkn
              clear hi hkn
              as_aux_lemma =>
              go_wp2_with (first
                | (go_at_call 89
                   refine (incipitref12_num.calls kn Al cl ys x.f0 (-1) _ HC.out hcl HKN.out).mono ?_
                   rintro e w3 ⟨rfl, ⟨nd, rfl⟩⟩)
                | (at_builtin
                   refine Kd.R_append k41 (w0 := w) w.heap.size rfl (.tmp 63) (.tmp 69) 39 41 (.agg #[.int .i64 0, .int .i64 0, .int .i64 0, .string ⟨#[]⟩, .string ⟨#[]⟩]) 56 rfl Try.underlying39 info41 rfl (by decide) (by omega) (.slice Al ys.length cl) ys x [.int .i64 x.f0, .int .i64 x.f1, .int .i64 x.f2, .string x.f3, .string x.f4] (fun k => w.heap.size < k) (fun _ => False) rfl (by first | (go_simp; done) | (go_simp; rfl)) ?aP (fun _ hk => hk.elim) ?aF ?aO ?aB ?aS ?aL ?_
                   (case aP => exact k41_mkM _ _ _ x)
                   (case aF => exact fun k hk => Nat.lt_of_lt_of_le hltK hk)
                   (case aO => exact Kd.R_below HR.out (pw_below_drewN (Below.refl _ _) nd))
                   (case aB => exact pw_below_drewN HB.out nd)
                   (case aS => exact (pw_below_drewN HB.out nd).size)
                   (case aL => omega)
                   intro v3 w3 ho hb hg hat
                   have HR3 := Aside0.mk ho
                   have HB3 := Aside0.mk hb
                   have HK3 := Aside0.mk (blk_grown (show (wr.drewN nd).heap[w.heap.size]? = _ from HK.out) hg (fun e => Nat.lt_irrefl _ (HR.out.1 _ e.symm)))
                   clear ho hb hg hat))
              go_roundw
              case rel => first
                | exact ⟨j + 1, ys ++ [x], by omega, by go_num, ⟨by rw [List.length_append]; have := HL.out; simp; omega⟩, ⟨HN.out⟩, HR3, HB3, HK3⟩
                | (trace_state; fail)
              case measure => simp [intOf]; omega
            · have HN := Aside0.mk (show delR v n l m adds v.files dels = none by rw [HV2.out, hi, if_pos (by omega)])
              rw [hi] at hkn
              have HKN := Aside0.mk hkn
              have hi0 : (0 : Int) ≤ (i : Int) := Int.natCast_nonneg i
              have hi1 : decide ((0 : Int) ≤ (i : Int)) = true := decide_eq_true hi0
              clear hi hkn
              as_aux_lemma =>
              go_wp2_with (
                go_at_call 89
                refine (incipitref12_num.calls kn Al cl ys x.f0 (i : Int) _ HC.out hcl HKN.out).mono ?_
                rintro e w3 ⟨rfl, ⟨nd, rfl⟩⟩)
              go_ret
              exact .inl ⟨HN.out, rfl, pw_below_drewN HB.out _⟩
          · obtain rfl : j = adds.length := by omega
            rw [List.drop_length, addR_nil] at HV
            obtain ⟨Al, cl, el, hcl, hCl⟩ := Kd.R_reads HR.out
            subst el
            go_wp2
            clear q3 q4 hCl
            go_loopw [9] (fun i wr => ∃ (j : Nat), j ≤ ys.length ∧ i = .int .i64 j ∧ Aside0 ((ys.take j).Pairwise fun b a => hitR a b = false) ∧ Aside0 (Kd.R k41 41 wr w.heap.size (fun k => w.heap.size < k) (.slice Al ys.length cl) ys) ∧ Aside0 (Below w.heap.size w wr) ∧ Aside0 (wr.heap[w.heap.size]? = some (.cells #[.int .i64 n, .int .i64 l, .int .i64 m, .slice Aa adds.length ca, .slice Ad dels.length cd] 45 (0, 0)))) (fun i _ => ys.length - (intOf i).toNat)
            case atStart => exact ⟨0, Nat.zero_le _, rfl, ⟨by simp⟩, HR, HB, HK⟩
            case round =>
              clear HR HB HK hltK
              obtain ⟨j, hj, rfl, HP, HR, HB, HK⟩ := hrel
              by_cases hlt : j < ys.length
              · go_wp2
                go_loopw [10] (fun i wr => ∃ (k : Nat), k ≤ j ∧ i = .int .i64 k ∧ Aside0 (∀ y ∈ ys.take k, hitR ys[j] y = false) ∧ Aside0 (Kd.R k41 41 wr w.heap.size (fun k => w.heap.size < k) (.slice Al ys.length cl) ys) ∧ Aside0 (Below w.heap.size w wr) ∧ Aside0 (wr.heap[w.heap.size]? = some (.cells #[.int .i64 n, .int .i64 l, .int .i64 m, .slice Aa adds.length ca, .slice Ad dels.length cd] 45 (0, 0)))) (fun i _ => j - (intOf i).toNat)
                case atStart => exact ⟨0, Nat.zero_le _, rfl, ⟨by simp⟩, HR, HB, HK⟩
                case round =>
                  clear HR HB HK
                  obtain ⟨k, hk, rfl, HN, HR, HB, HK⟩ := hrel
                  by_cases hlt2 : k < j
                  · obtain ⟨A9, c9, e9, -, hC9⟩ := Kd.R_reads HR.out
                    injection e9 with e9 _ e10
                    subst e9
                    subst e10
                    have hkl : k < ys.length := by omega
                    obtain ⟨ad, ea, hx0, hx1, hx2, hx3, hx4⟩ := at_T41 hC9 (j : Int) (by omega) (by omega)
                    cases ea
                    obtain ⟨ad2, ea, hy0, hy1, hy2, hy3, hy4⟩ := at_T41 hC9 (k : Int) (by omega) (by omega)
                    cases ea
                    rw [rd_at hlt, Int.toNat_natCast] at hx0 hx1 hx2 hx3 hx4
                    rw [rd_at hkl, Int.toNat_natCast] at hy0 hy1 hy2 hy3 hy4
                    obtain ⟨x, hxx⟩ : ∃ x, ys[j] = x := ⟨_, rfl⟩
                    obtain ⟨y, hyy⟩ : ∃ y, ys[k] = y := ⟨_, rfl⟩
                    rw [hxx] at hx0 hx1 hx2 hx3 hx4 HN
                    rw [hyy] at hy0 hy1 hy2 hy3 hy4
                    have HX := Aside0.mk hxx
                    have HY := Aside0.mk hyy
                    clear hxx hyy hC9 hx0 hx2 hy0 hy2
                    cases d1 : (x.f1 == y.f1) with
                    | false =>
                      have HH := Aside0.mk (show hitR x y = false by unfold hitR; rw [d1, Bool.false_and])
                      as_aux_lemma =>
                      go_wp2
                      go_quiet (fail)
                      go_wp2
                      go_roundw
                      case rel => exact ⟨k + 1, by omega, by go_num, ⟨by rw [HX.out]; exact all_snoc HN.out hkl HY.out HH.out⟩, ⟨Kd.R_below HR.out (pw_below_drewN (Below.refl _ _) _)⟩, ⟨pw_below_drewN HB.out _⟩, HK⟩
                      case measure => simp [intOf]; omega
                    | true =>
                      cases d2 : decide (0 < x.f1) with
                      | false =>
                        have HH := Aside0.mk (show hitR x y = false by unfold hitR; rw [d1, show decide (x.f1 > 0) = false from d2, Bool.false_and, Bool.true_and])
                        as_aux_lemma =>
                        go_wp2
                        go_quiet (fail)
                        go_wp2
                        go_roundw
                        case rel => exact ⟨k + 1, by omega, by go_num, ⟨by rw [HX.out]; exact all_snoc HN.out hkl HY.out HH.out⟩, ⟨Kd.R_below HR.out (pw_below_drewN (Below.refl _ _) _)⟩, ⟨pw_below_drewN HB.out _⟩, HK⟩
                        case measure => simp [intOf]; omega
                      | true =>
                        cases d3 : leS x.f3 y.f4 with
                        | false =>
                          have HH := Aside0.mk (show hitR x y = false by unfold hitR; rw [d1, d3, Bool.false_and, Bool.and_false, Bool.and_false])
                          have h3 := d3
                          unfold leS at h3
                          have D3 := Aside0.mk d3
                          clear d3
                          as_aux_lemma =>
                          go_wp2
                          go_quiet (fail)
                          go_wp2
                          go_roundw
                          case rel => exact ⟨k + 1, by omega, by go_num, ⟨by rw [HX.out]; exact all_snoc HN.out hkl HY.out HH.out⟩, ⟨Kd.R_below HR.out (pw_below_drewN (Below.refl _ _) _)⟩, ⟨pw_below_drewN HB.out _⟩, HK⟩
                          case measure => simp [intOf]; omega
                        | true =>
                          have h3 := d3
                          unfold leS at h3
                          have D3 := Aside0.mk d3
                          clear d3
                          cases d4 : leS y.f3 x.f4 with
                          | false =>
                            have HH := Aside0.mk (show hitR x y = false by unfold hitR; rw [d4, Bool.and_false, Bool.and_false, Bool.and_false])
                            have h4 := d4
                            unfold leS at h4
                            have D4 := Aside0.mk d4
                            clear d4
                            as_aux_lemma =>
                            go_wp2
                            go_quiet (fail)
                            go_wp2
                            go_roundw
                            case rel => exact ⟨k + 1, by omega, by go_num, ⟨by rw [HX.out]; exact all_snoc HN.out hkl HY.out HH.out⟩, ⟨Kd.R_below HR.out (pw_below_drewN (Below.refl _ _) _)⟩, ⟨pw_below_drewN HB.out _⟩, HK⟩
                            case measure => simp [intOf]; omega
                          | true =>
                            have HH := Aside0.mk (show hitR x y = true by unfold hitR; rw [d1, show decide (x.f1 > 0) = true from d2, D3.out, d4]; rfl)
                            have h4 := d4
                            unfold leS at h4
                            have D4 := Aside0.mk d4
                            clear d4
                            as_aux_lemma =>
                            go_wp2
                            go_quiet (fail)
                            go_wp2
                            go_ret
                            refine .inl ⟨?_, rfl, pw_below_drewN HB.out _⟩
                            rw [← HV.out]
                            unfold endR finR
                            rw [hitR_false hlt2 hlt HX.out HY.out HH.out]
                            rfl
                  · obtain rfl : k = j := by omega
                    go_wp2
                    go_roundw
                    case rel =>
                      refine ⟨k + 1, by omega, by go_num, ⟨?_⟩, HR, HB, HK⟩
                      rw [List.take_succ_eq_append_getElem hlt]
                      refine List.pairwise_append.2 ⟨HP.out, by simp, fun y hy z hz => ?_⟩
                      rw [List.mem_singleton.1 hz]; exact HN.out y hy
                    case measure => simp [intOf]; omega
              · obtain rfl : j = ys.length := by omega
                have HAP := Aside0.mk (apartR_true HP.out)
                obtain ⟨Ao, co, hblkg, -, -⟩ := (HI.out.step HB.out).row
                obtain ⟨p0, p1, p2, p3⟩ := hblkg.cells
                have hltN := HB.out.size
                clear hblkg HP
                go_upto_region 27 with (fail)
                have HS0 := Aside0.mk (RSt.start (a := v.next) (b := v.log) (c := v.last) HB.out HK.out HR.out)
                obtain ⟨W, hW⟩ : ∃ W, W = (wr.alloc (.cells #[(.slice Al ys.length cl), .int .i64 v.next, .int .i64 v.log, .int .i64 v.last] 113)) := ⟨_, rfl⟩
                rw [← hW] at HS0
                rw [← hW]
                obtain ⟨N, hN⟩ : ∃ N, wr.heap.size = N := ⟨_, rfl⟩
                simp only [hN] at HS0 ⊢
                clear hW hN HR HB HK p0 p1 p2 p3 hltN
                obtain ⟨q0, q1, q2, n1, n2, n3, f1, f2, f3⟩ := HS0.out.nums
                go_upto_if 134 with (fail)
                go_cut [] (fun wc => Aside0 (RSt w N #[.int .i64 n, .int .i64 l, .int .i64 m, .slice Aa adds.length ca, .slice Ad dels.length cd] (.slice Al ys.length cl) ⟨ys, newR v.next n, v.log, v.last⟩ wc))
                case first =>
                  by_cases hn : n = 0
                  · have e1 : (n != 0) = false := bne_eq_false_iff_eq.mpr hn
                    have E2 := Aside0.mk (show newR v.next n = v.next by unfold newR; rw [if_neg (fun h => h hn)])
                    clear hn
                    go_wp2
                    go_meet
                    case rel => exact ⟨by rw [E2.out]; exact HS0.out⟩
                  · have e1 : (n != 0) = true := bne_iff_ne.mpr hn
                    have E2 := Aside0.mk (show newR v.next n = n by unfold newR; rw [if_pos hn])
                    clear hn
                    go_wp2
                    go_meet
                    case rel => exact ⟨by rw [E2.out]; exact HS0.out.set1 n⟩
                clear q0 q1 q2 n1 n2 n3 f1 f2 f3
                have HS1 := hcut
                clear hcut HS0
                obtain ⟨W1, hW1⟩ : ∃ W, W = wc := ⟨_, rfl⟩
                rw [← hW1] at HS1
                rw [← hW1]
                clear hW1
                try clear wc
                obtain ⟨q0, q1, q2, n1, n2, n3, f1, f2, f3⟩ := HS1.out.nums
                go_upto_if 140 with (fail)
                go_cut [] (fun wc => Aside0 (RSt w N #[.int .i64 n, .int .i64 l, .int .i64 m, .slice Aa adds.length ca, .slice Ad dels.length cd] (.slice Al ys.length cl) ⟨ys, newR v.next n, newR v.log l, v.last⟩ wc))
                case first =>
                  by_cases hn : l = 0
                  · have e1 : (l != 0) = false := bne_eq_false_iff_eq.mpr hn
                    have E2 := Aside0.mk (show newR v.log l = v.log by unfold newR; rw [if_neg (fun h => h hn)])
                    clear hn
                    go_wp2
                    go_meet
                    case rel => exact ⟨by rw [E2.out]; exact HS1.out⟩
                  · have e1 : (l != 0) = true := bne_iff_ne.mpr hn
                    have E2 := Aside0.mk (show newR v.log l = l by unfold newR; rw [if_pos hn])
                    clear hn
                    go_wp2
                    go_meet
                    case rel => exact ⟨by rw [E2.out]; exact HS1.out.set2 l⟩
                clear q0 q1 q2 n1 n2 n3 f1 f2 f3
                have HS2 := hcut
                clear hcut HS1
                obtain ⟨W2, hW2⟩ : ∃ W, W = wc := ⟨_, rfl⟩
                rw [← hW2] at HS2
                rw [← hW2]
                clear hW2
                try clear wc
                obtain ⟨q0, q1, q2, n1, n2, n3, f1, f2, f3⟩ := HS2.out.nums
                go_upto_if 146 with (fail)
                go_cut [] (fun wc => Aside0 (RSt w N #[.int .i64 n, .int .i64 l, .int .i64 m, .slice Aa adds.length ca, .slice Ad dels.length cd] (.slice Al ys.length cl) ⟨ys, newR v.next n, newR v.log l, newR v.last m⟩ wc))
                case first =>
                  by_cases hn : m = 0
                  · have e1 : (m != 0) = false := bne_eq_false_iff_eq.mpr hn
                    have E2 := Aside0.mk (show newR v.last m = v.last by unfold newR; rw [if_neg (fun h => h hn)])
                    clear hn
                    go_wp2
                    go_meet
                    case rel => exact ⟨by rw [E2.out]; exact HS2.out⟩
                  · have e1 : (m != 0) = true := bne_iff_ne.mpr hn
                    have E2 := Aside0.mk (show newR v.last m = m by unfold newR; rw [if_pos hn])
                    clear hn
                    go_wp2
                    go_meet
                    case rel => exact ⟨by rw [E2.out]; exact HS2.out.set3 m⟩
                clear q0 q1 q2 n1 n2 n3 f1 f2 f3
                have HS3 := hcut
                clear hcut HS2
                obtain ⟨W3, hW3⟩ : ∃ W, W = wc := ⟨_, rfl⟩
                rw [← hW3] at HS3
                rw [← hW3]
                clear hW3
                try clear wc
                obtain ⟨q0, q1, q2, n1, n2, n3, f1, f2, f3⟩ := HS3.out.nums
                obtain ⟨a1, ha1⟩ : ∃ a, a = newR v.next n := ⟨_, rfl⟩
                obtain ⟨a2, ha2⟩ : ∃ a, a = newR v.log l := ⟨_, rfl⟩
                obtain ⟨a3, ha3⟩ : ∃ a, a = newR v.last m := ⟨_, rfl⟩
                have HA1 := Aside0.mk ha1
                have HA2 := Aside0.mk ha2
                have HA3 := Aside0.mk ha3
                simp only [← ha1, ← ha2, ← ha3] at HS3 n1 n2 n3
                clear ha1 ha2 ha3
                go_upto_region 33 with (fail)
                go_cut [12] (fun v12 wc => v12 = .bool (badR v a1 a2 a3 ys) ∧ Aside0 (RSt w N #[.int .i64 n, .int .i64 l, .int .i64 m, .slice Aa adds.length ca, .slice Ad dels.length cd] (.slice Al ys.length cl) ⟨ys, a1, a2, a3⟩ wc))
                case first =>
                  obtain ⟨Ap, cp, hblkg, -, -⟩ := (HI.out.step HS3.out.below).row
                  obtain ⟨p0, p1, p2, p3⟩ := hblkg.cells
                  clear hblkg
                  obtain ⟨b1, h1⟩ : ∃ b, decide ((200 : Int) < (ys.length : Int)) = b := ⟨_, rfl⟩
                  have h1n : decide (200 < ys.length) = b1 := by rw [← h1]; exact decide_eq_decide.2 (by omega)
                  obtain ⟨b2, h2⟩ : ∃ b, decide (a1 < v.next) = b := ⟨_, rfl⟩
                  obtain ⟨b3, h3⟩ : ∃ b, decide (a2 < v.log) = b := ⟨_, rfl⟩
                  obtain ⟨b4, h4⟩ : ∃ b, decide (a3 < v.last) = b := ⟨_, rfl⟩
                  obtain ⟨b5, h5⟩ : ∃ b, decide (a1 ≤ a2) = b := ⟨_, rfl⟩
                  obtain ⟨b6, h6⟩ : ∃ b, decide (0 < a2) = b := ⟨_, rfl⟩
                  have HBAD := Aside0.mk (show badR v a1 a2 a3 ys = (b1 || (b2 || (b3 || (b4 || (b5 && b6))))) by unfold badR; rw [h1n, h2, h3, h4, show decide (a2 ≥ a1) = b5 from h5, show decide (a2 > 0) = b6 from h6])
                  cases b1 with
                  | true =>
                    as_aux_lemma =>
                    go_quiet (fail)
                    go_wp2
                    go_meet
                    case rel => exact ⟨by rw [HBAD.out]; rfl, ⟨HS3.out.step (pw_below_drewN (Below.refl _ _) _)⟩⟩
                  | false =>
                    cases b2 with
                    | true =>
                      as_aux_lemma =>
                      go_quiet (fail)
                      go_wp2
                      go_meet
                      case rel => exact ⟨by rw [HBAD.out]; rfl, ⟨HS3.out.step (pw_below_drewN (Below.refl _ _) _)⟩⟩
                    | false =>
                      cases b3 with
                      | true =>
                        as_aux_lemma =>
                        go_quiet (fail)
                        go_wp2
                        go_meet
                        case rel => exact ⟨by rw [HBAD.out]; rfl, ⟨HS3.out.step (pw_below_drewN (Below.refl _ _) _)⟩⟩
                      | false =>
                        cases b4 with
                        | true =>
                          as_aux_lemma =>
                          go_quiet (fail)
                          go_wp2
                          go_meet
                          case rel => exact ⟨by rw [HBAD.out]; rfl, ⟨HS3.out.step (pw_below_drewN (Below.refl _ _) _)⟩⟩
                        | false =>
                          cases b5 with
                          | false =>
                            as_aux_lemma =>
                            go_quiet (fail)
                            go_wp2
                            go_meet
                            case rel => exact ⟨by rw [HBAD.out]; rfl, ⟨HS3.out.step (pw_below_drewN (Below.refl _ _) _)⟩⟩
                          | true =>
                            cases b6 with
                            | false =>
                              as_aux_lemma =>
                              go_quiet (fail)
                              go_wp2
                              go_meet
                              case rel => exact ⟨by rw [HBAD.out]; rfl, ⟨HS3.out.step (pw_below_drewN (Below.refl _ _) _)⟩⟩
                            | true =>
                              as_aux_lemma =>
                              go_quiet (fail)
                              go_wp2
                              go_meet
                              case rel => exact ⟨by rw [HBAD.out]; rfl, ⟨HS3.out.step (pw_below_drewN (Below.refl _ _) _)⟩⟩
                obtain ⟨rfl, HS4⟩ := hcut
                clear q0 q1 q2 n1 n2 n3 f1 f2 f3 HS3
                as_aux_lemma =>
                go_wp2
                go_loopw [12, 13] (fun b i wr => ∃ k : Nat, k ≤ ys.length ∧ b = .bool (badR v a1 a2 a3 ys || anyGe a1 (ys.take k)) ∧ i = .int .i64 k ∧ Aside0 (RSt w N #[.int .i64 n, .int .i64 l, .int .i64 m, .slice Aa adds.length ca, .slice Ad dels.length cd] (.slice Al ys.length cl) ⟨ys, a1, a2, a3⟩ wr)) (fun _ i _ => ys.length - (intOf i).toNat)
                case atStart => exact ⟨0, Nat.zero_le _, by rw [List.take_zero]; show _ = Value.bool (_ || false); rw [Bool.or_false], rfl, HS4⟩
                case round =>
                  clear HS4
                  obtain ⟨k, hk, rfl, rfl, HS⟩ := hrel
                  by_cases hlt : k < ys.length
                  · have HT := Aside0.mk (any_take (N := a1) hlt)
                    obtain ⟨bb, hbb⟩ : ∃ bb, (badR v a1 a2 a3 ys || anyGe a1 (ys.take k)) = bb := ⟨_, rfl⟩
                    have HBB := Aside0.mk hbb
                    rw [hbb]
                    clear hbb
                    cases bb with
                    | true =>
                      go_wp2
                      go_quiet (fail)
                      go_wp2
                      go_roundw
                      case rel => exact ⟨k + 1, by omega, by rw [HT.out, ← Bool.or_assoc, HBB.out]; rfl, by go_num, ⟨HS.out.step (pw_below_drewN (Below.refl _ _) _)⟩⟩
                      case measure => simp [intOf]; omega
                    | false =>
                      obtain ⟨A9, c9, e9, -, hC9⟩ := Kd.R_reads HS.out.row
                      injection e9 with e9 _ e10
                      subst e9
                      subst e10
                      obtain ⟨ad, ea, hx0, hx1, hx2, hx3, hx4⟩ := at_T41 hC9 (k : Int) (by omega) (by show (k : Int) < (ys.length : Int); omega)
                      cases ea
                      rw [rd_at hlt, Int.toNat_natCast] at hx0
                      obtain ⟨x, hxx⟩ : ∃ x, ys[k] = x := ⟨_, rfl⟩
                      rw [hxx] at hx0 HT
                      obtain ⟨q0, q1, q2, n1, n2, n3, f1, f2, f3⟩ := HS.out.nums
                      have n1' : wr.cell? ⟨N, 1, none⟩ = some (.int .i64 a1) := n1
                      clear hxx hC9 hx1 hx2 hx3 hx4 q0 q1 q2 n1 n2 n3 f1 f2 f3
                      obtain ⟨b7, h7⟩ : ∃ b, decide (a1 ≤ x.f0) = b := ⟨_, rfl⟩
                      rw [h7] at HT
                      go_wp2
                      go_quiet (fail)
                      go_wp2
                      go_roundw
                      case rel => exact ⟨k + 1, by omega, by rw [HT.out, ← Bool.or_assoc, HBB.out, Bool.false_or], by go_num, ⟨HS.out.step (pw_below_drewN (Below.refl _ _) _)⟩⟩
                      case measure => simp [intOf]; omega
                  · obtain rfl : k = ys.length := by omega
                    rw [List.take_length]
                    have HFIN := Aside0.mk (show delR v n l m adds v.files dels = if (badR v a1 a2 a3 ys || anyGe a1 ys) = true then none else some ⟨ys, a1, a2, a3⟩ by
                      rw [← HV.out]
                      unfold endR finR
                      rw [← HA1.out, ← HA2.out, ← HA3.out, HAP.out]
                      cases (badR v a1 a2 a3 ys || anyGe a1 ys) <;> rfl)
                    cases hbb : (badR v a1 a2 a3 ys || anyGe a1 ys) with
                    | true =>
                      rw [hbb, if_pos rfl] at HFIN
                      clear hbb
                      go_wp2
                      go_ret
                      exact .inl ⟨HFIN.out, rfl, HS.out.below⟩
                    | false =>
                      rw [hbb, if_neg (by decide)] at HFIN
                      clear hbb
                      have HEND := Aside0.mk (R_fin HI.out HS.out)
                      obtain ⟨Ap, cp, hblkg, -, -⟩ := (HI.out.step HS.out.below).row
                      obtain ⟨p0, p1, p2, p3⟩ := hblkg.cells
                      obtain ⟨z0, z1, z2, z3⟩ := hblkg.free
                      obtain ⟨m0, m1, m2, m3⟩ := HS.out.blk.cells
                      have m1' : wr.cell? ⟨N, 1, none⟩ = some (.int .i64 a1) := m1
                      have m2' : wr.cell? ⟨N, 2, none⟩ = some (.int .i64 a2) := m2
                      have m3' : wr.cell? ⟨N, 3, none⟩ = some (.int .i64 a3) := m3
                      clear hblkg m1 m2 m3
                      go_wp2
                      go_ret
                      exact .inr ⟨_, HFIN.out, rfl, HEND.out.1, HEND.out.2⟩
end Go.Proofs.Ytjhijcehcklipaa.MVe
