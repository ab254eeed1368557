/-
  Edits: may an edit be? Walked.
-/
import Derived.Test.YtjhijcehcklipaaZVeW5
namespace Go.Proofs.Ytjhijcehcklipaa.MVe
open Go.RowKit Go.Proofs.YtjhijcehcklipaaW.PrintWords Go.Proofs.YtjhijcehcklipaaW.PrintLast Go.Proofs.YtjhijcehcklipaaW.PrintMore
attribute [local go_sem] max2_int min2_int max_two min_two max_three min_three max_four min_four
set_option linter.unusedVariables false
set_option linter.unusedSimpArgs false

/-- An edit's value in memory. -/
def eCells (n l m : Int) (va vd : Value) : Array Value := #[.int .i64 n, .int .i64 l, .int .i64 m, va, vd]
theorem ecells {w : World} {b : Nat} {n l m : Int} {va vd : Value} (h : w.heap[b]? = some (.cells #[.int .i64 n, .int .i64 l, .int .i64 m, va, vd] 45 (0, 0))) : w.cell? ⟨b, 3, none⟩ = some va ∧ w.cell? ⟨b, 4, none⟩ = some vd :=
  ⟨(blk_cell h 3).trans rfl, (blk_cell h 4).trans rfl⟩
/-- May an edit be, ahead of its tables? -/
def chainOk (n l m : Int) (adds : List S41) (dels : List Int) : Bool := inB 0 1125899906842624 [n, l, m] && (decide ((adds.length : Int) ≤ 200) && (decide ((dels.length : Int) ≤ 200) && inB 1 1125899906842624 dels))
def editOk (n l m : Int) (adds : List S41) (dels : List Int) : Bool := chainOk n l m adds dels && adds.all fileOk
theorem all_take {xs : List S41} {p : S41 → Bool} {j : Nat} (h : j < xs.length) : (xs.take (j + 1)).all p = ((xs.take j).all p && p xs[j]) := by
  rw [List.take_succ_eq_append_getElem h, List.all_append]; simp

set_option maxHeartbeats 600000 in
set_option maxRecDepth 100000 in
theorem Check.calls (n l m : Int) (Aa Ad : Option Addr) (ca cd : Nat) (adds : List S41) (dels : List Int) (w : World) (ha : Kd.C k41 w Aa adds.length adds) (hca : adds.length ≤ ca) (hd : Kd.C (Kd.int .i64) w Ad dels.length dels) (hcd : dels.length ≤ cd) (hdl : dels.length ≤ 1000000) :
    Calls Try.prog 48 #[.agg #[.int .i64 n, .int .i64 l, .int .i64 m, .slice Aa adds.length ca, .slice Ad dels.length cd]] w fun e w' => e = .returned (.int .i64 (if editOk n l m adds dels = true then 0 else 12)) ∧ Below w.heap.size w w' := by
  have hu41 := Try.underlying41
  have hu45 := Try.underlying45
  have hal : adds.length ≤ 9223372036854775807 := Kd.C_max ha
  have HA := Aside0.mk ha
  have HD := Aside0.mk hd
  have HB := Aside0.mk (below_alloc (Below.refl w.heap.size w) (.cells #[.int .i64 n, .int .i64 l, .int .i64 m, .slice Aa adds.length ca, .slice Ad dels.length cd] 45))
  have hb0 := blk_new w (.cells #[.int .i64 n, .int .i64 l, .int .i64 m, .slice Aa adds.length ca, .slice Ad dels.length cd] 45)
  have HK := Aside0.mk hb0
  clear hb0 ha hd
  obtain ⟨y, hy⟩ : ∃ y : List Int, y = [n, l, m] := ⟨_, rfl⟩
  obtain ⟨k1, h1⟩ := in_any 0 1125899906842624 y (by rw [hy]; simp)
  obtain ⟨k2, h2⟩ := in_any 1 1125899906842624 dels hdl
  unfold editOk chainOk
  rw [← hy]
  generalize inB 0 1125899906842624 y = b1 at h1
  generalize inB 1 1125899906842624 dels = b2 at h2
  have HY := Aside0.mk hy
  have H1 := Aside0.mk h1
  have H2 := Aside0.mk h2
  clear hy h1 h2
  cases b1 with
  | false =>
    rw [Bool.false_and, Bool.false_and]
    go_enter Try.func48, Try.ntmps48
    go_wp2_with (first
        | ((with_reducible refine gate_dst (N := 12) rfl ?_)
           refine Kd.R_lit (Kd.int .i64) (w0 := w) w.heap.size 2 ?hg (N := 12) ?hd (xs := [n, l, m]) (inner := [.int .i64 n, .int .i64 l, .int .i64 m]) (ok := fun _ => True) (okp := fun _ => True) ?hr ?hp (fun _ hk => hk) trivial ?aB ?aS (by simp) ?_
           (case hd => rfl)
           (case hg => rfl)
           (case hr => first | (go_simp; done) | (go_simp; rfl))
           (case hp => exact Reps.one (show Kd.M (Kd.int .i64) _ _ _ n [.int .i64 n] from rfl) (Reps.one (show Kd.M (Kd.int .i64) _ _ _ l [.int .i64 l] from rfl) (Reps.one (show Kd.M (Kd.int .i64) _ _ _ m [.int .i64 m] from rfl) (Reps.none _ _))))
           (case aB => exact HB.out)
           (case aS => exact HB.out.size)
           intro v12 w12 ho hb hg hat
           rw [← HY.out] at ho
           obtain ⟨A12, c12, e12, hc12, hC12⟩ := Kd.R_reads ho
           subst e12
           have HC12 := Aside0.mk hC12
           have HCL12 := Aside0.mk hc12
           have HB12 := Aside0.mk hb
           have HK12 := Aside0.mk ((hg.block w.heap.size (blk_lt HK.out) (by simp)).trans HK.out)
           obtain ⟨q3, q4⟩ := ecells HK12.out
           clear ho hb hg hat hC12 hc12)
        | (go_at_call 77
           (with_reducible refine (edit_in.calls k1 0 1125899906842624 A12 c12 y false _ HC12.out HCL12.out H1.out).mono ?_)
           rintro e w' ⟨rfl, ⟨nd1, rfl⟩⟩))
    have HBS := Aside0.mk (pw_below_drewN HB12.out nd1)
    go_loopw [3, 34] (fun v3 i wr => ∃ j : Nat, j ≤ adds.length ∧ i = .int .i64 j ∧ v3 = .bool false ∧ Aside0 (Below w.heap.size w wr)) (fun _ i _ => adds.length - (intOf i).toNat)
    case atStart => exact ⟨0, Nat.zero_le _, rfl, rfl, HBS⟩
    case round =>
      clear HBS
      obtain ⟨j, hj, rfl, rfl, HBW⟩ := hrel
      by_cases hlt : j < adds.length
      · obtain ⟨ad, ea, hx0, hx1, hx2, hx3, hx4⟩ := at_T41 (Kd.C_below HA.out HBW.out) (j : Int) (by omega) (by omega)
        cases ea
        rw [Int.toNat_natCast] at hx0 hx1 hx2 hx3 hx4
        generalize rd_T41 adds (j : Int) = x at hx0 hx1 hx2 hx3 hx4
        have HB1 := Aside0.mk (below_alloc HBW.out (.cells #[.int .i64 x.f0, .int .i64 x.f1, .int .i64 x.f2, .string x.f3, .string x.f4] 41))
        go_wp2
        go_roundw
        case rel => exact ⟨j + 1, by omega, by go_num, rfl, HB1⟩
        case measure => simp [intOf]; omega
      · obtain rfl : j = adds.length := by omega
        go_wp2
        go_ret
        exact ⟨rfl, HBW.out⟩
  | true =>
    by_cases ga : (adds.length : Int) ≤ 200
    · have ga' : decide ((adds.length : Int) ≤ 200) = true := decide_eq_true ga
      have ga2 : adds.length ≤ 200 := by omega
      by_cases gd : (dels.length : Int) ≤ 200
      · have gd' : decide ((dels.length : Int) ≤ 200) = true := decide_eq_true gd
        have gd2 : dels.length ≤ 200 := by omega
        cases b2 with
        | false =>
          rw [Bool.and_false, Bool.and_false, Bool.and_false, Bool.false_and]
          go_enter Try.func48, Try.ntmps48
          go_wp2_with (first
              | ((with_reducible refine gate_dst (N := 12) rfl ?_)
                 refine Kd.R_lit (Kd.int .i64) (w0 := w) w.heap.size 2 ?hg (N := 12) ?hd (xs := [n, l, m]) (inner := [.int .i64 n, .int .i64 l, .int .i64 m]) (ok := fun _ => True) (okp := fun _ => True) ?hr ?hp (fun _ hk => hk) trivial ?aB ?aS (by simp) ?_
                 (case hd => rfl)
                 (case hg => rfl)
                 (case hr => first | (go_simp; done) | (go_simp; rfl))
                 (case hp => exact Reps.one (show Kd.M (Kd.int .i64) _ _ _ n [.int .i64 n] from rfl) (Reps.one (show Kd.M (Kd.int .i64) _ _ _ l [.int .i64 l] from rfl) (Reps.one (show Kd.M (Kd.int .i64) _ _ _ m [.int .i64 m] from rfl) (Reps.none _ _))))
                 (case aB => exact HB.out)
                 (case aS => exact HB.out.size)
                 intro v12 w12 ho hb hg hat
                 rw [← HY.out] at ho
                 obtain ⟨A12, c12, e12, hc12, hC12⟩ := Kd.R_reads ho
                 subst e12
                 have HC12 := Aside0.mk hC12
                 have HCL12 := Aside0.mk hc12
                 have HB12 := Aside0.mk hb
                 have HK12 := Aside0.mk ((hg.block w.heap.size (blk_lt HK.out) (by simp)).trans HK.out)
                 obtain ⟨q3, q4⟩ := ecells HK12.out
                 clear ho hb hg hat hC12 hc12)
              | (go_at_call 77
                 (with_reducible refine (edit_in.calls k1 0 1125899906842624 A12 c12 y true _ HC12.out HCL12.out H1.out).mono ?_)
                 rintro e w' ⟨rfl, ⟨nd1, rfl⟩⟩)
              | (go_at_call 77
                 (with_reducible refine (edit_in.calls k2 1 1125899906842624 Ad cd dels false _ (Kd.C_drewN (Kd.C_below HD.out HB12.out) _) hcd H2.out).mono ?_)
                 rintro e w' ⟨rfl, ⟨nd2, rfl⟩⟩))
          have HBS := Aside0.mk (pw_below_drewN HB12.out (nd1 + nd2))
          go_loopw [3, 34] (fun v3 i wr => ∃ j : Nat, j ≤ adds.length ∧ i = .int .i64 j ∧ v3 = .bool false ∧ Aside0 (Below w.heap.size w wr)) (fun _ i _ => adds.length - (intOf i).toNat)
          case atStart => exact ⟨0, Nat.zero_le _, rfl, rfl, HBS⟩
          case round =>
            clear HBS
            obtain ⟨j, hj, rfl, rfl, HBW⟩ := hrel
            by_cases hlt : j < adds.length
            · obtain ⟨ad, ea, hx0, hx1, hx2, hx3, hx4⟩ := at_T41 (Kd.C_below HA.out HBW.out) (j : Int) (by omega) (by omega)
              cases ea
              rw [Int.toNat_natCast] at hx0 hx1 hx2 hx3 hx4
              generalize rd_T41 adds (j : Int) = x at hx0 hx1 hx2 hx3 hx4
              have HB1 := Aside0.mk (below_alloc HBW.out (.cells #[.int .i64 x.f0, .int .i64 x.f1, .int .i64 x.f2, .string x.f3, .string x.f4] 41))
              go_wp2
              go_roundw
              case rel => exact ⟨j + 1, by omega, by go_num, rfl, HB1⟩
              case measure => simp [intOf]; omega
            · obtain rfl : j = adds.length := by omega
              go_wp2
              go_ret
              exact ⟨rfl, HBW.out⟩
        | true =>
          rw [ga', gd', Bool.and_true, Bool.and_true, Bool.and_true, Bool.true_and]
          obtain ⟨r, hr⟩ : ∃ r : Int, r = if adds.all fileOk = true then 0 else 12 := ⟨_, rfl⟩
          rw [← hr]
          have HR := Aside0.mk hr
          clear hr
          go_enter Try.func48, Try.ntmps48
          go_wp2_with (first
              | ((with_reducible refine gate_dst (N := 12) rfl ?_)
                 refine Kd.R_lit (Kd.int .i64) (w0 := w) w.heap.size 2 ?hg (N := 12) ?hd (xs := [n, l, m]) (inner := [.int .i64 n, .int .i64 l, .int .i64 m]) (ok := fun _ => True) (okp := fun _ => True) ?hr ?hp (fun _ hk => hk) trivial ?aB ?aS (by simp) ?_
                 (case hd => rfl)
                 (case hg => rfl)
                 (case hr => first | (go_simp; done) | (go_simp; rfl))
                 (case hp => exact Reps.one (show Kd.M (Kd.int .i64) _ _ _ n [.int .i64 n] from rfl) (Reps.one (show Kd.M (Kd.int .i64) _ _ _ l [.int .i64 l] from rfl) (Reps.one (show Kd.M (Kd.int .i64) _ _ _ m [.int .i64 m] from rfl) (Reps.none _ _))))
                 (case aB => exact HB.out)
                 (case aS => exact HB.out.size)
                 intro v12 w12 ho hb hg hat
                 rw [← HY.out] at ho
                 obtain ⟨A12, c12, e12, hc12, hC12⟩ := Kd.R_reads ho
                 subst e12
                 have HC12 := Aside0.mk hC12
                 have HCL12 := Aside0.mk hc12
                 have HB12 := Aside0.mk hb
                 have HK12 := Aside0.mk ((hg.block w.heap.size (blk_lt HK.out) (by simp)).trans HK.out)
                 obtain ⟨q3, q4⟩ := ecells HK12.out
                 clear ho hb hg hat hC12 hc12)
              | (go_at_call 77
                 (with_reducible refine (edit_in.calls k1 0 1125899906842624 A12 c12 y true _ HC12.out HCL12.out H1.out).mono ?_)
                 rintro e w' ⟨rfl, ⟨nd1, rfl⟩⟩)
              | (go_at_call 77
                 (with_reducible refine (edit_in.calls k2 1 1125899906842624 Ad cd dels true _ (Kd.C_drewN (Kd.C_below HD.out HB12.out) _) hcd H2.out).mono ?_)
                 rintro e w' ⟨rfl, ⟨nd2, rfl⟩⟩))
          have HBS := Aside0.mk (pw_below_drewN HB12.out (nd1 + nd2))
          go_loopw [3, 34] (fun v3 i wr => ∃ (j : Nat) (ok : Bool), j ≤ adds.length ∧ i = .int .i64 j ∧ v3 = .bool ok ∧ Aside0 (ok = (adds.take j).all fileOk) ∧ Aside0 (Below w.heap.size w wr)) (fun _ i _ => adds.length - (intOf i).toNat)
          case atStart => exact ⟨0, true, Nat.zero_le _, rfl, rfl, ⟨by simp⟩, HBS⟩
          case round =>
            clear HBS
            obtain ⟨j, ok, hj, rfl, rfl, HOK, HBW⟩ := hrel
            by_cases hlt : j < adds.length
            · obtain ⟨ad, ea, hx0, hx1, hx2, hx3, hx4⟩ := at_T41 (Kd.C_below HA.out HBW.out) (j : Int) (by omega) (by omega)
              cases ea
              have e : rd_T41 adds (j : Int) = adds[j] := by unfold rd_T41; rw [Int.toNat_natCast, List.getD_eq_getElem?_getD, List.getElem?_eq_getElem hlt, Option.getD_some]
              rw [e, Int.toNat_natCast] at hx0 hx1 hx2 hx3 hx4
              obtain ⟨x, hxx⟩ : ∃ x, adds[j] = x := ⟨_, rfl⟩
              rw [hxx] at hx0 hx1 hx2 hx3 hx4
              have HT := Aside0.mk (show (adds.take (j + 1)).all fileOk = ((adds.take j).all fileOk && fileOk x) by rw [all_take hlt, hxx])
              have HB1 := Aside0.mk (below_alloc HBW.out (.cells #[.int .i64 x.f0, .int .i64 x.f1, .int .i64 x.f2, .string x.f3, .string x.f4] 41))
              clear e hxx
              cases ok with
              | false =>
                go_wp2
                go_roundw
                case rel => exact ⟨j + 1, false, by omega, by go_num, rfl, ⟨by rw [HT.out, ← HOK.out]; rfl⟩, HB1⟩
                case measure => simp [intOf]; omega
              | true =>
                go_wp2_with (
                  go_at_call 78
                  refine (file.calls x _).mono ?_
                  rintro e w' ⟨rfl, hb⟩
                  have HB2 := Aside0.mk (below_step HB1.out hb)
                  clear hb)
                go_roundw
                case rel => exact ⟨j + 1, fileOk x, by omega, by go_num, rfl, ⟨by rw [HT.out, ← HOK.out]; rfl⟩, HB2⟩
                case measure => simp [intOf]; omega
            · obtain rfl : j = adds.length := by omega
              have hok : ok = adds.all fileOk := by rw [HOK.out, List.take_of_length_le (Nat.le_refl _)]
              cases ok with
              | false =>
                have HF := Aside0.mk hok
                clear hok
                go_wp2
                go_ret
                exact ⟨by rw [HR.out, ← HF.out]; rfl, HBW.out⟩
              | true =>
                have HF := Aside0.mk hok
                clear hok
                go_wp2
                go_ret
                exact ⟨by rw [HR.out, ← HF.out]; rfl, HBW.out⟩
      · have gd' : decide ((dels.length : Int) ≤ 200) = false := decide_eq_false gd
        have gd3 : decide (dels.length ≤ 200) = false := decide_eq_false (by omega)
        rw [gd', Bool.false_and, Bool.and_false, Bool.and_false, Bool.false_and]
        clear gd
        go_enter Try.func48, Try.ntmps48
        go_wp2_with (first
            | ((with_reducible refine gate_dst (N := 12) rfl ?_)
               refine Kd.R_lit (Kd.int .i64) (w0 := w) w.heap.size 2 ?hg (N := 12) ?hd (xs := [n, l, m]) (inner := [.int .i64 n, .int .i64 l, .int .i64 m]) (ok := fun _ => True) (okp := fun _ => True) ?hr ?hp (fun _ hk => hk) trivial ?aB ?aS (by simp) ?_
               (case hd => rfl)
               (case hg => rfl)
               (case hr => first | (go_simp; done) | (go_simp; rfl))
               (case hp => exact Reps.one (show Kd.M (Kd.int .i64) _ _ _ n [.int .i64 n] from rfl) (Reps.one (show Kd.M (Kd.int .i64) _ _ _ l [.int .i64 l] from rfl) (Reps.one (show Kd.M (Kd.int .i64) _ _ _ m [.int .i64 m] from rfl) (Reps.none _ _))))
               (case aB => exact HB.out)
               (case aS => exact HB.out.size)
               intro v12 w12 ho hb hg hat
               rw [← HY.out] at ho
               obtain ⟨A12, c12, e12, hc12, hC12⟩ := Kd.R_reads ho
               subst e12
               have HC12 := Aside0.mk hC12
               have HCL12 := Aside0.mk hc12
               have HB12 := Aside0.mk hb
               have HK12 := Aside0.mk ((hg.block w.heap.size (blk_lt HK.out) (by simp)).trans HK.out)
               obtain ⟨q3, q4⟩ := ecells HK12.out
               clear ho hb hg hat hC12 hc12)
            | (go_at_call 77
               (with_reducible refine (edit_in.calls k1 0 1125899906842624 A12 c12 y true _ HC12.out HCL12.out H1.out).mono ?_)
               rintro e w' ⟨rfl, ⟨nd1, rfl⟩⟩))
        have HBS := Aside0.mk (pw_below_drewN HB12.out nd1)
        go_loopw [3, 34] (fun v3 i wr => ∃ j : Nat, j ≤ adds.length ∧ i = .int .i64 j ∧ v3 = .bool false ∧ Aside0 (Below w.heap.size w wr)) (fun _ i _ => adds.length - (intOf i).toNat)
        case atStart => exact ⟨0, Nat.zero_le _, rfl, rfl, HBS⟩
        case round =>
          clear HBS
          obtain ⟨j, hj, rfl, rfl, HBW⟩ := hrel
          by_cases hlt : j < adds.length
          · obtain ⟨ad, ea, hx0, hx1, hx2, hx3, hx4⟩ := at_T41 (Kd.C_below HA.out HBW.out) (j : Int) (by omega) (by omega)
            cases ea
            rw [Int.toNat_natCast] at hx0 hx1 hx2 hx3 hx4
            generalize rd_T41 adds (j : Int) = x at hx0 hx1 hx2 hx3 hx4
            have HB1 := Aside0.mk (below_alloc HBW.out (.cells #[.int .i64 x.f0, .int .i64 x.f1, .int .i64 x.f2, .string x.f3, .string x.f4] 41))
            go_wp2
            go_roundw
            case rel => exact ⟨j + 1, by omega, by go_num, rfl, HB1⟩
            case measure => simp [intOf]; omega
          · obtain rfl : j = adds.length := by omega
            go_wp2
            go_ret
            exact ⟨rfl, HBW.out⟩
    · have ga' : decide ((adds.length : Int) ≤ 200) = false := decide_eq_false ga
      have ga3 : decide (adds.length ≤ 200) = false := decide_eq_false (by omega)
      rw [ga', Bool.false_and, Bool.and_false, Bool.false_and]
      clear ga
      go_enter Try.func48, Try.ntmps48
      go_wp2_with (first
          | ((with_reducible refine gate_dst (N := 12) rfl ?_)
             refine Kd.R_lit (Kd.int .i64) (w0 := w) w.heap.size 2 ?hg (N := 12) ?hd (xs := [n, l, m]) (inner := [.int .i64 n, .int .i64 l, .int .i64 m]) (ok := fun _ => True) (okp := fun _ => True) ?hr ?hp (fun _ hk => hk) trivial ?aB ?aS (by simp) ?_
             (case hd => rfl)
             (case hg => rfl)
             (case hr => first | (go_simp; done) | (go_simp; rfl))
             (case hp => exact Reps.one (show Kd.M (Kd.int .i64) _ _ _ n [.int .i64 n] from rfl) (Reps.one (show Kd.M (Kd.int .i64) _ _ _ l [.int .i64 l] from rfl) (Reps.one (show Kd.M (Kd.int .i64) _ _ _ m [.int .i64 m] from rfl) (Reps.none _ _))))
             (case aB => exact HB.out)
             (case aS => exact HB.out.size)
             intro v12 w12 ho hb hg hat
             rw [← HY.out] at ho
             obtain ⟨A12, c12, e12, hc12, hC12⟩ := Kd.R_reads ho
             subst e12
             have HC12 := Aside0.mk hC12
             have HCL12 := Aside0.mk hc12
             have HB12 := Aside0.mk hb
             have HK12 := Aside0.mk ((hg.block w.heap.size (blk_lt HK.out) (by simp)).trans HK.out)
             obtain ⟨q3, q4⟩ := ecells HK12.out
             clear ho hb hg hat hC12 hc12)
          | (go_at_call 77
             (with_reducible refine (edit_in.calls k1 0 1125899906842624 A12 c12 y true _ HC12.out HCL12.out H1.out).mono ?_)
             rintro e w' ⟨rfl, ⟨nd1, rfl⟩⟩))
      have HBS := Aside0.mk (pw_below_drewN HB12.out nd1)
      go_loopw [3, 34] (fun v3 i wr => ∃ j : Nat, j ≤ adds.length ∧ i = .int .i64 j ∧ v3 = .bool false ∧ Aside0 (Below w.heap.size w wr)) (fun _ i _ => adds.length - (intOf i).toNat)
      case atStart => exact ⟨0, Nat.zero_le _, rfl, rfl, HBS⟩
      case round =>
        clear HBS
        obtain ⟨j, hj, rfl, rfl, HBW⟩ := hrel
        by_cases hlt : j < adds.length
        · obtain ⟨ad, ea, hx0, hx1, hx2, hx3, hx4⟩ := at_T41 (Kd.C_below HA.out HBW.out) (j : Int) (by omega) (by omega)
          cases ea
          rw [Int.toNat_natCast] at hx0 hx1 hx2 hx3 hx4
          generalize rd_T41 adds (j : Int) = x at hx0 hx1 hx2 hx3 hx4
          have HB1 := Aside0.mk (below_alloc HBW.out (.cells #[.int .i64 x.f0, .int .i64 x.f1, .int .i64 x.f2, .string x.f3, .string x.f4] 41))
          go_wp2
          go_roundw
          case rel => exact ⟨j + 1, by omega, by go_num, rfl, HB1⟩
          case measure => simp [intOf]; omega
        · obtain rfl : j = adds.length := by omega
          go_wp2
          go_ret
          exact ⟨rfl, HBW.out⟩
end Go.Proofs.Ytjhijcehcklipaa.MVe
