/-
  The document's MayEdit, walked.
-/
import Derived.Test.YtjhijcehcklipaaZVeR1
import Derived.IntWalk
namespace Go.Proofs.Ytjhijcehcklipaa.MVe
open Go.RowKit Go.Proofs.YtjhijcehcklipaaW.PrintWords Go.Proofs.YtjhijcehcklipaaW.PrintLast Go.Proofs.YtjhijcehcklipaaW.PrintMore
attribute [local go_sem] max2_int min2_int max_two min_two max_three min_three max_four min_four
set_option linter.unusedVariables false
set_option linter.unusedSimpArgs false

theorem rd_at {xs : List S41} {j : Nat} (h : j < xs.length) : rd_T41 xs (j : Int) = xs[j] := by
  unfold rd_T41; rw [Int.toNat_natCast, List.getD_eq_getElem?_getD, List.getElem?_eq_getElem h, Option.getD_some]
def badM (n l m : Int) (a d : Nat) : Bool := decide (n < 0) || (decide (1125899906842624 < n) || (decide (l < 0) || (decide (1125899906842624 < l) || (decide (m < 0) || (decide (1125899906842624 < m) || (decide (200 < a) || decide (200 < d)))))))
def badF (x : S41) : Bool := decide (x.f0 < 1) || (decide (1125899906842624 < x.f0) || (decide (x.f1 < 0) || (decide (5 ≤ x.f1) || (decide (x.f2 < 0) || (decide (16777216 < x.f2) || (!(leS x.f3 x.f4) || (decide (13000 < x.f3.size) || decide (13000 < x.f4.size))))))))
theorem fileOk_bad (x : S41) : fileOk x = !badF x := by
  rw [Bool.eq_iff_iff]
  unfold fileOk badF inB leS
  simp only [List.all_cons, List.all_nil, Bool.and_true, Bool.and_eq_true, decide_eq_true_eq, Bool.not_eq_true', Bool.or_eq_false_iff, decide_eq_false_iff_not, Bool.not_eq_false']
  constructor
  · rintro ⟨⟨h1, h2⟩, ⟨h3, h4⟩, ⟨h5, h6⟩, h7, h8, h9⟩
    exact ⟨by omega, by omega, by omega, by omega, by omega, by omega, h7, by omega, by omega⟩
  · rintro ⟨h1, h2, h3, h4, h5, h6, h7, h8, h9⟩
    exact ⟨⟨by omega, by omega⟩, ⟨by omega, by omega⟩, ⟨by omega, by omega⟩, h7, by omega, by omega⟩
theorem edit_split (n l m : Int) (adds : List S41) (dels : List Int) : editOk n l m adds dels = (!badM n l m adds.length dels.length && (adds.all fileOk && inB 1 1125899906842624 dels)) := by
  rw [Bool.eq_iff_iff]
  unfold editOk chainOk badM
  generalize hI : inB 1 1125899906842624 dels = I
  unfold inB
  simp only [List.all_cons, List.all_nil, Bool.and_true, Bool.and_eq_true, decide_eq_true_eq, Bool.not_eq_true', Bool.or_eq_false_iff, decide_eq_false_iff_not]
  constructor
  · rintro ⟨⟨⟨⟨h1, h2⟩, ⟨h3, h4⟩, h5, h6⟩, h7, h8, h9⟩, h10⟩
    exact ⟨⟨by omega, by omega, by omega, by omega, by omega, by omega, by omega, by omega⟩, h10, h9⟩
  · rintro ⟨⟨h1, h2, h3, h4, h5, h6, h7, h8⟩, h10, h9⟩
    exact ⟨⟨⟨⟨by omega, by omega⟩, ⟨by omega, by omega⟩, by omega, by omega⟩, by omega, by omega, h9⟩, h10⟩
set_option maxHeartbeats 16000000 in
set_option maxRecDepth 100000 in
theorem MayEdit.calls (n l m : Int) (Aa Ad : Option Addr) (ca cd : Nat) (adds : List S41) (dels : List Int) (w : World) (ha : Kd.C k41 w Aa adds.length adds) (hca : adds.length ≤ ca) (hd : Kd.C (Kd.int .i64) w Ad dels.length dels) (hcd : dels.length ≤ cd) (hal : adds.length ≤ 1000000) (hdl : dels.length ≤ 1000000) :
    Calls Try.prog 88 #[.agg #[.int .i64 n, .int .i64 l, .int .i64 m, .slice Aa adds.length ca, .slice Ad dels.length cd]] w fun e w' => e = .returned (.bool (editOk n l m adds dels)) ∧ Below w.heap.size w w' := by
  have hu41 := Try.underlying41
  have hu45 := Try.underlying45
  have HA := Aside0.mk ha
  have HD := Aside0.mk hd
  have HB := Aside0.mk (below_alloc (Below.refl w.heap.size w) (.cells #[.int .i64 n, .int .i64 l, .int .i64 m, .slice Aa adds.length ca, .slice Ad dels.length cd] 45))
  have HK := Aside0.mk (blk_new w (.cells #[.int .i64 n, .int .i64 l, .int .i64 m, .slice Aa adds.length ca, .slice Ad dels.length cd] 45))
  clear ha hd
  rw [edit_split]
  go_enter Try.func88, Try.ntmps88
  go_upto_region 1 with (fail)
  obtain ⟨W1, hW1⟩ : ∃ W, W = w.alloc (.cells #[.int .i64 n, .int .i64 l, .int .i64 m, .slice Aa adds.length ca, .slice Ad dels.length cd] 45) := ⟨_, rfl⟩
  rw [← hW1] at HB HK
  try rw [← hW1]
  go_cut [45] (fun v wc => v = .bool (badM n l m adds.length dels.length) ∧ Aside0 (Below w.heap.size w wc) ∧ Aside0 (wc.heap[w.heap.size]? = some (.cells #[.int .i64 n, .int .i64 l, .int .i64 m, .slice Aa adds.length ca, .slice Ad dels.length cd] 45 (0, 0))))
  case first =>
    obtain ⟨b1, h1⟩ : ∃ b, decide (n < 0) = b := ⟨_, rfl⟩
    obtain ⟨b2, h2⟩ : ∃ b, decide (1125899906842624 < n) = b := ⟨_, rfl⟩
    obtain ⟨b3, h3⟩ : ∃ b, decide (l < 0) = b := ⟨_, rfl⟩
    obtain ⟨b4, h4⟩ : ∃ b, decide (1125899906842624 < l) = b := ⟨_, rfl⟩
    obtain ⟨b5, h5⟩ : ∃ b, decide (m < 0) = b := ⟨_, rfl⟩
    obtain ⟨b6, h6⟩ : ∃ b, decide (1125899906842624 < m) = b := ⟨_, rfl⟩
    obtain ⟨b7, h7⟩ : ∃ b, decide ((200 : Int) < (adds.length : Int)) = b := ⟨_, rfl⟩
    have h7n : decide (200 < adds.length) = b7 := by rw [← h7]; exact decide_eq_decide.2 (by omega)
    obtain ⟨b8, h8⟩ : ∃ b, decide ((200 : Int) < (dels.length : Int)) = b := ⟨_, rfl⟩
    have h8n : decide (200 < dels.length) = b8 := by rw [← h8]; exact decide_eq_decide.2 (by omega)
    have HBAD := Aside0.mk (show badM n l m adds.length dels.length = (b1 || (b2 || (b3 || (b4 || (b5 || (b6 || (b7 || b8))))))) by unfold badM; rw [h1, h2, h3, h4, h5, h6, h7n, h8n])
    have q0 : W1.cell? ⟨w.heap.size, 0, none⟩ = some (.int .i64 n) := (blk_cell HK.out 0).trans rfl
    have q1 : W1.cell? ⟨w.heap.size, 1, none⟩ = some (.int .i64 l) := (blk_cell HK.out 1).trans rfl
    have q2 : W1.cell? ⟨w.heap.size, 2, none⟩ = some (.int .i64 m) := (blk_cell HK.out 2).trans rfl
    obtain ⟨q3, q4⟩ := ecells HK.out
    clear hW1
    cases b1 with
    | true =>
      as_aux_lemma =>
      go_wp2
      go_meet
      case rel => exact ⟨by rw [HBAD.out]; rfl, HB, HK⟩
    | false =>
      cases b2 with
      | true =>
        as_aux_lemma =>
        go_wp2
        go_meet
        case rel => exact ⟨by rw [HBAD.out]; rfl, HB, HK⟩
      | false =>
        cases b3 with
        | true =>
          as_aux_lemma =>
          go_wp2
          go_meet
          case rel => exact ⟨by rw [HBAD.out]; rfl, HB, HK⟩
        | false =>
          cases b4 with
          | true =>
            as_aux_lemma =>
            go_wp2
            go_meet
            case rel => exact ⟨by rw [HBAD.out]; rfl, HB, HK⟩
          | false =>
            cases b5 with
            | true =>
              as_aux_lemma =>
              go_wp2
              go_meet
              case rel => exact ⟨by rw [HBAD.out]; rfl, HB, HK⟩
            | false =>
              cases b6 with
              | true =>
                as_aux_lemma =>
                go_wp2
                go_meet
                case rel => exact ⟨by rw [HBAD.out]; rfl, HB, HK⟩
              | false =>
                cases b7 with
                | true =>
                  as_aux_lemma =>
                  go_wp2
                  go_meet
                  case rel => exact ⟨by rw [HBAD.out]; rfl, HB, HK⟩
                | false =>
                  as_aux_lemma =>
                  go_wp2
                  go_meet
                  case rel => exact ⟨by rw [HBAD.out]; rfl, HB, HK⟩
  obtain ⟨rfl, HB2, HK2⟩ := hcut
  clear HB HK hW1
  cases hbad : badM n l m adds.length dels.length with
  | true =>
    have HBAD := Aside0.mk hbad
    clear hbad
    go_wp2
    go_ret
    exact ⟨by rw [HBAD.out]; rfl, HB2.out⟩
  | false =>
    have HBAD := Aside0.mk hbad
    clear hbad
    go_wp2
    go_loopw [3] (fun i wr => ∃ j : Nat, j ≤ adds.length ∧ i = .int .i64 j ∧ Aside0 ((adds.take j).all fileOk = true) ∧ Aside0 (Below w.heap.size w wr) ∧ Aside0 (wr.heap[w.heap.size]? = some (.cells #[.int .i64 n, .int .i64 l, .int .i64 m, .slice Aa adds.length ca, .slice Ad dels.length cd] 45 (0, 0)))) (fun i _ => adds.length - (intOf i).toNat)
    case atStart => exact ⟨0, Nat.zero_le _, rfl, ⟨by rw [List.take_zero]; rfl⟩, HB2, HK2⟩
    case round =>
      clear HB2 HK2
      obtain ⟨j, hj, rfl, HN, HB, HK⟩ := hrel
      obtain ⟨q3, q4⟩ := ecells HK.out
      by_cases hlt : j < adds.length
      · obtain ⟨ad, ea, hx0, hx1, hx2, hx3, hx4⟩ := at_T41 (Kd.C_below HA.out HB.out) (j : Int) (by omega) (by omega)
        cases ea
        rw [rd_at hlt, Int.toNat_natCast] at hx0 hx1 hx2 hx3 hx4
        have HD2 := Aside0.mk (all_take (p := fileOk) hlt)
        have HALL := Aside0.mk (show adds.all fileOk = true → fileOk adds[j] = true from fun h => List.all_eq_true.1 h _ (List.getElem_mem hlt))
        obtain ⟨x, hxx⟩ : ∃ x, adds[j] = x := ⟨_, rfl⟩
        rw [hxx] at hx0 hx1 hx2 hx3 hx4 HD2 HALL
        clear hxx
        go_upto_region 7 with (fail)
        have HB1 := Aside0.mk (below_alloc HB.out (.cells #[.int .i64 x.f0, .int .i64 x.f1, .int .i64 x.f2, .string x.f3, .string x.f4] 41))
        have HK1 := Aside0.mk (blk_alloc HK.out (.cells #[.int .i64 x.f0, .int .i64 x.f1, .int .i64 x.f2, .string x.f3, .string x.f4] 41))
        have HX1 := Aside0.mk (blk_new wr (.cells #[.int .i64 x.f0, .int .i64 x.f1, .int .i64 x.f2, .string x.f3, .string x.f4] 41))
        obtain ⟨W, hW⟩ : ∃ W, W = wr.alloc (.cells #[.int .i64 x.f0, .int .i64 x.f1, .int .i64 x.f2, .string x.f3, .string x.f4] 41) := ⟨_, rfl⟩
        rw [← hW] at HB1 HK1 HX1
        try rw [← hW]
        clear hx0 hx1 hx2 hx3 hx4 q3 q4 hW
        go_cut [104] (fun v wc => v = .bool (badF x) ∧ Aside0 (Below w.heap.size w wc) ∧ Aside0 (wc.heap[w.heap.size]? = some (.cells #[.int .i64 n, .int .i64 l, .int .i64 m, .slice (some ad) adds.length ca, .slice Ad dels.length cd] 45 (0, 0))))
        case first =>
          obtain ⟨c1, h1⟩ : ∃ b, decide (x.f0 < 1) = b := ⟨_, rfl⟩
          obtain ⟨c2, h2⟩ : ∃ b, decide (1125899906842624 < x.f0) = b := ⟨_, rfl⟩
          obtain ⟨c3, h3⟩ : ∃ b, decide (x.f1 < 0) = b := ⟨_, rfl⟩
          obtain ⟨c4, h4⟩ : ∃ b, decide (5 ≤ x.f1) = b := ⟨_, rfl⟩
          obtain ⟨c5, h5⟩ : ∃ b, decide (x.f2 < 0) = b := ⟨_, rfl⟩
          obtain ⟨c6, h6⟩ : ∃ b, decide (16777216 < x.f2) = b := ⟨_, rfl⟩
          obtain ⟨c7, h7⟩ : ∃ b, (!(leS x.f3 x.f4)) = b := ⟨_, rfl⟩
          obtain ⟨c8, h8⟩ : ∃ b, decide ((13000 : Int) < (x.f3.size : Int)) = b := ⟨_, rfl⟩
          have h8n : decide (13000 < x.f3.size) = c8 := by rw [← h8]; exact decide_eq_decide.2 (by omega)
          obtain ⟨c9, h9⟩ : ∃ b, decide ((13000 : Int) < (x.f4.size : Int)) = b := ⟨_, rfl⟩
          have h9n : decide (13000 < x.f4.size) = c9 := by rw [← h9]; exact decide_eq_decide.2 (by omega)
          have HBAD := Aside0.mk (show badF x = (c1 || (c2 || (c3 || (c4 || (c5 || (c6 || (c7 || (c8 || c9)))))))) by unfold badF; rw [h1, h2, h3, h4, h5, h6, h7, h8n, h9n])
          unfold leS at h7
          obtain ⟨s0, s1, s2, s3, s4⟩ := xcells HX1.out
          cases c1 with
          | true =>
            as_aux_lemma =>
            go_wp2
            go_meet
            case rel => exact ⟨by rw [HBAD.out]; rfl, HB1, HK1⟩
          | false =>
            cases c2 with
            | true =>
              as_aux_lemma =>
              go_wp2
              go_meet
              case rel => exact ⟨by rw [HBAD.out]; rfl, HB1, HK1⟩
            | false =>
              cases c3 with
              | true =>
                as_aux_lemma =>
                go_wp2
                go_meet
                case rel => exact ⟨by rw [HBAD.out]; rfl, HB1, HK1⟩
              | false =>
                cases c4 with
                | true =>
                  as_aux_lemma =>
                  go_wp2
                  go_meet
                  case rel => exact ⟨by rw [HBAD.out]; rfl, HB1, HK1⟩
                | false =>
                  cases c5 with
                  | true =>
                    as_aux_lemma =>
                    go_wp2
                    go_meet
                    case rel => exact ⟨by rw [HBAD.out]; rfl, HB1, HK1⟩
                  | false =>
                    cases c6 with
                    | true =>
                      as_aux_lemma =>
                      go_wp2
                      go_meet
                      case rel => exact ⟨by rw [HBAD.out]; rfl, HB1, HK1⟩
                    | false =>
                      cases c7 with
                      | true =>
                        as_aux_lemma =>
                        go_wp2
                        go_meet
                        case rel => exact ⟨by rw [HBAD.out]; rfl, HB1, HK1⟩
                      | false =>
                        cases c8 with
                        | true =>
                          as_aux_lemma =>
                          go_wp2
                          go_meet
                          case rel => exact ⟨by rw [HBAD.out]; rfl, HB1, HK1⟩
                        | false =>
                          as_aux_lemma =>
                          go_wp2
                          go_meet
                          case rel => exact ⟨by rw [HBAD.out]; rfl, HB1, HK1⟩
        obtain ⟨rfl, HB3, HK3⟩ := hcut
        cases hbf : badF x with
        | true =>
          have HR := Aside0.mk (show (adds.all fileOk && inB 1 1125899906842624 dels) = false by
            have : adds.all fileOk = false := by
              rw [Bool.eq_false_iff]
              intro h
              have h2 := HALL.out h
              rw [fileOk_bad, hbf] at h2
              cases h2
            rw [this, Bool.false_and])
          clear hbf
          go_wp2
          go_ret
          exact ⟨by rw [HBAD.out, HR.out]; rfl, HB3.out⟩
        | false =>
          have HR := Aside0.mk (show fileOk x = true by rw [fileOk_bad, hbf]; rfl)
          clear hbf
          go_wp2
          go_roundw
          case rel => first
            | exact ⟨j + 1, by omega, by go_num, ⟨by rw [HD2.out, HN.out, HR.out]; rfl⟩, HB3, HK3⟩
            | (trace_state; fail)
          case measure => simp [intOf]; omega
      · obtain rfl : j = adds.length := by omega
        rw [List.take_length] at HN
        have HAF := Aside0.mk HN.out
        go_wp2
        clear q3 q4
        go_loopw [5] (fun i wr => ∃ j : Nat, j ≤ dels.length ∧ i = .int .i64 j ∧ Aside0 (inB 1 1125899906842624 (dels.take j) = true) ∧ Aside0 (Below w.heap.size w wr) ∧ Aside0 (wr.heap[w.heap.size]? = some (.cells #[.int .i64 n, .int .i64 l, .int .i64 m, .slice Aa adds.length ca, .slice Ad dels.length cd] 45 (0, 0)))) (fun i _ => dels.length - (intOf i).toNat)
        case atStart => exact ⟨0, Nat.zero_le _, rfl, ⟨by rw [List.take_zero]; rfl⟩, HB, HK⟩
        case round =>
          clear HB HK HN
          obtain ⟨j, hj, rfl, HN, HB, HK⟩ := hrel
          obtain ⟨q3, q4⟩ := ecells HK.out
          by_cases hlt : j < dels.length
          · obtain ⟨ad, ea, hx0⟩ := Kd.at_int (Kd.C_below HD.out HB.out) (j : Int) (by omega) (by omega)
            cases ea
            have e : rd dels (j : Int) = dels[j] := by simp [rd, rdOf, hlt]
            rw [e, Int.toNat_natCast] at hx0
            have HD2 := Aside0.mk (show inB 1 1125899906842624 (dels.take (j + 1)) = (inB 1 1125899906842624 (dels.take j) && (decide (1 ≤ dels[j]) && decide (dels[j] ≤ 1125899906842624))) by
              unfold inB
              rw [List.take_succ_eq_append_getElem hlt, List.all_append, List.all_cons, List.all_nil, Bool.and_true])
            have HALL := Aside0.mk (show inB 1 1125899906842624 dels = true → (decide (1 ≤ dels[j]) && decide (dels[j] ≤ 1125899906842624)) = true from fun h => List.all_eq_true.1 h _ (List.getElem_mem hlt))
            obtain ⟨d, hdd⟩ : ∃ d, dels[j] = d := ⟨_, rfl⟩
            rw [hdd] at hx0 HD2 HALL
            clear e hdd
            by_cases c1 : d < 1
            · have e1 : decide (d < 1) = true := decide_eq_true c1
              have HR := Aside0.mk (show inB 1 1125899906842624 dels = false by
                rw [Bool.eq_false_iff]
                intro h
                have h2 := HALL.out h
                rw [decide_eq_false (show ¬ 1 ≤ d by omega)] at h2
                cases h2)
              clear c1
              go_wp2
              go_ret
              exact ⟨by rw [HBAD.out, HAF.out, HR.out]; rfl, HB.out⟩
            · have e1 : decide (d < 1) = false := decide_eq_false c1
              by_cases c2 : 1125899906842624 < d
              · have e2 : decide (1125899906842624 < d) = true := decide_eq_true c2
                have HR := Aside0.mk (show inB 1 1125899906842624 dels = false by
                  rw [Bool.eq_false_iff]
                  intro h
                  have h2 := HALL.out h
                  rw [decide_eq_false (show ¬ d ≤ 1125899906842624 by omega), Bool.and_false] at h2
                  cases h2)
                clear c1 c2
                go_wp2
                go_ret
                exact ⟨by rw [HBAD.out, HAF.out, HR.out]; rfl, HB.out⟩
              · have e2 : decide (1125899906842624 < d) = false := decide_eq_false c2
                have HR := Aside0.mk (show (decide (1 ≤ d) && decide (d ≤ 1125899906842624)) = true by rw [decide_eq_true (show 1 ≤ d by omega), decide_eq_true (show d ≤ 1125899906842624 by omega)]; rfl)
                clear c1 c2
                go_wp2
                go_roundw
                case rel => exact ⟨j + 1, by omega, by go_num, ⟨by rw [HD2.out, HN.out, HR.out]; rfl⟩, HB, HK⟩
                case measure => simp [intOf]; omega
          · obtain rfl : j = dels.length := by omega
            rw [List.take_length] at HN
            go_wp2
            go_ret
            exact ⟨by rw [HBAD.out, HAF.out, HN.out]; rfl, HB.out⟩
end Go.Proofs.Ytjhijcehcklipaa.MVe
