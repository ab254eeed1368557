/-
  The law's look at what has come: walked.
-/
import Derived.Test.YtiplbhjllkfemaaZStW8
import Derived.Test.YtiplbhjllkfemaaZStP2
namespace Go.Proofs.Ytiplbhjllkfemaa.MSt
open Go.RowKit Go.Proofs.YtiplbhjllkfemaaW.PrintWords Go.Proofs.YtiplbhjllkfemaaW.PrintLast Go.Proofs.YtiplbhjllkfemaaW.PrintMore
attribute [local go_sem] max2_int min2_int max_two min_two max_three min_three max_four min_four
open Go.Proofs.Ytiplbhjllkfemaa.Stm (S S0 Fits put_keeps close_keeps over begs Come Part come_start)
open Go.Proofs.Ytiplbhjllkfemaa.Utf (valid bnums dec chars isByte bnums_length bnums_str bnums_byte bnums_append str_nums bnums_inj encAll bnums_extract bnums_nil)
open Go.Proofs.Ytiplbhjllkfemaa.NChars (canon expand clf_range)
open Go.Proofs.Ytiplbhjllkfemaa.NTab (clf)
open Go.Proofs.Ytiplbhjllkfemaa.NText (cut_f canon_len_le chars_len)
open Go.Proofs.Ytiplbhjllkfemaa.PureSt (told)
open Go.Proofs.Ytiplbhjllkfemaa.StP
set_option linter.unusedVariables false
set_option linter.unusedSimpArgs false

set_option maxHeartbeats 400000 in
set_option maxRecDepth 100000 in
theorem early.calls (w0 : World) (P : Nat → Prop) (g N : Nat) (s : S) (a O : ByteArray) (cs A o : List Int) (w : World) (hL : Lives w0 P g N s w) (hC : Come (bnums a) cs s o A) (hP : Part (bnums s.rest)) (hO : O = strOfNums o) (ha : a.size ≤ 1000) :
    Calls Try.prog 18 #[.pointer (some ⟨g, 0, none⟩), .string a, .string O] w fun e w' => e = .returned (.bool true) ∧ Below w.heap.size w w' := by
  obtain ⟨U, V, hV, hoU, hUv, hparts⟩ := canon_parts hC
  have hz := Stm.begs_len hP.2
  have hsize : a.size = (encAll cs).length + s.rest.size := by
    have := congrArg List.length hC.bytes
    rw [List.length_append, bnums_length, bnums_length] at this
    exact this
  rw [bnums_length] at hz
  have HC := Aside0.mk hC
  have HP := Aside0.mk hP
  have HL := Aside0.mk hL
  have HV := Aside0.mk hV
  have HU := Aside0.mk hUv
  have HPARTS := Aside0.mk hparts
  have HO := Aside0.mk (show O = strOfNums (encAll U) by rw [hO, hoU])
  have hcl : (canon cs).length ≤ 50000 := by
    have h1 := canon_len_le cs
    have h2 : cs.length ≤ a.size := by
      have := chars_len (l := encAll cs) (Utf.encAll_byte hC.val) (chars_all hC.val)
      omega
    omega
  have hcs : cs.length ≤ 1000 := by
    have := chars_len (l := encAll cs) (Utf.encAll_byte hC.val) (chars_all hC.val)
    omega
  clear hC hP hL hV hUv hparts hoU hO
  go_enter Try.func18, Try.ntmps18
  go_wp2
  have HS := Aside0.mk (show bnums a = encAll cs ++ (bnums s.rest).take (s.rest.size - 0) by rw [Nat.sub_zero, List.take_of_length_le (by rw [bnums_length]; omega)]; exact HC.out.bytes)
  go_loopw [1, 7] (fun v1 v7 wr => ∃ j : Nat, j ≤ s.rest.size ∧ v7 = .int .i64 j ∧ ∃ aj : ByteArray, v1 = .string aj ∧ Aside0 (bnums aj = encAll cs ++ (bnums s.rest).take (s.rest.size - j)) ∧ Aside0 (Below w.heap.size w wr)) (fun _ i _ => 4 - (intOf i).toNat)
  case atStart => exact ⟨0, Nat.zero_le _, rfl, a, rfl, HS, ⟨Below.refl _ _⟩⟩
  case round =>
    clear HS
    obtain ⟨j, hj, rfl, aj, rfl, HA, HB⟩ := hrel
    have hrl := bnums_length s.rest
    have hal : aj.size = (encAll cs).length + (s.rest.size - j) := by
      have := congrArg List.length HA.out
      rw [List.length_append, List.length_take, bnums_length, bnums_length] at this
      omega
    have hj4 : (j : Int) < 4 := by omega
    obtain ⟨kr, hkr⟩ := read_any aj (by omega)
    by_cases hlt : j < s.rest.size
    · have hno : told [] (bnums aj) = ([], false) := by
        unfold told
        rw [HA.out, chars_cut HC.out.val (bnums_byte _) HP.out.1 (by omega) (by omega)]
      rw [hno] at hkr
      have HKR := Aside0.mk hkr
      have hpos : 1 ≤ aj.size := by omega
      have h4 : aj.toList ≠ [] := fun e => by
        have : (bnums aj).length = 0 := by rw [bnums_nil e]; rfl
        rw [bnums_length] at this
        omega
      have h4' : (aj.toList == ([] : List UInt8)) = false := beq_eq_false_iff_ne.2 h4
      have h4'' : (!aj.toList.isEmpty) = true := by cases e : aj.toList with
        | nil => exact absurd e h4
        | cons => rfl
      have hw : wrap64 ((aj.size : Int) - 1) = ((aj.size - 1 : Nat) : Int) := by unfold wrap64; omega
      have h1 : aj.size - 1 ≤ aj.size := Nat.sub_le _ _
      have HAL := Aside0.mk hal
      have HRL := Aside0.mk hrl
      clear hno hkr hal hrl
      go_wp2_with (
        go_at_call 14
        refine (incipitref1_Read.calls kr aj [] false _ HKR.out).mono ?_
        rintro e w1 ⟨vl, rfl, -, hb⟩
        have HB1 := Aside0.mk (below_step HB.out hb)
        clear hb)
      go_roundw
      case rel =>
        refine ⟨j + 1, by omega, by go_num, _, rfl, ⟨?_⟩, HB1⟩
        have hal := HAL.out
        have hrl := HRL.out
        first | rw [Int.toNat_natCast, bnums_extract] | rw [bnums_extract]
        rw [HA.out, List.drop_zero, List.take_append, List.take_of_length_le (by omega), List.take_take]
        congr 2
        omega
      case measure => simp [intOf]; omega
    · obtain rfl : j = s.rest.size := by omega
      have hbn : bnums aj = encAll cs := by rw [HA.out, Nat.sub_self, List.take_zero, List.append_nil]
      have hyes : told [] (bnums aj) = (cs, true) := by
        unfold told
        rw [hbn, chars_all HC.out.val]; simp
      rw [hyes] at hkr
      have HKR := Aside0.mk hkr
      obtain ⟨kc, hkc⟩ := chars_any cs (by omega)
      obtain ⟨L, hL⟩ : ∃ L, L = canon cs := ⟨_, rfl⟩
      have HKC := Aside0.mk (show incipitref1_Chars.f kc cs = some L by rw [hkc, hL])
      rw [← hL] at hcl HPARTS
      clear hyes hkr hkc hL hbn hal hrl hlt
      rcases HPARTS.out with ⟨h1, h2, h3⟩ | ⟨x, hx0, h1, h3⟩
      · have HLl := Aside0.mk (show L.length = V.length by rw [h1])
        have HH := Aside0.mk h3
        have HL1 := Aside0.mk h1
        have HU0 := Aside0.mk h2
        clear h1 h2 h3 HPARTS
        go_wp2_with (first
          | (go_at_call 14
             refine (incipitref1_Read.calls kr aj cs true _ HKR.out).mono ?_
             rintro e w1 ⟨vl, rfl, hl, hb⟩
             obtain ⟨Ac, cc, ec, hcc, hCc⟩ := Kd.R_reads hl
             subst ec
             have HCC := Aside0.mk hCc
             have HCCL := Aside0.mk hcc
             have HB1 := Aside0.mk (below_step HB.out hb)
             clear hb hl hcc hCc)
          | (go_at_call 28
             refine (incipitref1_Chars.calls kc Ac cc cs L _ HCC.out HCCL.out HKC.out).mono ?_
             rintro e w2 ⟨vl, rfl, hl, hb⟩
             obtain ⟨AL, cL, eL, hcL, hCL⟩ := Kd.R_reads hl
             have hLm : L.length ≤ 9223372036854775807 := Kd.C_max hCL
             subst eL
             have HLC := Aside0.mk hCL
             have HLL := Aside0.mk hcL
             have HB2 := Aside0.mk (below_step HB1.out hb)
             clear hb hl hcL hCL HCC HCCL HB1))
        have HBW0 := Aside0.mk (Below.refl w2.heap.size w2)
        go_loopw [11] (fun v11 wr => ∃ i : Nat, i ≤ L.length ∧ 0 ≤ i ∧ v11 = .int .i64 i ∧ Aside0 (Below w.heap.size w wr) ∧ Aside0 (Below w2.heap.size w2 wr)) (fun v _ => (intOf v).toNat)
        case atStart => exact ⟨L.length, Nat.le_refl _, by omega, rfl, HB2, HBW0⟩
        case round =>
          clear HBW0
          obtain ⟨i, hi, hib, rfl, HBW, HBL⟩ := hrel
          by_cases h0 : 0 < i
          · have hlt2 : i - 1 < L.length := by omega
            obtain ⟨y, hy⟩ : ∃ y, L[i - 1]? = some y := ⟨_, List.getElem?_eq_getElem hlt2⟩
            have hyV : y ∈ V := by rw [← HL1.out]; exact List.mem_of_getElem? hy
            have hyp : 0 < clf y := HV.out y hyV
            obtain ⟨ad, c1, ea, hcc, hK, hcell⟩ := Kd.C_get (Kd.C_below HLC.out HBL.out) 0 ((i - 1 : Nat) : Int) (by omega) (by omega)
            cases ea
            have hx : wr.cell? (ad.add (i - 1)) = some (.int .i64 y) := by
              have e : L.getD ((i - 1 : Nat) : Int).toNat 0 = y := by rw [Int.toNat_natCast, List.getD_eq_getElem?_getD, hy, Option.getD_some]
              rw [e] at hK
              have e2 : c1 = [.int .i64 y] := hK
              have := hcell 0 (.int .i64 y) (by rw [e2]; rfl)
              simpa [Kd.int, Kd.scalar] using this
            obtain ⟨kl, hkl⟩ := rclass_any y
            have HKL := Aside0.mk hkl
            have hw : wrap64 ((i : Int) - 1) = ((i - 1 : Nat) : Int) := by unfold wrap64; omega
            have hi1 : i - 1 < L.length := by omega
            clear hcc hK hcell hkl hy
            generalize clf y = cl at HKL hyp
            have hyp' : decide (0 < cl) = true := decide_eq_true hyp
            have h0' : (0 : Int) < (i : Int) := by omega
            clear hyV hlt2
            go_wp2_with (
              go_at_call 30
              refine (incipitref1_Class.calls kl y _ _ HKL.out).mono ?_
              rintro e w3 ⟨rfl, hb⟩
              have HB3 := Aside0.mk (below_step HBW.out hb)
              have HBL3 := Aside0.mk (below_step HBL.out hb)
              clear hb)
            go_roundw
            case rel => exact ⟨i - 1, by omega, Nat.zero_le _, by go_num, HB3, HBL3⟩
            case measure => simp [intOf]; omega
          · obtain rfl : i = 0 := by omega
            have hUL : U.length ≤ L.length := by rw [HU0.out]; exact Nat.zero_le _
            have hcutf : ∀ W : World, (Instr.slice 27 (.slice AL L.length cL) none (some (.int .i64 (0 : Int))) none).run Try.prog W = .ok (.slice AL U.length cL) W := fun W => by
              obtain ⟨ti, hti, htz⟩ := Option.map_eq_some_iff.1 info3
              have h := (print_take_int (P := Try.prog) (k := .i64) 27 3 Try.underlying27 hti (by have := congrArg (fun z => z.2.1) htz; exact this) AL cL L (0 : Int) (by omega) (by omega) HLL.out).1 W
              rw [show L.take (0 : Int).toNat = U from by rw [HU0.out]; rfl] at h
              exact h
            have HCU := Aside0.mk (show Kd.C (Kd.int .i64) wr AL U.length U from by
              obtain ⟨ti, hti, htz⟩ := Option.map_eq_some_iff.1 info3
              have h := (print_take_int (P := Try.prog) (k := .i64) 27 3 Try.underlying27 hti (by have := congrArg (fun z => z.2.1) htz; exact this) AL cL L (0 : Int) (by omega) (by omega) HLL.out).2.1 wr (Kd.reads_of_C (enc := Value.int .i64) (d := (0 : Int)) (h1 := fun _ => rfl) (Kd.C_below HLC.out HBL.out))
              rw [show L.take (0 : Int).toNat = U from by rw [HU0.out]; rfl] at h
              exact Kd.C_of_reads (enc := Value.int .i64) (d := (0 : Int)) (h1 := fun _ => rfl) h)
            obtain ⟨kw, hkw⟩ := rwrite_any U HU.out (by omega)
            rw [← HO.out] at hkw
            have HKW := Aside0.mk hkw
            have HUC := Aside0.mk (show U.length ≤ cL by have := HLL.out; omega)
            clear hkw
            have hw2 : L.length = s.held.length := by rw [HLl.out, HH.out]
            have HW2 := Aside0.mk hw2
            have hLb : L.length ≤ 50000 := hcl
            clear hUL
            clear hw2
            go_wp2_with (first
              | (go_at_call 27
                 refine (incipitref1_Write.calls kw AL cL U O true _ HCU.out HUC.out HKW.out).mono ?_
                 rintro e w4 ⟨rfl, hb⟩
                 have HB4 := Aside0.mk (below_step HBW.out hb)
                 have HL4 := Aside0.mk (HL.out.step HB4.out).inv
                 clear hb)
              | (go_at_call 20
                 refine (Held.calls w0 P g s _ HL4.out).mono ?_
                 rintro e w' ⟨he, rfl⟩
                 rw [← HW2.out] at he
                 subst he))
            go_ret
            exact ⟨rfl, HB4.out⟩
      · have HLl := Aside0.mk (show L.length = U.length + 1 + V.length by rw [h1, List.length_append, List.length_cons]; omega)
        have HH := Aside0.mk h3
        have HL1 := Aside0.mk h1
        have HX0 := Aside0.mk hx0
        clear h1 h3 hx0 HPARTS
        go_wp2_with (first
          | (go_at_call 14
             refine (incipitref1_Read.calls kr aj cs true _ HKR.out).mono ?_
             rintro e w1 ⟨vl, rfl, hl, hb⟩
             obtain ⟨Ac, cc, ec, hcc, hCc⟩ := Kd.R_reads hl
             subst ec
             have HCC := Aside0.mk hCc
             have HCCL := Aside0.mk hcc
             have HB1 := Aside0.mk (below_step HB.out hb)
             clear hb hl hcc hCc)
          | (go_at_call 28
             refine (incipitref1_Chars.calls kc Ac cc cs L _ HCC.out HCCL.out HKC.out).mono ?_
             rintro e w2 ⟨vl, rfl, hl, hb⟩
             obtain ⟨AL, cL, eL, hcL, hCL⟩ := Kd.R_reads hl
             have hLm : L.length ≤ 9223372036854775807 := Kd.C_max hCL
             subst eL
             have HLC := Aside0.mk hCL
             have HLL := Aside0.mk hcL
             have HB2 := Aside0.mk (below_step HB1.out hb)
             clear hb hl hcL hCL HCC HCCL HB1))
        have HBW0 := Aside0.mk (Below.refl w2.heap.size w2)
        go_loopw [11] (fun v11 wr => ∃ i : Nat, i ≤ L.length ∧ U.length + 1 ≤ i ∧ v11 = .int .i64 i ∧ Aside0 (Below w.heap.size w wr) ∧ Aside0 (Below w2.heap.size w2 wr)) (fun v _ => (intOf v).toNat)
        case atStart => exact ⟨L.length, Nat.le_refl _, by have := HLl.out; omega, rfl, HB2, HBW0⟩
        case round =>
          clear HBW0
          obtain ⟨i, hi, hib, rfl, HBW, HBL⟩ := hrel
          have hlt2 : i - 1 < L.length := by omega
          have h0' : (0 : Int) < (i : Int) := by omega
          by_cases h0 : U.length + 1 < i
          · obtain ⟨y, hy⟩ : ∃ y, L[i - 1]? = some y := ⟨_, List.getElem?_eq_getElem hlt2⟩
            have hyV : y ∈ V := by
              rw [HL1.out, List.getElem?_append_right (by omega), show i - 1 - U.length = (i - 2 - U.length) + 1 by omega, List.getElem?_cons_succ] at hy
              exact List.mem_of_getElem? hy
            have hyp : 0 < clf y := HV.out y hyV
            obtain ⟨ad, c1, ea, hcc, hK, hcell⟩ := Kd.C_get (Kd.C_below HLC.out HBL.out) 0 ((i - 1 : Nat) : Int) (by omega) (by omega)
            cases ea
            have hx : wr.cell? (ad.add (i - 1)) = some (.int .i64 y) := by
              have e : L.getD ((i - 1 : Nat) : Int).toNat 0 = y := by rw [Int.toNat_natCast, List.getD_eq_getElem?_getD, hy, Option.getD_some]
              rw [e] at hK
              have e2 : c1 = [.int .i64 y] := hK
              have := hcell 0 (.int .i64 y) (by rw [e2]; rfl)
              simpa [Kd.int, Kd.scalar] using this
            obtain ⟨kl, hkl⟩ := rclass_any y
            have HKL := Aside0.mk hkl
            have hw : wrap64 ((i : Int) - 1) = ((i - 1 : Nat) : Int) := by unfold wrap64; omega
            have hi1 : i - 1 < L.length := by omega
            clear hcc hK hcell hkl hy
            generalize clf y = cl at HKL hyp
            have hyp' : decide (0 < cl) = true := decide_eq_true hyp
            clear hyV hlt2
            go_wp2_with (
              go_at_call 30
              refine (incipitref1_Class.calls kl y _ _ HKL.out).mono ?_
              rintro e w3 ⟨rfl, hb⟩
              have HB3 := Aside0.mk (below_step HBW.out hb)
              have HBL3 := Aside0.mk (below_step HBL.out hb)
              clear hb)
            go_roundw
            case rel => exact ⟨i - 1, by omega, by omega, by go_num, HB3, HBL3⟩
            case measure => simp [intOf]; omega
          · obtain rfl : i = U.length + 1 := by omega
            obtain ⟨y, hy⟩ : ∃ y, L[U.length + 1 - 1]? = some y := ⟨_, List.getElem?_eq_getElem hlt2⟩
            have hyx : clf y = 0 := by
              rw [HL1.out, Nat.add_sub_cancel, List.getElem?_append_right (Nat.le_refl _), Nat.sub_self, List.getElem?_cons_zero] at hy
              rw [← Option.some.inj hy]; exact HX0.out
            obtain ⟨ad, c1, ea, hcc, hK, hcell⟩ := Kd.C_get (Kd.C_below HLC.out HBL.out) 0 ((U.length + 1 - 1 : Nat) : Int) (by omega) (by omega)
            cases ea
            have hx : wr.cell? (ad.add U.length) = some (.int .i64 y) := by
              have e : L.getD ((U.length + 1 - 1 : Nat) : Int).toNat 0 = y := by rw [Int.toNat_natCast, List.getD_eq_getElem?_getD, hy, Option.getD_some]
              rw [e] at hK
              have e2 : c1 = [.int .i64 y] := hK
              have := hcell 0 (.int .i64 y) (by rw [e2]; rfl)
              simpa [Kd.int, Kd.scalar] using this
            obtain ⟨kl, hkl⟩ := rclass_any y
            have HKL := Aside0.mk hkl
            have hw : wrap64 (((U.length + 1 : Nat) : Int) - 1) = (U.length : Int) := by unfold wrap64; omega
            have hi1 : U.length < L.length := by omega
            clear hcc hK hcell hkl hy
            rw [hyx] at HKL
            have hUL : U.length ≤ L.length := by omega
            clear hyx hlt2
            have hcutf : ∀ W : World, (Instr.slice 27 (.slice (some ad) L.length cL) none (some (.int .i64 (U.length : Int))) none).run Try.prog W = .ok (.slice (some ad) U.length cL) W := fun W => by
              obtain ⟨ti, hti, htz⟩ := Option.map_eq_some_iff.1 info3
              have h := (print_take_int (P := Try.prog) (k := .i64) 27 3 Try.underlying27 hti (by have := congrArg (fun z => z.2.1) htz; exact this) (some ad) cL L (U.length : Int) (by omega) (by omega) HLL.out).1 W
              rw [show L.take (U.length : Int).toNat = U from by rw [HL1.out, Int.toNat_natCast, List.take_append_of_le_length (Nat.le_refl _), List.take_length]] at h
              exact h
            have HCU := Aside0.mk (show Kd.C (Kd.int .i64) wr (some ad) U.length U from by
              obtain ⟨ti, hti, htz⟩ := Option.map_eq_some_iff.1 info3
              have h := (print_take_int (P := Try.prog) (k := .i64) 27 3 Try.underlying27 hti (by have := congrArg (fun z => z.2.1) htz; exact this) (some ad) cL L (U.length : Int) (by omega) (by omega) HLL.out).2.1 wr (Kd.reads_of_C (enc := Value.int .i64) (d := (0 : Int)) (h1 := fun _ => rfl) (Kd.C_below HLC.out HBL.out))
              rw [show L.take (U.length : Int).toNat = U from by rw [HL1.out, Int.toNat_natCast, List.take_append_of_le_length (Nat.le_refl _), List.take_length]] at h
              exact Kd.C_of_reads (enc := Value.int .i64) (d := (0 : Int)) (h1 := fun _ => rfl) h)
            obtain ⟨kw, hkw⟩ := rwrite_any U HU.out (by omega)
            rw [← HO.out] at hkw
            have HKW := Aside0.mk hkw
            have HUC := Aside0.mk (show U.length ≤ cL by have := HLL.out; omega)
            clear hkw
            have HW2 := Aside0.mk (show L.length = U.length + s.held.length by rw [HLl.out, HH.out]; omega)
            have hLb : L.length ≤ 50000 := hcl
            have hwl : (L.length : Int) - (U.length : Int) = (s.held.length : Int) := by have := HW2.out; omega
            have hU0 : (0 : Int) < (U.length : Int) + 1 := by omega
            have hUb : U.length ≤ 50000 := by omega
            go_wp2_with (first
              | (go_at_call 30
                 refine (incipitref1_Class.calls kl y 0 _ HKL.out).mono ?_
                 rintro e w3 ⟨rfl, hb⟩
                 have HB3 := Aside0.mk (below_step HBW.out hb)
                 have HCU3 := Aside0.mk (Kd.C_below HCU.out hb)
                 clear hb hx)
              | (go_at_call 27
                 refine (incipitref1_Write.calls kw (some ad) cL U O true _ HCU3.out HUC.out HKW.out).mono ?_
                 rintro e w4 ⟨rfl, hb⟩
                 have HB4 := Aside0.mk (below_step HB3.out hb)
                 have HL4 := Aside0.mk (HL.out.step HB4.out).inv
                 clear hb)
              | (go_at_call 20
                 refine (Held.calls w0 P g s _ HL4.out).mono ?_
                 rintro e w' ⟨rfl, rfl⟩))
            go_ret
            exact ⟨rfl, HB4.out⟩
end Go.Proofs.Ytiplbhjllkfemaa.MSt
