/-
  VersionApart, walked.
-/
import Derived.Test.YtjhijcehcklipaaZVeR9
import Derived.Test.YtjhijcehcklipaaZVeR10
namespace Go.Proofs.Ytjhijcehcklipaa.MVe
open Go.RowKit Go.Proofs.YtjhijcehcklipaaW.PrintWords Go.Proofs.YtjhijcehcklipaaW.PrintLast Go.Proofs.YtjhijcehcklipaaW.PrintMore
attribute [local go_sem] max2_int min2_int max_two min_two max_three min_three max_four min_four
set_option linter.unusedVariables false
set_option linter.unusedSimpArgs false

set_option maxHeartbeats 8000000 in
set_option maxRecDepth 100000 in
theorem VersionApart.calls (Ae : Option Addr) (ce : Nat) (es : List Ed) (w : World) (he : EdAt w Ae es) :
    Calls Try.prog 8 #[.slice Ae es.length ce] w fun e w' => e = .returned (.bool true) ∧ Below w.heap.size w w' := by
  have hu41 := Try.underlying41
  have HE := Aside0.mk he
  clear he
  go_enter Try.func8, Try.ntmps8
  go_wp2_with (first
    | (go_at_call 20
       refine (Begun20.holds _).mono ?_
       rintro e w1 ⟨rfl, hb⟩
       have HB1 := Aside0.mk hb
       clear hb)
    | (go_at_call 28
       refine (Made.calls Ae ce es 20 w _ HB1.out HE.out).mono ?_
       rintro e w2 ⟨g, h, v, rfl, hG, hV, -, -⟩
       have HG := Aside0.mk hG
       have HV := Aside0.mk hV
       clear hG hV))
  have hfl := HG.out.len
  go_loopw [7] (fun i wr => ∃ j : Nat, 1 ≤ j ∧ j ≤ 5 ∧ i = .int .i64 j ∧ Aside0 (VInv w (fun k => k ≠ g ∧ k ≠ h) g v wr)) (fun i _ => 5 - (intOf i).toNat)
  case atStart => exact ⟨1, by omega, by omega, rfl, HV⟩
  case round =>
    clear HV
    obtain ⟨j, hj1, hj, rfl, HV⟩ := hrel
    by_cases hlt : j < 5
    · have hlt' : (j : Int) < 5 := by omega
      have HLV := Aside0.mk (fun ys (hh : LevOf (j : Int) v.files ys) => lev_eq HG.out hh)
      have HLA0 : ∀ ls, levR (j : Int) v.files = ls → ∀ k (hk : k + 1 < ls.length), leS ls[k + 1].f3 ls[k].f4 = false := fun ls e k hk => by subst e; exact lev_apart HG.out (by omega) hk
      have HLL := Aside0.mk (levR_len (j : Int) v.files)
      obtain ⟨ls, hls⟩ : ∃ ls, levR (j : Int) v.files = ls := ⟨_, rfl⟩
      have HLA := Aside0.mk (HLA0 ls hls)
      rw [hls] at HLV HLL
      clear HLA0
      have hll : ls.length ≤ 200 := by have := HLL.out; omega
      clear hls
      go_wp2_with (
        go_at_call 24
        refine (Level.calls w _ g v (j : Int) _ HV.out (by omega)).mono ?_
        rintro e w3 ⟨vy, ys, rfl, hR2, hb2, hL⟩
        rw [HLV.out ys hL] at hR2
        obtain ⟨A2, c2_, e2_, hc2, hC2⟩ := Kd.R_reads hR2
        subst e2_
        have HC2 := Aside0.mk hC2
        have HV2 := Aside0.mk (HV.out.step hb2)
        clear hR2 hb2 hL hC2)
      clear HV
      go_loopw [9] (fun i wr => ∃ k : Nat, 1 ≤ k ∧ k ≤ 200 ∧ i = .int .i64 k ∧ Aside0 (Kd.C k41 wr A2 ls.length ls) ∧ Aside0 (VInv w (fun k => k ≠ g ∧ k ≠ h) g v wr)) (fun i _ => 200 - (intOf i).toNat)
      case atStart => exact ⟨1, by omega, by omega, rfl, HC2, HV2⟩
      case round =>
        clear HC2 HV2
        obtain ⟨k, hk1, hk, rfl, HC, HV⟩ := hrel
        by_cases hlt2 : k < ls.length
        · obtain ⟨k, rfl⟩ : ∃ k', k = k' + 1 := ⟨k - 1, by omega⟩
          obtain ⟨ad, ea, hx0, hx1, hx2, hx3, hx4⟩ := at_T41 HC.out ((k + 1 : Nat) : Int) (by omega) (by omega)
          cases ea
          obtain ⟨ad2, ea, hy0, hy1, hy2, hy3, hy4⟩ := at_T41 HC.out (k : Int) (by omega) (by omega)
          cases ea
          rw [rd_at hlt2, Int.toNat_natCast] at hx3
          rw [rd_at (show k < ls.length by omega), Int.toNat_natCast] at hy4
          have hle := HLA.out k hlt2
          obtain ⟨x, hxx⟩ : ∃ x, ls[k + 1] = x := ⟨_, rfl⟩
          obtain ⟨y, hyy⟩ : ∃ y, ls[k]'(by omega) = y := ⟨_, rfl⟩
          rw [hxx] at hx3 hle
          rw [hyy] at hy4 hle
          unfold leS at hle
          obtain ⟨K, hK⟩ : ∃ K : Int, ((k + 1 : Nat) : Int) = K := ⟨_, rfl⟩
          have hK1 : IntKind.i64.wrap (K - 1) = (k : Int) := by rw [← hK, IntWalk.i64_in _ (by omega)]; omega
          have hK2 : 0 ≤ K := by omega
          have hK3 : K < ls.length := by omega
          have hK4 : K.toNat = k + 1 := by omega
          have HK := Aside0.mk hK
          rw [hK]
          clear hK hx0 hx1 hx2 hx4 hy0 hy1 hy2 hy3 hxx hyy
          go_wp2
          go_quiet (fail)
          go_wp2
          refine ⟨⟨k + 2, by omega, by omega, ?_, ⟨Kd.C_below HC.out (pw_below_drewN (Below.refl _ _) _)⟩, ⟨HV.out.step (pw_below_drewN (Below.refl _ _) _)⟩⟩, ?_⟩
          · have := HK.out; congr 1; omega
          · have := HK.out; simp [intOf]; omega
        · have hge : (ls.length : Int) ≤ (k : Int) := by omega
          go_wp2
          go_roundw
          case rel => exact ⟨j + 1, by omega, by omega, by go_num, HV⟩
          case measure => simp [intOf]; omega
    · obtain rfl : j = 5 := by omega
      go_wp2
      go_ret
      exact ⟨rfl, HV.out.below⟩
end Go.Proofs.Ytjhijcehcklipaa.MVe
