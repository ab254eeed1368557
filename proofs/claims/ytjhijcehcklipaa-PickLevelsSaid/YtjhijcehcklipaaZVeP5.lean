/-
  The next job, walked.
-/
import Derived.Test.YtjhijcehcklipaaZVeR8
import Derived.Test.YtjhijcehcklipaaZVeR9
import Derived.Deep.RegionHeld3
import Derived.Laws.ResultCell
import Derived.Laws.Rows
namespace Go.Proofs.Ytjhijcehcklipaa.MVe
open Go.RowKit Go.Proofs.YtjhijcehcklipaaW.PrintWords Go.Proofs.YtjhijcehcklipaaW.PrintLast Go.Proofs.YtjhijcehcklipaaW.PrintMore
attribute [local go_sem] max2_int min2_int max_two min_two max_three min_three max_four min_four
set_option linter.unusedVariables false
set_option linter.unusedSimpArgs false

def sumS (xs : List S41) : Int := xs.foldl (fun s f => s + f.f2) 0
theorem sumS_take {xs : List S41} {j : Nat} (h : j < xs.length) : sumS (xs.take (j + 1)) = sumS (xs.take j) + xs[j].f2 := by
  unfold sumS
  rw [List.take_succ_eq_append_getElem h, List.foldl_append]
  rfl
theorem sumS_bound {xs : List S41} (h : ∀ x ∈ xs, 0 ≤ x.f2 ∧ x.f2 ≤ 16777216) : ∀ j, j ≤ xs.length → 0 ≤ sumS (xs.take j) ∧ sumS (xs.take j) ≤ 16777216 * j
  | 0, _ => by rw [List.take_zero]; exact ⟨Int.le_refl _, Int.le_refl _⟩
  | j + 1, hj => by
    have ih := sumS_bound h j (by omega)
    rw [sumS_take (by omega)]
    have := h xs[j] (List.getElem_mem _)
    omega
theorem lev_size {v : Ver} (hg : VGood v) (n : Int) : ∀ x ∈ levR n v.files, 0 ≤ x.f2 ∧ x.f2 ≤ 16777216 := fun x hx => by
  have := (fileOk_iff x).1 (hg.ok x (List.mem_filter.1 ((levR_perm n v.files).subset hx)).1)
  omega
set_option maxHeartbeats 4000000 in
set_option maxRecDepth 100000 in
theorem pSize.calls (w0 : World) (P : Nat → Prop) (g : Nat) (v : Ver) (n : Int) (w : World) (hI : VInv w0 P g v w) (hg : VGood v) :
    Calls Try.prog 33 #[.pointer (some ⟨g, 0, none⟩), .int .i64 n] w fun e w' => e = .returned (.int .i64 (sumS (levR n v.files))) ∧ Below w.heap.size w w' := by
  have hu41 := Try.underlying41
  have HI := Aside0.mk hI
  have hlen := hg.len
  have HLV := Aside0.mk (fun ys (hh : LevOf n v.files ys) => lev_eq hg hh)
  have HLL := Aside0.mk (levR_len n v.files)
  have HSB := Aside0.mk (sumS_bound (lev_size hg n))
  clear hI
  obtain ⟨ls, hls⟩ : ∃ ls, levR n v.files = ls := ⟨_, rfl⟩
  rw [hls] at HLV HLL HSB ⊢
  have hll : ls.length ≤ 200 := by have := HLL.out; omega
  clear hls hg
  go_enter Try.func33, Try.ntmps33
  go_wp2_with (
    go_at_call 24
    refine (Level.calls w0 P g v n _ HI.out (by omega)).mono ?_
    rintro e w2 ⟨vy, ys, rfl, hR2, hb2, hL⟩
    rw [HLV.out ys hL] at hR2
    obtain ⟨A2, c2_, e2_, -, hC2⟩ := Kd.R_reads hR2
    subst e2_
    have HC2 := Aside0.mk hC2
    have HB2 := Aside0.mk hb2
    clear hR2 hb2 hL hC2)
  go_loopw [5, 12] (fun s i wr => ∃ j : Nat, j ≤ ls.length ∧ s = .int .i64 (sumS (ls.take j)) ∧ i = .int .i64 j ∧ Aside0 (Below w2.heap.size w2 wr)) (fun _ i _ => ls.length - (intOf i).toNat)
  case atStart => exact ⟨0, Nat.zero_le _, rfl, rfl, ⟨Below.refl _ _⟩⟩
  case round =>
    obtain ⟨j, hj, rfl, rfl, HB⟩ := hrel
    by_cases hlt : j < ls.length
    · obtain ⟨ad, ea, hx0, hx1, hx2, hx3, hx4⟩ := at_T41 (Kd.C_below HC2.out HB.out) (j : Int) (by omega) (by omega)
      cases ea
      rw [rd_at hlt, Int.toNat_natCast] at hx0 hx1 hx2 hx3 hx4
      have HT := Aside0.mk (sumS_take hlt)
      have hb0 := HSB.out (j + 1) (by omega)
      rw [HT.out] at hb0
      obtain ⟨x, hxx⟩ : ∃ x, ls[j] = x := ⟨_, rfl⟩
      rw [hxx] at hx0 hx1 hx2 hx3 hx4 HT hb0
      obtain ⟨S, hS⟩ : ∃ S, sumS (ls.take j) = S := ⟨_, rfl⟩
      rw [hS] at HT hb0 ⊢
      have hw : IntKind.i64.wrap (S + x.f2) = S + x.f2 := IntWalk.i64_in _ (by omega)
      have HB1 := Aside0.mk (below_alloc HB.out (.cells #[.int .i64 x.f0, .int .i64 x.f1, .int .i64 x.f2, .string x.f3, .string x.f4] 41))
      clear hxx hS hb0
      go_wp2
      go_roundw
      case rel => exact ⟨j + 1, by omega, by rw [HT.out], by go_num, HB1⟩
      case measure => simp [intOf]; omega
    · obtain rfl : j = ls.length := by omega
      rw [List.take_length]
      have hge : (ls.length : Int) ≤ (ls.length : Int) := Int.le_refl _
      go_wp2
      go_ret
      exact ⟨rfl, below_step HB2.out HB.out⟩
set_option maxHeartbeats 4000000 in
set_option maxRecDepth 100000 in
theorem RSize.calls (w0 : World) (P : Nat → Prop) (g : Nat) (v : Ver) (n : Int) (w : World) (hI : RInv w0 P g v w) (hg : VGood v) :
    Calls Try.prog 34 #[.pointer (some ⟨g, 0, none⟩), .int .i64 n] w fun e w' => e = .returned (.int .i64 (sumS (levR n v.files))) ∧ Below w.heap.size w w' := by
  have hu41 := Try.underlying41
  have HI := Aside0.mk hI
  have hlen := hg.len
  have HLL := Aside0.mk (levR_len n v.files)
  have HSB := Aside0.mk (sumS_bound (lev_size hg n))
  clear hI
  obtain ⟨ls, hls⟩ : ∃ ls, levR n v.files = ls := ⟨_, rfl⟩
  have HLS := Aside0.mk hls
  rw [hls] at HLL HSB ⊢
  have hll : ls.length ≤ 200 := by have := HLL.out; omega
  clear hls hg
  go_enter Try.func34, Try.ntmps34
  go_wp2_with (
    go_at_call 71
    refine (RLevel.calls w0 P g v n _ HI.out (by omega)).mono ?_
    rintro e w2 ⟨vy, rfl, hR2, hb2⟩
    rw [HLS.out] at hR2
    obtain ⟨A2, c2_, e2_, -, hC2⟩ := Kd.R_reads hR2
    subst e2_
    have HC2 := Aside0.mk hC2
    have HB2 := Aside0.mk hb2
    clear hR2 hb2 hC2)
  go_loopw [5, 7] (fun s i wr => ∃ j : Nat, j ≤ ls.length ∧ s = .int .i64 (sumS (ls.take j)) ∧ i = .int .i64 j ∧ Aside0 (Below w2.heap.size w2 wr)) (fun _ i _ => ls.length - (intOf i).toNat)
  case atStart => exact ⟨0, Nat.zero_le _, rfl, rfl, ⟨Below.refl _ _⟩⟩
  case round =>
    obtain ⟨j, hj, rfl, rfl, HB⟩ := hrel
    by_cases hlt : j < ls.length
    · obtain ⟨ad, ea, hx0, hx1, hx2, hx3, hx4⟩ := at_T41 (Kd.C_below HC2.out HB.out) (j : Int) (by omega) (by omega)
      cases ea
      rw [rd_at hlt, Int.toNat_natCast] at hx0 hx1 hx2 hx3 hx4
      have HT := Aside0.mk (sumS_take hlt)
      have hb0 := HSB.out (j + 1) (by omega)
      rw [HT.out] at hb0
      obtain ⟨x, hxx⟩ : ∃ x, ls[j] = x := ⟨_, rfl⟩
      rw [hxx] at hx0 hx1 hx2 hx3 hx4 HT hb0
      obtain ⟨S, hS⟩ : ∃ S, sumS (ls.take j) = S := ⟨_, rfl⟩
      rw [hS] at HT hb0 ⊢
      have hw : IntKind.i64.wrap (S + x.f2) = S + x.f2 := IntWalk.i64_in _ (by omega)
      clear hxx hS hb0
      go_wp2
      go_roundw
      case rel => exact ⟨j + 1, by omega, by rw [HT.out], by go_num, HB⟩
      case measure => simp [intOf]; omega
    · obtain rfl : j = ls.length := by omega
      rw [List.take_length]
      have hge : (ls.length : Int) ≤ (ls.length : Int) := Int.le_refl _
      go_wp2
      go_ret
      exact ⟨rfl, below_step HB2.out HB.out⟩
end Go.Proofs.Ytjhijcehcklipaa.MVe
namespace Go.Proofs.Ytjhijcehcklipaa.MVe
open Go.RowKit Go.Proofs.YtjhijcehcklipaaW.PrintWords Go.Proofs.YtjhijcehcklipaaW.PrintLast Go.Proofs.YtjhijcehcklipaaW.PrintMore
attribute [local go_sem] max2_int min2_int max_two min_two max_three min_three max_four min_four
set_option linter.unusedVariables false
set_option linter.unusedSimpArgs false

def loF (a : ByteArray) (xs : List S41) : ByteArray := xs.foldl (fun a f => minS a f.f3) a
def hiF (a : ByteArray) (xs : List S41) : ByteArray := xs.foldl (fun a f => maxS a f.f4) a
def loS (xs : List S41) : ByteArray := loF (xs.getD 0 z41).f3 xs
def hiS (xs : List S41) : ByteArray := hiF (xs.getD 0 z41).f4 xs
theorem minS_self (x : ByteArray) : minS x x = x := by unfold minS; split <;> rfl
theorem maxS_self (x : ByteArray) : maxS x x = x := by unfold maxS; split <;> rfl
theorem loF_take {a : ByteArray} {xs : List S41} {j : Nat} (h : j < xs.length) : loF a (xs.take (j + 1)) = minS (loF a (xs.take j)) xs[j].f3 := by
  unfold loF
  rw [List.take_succ_eq_append_getElem h, List.foldl_append]
  rfl
theorem hiF_take {a : ByteArray} {xs : List S41} {j : Nat} (h : j < xs.length) : hiF a (xs.take (j + 1)) = maxS (hiF a (xs.take j)) xs[j].f4 := by
  unfold hiF
  rw [List.take_succ_eq_append_getElem h, List.foldl_append]
  rfl
set_option maxHeartbeats 4000000 in
set_option maxRecDepth 100000 in
theorem pSpan.calls (A : Option Addr) (c : Nat) (xs : List S41) (w : World) (hr : Kd.C k41 w A xs.length xs) (h0 : 0 < xs.length) :
    Calls Try.prog 64 #[.slice A xs.length c] w fun e w' => e = .returned (.tuple #[.string (loS xs), .string (hiS xs)]) ∧ Below w.heap.size w w' := by
  have hu41 := Try.underlying41
  have hmx : xs.length ≤ 9223372036854775807 := Kd.C_max hr
  have HR := Aside0.mk hr
  obtain ⟨ad0, ea, hz0, hz1, hz2, hz3, hz4⟩ := at_T41 hr ((0 : Nat) : Int) (by omega) (by omega)
  cases ea
  rw [rd_at h0, Int.toNat_natCast, Nat.zero_mul] at hz3 hz4
  rw [show ad0.add 0 = ad0 by simp [Addr.add]] at hz3 hz4
  have e0 : xs.getD 0 z41 = xs[0] := by rw [List.getD_eq_getElem?_getD, List.getElem?_eq_getElem h0, Option.getD_some]
  unfold loS hiS
  rw [e0]
  obtain ⟨a3, ha3⟩ : ∃ a, xs[0].f3 = a := ⟨_, rfl⟩
  obtain ⟨a4, ha4⟩ : ∃ a, xs[0].f4 = a := ⟨_, rfl⟩
  rw [ha3] at hz3 ⊢
  rw [ha4] at hz4 ⊢
  clear hr hz0 hz1 hz2 e0 ha3 ha4
  go_enter Try.func64, Try.ntmps64
  go_wp2
  go_quiet (fail)
  have HB := Aside0.mk (pw_below_drewN (Below.refl w.heap.size w) nq)
  go_wp2
  clear hz3 hz4
  go_loopw [4, 5, 18] (fun s t i wr => ∃ j : Nat, j ≤ xs.length ∧ s = .string (loF a3 (xs.take j)) ∧ t = .string (hiF a4 (xs.take j)) ∧ i = .int .i64 j ∧ Aside0 (Below w.heap.size w wr)) (fun _ _ i _ => xs.length - (intOf i).toNat)
  case atStart => exact ⟨0, Nat.zero_le _, rfl, rfl, rfl, HB⟩
  case round =>
    clear HB
    obtain ⟨j, hj, rfl, rfl, rfl, HB⟩ := hrel
    by_cases hlt : j < xs.length
    · obtain ⟨ad, ea, hx0, hx1, hx2, hx3, hx4⟩ := at_T41 (Kd.C_below HR.out HB.out) (j : Int) (by omega) (by omega)
      cases ea
      rw [rd_at hlt, Int.toNat_natCast] at hx0 hx1 hx2 hx3 hx4
      have HT := Aside0.mk (loF_take (a := a3) hlt)
      have HU := Aside0.mk (hiF_take (a := a4) hlt)
      obtain ⟨x, hxx⟩ : ∃ x, xs[j] = x := ⟨_, rfl⟩
      rw [hxx] at hx0 hx1 hx2 hx3 hx4 HT HU
      obtain ⟨S, hS⟩ : ∃ S, loF a3 (xs.take j) = S := ⟨_, rfl⟩
      obtain ⟨T, hT⟩ : ∃ T, hiF a4 (xs.take j) = T := ⟨_, rfl⟩
      rw [hS] at HT ⊢
      rw [hT] at HU ⊢
      have h1 := fun W => min2_str S x.f3 W
      have h2 := fun W => max2_str T x.f4 W
      have HB1 := Aside0.mk (below_alloc HB.out (.cells #[.int .i64 x.f0, .int .i64 x.f1, .int .i64 x.f2, .string x.f3, .string x.f4] 41))
      obtain ⟨s0, s1, s2, s3, s4⟩ := xcells (blk_new wr (.cells #[.int .i64 x.f0, .int .i64 x.f1, .int .i64 x.f2, .string x.f3, .string x.f4] 41))
      clear hxx hS hT
      go_upto_region 5 with (fail)
      obtain ⟨W, hW⟩ : ∃ W, W = wr.alloc (.cells #[.int .i64 x.f0, .int .i64 x.f1, .int .i64 x.f2, .string x.f3, .string x.f4] 41) := ⟨_, rfl⟩
      rw [← hW] at HB1 s3 s4
      rw [← hW]
      clear hx0 hx1 hx2 hx3 hx4 hW s0 s1 s2
      go_quiet (fail)
      go_wp2
      go_roundw
      case rel => exact ⟨j + 1, by omega, by rw [HT.out], by rw [HU.out], by go_num, ⟨pw_below_drewN HB1.out _⟩⟩
      case measure => simp [intOf]; omega
    · obtain rfl : j = xs.length := by omega
      rw [List.take_length]
      have hge : (xs.length : Int) ≤ (xs.length : Int) := Int.le_refl _
      go_wp2
      go_ret2
      exact ⟨rfl, HB.out⟩
set_option maxHeartbeats 4000000 in
set_option maxRecDepth 100000 in
theorem RSpan.calls (A : Option Addr) (c : Nat) (xs : List S41) (w : World) (hr : Kd.C k41 w A xs.length xs) (h0 : 0 < xs.length) :
    Calls Try.prog 72 #[.slice A xs.length c] w fun e w' => e = .returned (.tuple #[.string (loS xs), .string (hiS xs)]) ∧ Below w.heap.size w w' := by
  have hu41 := Try.underlying41
  have hmx : xs.length ≤ 9223372036854775807 := Kd.C_max hr
  have HR := Aside0.mk hr
  obtain ⟨ad0, ea, hz0, hz1, hz2, hz3, hz4⟩ := at_T41 hr ((0 : Nat) : Int) (by omega) (by omega)
  cases ea
  rw [rd_at h0, Int.toNat_natCast, Nat.zero_mul] at hz3 hz4
  rw [show ad0.add 0 = ad0 by simp [Addr.add]] at hz3 hz4
  have e0 : xs.getD 0 z41 = xs[0] := by rw [List.getD_eq_getElem?_getD, List.getElem?_eq_getElem h0, Option.getD_some]
  unfold loS hiS
  rw [e0]
  have HT1 := Aside0.mk (show loF xs[0].f3 (xs.take 1) = xs[0].f3 by rw [loF_take h0]; exact minS_self _)
  have HU1 := Aside0.mk (show hiF xs[0].f4 (xs.take 1) = xs[0].f4 by rw [hiF_take h0]; exact maxS_self _)
  obtain ⟨a3, ha3⟩ : ∃ a, xs[0].f3 = a := ⟨_, rfl⟩
  obtain ⟨a4, ha4⟩ : ∃ a, xs[0].f4 = a := ⟨_, rfl⟩
  rw [ha3] at hz3 HT1 ⊢
  rw [ha4] at hz4 HU1 ⊢
  clear hr hz0 hz1 hz2 e0 ha3 ha4
  go_enter Try.func72, Try.ntmps72
  go_wp2
  go_quiet (fail)
  have HB := Aside0.mk (pw_below_drewN (Below.refl w.heap.size w) nq)
  go_wp2
  clear hz3 hz4
  go_loopw [4, 5, 6] (fun s t i wr => ∃ j : Nat, j ≤ xs.length ∧ s = .string (loF a3 (xs.take j)) ∧ t = .string (hiF a4 (xs.take j)) ∧ i = .int .i64 j ∧ Aside0 (Below w.heap.size w wr)) (fun _ _ i _ => xs.length - (intOf i).toNat)
  case atStart => exact ⟨1, h0, by rw [HT1.out], by rw [HU1.out], rfl, HB⟩
  case round =>
    clear HB
    obtain ⟨j, hj, rfl, rfl, rfl, HB⟩ := hrel
    by_cases hlt : j < xs.length
    · obtain ⟨ad, ea, hx0, hx1, hx2, hx3, hx4⟩ := at_T41 (Kd.C_below HR.out HB.out) (j : Int) (by omega) (by omega)
      cases ea
      rw [rd_at hlt, Int.toNat_natCast] at hx0 hx1 hx2 hx3 hx4
      have HT := Aside0.mk (loF_take (a := a3) hlt)
      have HU := Aside0.mk (hiF_take (a := a4) hlt)
      obtain ⟨x, hxx⟩ : ∃ x, xs[j] = x := ⟨_, rfl⟩
      rw [hxx] at hx0 hx1 hx2 hx3 hx4 HT HU
      obtain ⟨S, hS⟩ : ∃ S, loF a3 (xs.take j) = S := ⟨_, rfl⟩
      obtain ⟨T, hT⟩ : ∃ T, hiF a4 (xs.take j) = T := ⟨_, rfl⟩
      rw [hS] at HT ⊢
      rw [hT] at HU ⊢
      have h1 := fun W => min2_str S x.f3 W
      have h2 := fun W => max2_str T x.f4 W
      clear hxx hS hT
      go_wp2
      go_roundw
      case rel => exact ⟨j + 1, by omega, by rw [HT.out], by rw [HU.out], by go_num, HB⟩
      case measure => simp [intOf]; omega
    · obtain rfl : j = xs.length := by omega
      rw [List.take_length]
      have hge : (xs.length : Int) ≤ (xs.length : Int) := Int.le_refl _
      go_wp2
      go_ret2
      exact ⟨rfl, HB.out⟩
end Go.Proofs.Ytjhijcehcklipaa.MVe
namespace Go.Proofs.Ytjhijcehcklipaa.MVe
open Go.RowKit Go.Proofs.YtjhijcehcklipaaW.PrintWords Go.Proofs.YtjhijcehcklipaaW.PrintLast Go.Proofs.YtjhijcehcklipaaW.PrintMore
attribute [local go_sem] max2_int min2_int max_two min_two max_three min_three max_four min_four
set_option linter.unusedVariables false
set_option linter.unusedSimpArgs false

theorem enters86 : ∀ args w', (callFunc 86 args).run Try.prog w' = .ok (.enter 86 args) w' := enters Try.func86 (by kernel_rfl) rfl
def cmpN (x y : S41) : Int := if x.f0 < y.f0 then -1 else if x.f0 > y.f0 then 1 else 0
set_option maxHeartbeats 1000000 in
set_option maxRecDepth 100000 in
theorem cmpN.calls (x y : S41) (W : World) : Calls Try.prog 86 #[fv x, fv y] W fun e w' => e = .returned (.int .i64 (cmpN x y)) ∧ Below W.heap.size W w' := by
  have hu41 := Try.underlying41
  have HB := Aside0.mk (below_alloc (below_alloc (Below.refl W.heap.size W) (.cells #[.int .i64 x.f0, .int .i64 x.f1, .int .i64 x.f2, .string x.f3, .string x.f4] 41)) (.cells #[.int .i64 y.f0, .int .i64 y.f1, .int .i64 y.f2, .string y.f3, .string y.f4] 41))
  have M := Aside0.mk (cmpI x.f0 y.f0)
  unfold cmpN fv
  generalize (if x.f0 < y.f0 then (-1 : Int) else if x.f0 > y.f0 then 1 else 0) = r at M ⊢
  go_enter Try.func86, Try.ntmps86
  go_wp2_with (
    go_at_call 61
    refine (cmp_Compare_int64.calls x.f0 y.f0 r _ M.out).mono ?_
    rintro e w5 ⟨rfl, ⟨nd, rfl⟩⟩)
  go_ret
  exact ⟨rfl, pw_below_drewN HB.out nd⟩
theorem size41 : (Try.prog.info? 41).map (fun i => i.size) = some 5 := by kernel_rfl
def minF (m : S41) (xs : List S41) : S41 := xs.foldl (fun m f => if f.f0 < m.f0 then f else m) m
theorem minF_take {a : S41} {xs : List S41} {j : Nat} (h : j < xs.length) : minF a (xs.take (j + 1)) = if xs[j].f0 < (minF a (xs.take j)).f0 then xs[j] else minF a (xs.take j) := by
  unfold minF
  rw [List.take_succ_eq_append_getElem h, List.foldl_append]
  rfl
theorem cmpN_lt (x y : S41) : decide (cmpN x y < 0) = decide (x.f0 < y.f0) := by
  unfold cmpN
  by_cases h : x.f0 < y.f0
  · rw [if_pos h, decide_eq_true h]; rfl
  · rw [if_neg h, decide_eq_false h]
    split <;> rfl
/-- MinFunc's state: the least one's block, the result's. -/
structure MSt (w : World) (m : S41) (W : World) : Prop where
  below : Below w.heap.size w W
  res : W.heap[w.heap.size]? = some (.cells #[.int .i64 0, .int .i64 0, .int .i64 0, .string ⟨#[]⟩, .string ⟨#[]⟩] 41 (0, 0))
  cur : W.heap[w.heap.size + 1]? = some (.cells #[.int .i64 m.f0, .int .i64 m.f1, .int .i64 m.f2, .string m.f3, .string m.f4] 41 (0, 0))
theorem MSt.step {w W W2 : World} {m : S41} (h : MSt w m W) (hb : Below W.heap.size W W2) : MSt w m W2 := by
  obtain ⟨h1, h2, h3⟩ := h
  exact ⟨below_then h1 h1.size hb, (hb.block _ (blk_lt h2)).trans h2, (hb.block _ (blk_lt h3)).trans h3⟩
theorem MSt.put {w W : World} {m : S41} (h : MSt w m W) (x : S41) : MSt w x (((((W.setCell ⟨w.heap.size + 1, 0, none⟩ (.int .i64 x.f0)).setCell ⟨w.heap.size + 1, 1, none⟩ (.int .i64 x.f1)).setCell ⟨w.heap.size + 1, 2, none⟩ (.int .i64 x.f2)).setCell ⟨w.heap.size + 1, 3, none⟩ (.string x.f3)).setCell ⟨w.heap.size + 1, 4, none⟩ (.string x.f4)) := by
  obtain ⟨h1, h2, h3⟩ := h
  have hne : w.heap.size ≠ w.heap.size + 1 := by omega
  refine ⟨((((h1.setCell (p := ⟨w.heap.size + 1, 0, none⟩) (Nat.le_succ _) _).setCell (p := ⟨w.heap.size + 1, 1, none⟩) (Nat.le_succ _) _).setCell (p := ⟨w.heap.size + 1, 2, none⟩) (Nat.le_succ _) _).setCell (p := ⟨w.heap.size + 1, 3, none⟩) (Nat.le_succ _) _).setCell (p := ⟨w.heap.size + 1, 4, none⟩) (Nat.le_succ _) _, ?_, ?_⟩
  · exact blk_far (p := ⟨w.heap.size + 1, 4, none⟩) (blk_far (p := ⟨w.heap.size + 1, 3, none⟩) (blk_far (p := ⟨w.heap.size + 1, 2, none⟩) (blk_far (p := ⟨w.heap.size + 1, 1, none⟩) (blk_far (p := ⟨w.heap.size + 1, 0, none⟩) h2 hne _) hne _) hne _) hne _) hne _
  · exact (blk_set (blk_set (blk_set (blk_set (blk_set h3 0 _) 1 _) 2 _) 3 _) 4 _).trans rfl
set_option maxHeartbeats 4000000 in
set_option maxRecDepth 100000 in
theorem MinFunc.calls (A : Option Addr) (c : Nat) (xs : List S41) (w : World) (hr : Kd.C k41 w A xs.length xs) (h0 : 0 < xs.length) :
    Calls Try.prog 85 #[.slice A xs.length c, .func (.func 86) #[] #[]] w fun e w' => e = .returned (fv (minF (xs.getD 0 z41) xs)) ∧ Below w.heap.size w w' := by
  have hu41 := Try.underlying41
  have hmx : xs.length ≤ 9223372036854775807 := Kd.C_max hr
  have HR := Aside0.mk hr
  have eg := enters86
  have hrb := Kd.C_below hr (below_alloc (Below.refl w.heap.size w) (.cells #[.int .i64 0, .int .i64 0, .int .i64 0, .string ⟨#[]⟩, .string ⟨#[]⟩] 41))
  obtain ⟨ad0, ea, hz0, hz1, hz2, hz3, hz4⟩ := at_T41 hrb ((0 : Nat) : Int) (by omega) (by omega)
  cases ea
  rw [rd_at h0, Int.toNat_natCast, Nat.zero_mul] at hz0 hz1 hz2 hz3 hz4
  rw [show ad0.add 0 = ad0 by simp [Addr.add]] at hz0 hz1 hz2 hz3 hz4
  have e0 : xs.getD 0 z41 = xs[0] := by rw [List.getD_eq_getElem?_getD, List.getElem?_eq_getElem h0, Option.getD_some]
  rw [e0]
  have HT1 := Aside0.mk (show minF xs[0] (xs.take 1) = xs[0] by rw [minF_take h0]; exact if_neg (by show ¬ xs[0].f0 < xs[0].f0; omega))
  obtain ⟨x0, hx0⟩ : ∃ a, xs[0] = a := ⟨_, rfl⟩
  rw [hx0] at hz0 hz1 hz2 hz3 hz4 HT1 ⊢
  have hlen1 : ¬ (xs.length : Int) < 1 := by omega
  have hlen2 : decide ((xs.length : Int) < 1) = false := decide_eq_false hlen1
  have HS := Aside0.mk (show MSt w x0 ((w.alloc (.cells #[.int .i64 0, .int .i64 0, .int .i64 0, .string ⟨#[]⟩, .string ⟨#[]⟩] 41)).alloc (.cells #[.int .i64 x0.f0, .int .i64 x0.f1, .int .i64 x0.f2, .string x0.f3, .string x0.f4] 41)) from
    ⟨below_alloc (below_alloc (Below.refl _ _) _) _, blk_alloc (blk_new _ _) _, by have h := blk_new (w.alloc (.cells #[.int .i64 0, .int .i64 0, .int .i64 0, .string ⟨#[]⟩, .string ⟨#[]⟩] 41)) (.cells #[.int .i64 x0.f0, .int .i64 x0.f1, .int .i64 x0.f2, .string x0.f3, .string x0.f4] 41); simpa using h⟩)
  clear hr hrb e0 hx0
  go_enter Try.func85, Try.ntmps85
  go_wp2
  clear hz0 hz1 hz2 hz3 hz4
  go_loopw [6] (fun i wr => ∃ j : Nat, 1 ≤ j ∧ j ≤ xs.length ∧ i = .int .i64 j ∧ Aside0 (MSt w (minF x0 (xs.take j)) wr)) (fun i _ => xs.length - (intOf i).toNat)
  case atStart => exact ⟨1, Nat.le_refl _, h0, rfl, by rw [HT1.out]; exact HS⟩
  case round =>
    clear HS
    obtain ⟨j, hj1, hj, rfl, HS⟩ := hrel
    by_cases hlt : j < xs.length
    · obtain ⟨ad, ea, hx0, hx1, hx2, hx3, hx4⟩ := at_T41 (Kd.C_below HR.out HS.out.below) (j : Int) (by omega) (by omega)
      cases ea
      rw [rd_at hlt, Int.toNat_natCast] at hx0 hx1 hx2 hx3 hx4
      have HT := Aside0.mk (minF_take (a := x0) hlt)
      obtain ⟨x, hxx⟩ : ∃ x, xs[j] = x := ⟨_, rfl⟩
      rw [hxx] at hx0 hx1 hx2 hx3 hx4 HT
      obtain ⟨m, hm⟩ : ∃ m, minF x0 (xs.take j) = m := ⟨_, rfl⟩
      rw [hm] at HT HS
      obtain ⟨s0, s1, s2, s3, s4⟩ := xcells HS.out.cur
      have HC := Aside0.mk (cmpN_lt x m)
      have HX := Aside0.mk hxx
      clear hxx hm
      obtain ⟨r, hr⟩ : ∃ r, cmpN x m = r := ⟨_, rfl⟩
      have HCM := Aside0.mk (fun W => cmpN.calls x m W)
      rw [hr] at HC
      simp only [hr] at HCM
      clear hr
      go_wp2
      go_region_with (
        refine (HCM.out _).mono ?_
        rintro e w2 ⟨rfl, hb2⟩
        have HS2 := Aside0.mk (HS.out.step (below_then (below_drew (Below.refl _ _)) (Nat.le_refl _) hb2))
        have HB2 := Aside0.mk (below_then (below_drew (Below.refl wr.heap.size wr)) (Nat.le_refl _) hb2)
        clear hb2)
      all_goals
        obtain ⟨ad3, ea, hy0, hy1, hy2, hy3, hy4⟩ := at_T41 (Kd.C_below HR.out HS2.out.below) (j : Int) (by omega) (by omega)
        cases ea
        rw [rd_at hlt, Int.toNat_natCast, HX.out] at hy0 hy1 hy2 hy3 hy4
        obtain ⟨s0, s1, s2, s3, s4⟩ := xcells HS2.out.cur
        have z0 := blk_frozen HS2.out.cur 0
        have z1 := blk_frozen HS2.out.cur 1
        have z2 := blk_frozen HS2.out.cur 2
        have z3 := blk_frozen HS2.out.cur 3
        have z4 := blk_frozen HS2.out.cur 4
        have HC' := HC.out
        by_cases hd : x.f0 < m.f0
        · rw [decide_eq_true hd] at HC'
          have HM := Aside0.mk (show minF x0 (xs.take (j + 1)) = x by rw [HT.out, if_pos hd])
          have HS3 := Aside0.mk (HS2.out.put x)
          clear hd
          rw [HC']
          go_wp2
          go_roundw
          (case rel => exact ⟨j + 1, by omega, by omega, by go_num, by rw [HM.out]; exact HS3⟩)
          (case measure => simp [intOf]; omega)
        · rw [decide_eq_false hd] at HC'
          have HM := Aside0.mk (show minF x0 (xs.take (j + 1)) = m by rw [HT.out, if_neg hd])
          clear hd
          rw [HC']
          go_wp2
          go_roundw
          (case rel => exact ⟨j + 1, by omega, by omega, by go_num, by rw [HM.out]; exact HS2⟩)
          (case measure => simp [intOf]; omega)
    · obtain rfl : j = xs.length := by omega
      rw [List.take_length] at HS
      obtain ⟨m, hm⟩ : ∃ m, minF x0 xs = m := ⟨_, rfl⟩
      have HM := Aside0.mk hm
      rw [hm] at HS
      clear hm
      obtain ⟨s0, s1, s2, s3, s4⟩ := xcells HS.out.cur
      have r0 : wr.cell? ⟨w.heap.size, 0, none⟩ = some (.int .i64 0) := (blk_cell HS.out.res 0).trans rfl
      have r1 : wr.cell? ⟨w.heap.size, 1, none⟩ = some (.int .i64 0) := (blk_cell HS.out.res 1).trans rfl
      have r2 : wr.cell? ⟨w.heap.size, 2, none⟩ = some (.int .i64 0) := (blk_cell HS.out.res 2).trans rfl
      have r3 : wr.cell? ⟨w.heap.size, 3, none⟩ = some (.string ⟨#[]⟩) := (blk_cell HS.out.res 3).trans rfl
      have r4 : wr.cell? ⟨w.heap.size, 4, none⟩ = some (.string ⟨#[]⟩) := (blk_cell HS.out.res 4).trans rfl
      have z0 := blk_frozen HS.out.res 0
      have z1 := blk_frozen HS.out.res 1
      have z2 := blk_frozen HS.out.res 2
      have z3 := blk_frozen HS.out.res 3
      have z4 := blk_frozen HS.out.res 4
      have HRES := Aside0.mk ((blk_set (blk_set (blk_set (blk_set (blk_set HS.out.res 0 (.int .i64 m.f0)) 1 (.int .i64 m.f1)) 2 (.int .i64 m.f2)) 3 (.string m.f3)) 4 (.string m.f4)).trans (show _ = some (.cells #[.int .i64 m.f0, .int .i64 m.f1, .int .i64 m.f2, .string m.f3, .string m.f4] 41 (0, 0)) from rfl))
      have HE := Aside0.mk (((((HS.out.below.setCell (p := ⟨w.heap.size, 0, none⟩) (Nat.le_refl _) (.int .i64 m.f0)).setCell (p := ⟨w.heap.size, 1, none⟩) (Nat.le_refl _) (.int .i64 m.f1)).setCell (p := ⟨w.heap.size, 2, none⟩) (Nat.le_refl _) (.int .i64 m.f2)).setCell (p := ⟨w.heap.size, 3, none⟩) (Nat.le_refl _) (.string m.f3)).setCell (p := ⟨w.heap.size, 4, none⟩) (Nat.le_refl _) (.string m.f4))
      go_wp2
      (try simp only [Exit.inBlock, Exit.then])
      refine bodyPost_ret (results_cell_row (P := Try.prog) rfl _ _ w.heap.size 41 #[.int .i64 m.f0, .int .i64 m.f1, .int .i64 m.f2, .string m.f3, .string m.f4] (0, 0) _ rfl HRES.out Try.underlying41 rfl size41) rfl ?_
      exact ⟨by rw [HM.out]; rfl, HE.out⟩
end Go.Proofs.Ytjhijcehcklipaa.MVe
namespace Go.Proofs.Ytjhijcehcklipaa.MVe
open Go.RowKit Go.Proofs.YtjhijcehcklipaaW.PrintWords Go.Proofs.YtjhijcehcklipaaW.PrintLast Go.Proofs.YtjhijcehcklipaaW.PrintMore
attribute [local go_sem] max2_int min2_int max_two min_two max_three min_three max_four min_four
set_option linter.unusedVariables false
set_option linter.unusedSimpArgs false

def bnd : Nat → Int
  | 1 => 2000
  | 2 => 8000
  | 3 => 32000
  | _ => 128000
def minT (xs : List S41) : S41 := minF (xs.getD 0 z41) xs
/-- The levels from k on, as many as are told: the first that is too great, with its table. -/
def scanR (files : List S41) : Nat → Nat → Option (Int × List S41)
  | 0, _ => none
  | f + 1, k => if sumS (levR (k : Int) files) > bnd k then some ((k : Int), [minT (levR (k : Int) files)]) else scanR files f (k + 1)
def inR (files : List S41) : Option (Int × List S41) := if 4 ≤ (levR 0 files).length then some (0, levR 0 files) else scanR files 3 1
def inD (files : List S41) : Int × List S41 := (inR files).getD (0, [])
theorem bnd_next {j : Nat} (h1 : 1 ≤ j) (h2 : j < 4) : bnd j * 4 = bnd (j + 1) := by
  have : j = 1 ∨ j = 2 ∨ j = 3 := by omega
  rcases this with rfl | rfl | rfl <;> rfl
theorem bnd_in (j : Nat) : 2000 ≤ bnd j ∧ bnd j ≤ 128000 := by
  unfold bnd
  split <;> decide
theorem sum_pos {xs : List S41} (h : 0 < sumS xs) : 0 < xs.length := by
  cases xs with
  | nil => exact absurd h (by decide)
  | cons x r => simp
theorem MinFunc.calls2 (A : Option Addr) (c : Nat) (xs : List S41) (m : S41) (hm : minT xs = m) (w : World) (hr : Kd.C k41 w A xs.length xs) (h0 : 0 < xs.length) :
    Calls Try.prog 85 #[.slice A xs.length c, .func (.func 86) #[] #[]] w fun e w' => e = .returned (.agg #[.int .i64 m.f0, .int .i64 m.f1, .int .i64 m.f2, .string m.f3, .string m.f4]) ∧ Below w.heap.size w w' := by
  subst hm
  exact MinFunc.calls A c xs w hr h0
set_option maxHeartbeats 8000000 in
set_option maxRecDepth 100000 in
theorem inputs.calls (w0 : World) (P : Nat → Prop) (g : Nat) (v : Ver) (w : World) (hI : VInv w0 P g v w) (hg : VGood v) :
    Calls Try.prog 63 #[.pointer (some ⟨g, 0, none⟩)] w fun e w' => ∃ A c, e = .returned (.tuple #[.int .i64 (inD v.files).1, .slice A (inD v.files).2.length c]) ∧ Kd.R k41 41 w' w.heap.size (fun _ => True) (.slice A (inD v.files).2.length c) (inD v.files).2 ∧ Below w.heap.size w w' := by
  have hu41 := Try.underlying41
  have HI := Aside0.mk hI
  have hlen := hg.len
  have HLV := Aside0.mk (fun (n : Int) ys (hh : LevOf n v.files ys) => lev_eq hg hh)
  have HLL := Aside0.mk (fun n : Int => levR_len n v.files)
  have HG := Aside0.mk hg
  clear hI hg
  obtain ⟨ls, hls⟩ : ∃ ls, levR 0 v.files = ls := ⟨_, rfl⟩
  have HLS := Aside0.mk hls
  have hll : ls.length ≤ 200 := by have := HLL.out 0; rw [hls] at this; omega
  by_cases h4 : 4 ≤ ls.length
  · have HIN := Aside0.mk (show inD v.files = (0, ls) by unfold inD inR; rw [hls, if_pos h4]; rfl)
    have e1 : decide ((4 : Int) ≤ (ls.length : Int)) = true := decide_eq_true (by omega)
    have e2 : (4 : Int) ≤ (ls.length : Int) := by omega
    rw [HIN.out]
    dsimp only
    clear hls
    go_enter Try.func63, Try.ntmps63
    go_wp2_with (
      go_at_call 24
      refine (Level.calls w0 P g v 0 _ HI.out (by omega)).mono ?_
      rintro e w2 ⟨vy, ys, rfl, hR2, hb2, hL⟩
      rw [(HLV.out 0 ys hL).trans HLS.out] at hR2
      obtain ⟨A2, c2_, e2_⟩ := Kd.R_slice hR2
      subst e2_
      have HR2 := Aside0.mk hR2
      have HB2 := Aside0.mk hb2
      clear hR2 hb2 hL)
    go_ret2
    exact ⟨A2, c2_, rfl, HR2.out, HB2.out⟩
  · have HIN := Aside0.mk (show inD v.files = (scanR v.files 3 1).getD (0, []) by unfold inD inR; rw [hls, if_neg h4])
    have e1 : decide ((4 : Int) ≤ (ls.length : Int)) = false := decide_eq_false (by omega)
    have e2 : ¬ (4 : Int) ≤ (ls.length : Int) := by omega
    have e3 : (ls.length : Int) < 4 := by omega
    rw [HIN.out]
    clear hls h4
    go_enter Try.func63, Try.ntmps63
    go_wp2_with (
      go_at_call 24
      refine (Level.calls w0 P g v 0 _ HI.out (by omega)).mono ?_
      rintro e w2 ⟨vy, ys, rfl, hR2, hb2, hL⟩
      rw [(HLV.out 0 ys hL).trans HLS.out] at hR2
      obtain ⟨A2, c2_, e2_⟩ := Kd.R_slice hR2
      subst e2_
      have HB2 := Aside0.mk hb2
      clear hR2 hb2 hL)
    clear e1 e2 e3
    go_loopw [5, 6] (fun s i wr => ∃ j : Nat, 1 ≤ j ∧ j ≤ 4 ∧ s = .int .i64 (bnd j) ∧ i = .int .i64 j ∧ Aside0 (scanR v.files 3 1 = scanR v.files (4 - j) j) ∧ Aside0 (Below w.heap.size w wr)) (fun _ i _ => 4 - (intOf i).toNat)
    case atStart => exact ⟨1, by omega, by omega, rfl, rfl, ⟨rfl⟩, HB2⟩
    case round =>
      clear HB2
      obtain ⟨j, hj1, hj, rfl, rfl, HS, HB⟩ := hrel
      by_cases hlt : j < 4
      · have hlt' : (j : Int) < 4 := by omega
        have hb0 := bnd_in j
        have HBN := Aside0.mk (bnd_next hj1 hlt)
        have HS2 := Aside0.mk (show scanR v.files 3 1 = if sumS (levR (j : Int) v.files) > bnd j then some ((j : Int), [minT (levR (j : Int) v.files)]) else scanR v.files (4 - (j + 1)) (j + 1) by
          rw [HS.out, show 4 - j = (4 - (j + 1)) + 1 by omega, scanR])
        obtain ⟨ks, hks⟩ : ∃ ks, levR (j : Int) v.files = ks := ⟨_, rfl⟩
        have HKS := Aside0.mk hks
        have HSZ := Aside0.mk (fun W hW => pSize.calls w0 P g v (j : Int) W hW HG.out)
        simp only [hks] at HS2 HSZ
        have hkl : ks.length ≤ 200 := by have := HLL.out (j : Int); rw [hks] at this; omega
        obtain ⟨b, hb⟩ : ∃ b, bnd j = b := ⟨_, rfl⟩
        rw [hb] at HS2 hb0 HBN ⊢
        obtain ⟨S, hSS⟩ : ∃ S, sumS ks = S := ⟨_, rfl⟩
        have HPOS := Aside0.mk (show 0 < S → 0 < ks.length from fun h => sum_pos (by rw [hSS]; exact h))
        rw [hSS] at HS2
        simp only [hSS] at HSZ
        have hw4 : IntKind.i64.wrap (b * 4) = b * 4 := IntWalk.i64_in _ (by omega)
        clear hks hb hSS
        by_cases hc : b < S
        · have d1 : decide (b < S) = true := decide_eq_true hc
          have hpos := HPOS.out (by omega)
          obtain ⟨m, hm⟩ : ∃ m, minT ks = m := ⟨_, rfl⟩
          have HM := Aside0.mk hm
          have HRES := Aside0.mk (show (scanR v.files 3 1).getD (0, []) = ((j : Int), [m]) by rw [HS2.out, if_pos hc, hm]; rfl)
          rw [hm] at HS2
          clear hm hc
          go_wp2_with (first
            | (go_at_call 33
               refine (HSZ.out _ (HI.out.step HB.out)).mono ?_
               rintro e w3 ⟨rfl, hb3⟩
               have HB3 := Aside0.mk (below_step HB.out hb3)
               clear hb3)
            | (go_at_call 24
               refine (Level.calls w0 P g v (j : Int) _ (HI.out.step HB3.out) (by omega)).mono ?_
               rintro e w4 ⟨vy, ys, rfl, hR4, hb4, hL⟩
               rw [(HLV.out (j : Int) ys hL).trans HKS.out] at hR4
               obtain ⟨A4, c4_, e4_, -, hC4⟩ := Kd.R_reads hR4
               subst e4_
               have HC4 := Aside0.mk hC4
               have HB4 := Aside0.mk (below_step HB3.out hb4)
               clear hR4 hb4 hL hC4)
            | (go_at_call 85
               refine (MinFunc.calls2 A4 c4_ ks m HM.out _ HC4.out hpos).mono ?_
               rintro e w5 ⟨rfl, hb5⟩
               have HB5 := Aside0.mk (below_step HB4.out hb5)
               have HR5 := Aside0.mk (lit41_R w5 w.heap.size HB5.out.size m)
               have HB6 := Aside0.mk (below_alloc HB5.out (.cells #[.int .i64 m.f0, .int .i64 m.f1, .int .i64 m.f2, .string m.f3, .string m.f4] 41))
               clear hb5))
          go_ret2
          rw [HRES.out]
          exact ⟨_, _, rfl, HR5.out, HB6.out⟩
        · have d1 : decide (b < S) = false := decide_eq_false hc
          have HS3 := Aside0.mk (show scanR v.files 3 1 = scanR v.files (4 - (j + 1)) (j + 1) by rw [HS2.out, if_neg hc])
          clear hc
          go_wp2_with (
            go_at_call 33
            refine (HSZ.out _ (HI.out.step HB.out)).mono ?_
            rintro e w3 ⟨rfl, hb3⟩
            have HB3 := Aside0.mk (below_step HB.out hb3)
            clear hb3)
          go_roundw
          case rel => exact ⟨j + 1, by omega, by omega, by rw [HBN.out], by go_num, HS3, HB3⟩
          case measure => simp [intOf]; omega
      · obtain rfl : j = 4 := by omega
        have HRES := Aside0.mk (show (scanR v.files 3 1).getD (0, []) = (0, []) by rw [HS.out]; rfl)
        go_wp2
        go_ret2
        rw [HRES.out]
        exact ⟨none, 0, rfl, Kd.R_nil _ _ _ _ _, HB.out⟩
end Go.Proofs.Ytjhijcehcklipaa.MVe
namespace Go.Proofs.Ytjhijcehcklipaa.MVe
open Go.RowKit Go.Proofs.YtjhijcehcklipaaW.PrintWords Go.Proofs.YtjhijcehcklipaaW.PrintLast Go.Proofs.YtjhijcehcklipaaW.PrintMore
attribute [local go_sem] max2_int min2_int max_two min_two max_three min_three max_four min_four
set_option linter.unusedVariables false
set_option linter.unusedSimpArgs false

theorem results_job {fn : Func} {p u ty : Nat} (h : fn.results = #[.cell p ty, .tmp u]) (tmps : Array Value) (w : World) (g : Nat) (t : TypeId) (cs : Array Value) (fr : Nat × Nat) (fs : Array Field) (x : Value)
    (hp : tmps.getD p undef = .pointer (some ⟨g, 0, none⟩)) (hx : tmps.getD u undef = x) (hg : w.heap[g]? = some (.cells cs t fr))
    (hu : Try.prog.underlying ty = some (.struct fs)) (hi : (Try.prog.info? ty).map (·.size) = some cs.size) :
    (results fn tmps).run Try.prog w = .ok (.tuple #[.agg cs, x]) w := by
  rw [results_cell_tmp h, hp, hx]
  simp [asAddr, run_loadVar_row w g t ty cs fr (.struct fs) hg hu rfl hi, Result.andThen]
structure Jb where
  lv : Nat
  ins : List S41
  bel : List S41
  bot : Bool
  ok : Bool
def botF (files : List S41) (a b : ByteArray) (k : Nat) : Nat → Bool
  | 0 => true
  | c + 1 => botF files a b k c && (overL ((k + c : Nat) : Int) a b files).isEmpty
def belR (files : List S41) : List S41 := overL ((inD files).1 + 1) (loS (inD files).2) (hiS (inD files).2) files
def jobR (files : List S41) : Jb := if (inD files).2.isEmpty = true then ⟨0, [], [], false, false⟩ else
  ⟨(inD files).1.toNat, (inD files).2, belR files, botF files (loS ((inD files).2 ++ belR files)) (hiS ((inD files).2 ++ belR files)) ((inD files).1.toNat + 2) (3 - (inD files).1.toNat), true⟩
theorem scan_in : ∀ (f k : Nat) (files : List S41) (r : Int × List S41), scanR files f k = some r → ∃ L : Nat, r.1 = (L : Int) ∧ L < k + f ∧ r.2.length = 1
  | 0, _, _, _, h => by cases h
  | f + 1, k, files, r, h => by
    rw [scanR] at h
    split at h
    · cases h; exact ⟨k, rfl, by omega, rfl⟩
    · obtain ⟨L, h1, h2, h3⟩ := scan_in f (k + 1) files r h
      exact ⟨L, h1, by omega, h3⟩
theorem inD_in (files : List S41) (hl : files.length ≤ 200) : ∃ L : Nat, (inD files).1 = (L : Int) ∧ L ≤ 3 ∧ (inD files).2.length ≤ 200 := by
  unfold inD inR
  split
  · exact ⟨0, rfl, by omega, Nat.le_trans (levR_len 0 files) hl⟩
  · cases h : scanR files 3 1 with
    | none => exact ⟨0, rfl, by omega, Nat.zero_le _⟩
    | some r =>
      obtain ⟨L, h1, h2, h3⟩ := scan_in 3 1 files r h
      exact ⟨L, h1, by omega, by show r.2.length ≤ 200; omega⟩
theorem overL_len (n : Int) (a b : ByteArray) (files : List S41) : (overL n a b files).length ≤ files.length := by
  unfold overL overR
  split
  · simp
  · exact Nat.le_trans (List.length_filter_le _ _) (levR_len n files)
theorem size52 : (Try.prog.info? 52).map (fun i => i.size) = some 4 := by kernel_rfl
/-- Next's state: the result's block, the job's. -/
structure NSt (w : World) (J : Nat) (L : Nat) (vi vb : Value) (ins bel : List S41) (bot : Bool) (W : World) : Prop where
  below : Below w.heap.size w W
  res : W.heap[w.heap.size]? = some (.cells #[.int .i64 0, .slice none 0 0, .slice none 0 0, .bool false] 52 (0, 0))
  job : W.heap[J]? = some (.cells #[.int .i64 L, vi, vb, .bool bot] 52 (0, 0))
  ord : w.heap.size < J
  ri : Kd.R k41 41 W w.heap.size (fun k => k ≠ w.heap.size ∧ k ≠ J) vi ins
  rb : Kd.R k41 41 W w.heap.size (fun k => k ≠ w.heap.size ∧ k ≠ J) vb bel
theorem NSt.step {w W W2 : World} {J L : Nat} {vi vb : Value} {ins bel : List S41} {bot : Bool} (h : NSt w J L vi vb ins bel bot W) (hb : Below W.heap.size W W2) : NSt w J L vi vb ins bel bot W2 := by
  obtain ⟨h1, h2, h3, h4, h5, h6⟩ := h
  exact ⟨below_then h1 h1.size hb, (hb.block _ (blk_lt h2)).trans h2, (hb.block _ (blk_lt h3)).trans h3, h4, Kd.R_below h5 hb, Kd.R_below h6 hb⟩
theorem NSt.set3 {w W : World} {J L : Nat} {vi vb : Value} {ins bel : List S41} {bot : Bool} (h : NSt w J L vi vb ins bel bot W) (b : Bool) : NSt w J L vi vb ins bel b (W.setCell ⟨J, 3, none⟩ (.bool b)) := by
  obtain ⟨h1, h2, h3, h4, h5, h6⟩ := h
  exact ⟨h1.setCell (p := ⟨J, 3, none⟩) (Nat.le_of_lt h4) _, blk_far (p := ⟨J, 3, none⟩) h2 (Nat.ne_of_lt h4) _, (blk_set h3 3 _).trans rfl, h4, Kd.R_far h5 (p := ⟨J, 3, none⟩) (fun k hk => hk.2) _, Kd.R_far h6 (p := ⟨J, 3, none⟩) (fun k hk => hk.2) _⟩
set_option maxHeartbeats 8000000 in
set_option maxRecDepth 100000 in
theorem Next.calls (w0 : World) (P : Nat → Prop) (g : Nat) (v : Ver) (w : World) (hI : VInv w0 P g v w) (hg : VGood v) :
    Calls Try.prog 27 #[.pointer (some ⟨g, 0, none⟩)] w fun e w' => ∃ vi vb, e = .returned (.tuple #[.agg #[.int .i64 (jobR v.files).lv, vi, vb, .bool (jobR v.files).bot], .bool (jobR v.files).ok]) ∧ Kd.R k41 41 w' w.heap.size (fun _ => True) vi (jobR v.files).ins ∧ Kd.R k41 41 w' w.heap.size (fun _ => True) vb (jobR v.files).bel ∧ Below w.heap.size w w' := by
  have hu41 := Try.underlying41
  have hu52 := Try.underlying52
  have hlen := hg.len
  have HG := Aside0.mk hg
  have HI0 := Aside0.mk hI
  obtain ⟨L, hL1, hL2, hL3⟩ := inD_in v.files hg.len
  have HIN := Aside0.mk (fun W hW => inputs.calls w0 P g v W hW hg)
  have HI1 := Aside0.mk (hI.step (below_alloc (Below.refl w.heap.size w) (.cells #[.int .i64 0, .slice none 0 0, .slice none 0 0, .bool false] 52)))
  have HB0 := Aside0.mk (below_alloc (Below.refl w.heap.size w) (.cells #[.int .i64 0, .slice none 0 0, .slice none 0 0, .bool false] 52))
  have HX0 := Aside0.mk (blk_new w (.cells #[.int .i64 0, .slice none 0 0, .slice none 0 0, .bool false] 52))
  have HJB := Aside0.mk (show jobR v.files = _ from rfl)
  unfold jobR at HJB ⊢
  unfold belR at HJB ⊢
  rw [hL1] at HJB ⊢
  simp only [hL1] at HIN
  obtain ⟨l, hl⟩ : ∃ l, (inD v.files).2 = l := ⟨_, rfl⟩
  rw [hl] at hL3 ⊢
  simp only [hl] at HIN
  clear hI hg HJB hL1 hl
  cases hle : l.isEmpty with
  | true =>
    obtain rfl : l = [] := List.isEmpty_iff.1 hle
    rw [if_pos rfl]
    dsimp only
    clear hle
    go_enter Try.func27, Try.ntmps27
    go_wp2_with (
      go_at_call 63
      refine (HIN.out _ HI1.out).mono ?_
      rintro e w2 ⟨A, c, rfl, hR2, hb2⟩
      have HX2 := Aside0.mk ((hb2.block _ (blk_lt HX0.out)).trans HX0.out)
      have HB2 := Aside0.mk (below_then HB0.out HB0.out.size hb2)
      have r0 : w2.cell? ⟨w.heap.size, 0, none⟩ = some (.int .i64 0) := (blk_cell HX2.out 0).trans rfl
      have r1 : w2.cell? ⟨w.heap.size, 1, none⟩ = some (.slice none 0 0) := (blk_cell HX2.out 1).trans rfl
      have r2 : w2.cell? ⟨w.heap.size, 2, none⟩ = some (.slice none 0 0) := (blk_cell HX2.out 2).trans rfl
      have r3 : w2.cell? ⟨w.heap.size, 3, none⟩ = some (.bool false) := (blk_cell HX2.out 3).trans rfl
      have z0 := blk_frozen HX2.out 0
      have z1 := blk_frozen HX2.out 1
      have z2 := blk_frozen HX2.out 2
      have z3 := blk_frozen HX2.out 3
      have HE := Aside0.mk ((((HB2.out.setCell (p := ⟨w.heap.size, 0, none⟩) (Nat.le_refl _) (.int .i64 0)).setCell (p := ⟨w.heap.size, 1, none⟩) (Nat.le_refl _) (.slice none 0 0)).setCell (p := ⟨w.heap.size, 2, none⟩) (Nat.le_refl _) (.slice none 0 0)).setCell (p := ⟨w.heap.size, 3, none⟩) (Nat.le_refl _) (.bool false))
      have HRES := Aside0.mk ((blk_set (blk_set (blk_set (blk_set HX2.out 0 (.int .i64 0)) 1 (.slice none 0 0)) 2 (.slice none 0 0)) 3 (.bool false)).trans (show _ = some (.cells #[.int .i64 0, .slice none 0 0, .slice none 0 0, .bool false] 52 (0, 0)) from rfl))
      clear hR2 hb2)
    (try simp only [Exit.inBlock, Exit.then])
    refine bodyPost_ret (results_job rfl _ _ w.heap.size 52 #[.int .i64 0, .slice none 0 0, .slice none 0 0, .bool false] (0, 0) _ (.bool false) rfl rfl HRES.out Try.underlying52 size52) rfl ?_
    exact ⟨_, _, rfl, Kd.R_nil _ _ _ _ _, Kd.R_nil _ _ _ _ _, HE.out⟩
  | false =>
    have hpos : 0 < l.length := by
      cases l with
      | nil => cases hle
      | cons x r => simp
    rw [if_neg (by decide)]
    dsimp only
    rw [Int.toNat_natCast]
    have hne0 : ((l.length : Int) == 0) = false := beq_eq_false_iff_ne.2 (by omega)
    have hne1 : ¬ (l.length : Int) = 0 := by omega
    have hw1 : IntKind.i64.wrap ((L : Int) + 1) = (L : Int) + 1 := IntWalk.i64_in _ (by omega)
    have hw2 : IntKind.i64.wrap ((L : Int) + 2) = (L : Int) + 2 := IntWalk.i64_in _ (by omega)
    have HOV := Aside0.mk (fun (k : Int) a b zs (hh : OverOf k a b v.files zs) => over_eq HG.out hh)
    have HBL := Aside0.mk (overL_len ((L : Int) + 1) (loS l) (hiS l) v.files)
    obtain ⟨bl, hbl⟩ : ∃ bl, overL ((L : Int) + 1) (loS l) (hiS l) v.files = bl := ⟨_, rfl⟩
    have HBLE := Aside0.mk hbl
    rw [hbl] at HBL ⊢
    have hbll : bl.length ≤ 200 := by have := HBL.out; omega
    obtain ⟨a, ha⟩ : ∃ a, loS l = a := ⟨_, rfl⟩
    obtain ⟨b, hb⟩ : ∃ b, hiS l = b := ⟨_, rfl⟩
    have HSP := Aside0.mk (fun A c W hC => pSpan.calls A c l W hC hpos)
    simp only [ha, hb] at HSP HBLE
    obtain ⟨N2, hN2⟩ : ∃ n, (l ++ bl).length = n := ⟨_, rfl⟩
    have HSP2 := Aside0.mk (fun (A : Option Addr) (c : Nat) (W : World) (hC : Kd.C k41 W A N2 (l ++ bl)) => show Calls Try.prog 64 #[.slice A N2 c] W fun e w' => e = .returned (.tuple #[.string (loS (l ++ bl)), .string (hiS (l ++ bl))]) ∧ Below W.heap.size W w' from by subst hN2; exact pSpan.calls A c (l ++ bl) W hC (by rw [List.length_append]; omega))
    have HN2 := Aside0.mk hN2
    clear hN2
    obtain ⟨a2, ha2⟩ : ∃ a, loS (l ++ bl) = a := ⟨_, rfl⟩
    obtain ⟨b2, hb2⟩ : ∃ b, hiS (l ++ bl) = b := ⟨_, rfl⟩
    simp only [ha2, hb2] at HSP2
    rw [ha2, hb2]
    clear hle hbl ha hb ha2 hb2
    go_enter Try.func27, Try.ntmps27
    go_upto_region 6 with (first
      | (go_at_call 63
         refine (HIN.out _ HI1.out).mono ?_
         rintro e w2 ⟨A, c, rfl, hR2, hb2⟩
         have HX2 := Aside0.mk ((hb2.block _ (blk_lt HX0.out)).trans HX0.out)
         have HB2 := Aside0.mk (below_then HB0.out HB0.out.size hb2)
         have HR2 := Aside0.mk hR2
         have HC2 := Aside0.mk (Kd.R_reads' hR2).2.2
         have HI2 := Aside0.mk (HI1.out.step hb2)
         clear hR2 hb2)
      | (go_at_call 64
         refine (HSP.out A c _ HC2.out).mono ?_
         rintro e w3 ⟨rfl, hb3⟩
         have HX3 := Aside0.mk ((hb3.block _ (blk_lt HX2.out)).trans HX2.out)
         have HB3 := Aside0.mk (below_then HB2.out HB2.out.size hb3)
         have HR3 := Aside0.mk (Kd.R_below HR2.out hb3)
         have HI3 := Aside0.mk (HI2.out.step hb3)
         clear hb3)
      | (go_at_call 23
         refine (Over.calls w0 P g v ((L : Int) + 1) a b _ HI3.out (by omega)).mono ?_
         rintro e w4 ⟨vo, zs, rfl, hR4, hb4, hO⟩
         rw [(HOV.out _ _ _ zs hO).trans HBLE.out] at hR4
         obtain ⟨A4, c4, e4⟩ := Kd.R_slice hR4
         subst e4
         have HX4 := Aside0.mk ((hb4.block _ (blk_lt HX3.out)).trans HX3.out)
         have HB4 := Aside0.mk (below_then HB3.out HB3.out.size hb4)
         have HR4 := Aside0.mk (Kd.R_below HR3.out hb4)
         have HRB4 := Aside0.mk hR4
         have HI4 := Aside0.mk (HI3.out.step hb4)
         have HS4 := Aside0.mk HB3.out.size
         clear hR4 hb4 hO))
    have HBA := Aside0.mk (below_alloc (Below.refl w4.heap.size w4) (.cells #[.int .i64 L, .slice A l.length c, .slice A4 bl.length c4, .bool true] 52))
    have HN := Aside0.mk (show NSt w w4.heap.size L (.slice A l.length c) (.slice A4 bl.length c4) l bl true (w4.alloc (.cells #[.int .i64 L, .slice A l.length c, .slice A4 bl.length c4, .bool true] 52)) from
      ⟨below_alloc HB4.out _, blk_alloc HX4.out _, blk_new _ _, blk_lt HX4.out,
       Kd.R_below (Kd.R_lower (Kd.R_mono (Kd.R_bound (R_above HR4.out)) (fun k hk => by have h1 := hk.1.2; have h2 := hk.2.2.1; have h3 : w.heap.size + 1 ≤ k := (by simpa using h1); exact ⟨by omega, by omega⟩)) (by simp)) HBA.out,
       Kd.R_below (Kd.R_lower (Kd.R_mono (Kd.R_bound (R_above HRB4.out)) (fun k hk => by have h1 := hk.1.2; have h2 := hk.2.2.1; have h3 := blk_lt HX3.out; exact ⟨by omega, by omega⟩)) HS4.out) HBA.out⟩)
    have HI5 := Aside0.mk (HI4.out.step HBA.out)
    obtain ⟨W, hW⟩ : ∃ W, W = w4.alloc (.cells #[.int .i64 L, .slice A l.length c, .slice A4 bl.length c4, .bool true] 52) := ⟨_, rfl⟩
    rw [← hW] at HN HI5
    rw [← hW]
    obtain ⟨J, hJ⟩ : ∃ J, w4.heap.size = J := ⟨_, rfl⟩
    simp only [hJ] at HN ⊢
    clear hW hJ HBA
    have HCI := Aside0.mk (Kd.R_reads' HN.out.ri).2.2
    have HCB := Aside0.mk (Kd.R_reads' HN.out.rb).2.2
    obtain ⟨adI, hadI⟩ := C_some HCI.out hpos
    have hnilI : A = none → c = 0 := fun e => by rw [hadI] at e; cases e
    have j2 : W.cell? ⟨J, 2, none⟩ = some (.slice A4 bl.length c4) := (blk_cell HN.out.job 2).trans rfl
    have HNIL := Aside0.mk hnilI
    clear hadI hnilI
    go_cut [6, 7] (fun s6 s7 wc => s6 = .string a2 ∧ s7 = .string b2 ∧ Aside0 (NSt w J L (.slice A l.length c) (.slice A4 bl.length c4) l bl true wc))
    case first =>
      refine wp_region_held_drew (S := fun w' => w'.cell? ⟨J, 2, none⟩ = some (.slice A4 bl.length c4)) (by kernel_rfl) j2 (fun hHeld => ?_)
      refine wpAnyH_take (i := 0) (v := ?_) rfl (by kernel_rfl) (by kernel_rfl) (by kernel_rfl) (fun _ _ _ h => h) (Or.inl ⟨by rfl, ?_⟩) (by assumption) ?_
      rotate_left
      · (intro w hSw; (try dsimp only at hSw); go_simp; try with_reducible rfl)
      try simp only [Act.put, List.setIfInBounds_toArray, List.set_cons_zero, List.set_cons_succ]
      refine wpAnyH_take (i := 2) (v := ?_) rfl (by kernel_rfl) (by kernel_rfl) (by kernel_rfl) (fun _ _ _ h => h) (Or.inl ⟨by rfl, ?_⟩) (by assumption) ?_
      rotate_left
      · (intro w hSw; (try dsimp only at hSw); go_simp; try with_reducible rfl)
      try simp only [Act.put, List.setIfInBounds_toArray, List.set_cons_zero, List.set_cons_succ]
      refine wpAnyH_take (i := 3) (v := ?_) rfl (by kernel_rfl) (by kernel_rfl) (by kernel_rfl) (fun _ _ _ h => h) (Or.inl ⟨by rfl, ?_⟩) (by assumption) ?_
      rotate_left
      · (intro w hSw; (try dsimp only at hSw); go_simp; try with_reducible rfl)
      try simp only [Act.put, List.setIfInBounds_toArray, List.set_cons_zero, List.set_cons_succ]
      refine wpAnyH_ready (rs := [1]) (by kernel_rfl) (by simp) ?_
      refine AllReadyH.cons rfl (fun K hK => ?_) AllReadyH.nil
      go_simp
      refine (Clone.calls A c l _ (Kd.C_drew HCI.out) HNIL.out (by omega)).mono ?_
      rintro e w5 ⟨v5, rfl, hR5, hb5⟩
      obtain ⟨A5, c5, e5⟩ := Kd.R_slice hR5
      subst e5
      have HB5 := Aside0.mk (below_then (below_drew (Below.refl W.heap.size W)) (Nat.le_refl _) hb5)
      have HR5 := Aside0.mk hR5
      have HCB5 := Aside0.mk (Kd.C_below HCB.out HB5.out)
      have j5 : w5.cell? ⟨J, 2, none⟩ = some (.slice A4 bl.length c4) := (HB5.out.cell (World.block_lt_of_cell? W _ j2)).trans j2
      clear hR5 hb5
      (try dsimp only)
      refine hK.out _ _ j5 (fun hHeld => ?_)
      clear hK K
      try simp only [Act.put, List.setIfInBounds_toArray, List.set_cons_zero, List.set_cons_succ]
      refine wpAnyH_ready (rs := [4]) (by kernel_rfl) (by simp) ?_
      refine AllReadyH.cons rfl (fun K hK => ?_) AllReadyH.nil
      refine Kd.R_append_rows_step k41 (w0 := W) W.heap.size (by rfl) (.tmp 35) (.tmp 37) 39 41 (.agg #[.int .i64 0, .int .i64 0, .int .i64 0, .string ⟨#[]⟩, .string ⟨#[]⟩]) 56 rfl Try.underlying39 info41 rfl (by decide) (by decide) (.slice A5 l.length c5) l bl A4 bl.length c4 (fun _ => True) (fun _ => False) (by rfl) (by rfl) HR5.out (ReadsRow.imp_ HCB5.out (Below.refl _ _) (fun x cs h => by rw [k41_open h]; exact k41_mkM _ _ _ x)) (fun _ _ h => h) (fun _ h => h.elim) (fun _ _ => trivial) HB5.out HB5.out.size (by omega) ?_
      intro v6 w6 hR6 hb6 hg6 hat6
      obtain ⟨A6, c6, e6, -, hC6⟩ := Kd.R_reads hR6
      rw [HN2.out] at e6 hC6
      subst e6
      have HC6 := Aside0.mk hC6
      have HB6 := Aside0.mk hb6
      have j6 : w6.cell? ⟨J, 2, none⟩ = some (.slice A4 bl.length c4) := (hb6.cell (World.block_lt_of_cell? W _ j2)).trans j2
      clear hR6 hb6 hg6 hat6 hC6
      refine hK.out _ _ j6 (fun hHeld => ?_)
      clear hK K
      try simp only [Act.put, List.setIfInBounds_toArray, List.set_cons_zero, List.set_cons_succ]
      refine wpAnyH_ready (rs := [5]) (by kernel_rfl) (by simp) ?_
      refine AllReadyH.cons rfl (fun K hK => ?_) AllReadyH.nil
      go_simp
      (with_reducible refine (HSP2.out A6 c6 _ HC6.out).mono ?_)
      rintro e w7 ⟨rfl, hb7⟩
      have HB7 := Aside0.mk (below_then HB6.out HB6.out.size hb7)
      have j7 : w7.cell? ⟨J, 2, none⟩ = some (.slice A4 bl.length c4) := (HB7.out.cell (World.block_lt_of_cell? W _ j2)).trans j2
      clear hb7
      (try dsimp only)
      refine hK.out _ _ j7 (fun hHeld => ?_)
      clear hK K
      try simp only [Act.put, List.setIfInBounds_toArray, List.set_cons_zero, List.set_cons_succ]
      refine wpAnyH_take (i := 6) (v := ?_) rfl (by kernel_rfl) (by kernel_rfl) (by kernel_rfl) (fun _ _ _ h => h) (Or.inl ⟨by rfl, ?_⟩) (by assumption) ?_
      rotate_left
      · (intro w hSw; (try dsimp only at hSw); go_simp; try with_reducible rfl)
      try simp only [Act.put, List.setIfInBounds_toArray, List.set_cons_zero, List.set_cons_succ]
      refine wpAnyH_take (i := 7) (v := ?_) rfl (by kernel_rfl) (by kernel_rfl) (by kernel_rfl) (fun _ _ _ h => h) (Or.inl ⟨by rfl, ?_⟩) (by assumption) ?_
      rotate_left
      · (intro w hSw; (try dsimp only at hSw); go_simp; try with_reducible rfl)
      try simp only [Act.put, List.setIfInBounds_toArray, List.set_cons_zero, List.set_cons_succ]
      refine wpAnyH_take (i := 8) (v := ?_) rfl (by kernel_rfl) (by kernel_rfl) (by kernel_rfl) (fun _ _ _ h => h) (Or.inl ⟨by rfl, ?_⟩) (by assumption) ?_
      rotate_left
      · (intro w hSw; (try dsimp only at hSw); go_simp; try with_reducible rfl)
      try simp only [Act.put, List.setIfInBounds_toArray, List.set_cons_zero, List.set_cons_succ]
      refine wpAnyH_ready (rs := [9]) (by kernel_rfl) (by simp) ?_
      refine AllReadyH.cons rfl (fun K hK => ?_) AllReadyH.nil
      go_simp
      refine hK.out _ _ j7 (fun hHeld => ?_)
      clear hK K
      try simp only [Act.put, List.setIfInBounds_toArray, List.set_cons_zero, List.set_cons_succ]
      refine wpAnyH_ready (rs := [10]) (by kernel_rfl) (by simp) ?_
      refine AllReadyH.cons rfl (fun K hK => ?_) AllReadyH.nil
      go_simp
      refine hK.out _ _ j7 (fun hHeld => ?_)
      clear hK K
      try simp only [Act.put, List.setIfInBounds_toArray, List.set_cons_zero, List.set_cons_succ]
      refine wpAnyH_done (by kernel_rfl) ?_ _
      go_wp2
      go_meet
      case rel => exact ⟨rfl, rfl, ⟨HN.out.step HB7.out⟩⟩
    obtain ⟨rfl, rfl, HN7⟩ := hcut
    clear HN j2 HCI HCB HNIL
    go_wp2
    go_loopw [9] (fun i wr => ∃ (q : Nat) (K : Int), q ≤ 3 - L ∧ i = .int .i64 K ∧ Aside0 (K = ((L + 2 + q : Nat) : Int)) ∧ Aside0 (NSt w J L (.slice A l.length c) (.slice A4 bl.length c4) l bl (botF v.files a2 b2 (L + 2) q) wr)) (fun i _ => 5 - (intOf i).toNat)
    case atStart => exact ⟨0, (L : Int) + 2, by omega, rfl, ⟨by omega⟩, HN7⟩
    case round =>
      clear HN7
      obtain ⟨q, K, hq, rfl, HK, HN⟩ := hrel
      have hK0 : 2 ≤ K ∧ K ≤ 5 := by have := HK.out; omega
      have j3 : wr.cell? ⟨J, 3, none⟩ = some (.bool (botF v.files a2 b2 (L + 2) q)) := (blk_cell HN.out.job 3).trans rfl
      have z3 := blk_frozen HN.out.job 3
      have hJlt := blk_lt HN.out.job
      by_cases hlt : K < 5
      · have hw3 : IntKind.i64.wrap (K + 1) = K + 1 := IntWalk.i64_in _ (by omega)
        have HBS := Aside0.mk (show botF v.files a2 b2 (L + 2) (q + 1) = (botF v.files a2 b2 (L + 2) q && (overL K a2 b2 v.files).isEmpty) by rw [botF, ← HK.out])
        obtain ⟨os, hos⟩ : ∃ os, overL K a2 b2 v.files = os := ⟨_, rfl⟩
        have HOS := Aside0.mk hos
        rw [hos] at HBS
        obtain ⟨b9, hb9⟩ : ∃ b, os.isEmpty = b := ⟨_, rfl⟩
        have e9 : ((os.length : Int) == 0) = b9 := by rw [← hb9]; cases os <;> simp <;> omega
        have e10 : (os.length == 0) = b9 := by rw [← hb9]; cases os <;> simp
        rw [hb9] at HBS
        clear hos hb9
        cases hbb : botF v.files a2 b2 (L + 2) q with
        | false =>
          rw [hbb] at j3 HBS
          have HN2 := Aside0.mk (HN.out.set3 false)
          clear hbb
          go_wp2
          go_roundw
          case rel => exact ⟨q + 1, K + 1, by have := HK.out; omega, rfl, ⟨by have := HK.out; omega⟩, ⟨by rw [HBS.out]; exact HN2.out⟩⟩
          case measure => simp [intOf]; omega
        | true =>
          rw [hbb] at j3 HBS
          clear hbb
          go_wp2_with (
            go_at_call 23
            refine (Over.calls w0 P g v K a2 b2 _ (HI0.out.step HN.out.below) (by omega)).mono ?_
            rintro e w8 ⟨vo, zs, rfl, hR8, hb8, hO⟩
            rw [(HOV.out _ _ _ zs hO).trans HOS.out] at hR8
            obtain ⟨A8, c8, e8⟩ := Kd.R_slice hR8
            subst e8
            have HN8 := Aside0.mk (HN.out.step hb8)
            have HN9 := Aside0.mk (HN8.out.set3 b9)
            have j8 : w8.cell? ⟨J, 3, none⟩ = some (.bool (botF v.files a2 b2 (L + 2) q)) := (blk_cell HN8.out.job 3).trans rfl
            have z8 := blk_frozen HN8.out.job 3
            clear hR8 hb8 hO)
          go_roundw
          case rel => exact ⟨q + 1, K + 1, by have := HK.out; omega, rfl, ⟨by have := HK.out; omega⟩, ⟨by rw [HBS.out]; exact HN9.out⟩⟩
          case measure => simp [intOf]; omega
      · obtain rfl : q = 3 - L := by have := HK.out; omega
        obtain ⟨bb, hbb⟩ : ∃ bb, botF v.files a2 b2 (L + 2) (3 - L) = bb := ⟨_, rfl⟩
        rw [hbb] at j3 HN
        have HBB := Aside0.mk hbb
        have j0 : wr.cell? ⟨J, 0, none⟩ = some (.int .i64 L) := (blk_cell HN.out.job 0).trans rfl
        have j1 : wr.cell? ⟨J, 1, none⟩ = some (.slice A l.length c) := (blk_cell HN.out.job 1).trans rfl
        have j2 : wr.cell? ⟨J, 2, none⟩ = some (.slice A4 bl.length c4) := (blk_cell HN.out.job 2).trans rfl
        have r0 : wr.cell? ⟨w.heap.size, 0, none⟩ = some (.int .i64 0) := (blk_cell HN.out.res 0).trans rfl
        have r1 : wr.cell? ⟨w.heap.size, 1, none⟩ = some (.slice none 0 0) := (blk_cell HN.out.res 1).trans rfl
        have r2 : wr.cell? ⟨w.heap.size, 2, none⟩ = some (.slice none 0 0) := (blk_cell HN.out.res 2).trans rfl
        have r3 : wr.cell? ⟨w.heap.size, 3, none⟩ = some (.bool false) := (blk_cell HN.out.res 3).trans rfl
        have y0 := blk_frozen HN.out.res 0
        have y1 := blk_frozen HN.out.res 1
        have y2 := blk_frozen HN.out.res 2
        have y3 := blk_frozen HN.out.res 3
        have HE := Aside0.mk ((((HN.out.below.setCell (p := ⟨w.heap.size, 0, none⟩) (Nat.le_refl _) (.int .i64 L)).setCell (p := ⟨w.heap.size, 1, none⟩) (Nat.le_refl _) (.slice A l.length c)).setCell (p := ⟨w.heap.size, 2, none⟩) (Nat.le_refl _) (.slice A4 bl.length c4)).setCell (p := ⟨w.heap.size, 3, none⟩) (Nat.le_refl _) (.bool bb))
        have HRES := Aside0.mk ((blk_set (blk_set (blk_set (blk_set HN.out.res 0 (.int .i64 L)) 1 (.slice A l.length c)) 2 (.slice A4 bl.length c4)) 3 (.bool bb)).trans (show _ = some (.cells #[.int .i64 L, .slice A l.length c, .slice A4 bl.length c4, .bool bb] 52 (0, 0)) from rfl))
        have hne : ∀ k, (k ≠ w.heap.size ∧ k ≠ J) → k ≠ w.heap.size := fun k hk => hk.1
        have HRI := Aside0.mk (Kd.R_far (Kd.R_far (Kd.R_far (Kd.R_far HN.out.ri (p := ⟨w.heap.size, 0, none⟩) hne (.int .i64 L)) (p := ⟨w.heap.size, 1, none⟩) hne (.slice A l.length c)) (p := ⟨w.heap.size, 2, none⟩) hne (.slice A4 bl.length c4)) (p := ⟨w.heap.size, 3, none⟩) hne (.bool bb))
        have HRB := Aside0.mk (Kd.R_far (Kd.R_far (Kd.R_far (Kd.R_far HN.out.rb (p := ⟨w.heap.size, 0, none⟩) hne (.int .i64 L)) (p := ⟨w.heap.size, 1, none⟩) hne (.slice A l.length c)) (p := ⟨w.heap.size, 2, none⟩) hne (.slice A4 bl.length c4)) (p := ⟨w.heap.size, 3, none⟩) hne (.bool bb))
        clear hne hbb
        go_wp2
        (try simp only [Exit.inBlock, Exit.then])
        refine bodyPost_ret (results_job rfl _ _ w.heap.size 52 #[.int .i64 L, .slice A l.length c, .slice A4 bl.length c4, .bool bb] (0, 0) _ (.bool true) rfl rfl HRES.out Try.underlying52 size52) rfl ?_
        exact ⟨_, _, by rw [HBB.out], Kd.R_mono HRI.out (fun _ _ => trivial), Kd.R_mono HRB.out (fun _ _ => trivial), HE.out⟩
end Go.Proofs.Ytjhijcehcklipaa.MVe
