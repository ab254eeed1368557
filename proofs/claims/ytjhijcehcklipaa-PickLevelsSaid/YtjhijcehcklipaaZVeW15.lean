/-
  Versions: who overlaps a span, walked.
-/
import Derived.Test.YtjhijcehcklipaaZVeW14
namespace Go.Proofs.Ytjhijcehcklipaa.MVe
open Go.RowKit Go.Proofs.YtjhijcehcklipaaW.PrintWords Go.Proofs.YtjhijcehcklipaaW.PrintLast Go.Proofs.YtjhijcehcklipaaW.PrintMore
attribute [local go_sem] max2_int min2_int max_two min_two max_three min_three max_four min_four
set_option linter.unusedVariables false
set_option linter.unusedSimpArgs false

/-- What Over tells: ys is the level's list. -/
def OverOf (n : Int) (sx sy : ByteArray) (files zs : List S41) : Prop := if leS sx sy = true then ∃ ys, LevOf n files ys ∧ zs = ys.filter fun f => meetB f ⟨0, 0, 0, sx, sy⟩ else zs = []
set_option maxHeartbeats 2000000 in
set_option maxRecDepth 100000 in
theorem Over.calls (w0 : World) (P : Nat → Prop) (g : Nat) (v : Ver) (n : Int) (sx sy : ByteArray) (w : World) (hI : VInv w0 P g v w) (hl : v.files.length ≤ 1000000) :
    Calls Try.prog 23 #[.pointer (some ⟨g, 0, none⟩), .int .i64 n, .string sx, .string sy] w fun e w' => ∃ vf zs, e = .returned vf ∧ Kd.R k41 41 w' w.heap.size (fun _ => True) vf zs ∧ Below w.heap.size w w' ∧ OverOf n sx sy v.files zs := by
  have HI := Aside0.mk hI
  have HB := Aside0.mk (below_alloc (below_alloc (Below.refl w.heap.size w) (.cells #[.string sx] 9)) (.cells #[.string sy] 9))
  have HX := Aside0.mk (blk_alloc (blk_new w (.cells #[.string sx] 9)) (.cells #[.string sy] 9))
  have HY := Aside0.mk (show ((w.alloc (.cells #[.string sx] 9)).alloc (.cells #[.string sy] 9)).heap[w.heap.size + 1]? = some (.cells #[.string sy] 9 (0, 0)) by have h := blk_new (w.alloc (.cells #[.string sx] 9)) (.cells #[.string sy] 9); simpa using h)
  clear hI
  cases hle : leS sx sy with
  | false =>
    have h1 := hle
    unfold leS at h1
    have HLE := Aside0.mk hle
    clear hle
    go_enter Try.func23, Try.ntmps23
    go_wp2
    go_ret
    exact ⟨_, [], rfl, Kd.R_nil _ _ _ _ _, HB.out, by unfold OverOf; rw [HLE.out]; rfl⟩
  | true =>
    have h1 := hle
    unfold leS at h1
    have HLE := Aside0.mk hle
    clear hle
    go_enter Try.func23, Try.ntmps23
    go_wp2_with (first
      | (go_at_call 24
         refine (Level.calls w0 P g v n _ (HI.out.step HB.out) hl).mono ?_
         rintro e w1 ⟨vf, ys, rfl, hR, hb, hL⟩
         have HR1 := Aside0.mk hR
         have HB1 := Aside0.mk hb
         have HL1 := Aside0.mk hL
         have HYL := Aside0.mk (show ys.length ≤ 1000000 by rw [hL.1.length_eq]; exact Nat.le_trans (List.length_filter_le _ _) hl)
         clear hR hb hL)
      | (go_at_call 56
         refine (DeleteFunc.calls w.heap.size (w.heap.size + 1) sx sy (fun k => w.heap.size + 2 ≤ k) w vf ys _ ?aR ?aB HYL.out ?aX ?aY (fun k hk => by omega)).mono ?_
         (case aR => exact Kd.R_mono (Kd.R_lower (Kd.R_bound HR1.out) (by simp; omega)) (fun k hk => by have := hk.2.1; simp at this; omega))
         (case aB => exact below_then HB.out HB.out.size HB1.out)
         (case aX => exact (HB1.out.block _ (blk_lt HX.out)).trans HX.out)
         (case aY => exact (HB1.out.block _ (blk_lt HY.out)).trans HY.out)
         rintro e w2 ⟨v', rfl, hR2, hb2⟩
         have HR2 := Aside0.mk hR2
         have HB2 := Aside0.mk hb2
         clear hR2 hb2))
    go_ret
    exact ⟨_, _, rfl, Kd.R_mono HR2.out (fun _ _ => trivial), HB2.out, by unfold OverOf; rw [HLE.out]; exact ⟨ys, HL1.out, rfl⟩⟩
end Go.Proofs.Ytjhijcehcklipaa.MVe
