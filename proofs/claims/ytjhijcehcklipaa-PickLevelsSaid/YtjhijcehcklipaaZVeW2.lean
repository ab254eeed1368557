/-
  Versions: the small functions and the closures.
-/
import Derived.Test.YtjhijcehcklipaaZVeW1
namespace Go.Proofs.Ytjhijcehcklipaa.MVe
open Go.RowKit Go.Proofs.YtjhijcehcklipaaW.PrintWords Go.Proofs.YtjhijcehcklipaaW.PrintLast Go.Proofs.YtjhijcehcklipaaW.PrintMore
attribute [local go_sem] max2_int min2_int max_two min_two max_three min_three max_four min_four
set_option linter.unusedVariables false
set_option linter.unusedSimpArgs false

theorem enters {f : FuncId} {fn : Func} {c : Code} (hf : Try.prog.funcs[f]? = some fn) (hname : (fn.name == "runtime.NumGoroutine") = false) (hb : fn.body = some c) : ∀ args w', (callFunc f args).run Try.prog w' = .ok (.enter f args) w' := by
  intro args w
  have h1 : fn.name ≠ "runtime.NumGoroutine" := by simpa using hname
  simp [callFunc, hf, h1, hb, mark]
theorem enters80 : ∀ args w', (callFunc 80 args).run Try.prog w' = .ok (.enter 80 args) w' := enters Try.func80 (by kernel_rfl) rfl
theorem enters55 : ∀ args w', (callFunc 55 args).run Try.prog w' = .ok (.enter 55 args) w' := enters Try.func55 (by kernel_rfl) rfl
theorem enters57 : ∀ args w', (callFunc 57 args).run Try.prog w' = .ok (.enter 57 args) w' := enters Try.func57 (by kernel_rfl) rfl
theorem enters60 : ∀ args w', (callFunc 60 args).run Try.prog w' = .ok (.enter 60 args) w' := enters Try.func60 (by kernel_rfl) rfl

/-- by's closure: is it the table of this number? -/
theorem by1_tells (b : Nat) (n : Int) (w : World) (hb : w.heap[b]? = some (.cells #[.int .i64 n] 2 (0, 0))) : Tells 80 #[.pointer (some ⟨b, 0, none⟩)] (fun x => x.f0 == n) w := by
  refine ⟨enters80, fun x w' hbel => ?_⟩
  have hc : w'.cell? ⟨b, 0, none⟩ = some (.int .i64 n) := (blk_cell ((hbel.block b (blk_lt hb)).trans hb) 0).trans rfl
  have HB := Aside0.mk (Below.refl w'.heap.size w')
  have hlt := World.block_lt_of_cell? w' _ hc
  clear hb hbel
  show Calls Try.prog 80 #[.agg #[.int .i64 x.f0, .int .i64 x.f1, .int .i64 x.f2, .string x.f3, .string x.f4], .pointer (some ⟨b, 0, none⟩)] w' _
  go_enter Try.func80, Try.ntmps80
  go_wp2
  go_ret
  exact ⟨rfl, below_alloc HB.out _⟩
/-- Apply's closure: is a table's number the next one's, or above? -/
theorem apply1_tells (b g : Nat) (vf : Value) (v : Ver) (w : World) (hb : w.heap[b]? = some (.cells #[.pointer (some ⟨g, 0, none⟩)] 37 (0, 0))) (hg : VBlk w g vf v) : Tells 55 #[.pointer (some ⟨b, 0, none⟩)] (fun x => decide (x.f0 ≥ v.next)) w := by
  refine ⟨enters55, fun x w' hbel => ?_⟩
  have hc : w'.cell? ⟨b, 0, none⟩ = some (.pointer (some ⟨g, 0, none⟩)) := (blk_cell ((hbel.block b (blk_lt hb)).trans hb) 0).trans rfl
  have hn : w'.cell? ⟨g, 1, none⟩ = some (.int .i64 v.next) := (blk_cell ((hbel.block g (blk_lt hg)).trans hg) 1).trans rfl
  have HB := Aside0.mk (Below.refl w'.heap.size w')
  have hlt := World.block_lt_of_cell? w' _ hc
  have hlt2 := World.block_lt_of_cell? w' _ hn
  clear hb hbel hg
  show Calls Try.prog 55 #[.agg #[.int .i64 x.f0, .int .i64 x.f1, .int .i64 x.f2, .string x.f3, .string x.f4], .pointer (some ⟨b, 0, none⟩)] w' _
  go_enter Try.func55, Try.ntmps55
  go_wp2
  go_quiet (fail)
  go_wp2
  go_ret
  exact ⟨rfl, pw_below_drewN (below_alloc HB.out _) _⟩

set_option maxHeartbeats 1000000 in
set_option maxRecDepth 100000 in
theorem by_.calls (A0 : Option Addr) (c0 : Nat) (xs : List S41) (n : Int) (w : World) (hr : Kd.C k41 w A0 xs.length xs) :
    Calls Try.prog 50 #[.slice A0 xs.length c0, .int .i64 n] w fun e w' => e = .returned (.int .i64 (idx (fun x => x.f0 == n) xs)) ∧ Below w.heap.size w w' := by
  have HR := Aside0.mk (Kd.C_below hr (below_alloc (Below.refl w.heap.size w) (.cells #[.int .i64 n] 2 (0, 0))))
  have HB := Aside0.mk (Below.refl w.heap.size w)
  clear hr
  go_enter Try.func50, Try.ntmps50
  go_wp2_with (
    go_at_call 79
    refine (IndexFunc.calls 80 #[.pointer (some ⟨w.heap.size, 0, none⟩)] (fun x => x.f0 == n) A0 c0 xs _ HR.out (by1_tells w.heap.size n _ (blk_new w _))).mono ?_
    rintro e w1 ⟨rfl, hb⟩
    have HB1 := Aside0.mk (below_step (below_alloc HB.out _) hb)
    clear hb)
  go_ret
  exact ⟨rfl, HB1.out⟩

set_option maxHeartbeats 1000000 in
set_option maxRecDepth 100000 in
theorem ContainsFunc.calls (g : Nat) (cs : Array Value) (p : S41 → Bool) (A0 : Option Addr) (c0 : Nat) (xs : List S41) (w : World) (hr : Kd.C k41 w A0 xs.length xs) (ht : Tells g cs p w) :
    Calls Try.prog 54 #[.slice A0 xs.length c0, .func (.func g) #[] cs] w fun e w' => e = .returned (.bool (decide (idx p xs ≥ 0))) ∧ Below w.heap.size w w' := by
  have HR := Aside0.mk hr
  have HT := Aside0.mk ht
  clear hr ht
  go_enter Try.func54, Try.ntmps54
  go_wp2_with (
    go_at_call 79
    refine (IndexFunc.calls g cs p A0 c0 xs _ HR.out HT.out).mono ?_
    rintro e w1 ⟨rfl, hb⟩
    have HB1 := Aside0.mk hb
    clear hb)
  go_ret
  exact ⟨rfl, HB1.out⟩
/-- A version's tables and numbers in memory. -/
structure VInv (w0 : World) (P : Nat → Prop) (g : Nat) (v : Ver) (w : World) : Prop where
  below : Below w0.heap.size w0 w
  base : w0.heap.size ≤ g
  blk : ∃ vf, VBlk w g vf v ∧ Kd.R k41 41 w w0.heap.size P vf v.files
theorem VInv.step {w0 w w1 : World} {P : Nat → Prop} {g : Nat} {v : Ver} (h : VInv w0 P g v w) (hb : Below w.heap.size w w1) : VInv w0 P g v w1 := by
  obtain ⟨h1, h2, vh, h3, h4⟩ := h
  exact ⟨below_then h1 h1.size hb, h2, vh, (hb.block g (blk_lt h3)).trans h3, Kd.R_below h4 hb⟩
theorem VInv.lt {w0 w : World} {P : Nat → Prop} {g : Nat} {v : Ver} (h : VInv w0 P g v w) : g < w.heap.size := by
  obtain ⟨h1, h2, vh, h3, h4⟩ := h
  exact blk_lt h3
set_option maxHeartbeats 1000000 in
set_option maxRecDepth 100000 in
theorem vNew.calls (w0 w : World) (hB : Below w0.heap.size w0 w) :
    Calls Try.prog 21 #[] w fun e w' => ∃ g : Nat, e = .returned (.pointer (some ⟨g, 0, none⟩)) ∧ w.heap.size ≤ g ∧ (∀ P, VInv w0 P g ⟨[], 1, 0, 0⟩ w') ∧ Below w.heap.size w w' := by
  have HB := Aside0.mk hB
  clear hB
  go_enter Try.func21, Try.ntmps21
  go_wp2_with (
    (with_reducible refine gate_dst (N := 2) rfl ?_)
    refine box_event ?hg (N := 2) ?hd (cs := #[.slice none 0 0, .int .i64 1, .int .i64 0, .int .i64 0]) (t := 93) ?hr ?_
    (case hd => rfl)
    (case hg => rfl)
    (case hr => first | (go_simp; done) | (go_simp; rfl))
    intro g hg w1 hbox hb
    have HG := Aside0.mk hg
    have HBOX := Aside0.mk hbox
    have HB1 := Aside0.mk hb
    clear hg hbox hb)
  go_ret
  refine ⟨g, rfl, by rw [HG.out]; exact Nat.le_refl _, fun P => ⟨below_then HB.out HB.out.size HB1.out, by rw [HG.out]; exact HB.out.size, _, HBOX.out, Kd.R_nil _ _ _ _ _⟩, HB1.out⟩
theorem vNext.calls (w0 : World) (P : Nat → Prop) (g : Nat) (v : Ver) (w : World) (hI : VInv w0 P g v w) :
    Calls Try.prog 47 #[.pointer (some ⟨g, 0, none⟩)] w fun e w' => e = .returned (.int .i64 v.next) ∧ w' = w := by
  obtain ⟨hb, hg, vh, hblk, hr⟩ := hI
  obtain ⟨q0, q1, q2, q3⟩ := hblk.cells
  clear hb hg hblk hr
  go_enter Try.func47, Try.ntmps47
  go_wp2
  go_ret
  exact ⟨rfl, rfl⟩
theorem vLog.calls (w0 : World) (P : Nat → Prop) (g : Nat) (v : Ver) (w : World) (hI : VInv w0 P g v w) :
    Calls Try.prog 69 #[.pointer (some ⟨g, 0, none⟩)] w fun e w' => e = .returned (.int .i64 v.log) ∧ w' = w := by
  obtain ⟨hb, hg, vh, hblk, hr⟩ := hI
  obtain ⟨q0, q1, q2, q3⟩ := hblk.cells
  clear hb hg hblk hr
  go_enter Try.func69, Try.ntmps69
  go_wp2
  go_ret
  exact ⟨rfl, rfl⟩
theorem vLast.calls (w0 : World) (P : Nat → Prop) (g : Nat) (v : Ver) (w : World) (hI : VInv w0 P g v w) :
    Calls Try.prog 70 #[.pointer (some ⟨g, 0, none⟩)] w fun e w' => e = .returned (.int .i64 v.last) ∧ w' = w := by
  obtain ⟨hb, hg, vh, hblk, hr⟩ := hI
  obtain ⟨q0, q1, q2, q3⟩ := hblk.cells
  clear hb hg hblk hr
  go_enter Try.func70, Try.ntmps70
  go_wp2
  go_ret
  exact ⟨rfl, rfl⟩
end Go.Proofs.Ytjhijcehcklipaa.MVe
