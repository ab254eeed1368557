/-
  Versions: a copy; who meets whom.
-/
import Derived.Test.YtjhijcehcklipaaZVeW2
import Derived.Test.YtjhijcehcklipaaZMVey1
import Derived.Lib.LazyBuf
import Derived.Laws.Cover1
namespace Go.Proofs.Ytjhijcehcklipaa.MVe
open Go.RowKit Go.Proofs.YtjhijcehcklipaaW.PrintWords Go.Proofs.YtjhijcehcklipaaW.PrintLast Go.Proofs.YtjhijcehcklipaaW.PrintMore
attribute [local go_sem] max2_int min2_int max_two min_two max_three min_three max_four min_four
set_option linter.unusedVariables false
set_option linter.unusedSimpArgs false

theorem info41 : (Try.prog.info? 41).map (fun i => (i.zero, i.size, i.bytes)) = some (some (.agg #[.int .i64 0, .int .i64 0, .int .i64 0, .string ⟨#[]⟩, .string ⟨#[]⟩]), 5, 56) := by kernel_rfl

set_option maxHeartbeats 1000000 in
set_option maxRecDepth 100000 in
theorem Clone.calls (A0 : Option Addr) (c0 : Nat) (xs : List S41) (w : World) (hr : Kd.C k41 w A0 xs.length xs) (hs : A0 = none → c0 = 0) (hl : xs.length ≤ 1000000) :
    Calls Try.prog 65 #[.slice A0 xs.length c0] w fun e w' => ∃ v0_ : Value, e = .returned v0_ ∧ Kd.R k41 41 w' w.heap.size (fun _ => True) v0_ xs ∧ Below w.heap.size w w' := by
  have hu41 := Try.underlying41
  cases A0 with
  | none =>
    have hx : xs = [] := by
      cases xs with
      | nil => rfl
      | cons x xs =>
        exfalso
        obtain ⟨ad, ea, _⟩ := at_T41 hr 0 (by omega) (by rw [List.length_cons]; omega)
        cases ea
    obtain rfl := hs rfl
    subst hx
    have HB := Aside0.mk (Below.refl w.heap.size w)
    clear hr hs hl
    have hn := fun W => Go.run_eql_slice_nil (P := Try.prog) W 39 41 none 0 0 Try.underlying39
    show Calls Try.prog 65 #[.slice none 0 0] w _
    go_enter Try.func65, Try.ntmps65
    go_wp2
    go_ret
    exact ⟨_, rfl, Kd.R_nil _ _ _ _ _, HB.out⟩
  | some ad =>
    have HR := Aside0.mk hr
    have HB := Aside0.mk (Below.refl w.heap.size w)
    have hn := fun W => Go.run_eql_slice_nil (P := Try.prog) W 39 41 (some ad) xs.length c0 Try.underlying39
    clear hr hs
    go_enter Try.func65, Try.ntmps65
    go_wp2_with (first
      | ((with_reducible refine gate_dst (N := 5) rfl ?_)
         refine Kd.R_lit k41 (w0 := w) w.heap.size 41 ?hg (N := 5) ?hd (xs := []) (inner := []) (ok := fun _ => True) (okp := fun _ => False) ?hr ?hp (fun _ hk => hk.elim) trivial ?aB ?aS (by simp) ?_
         (case hd => rfl)
         (case hg => rfl)
         (case hr => first | (go_simp; done) | (go_simp; rfl))
         (case hp => exact Reps.none _ _)
         (case aB => exact HB.out)
         (case aS => exact Nat.le_refl _)
         intro v4 w4 ho hb hg hat
         obtain ⟨A4, c4, e4⟩ := Kd.R_slice ho
         have e4' : v4 = .slice A4 0 c4 := e4
         subst e4'
         have HB4 := Aside0.mk hb
         have HO4 := Aside0.mk ho
         have HR4 := Aside0.mk (Kd.C_below HR.out hb)
         clear ho hb hg hat e4)
      | (at_builtin
         refine Kd.R_append_rows k41 (w0 := w) w.heap.size rfl (.tmp 5) (.tmp 6) 39 41 (.agg #[.int .i64 0, .int .i64 0, .int .i64 0, .string ⟨#[]⟩, .string ⟨#[]⟩]) 56 rfl Try.underlying39 info41 rfl (by decide) (by omega) (.slice A4 0 c4) [] xs (some ad) xs.length c0 (fun _ => True) (fun _ => False) rfl rfl ?aO ?aR (fun _ _ h => h) (fun _ h => h.elim) (fun _ _ => trivial) ?aB ?aS ?aL ?_
         (case aR => exact ReadsRow.imp_ HR4.out (Below.refl _ _) (fun x cs h => by rw [k41_open h]; exact k41_mkM _ _ _ x))
         (case aO => exact HO4.out)
         (case aB => exact HB4.out)
         (case aS => exact HB4.out.size)
         (case aL => simp; omega)
         intro v5 w5 ho hb hg hat
         have HB5 := Aside0.mk hb
         have HO5 := Aside0.mk ho
         clear ho hb hg hat))
    go_ret
    exact ⟨_, rfl, HO5.out, HB5.out⟩
/-- The greater, the lesser of two texts; may one stand ahead of the other? -/
def maxS (x y : ByteArray) : ByteArray := if Op.bytesLess x.toList y.toList = true then y else x
def leS (x y : ByteArray) : Bool := Op.bytesLess x.toList y.toList || x.toList == y.toList
def minS (x y : ByteArray) : ByteArray := if leS x y = true then x else y
theorem max2_str (x y : ByteArray) (w : World) : (Builtin.max2 (.string x) (.string y)).run Try.prog w = .ok (.string (maxS x y)) w := by
  unfold maxS
  simp [Builtin.max2, Op.stringOp, asBool]
  split <;> simp_all
theorem min2_str (x y : ByteArray) (w : World) : (Builtin.min2 (.string x) (.string y)).run Try.prog w = .ok (.string (minS x y)) w := by
  unfold minS leS
  simp [Builtin.min2, Op.stringOp, asBool]
/-- Have two tables a text in common? -/
def meetB (a b : S41) : Bool := leS (maxS a.f3 b.f3) (minS a.f4 b.f4)
set_option maxHeartbeats 1000000 in
set_option maxRecDepth 100000 in
theorem meet.calls (a b : S41) (w : World) : Calls Try.prog 58 #[fv a, fv b] w fun e w' => e = .returned (.bool (meetB a b)) ∧ Below w.heap.size w w' := by
  have hu41 := Try.underlying41
  have HB := Aside0.mk (Below.refl w.heap.size w)
  have h1 := fun W => max2_str a.f3 b.f3 W
  have h2 := fun W => min2_str a.f4 b.f4 W
  unfold meetB
  generalize maxS a.f3 b.f3 = x at h1
  generalize minS a.f4 b.f4 = y at h2
  unfold fv leS
  go_enter Try.func58, Try.ntmps58
  go_wp2
  go_ret
  exact ⟨rfl, below_alloc (below_alloc HB.out _) _⟩
/-- Over's closure: has a table no text in common with a span? -/
theorem over1_tells (b c : Nat) (x y : ByteArray) (w : World) (hb : w.heap[b]? = some (.cells #[.string x] 9 (0, 0))) (hc : w.heap[c]? = some (.cells #[.string y] 9 (0, 0))) :
    Tells 57 #[.pointer (some ⟨b, 0, none⟩), .pointer (some ⟨c, 0, none⟩)] (fun f => !meetB f ⟨0, 0, 0, x, y⟩) w := by
  refine ⟨enters57, fun f w' hbel => ?_⟩
  have h1 : w'.cell? ⟨b, 0, none⟩ = some (.string x) := (blk_cell ((hbel.block b (blk_lt hb)).trans hb) 0).trans rfl
  have h2 : w'.cell? ⟨c, 0, none⟩ = some (.string y) := (blk_cell ((hbel.block c (blk_lt hc)).trans hc) 0).trans rfl
  have HB := Aside0.mk (Below.refl w'.heap.size w')
  have hlt := World.block_lt_of_cell? w' _ h1
  have hlt2 := World.block_lt_of_cell? w' _ h2
  have hu41 := Try.underlying41
  clear hb hc hbel
  show Calls Try.prog 57 #[.agg #[.int .i64 f.f0, .int .i64 f.f1, .int .i64 f.f2, .string f.f3, .string f.f4], .pointer (some ⟨b, 0, none⟩), .pointer (some ⟨c, 0, none⟩)] w' _
  go_enter Try.func57, Try.ntmps57
  go_wp2_with (
    go_at_call 58
    refine (meet.calls f ⟨0, 0, 0, x, y⟩ _).mono ?_
    rintro e w1 ⟨rfl, hb⟩
    have HB1 := Aside0.mk (below_step (below_alloc HB.out _) hb)
    clear hb)
  go_ret
  exact ⟨rfl, HB1.out⟩
/-- May two tables not stand together? -/
def hit (a b : S41) : Bool := decide (a.f1 > 0) && (a.f1 == b.f1) && meetB a b
end Go.Proofs.Ytjhijcehcklipaa.MVe
