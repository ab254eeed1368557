/-
  Versions: the order of a level's tables; what the closure tells.
-/
import Derived.Test.YtjhijcehcklipaaZVeW10
import Derived.Test.YtjhijcehcklipaaZSrt
import Derived.Laws.Cover1
namespace Go.Proofs.Ytjhijcehcklipaa.MVe
open Go.RowKit Go.Proofs.YtjhijcehcklipaaW.PrintWords Go.Proofs.YtjhijcehcklipaaW.PrintLast Go.Proofs.YtjhijcehcklipaaW.PrintMore
open Go.Sort (flatK size_flatK get_flatK HoldsK Holds putCells putRow putRowK mapBlock SWO PermIn SortedIn)
attribute [local go_sem] max2_int min2_int max_two min_two max_three min_three max_four min_four
set_option linter.unusedVariables false
set_option linter.unusedSimpArgs false

/-- The order of a level's tables. -/
def cfL (n : Int) (x y : S41) : Int := if n = 0 then (if y.f0 < x.f0 then -1 else if y.f0 > x.f0 then 1 else 0) else Lib.compareBytes x.f3.data.toList y.f3.data.toList
theorem cmpI (a b : Int) : cmp_Compare_int64.f a b = some (if a < b then -1 else if a > b then 1 else 0) := by
  have h : ∀ a, cmp_isNaN_int64.f a = some false := fun a => by unfold cmp_isNaN_int64.f; simp
  unfold cmp_Compare_int64.f
  simp only [h, Option.bind_some, Bool.false_eq_true, if_false]
  split
  · rfl
  · split <;> rfl
theorem cmpS (a b : ByteArray) : strings_Compare.f a b = some (Lib.compareBytes a.data.toList b.data.toList) := rfl
theorem grown2 (W : World) (o1 o2 : Obj) (n : Nat) : ((W.alloc o1).alloc o2).drewN n = Go.Sort.grow (W.drewN n) #[o1, o2] := by
  have e : ((W.alloc o1).alloc o2) = Go.Sort.grow W #[o1, o2] := by rw [Go.Sort.alloc_eq_grow, Go.Sort.alloc_eq_grow, Go.Sort.grow_grow]; rfl
  rw [e]; rfl
set_option maxHeartbeats 1000000 in
set_option maxRecDepth 100000 in
theorem level1.calls (b : Nat) (n : Int) (x y : S41) (W : World) (hb : W.heap[b]? = some (.cells #[.int .i64 n] 3 (0, 0))) :
    Calls Try.prog 60 #[fv x, fv y, .pointer (some ⟨b, 0, none⟩)] W fun e w' => e = .returned (.int .i64 (cfL n x y)) ∧ ∃ q os', w' = Go.Sort.grow (W.drewN q) os' := by
  have hc : W.cell? ⟨b, 0, none⟩ = some (.int .i64 n) := (blk_cell hb 0).trans rfl
  have hlt := World.block_lt_of_cell? W _ hc
  have hu41 := Try.underlying41
  clear hb
  unfold cfL fv
  by_cases hn : n = 0
  · subst hn
    rw [if_pos rfl]
    have M := Aside0.mk (cmpI y.f0 x.f0)
    generalize (if y.f0 < x.f0 then (-1 : Int) else if y.f0 > x.f0 then 1 else 0) = r at M ⊢
    go_enter Try.func60, Try.ntmps60
    go_wp2_with (
      go_at_call 61
      refine (cmp_Compare_int64.calls y.f0 x.f0 r _ M.out).mono ?_
      rintro e w5 ⟨rfl, ⟨nd, rfl⟩⟩)
    go_ret
    exact ⟨rfl, nd, _, grown2 W _ _ nd⟩
  · rw [if_neg hn]
    have M := Aside0.mk (cmpS x.f3 y.f3)
    generalize Lib.compareBytes x.f3.data.toList y.f3.data.toList = r at M ⊢
    go_enter Try.func60, Try.ntmps60
    go_wp2_with (
      go_at_call 62
      refine (strings_Compare.calls x.f3 y.f3 r _ M.out).mono ?_
      rintro e w5 ⟨rfl, ⟨nd, rfl⟩⟩)
    go_ret
    exact ⟨rfl, nd, _, grown2 W _ _ nd⟩
theorem cmpLays60 (b blk size : Nat) (n : Int) (w : World) (hb : w.heap[b]? = some (.cells #[.int .i64 n] 3 (0, 0))) (hne : b ≠ blk) : CmpLays Try.prog 60 #[.pointer (some ⟨b, 0, none⟩)] enc5 5 (cfL n) blk 0 size w :=
  fun m os dk hs x y => level1.calls b n x y _ ((sorted_other dk os (blk_lt hb) hne).trans hb)

theorem cmp_lt : ∀ a b : List UInt8, Lib.compareBytes a b < 0 ↔ a < b
  | [], [] => by simp [Lib.compareBytes]
  | [], _ :: _ => by simp [Lib.compareBytes]
  | _ :: _, [] => by simp [Lib.compareBytes]
  | a :: as1, b :: bs => by
    rw [Lib.compareBytes, List.cons_lt_cons_iff]
    by_cases h1 : a < b
    · simp [h1]
    · rw [if_neg h1]
      by_cases h2 : b < a
      · rw [if_pos h2]
        have : a ≠ b := fun e => by subst e; exact h1 h2
        simp [h1, this]
      · rw [if_neg h2]
        have e : a = b := by
          have h1' := UInt8.not_lt.1 h1
          have h2' := UInt8.not_lt.1 h2
          exact UInt8.le_antisymm h2' h1'
        subst e
        rw [cmp_lt as1 bs]
        simp
theorem ltOf_cfL (n : Int) (x y : S41) : ltOf (cfL n) x y = if n = 0 then decide (y.f0 < x.f0) else decide (x.f3.data.toList < y.f3.data.toList) := by
  unfold ltOf cfL
  split
  · by_cases h1 : y.f0 < x.f0
    · simp [h1]
    · by_cases h2 : x.f0 < y.f0 <;> simp [h1, h2]
  · exact decide_eq_decide.2 (cmp_lt _ _)
theorem swoL (n : Int) : SWO (ltOf (cfL n)) where
  irrefl x := by rw [ltOf_cfL]; split <;> simp
  trans x y z h1 h2 := by
    rw [ltOf_cfL] at *
    split at h1
    · rename_i hn; simp only [hn, if_true] at *; simp at *; omega
    · rename_i hn
      rw [if_neg hn] at *
      exact decide_eq_true (List.lt_trans (of_decide_eq_true h1) (of_decide_eq_true h2))
  ntrans x y z h1 h2 := by
    rw [ltOf_cfL] at *
    split at h1
    · rename_i hn; simp only [hn, if_true] at *; simp at *; omega
    · rename_i hn
      rw [if_neg hn] at *
      have h1' := List.not_lt.1 (of_decide_eq_false h1)
      have h2' := List.not_lt.1 (of_decide_eq_false h2)
      exact decide_eq_false (List.not_lt.2 (List.le_trans h2' h1'))
end Go.Proofs.Ytjhijcehcklipaa.MVe
