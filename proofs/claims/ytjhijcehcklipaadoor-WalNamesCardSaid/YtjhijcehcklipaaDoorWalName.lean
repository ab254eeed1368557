/-
  A log's name: its number in decimal, and '.log' behind it.
-/
import Derived.Test.YtjhijcehcklipaaDoorFmt
import Derived.Lib.ItoaNum
import Derived.Lib.LaidTab
import Derived.Tactics
import Derived.Below
import Derived.WalkKit
namespace Go.Proofs.YtjhijcehcklipaaDoor.WalName
open Go.RowKit
def Tab (w : World) : Prop := Lib.TabIs Tryd.prog w "internal/strconv.uint64pow10" .u64 Lib.pow10Tab
theorem Tab.below {w w' : World} (h : Tab w) (hb : Below w.heap.size w w') : Tab w' := by
  unfold Tab Lib.TabIs World.var? at h ⊢
  obtain ⟨g, hg, h⟩ := Option.bind_eq_some_iff.1 h
  refine Option.bind_eq_some_iff.2 ⟨g, hg, ?_⟩
  have hlt : g < w.heap.size := by
    cases e : w.heap[g]? with
    | none => rw [e] at h; cases h
    | some o => exact (Array.getElem?_eq_some_iff.1 e).1
  rw [hb.block g hlt]; exact h
def dot : ByteArray := ⟨#[46, 108, 111, 103]⟩
def name (a : Int) : Option ByteArray := if 0 ≤ a ∧ a ≤ 1125899906842624 then some (⟨(Lib.decDigits a.toNat).toArray⟩ ++ dot) else none
theorem fmt (n : Int) (h0 : 0 ≤ n) (h1 : n ≤ 1125899906842624) (w : World) (ht : Tab w) :
    Calls Tryd.prog 10 #[.int .i64 n, .int .i64 10] w fun e w' => e = .returned (.string ⟨(Lib.decDigits n.toNat).toArray⟩) ∧ Below w.heap.size w w' := by
  refine (Any.strconv_FormatInt_10 Tryd.lays173 n (by omega) (by omega) w ht).mono ?_
  rintro e w' ⟨rfl, k, os, rfl⟩
  refine ⟨?_, ?_⟩
  · have : ¬ n < 0 := by omega
    simp only [Lib.itoa, if_neg this]
  · refine ⟨rfl, rfl, rfl, ?_, fun b hb => ?_⟩
    · simp [Sort.grow, World.drewN]
    · show (w.heap ++ os)[b]? = _
      rw [Array.getElem?_append_left hb]
theorem digits_le (u : Nat) (h : u ≤ 1125899906842624) : (Lib.decDigits u).length ≤ 16 := by
  rw [Lib.decDigits_length]
  rcases Nat.eq_zero_or_pos (Lib.nDigits u - 1) with q | q
  · omega
  · have hp := Lib.nDigits_pos u
    apply Classical.byContradiction
    intro hc
    have : 10 ^ 16 ≤ u := by
      have key : ∀ (k u : Nat), k + 1 ≤ Lib.nDigits u → k = 0 ∨ 10 ^ k ≤ u := by
        intro k
        induction k with
        | zero => intro u _; exact .inl rfl
        | succ k ih =>
          intro u hu
          by_cases hs : u < 10
          · rw [Lib.nDigits_small hs] at hu; omega
          · rw [Lib.nDigits_big hs] at hu
            rcases ih (u / 10) (by omega) with rfl | h
            · right; simp; omega
            · right; rw [Nat.pow_succ]; omega
      rcases key 16 u (by omega) with h | h
      · omega
      · exact h
    omega
theorem calls (a0 : Int) (r : ByteArray) (w : World) (h : name a0 = some r) (ht : Tab w) :
    Calls Tryd.prog 5 #[.int .i64 a0] w fun e w' => e = .returned (.string r) ∧ Below w.heap.size w w' := by
  unfold name at h
  by_cases c : 0 ≤ a0 ∧ a0 ≤ 1125899906842624
  · rw [if_pos c] at h
    obtain rfl := Option.some.inj h
    clear h
    obtain ⟨c0, c1⟩ := c
    have hl := digits_le a0.toNat (by omega)
    obtain ⟨s, hs⟩ : ∃ s : ByteArray, s = ⟨(Lib.decDigits a0.toNat).toArray⟩ := ⟨_, rfl⟩
    have hsz : s.size ≤ 16 := by rw [hs]; show (Lib.decDigits a0.toNat).toArray.size ≤ 16; simpa using hl
    have F := fmt a0 c0 c1 w ht
    rw [← hs] at F ⊢
    clear hs hl ht
    go_enter Tryd.func5, Tryd.ntmps5
    go_wp2_with (go_at_call 10; refine F.mono ?_; rintro e w' ⟨rfl, hb⟩)
    all_goals first | (exfalso; simp [dot] at *; omega) | (go_ret; exact ⟨rfl, hb⟩)
  · rw [if_neg c] at h; cases h
end Go.Proofs.YtjhijcehcklipaaDoor.WalName
