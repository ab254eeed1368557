/-
  A stream lives on from call to call; the law's begin.
-/
import Derived.Test.YtiplbhjllkfemaaZStW4
namespace Go.Proofs.Ytiplbhjllkfemaa.MSt
open Go.RowKit Go.Proofs.YtiplbhjllkfemaaW.PrintWords Go.Proofs.YtiplbhjllkfemaaW.PrintLast Go.Proofs.YtiplbhjllkfemaaW.PrintMore
attribute [local go_sem] max2_int min2_int max_two min_two max_three min_three max_four min_four
open Go.Proofs.Ytiplbhjllkfemaa.Stm (S S0 Fits put_keeps close_keeps)
open Go.Proofs.Ytiplbhjllkfemaa.Utf (valid bnums)
set_option linter.unusedVariables false
set_option linter.unusedSimpArgs false

structure Lives (w0 : World) (P : Nat → Prop) (g N : Nat) (s : S) (w : World) : Prop where
  inv : SInv w0 P g s w
  ng : ¬ P g
  fr : ∀ k, w.heap.size ≤ k → P k
  fits : Fits N s
theorem Lives.step {w0 w w1 : World} {P : Nat → Prop} {g N : Nat} {s : S} (h : Lives w0 P g N s w) (hb : Below w.heap.size w w1) : Lives w0 P g N s w1 := ⟨h.inv.step hb, h.ng, fun k hk => h.fr k (Nat.le_trans hb.size hk), h.fits⟩
/-- From here on all that is there already is kept, but for the stream's own. -/
theorem Lives.anew {w0 w : World} {P : Nat → Prop} {g N : Nat} {s : S} (h : Lives w0 P g N s w) : ∃ P', Lives w0 P' g N s w ∧ ∀ {d : Kd Int} {e : Nat} {base : Nat} {ok : Nat → Prop} {v : Value} {xs : List Int}, d.E = [] → e ≠ 3 → Kd.R d e w base ok v xs → Kd.R d e w base (fun k => ¬ (k = g ∨ P' k)) v xs ∨ e = 66 := by
  obtain ⟨⟨h1, h2, vh, h3, h4⟩, ng, fr, ft⟩ := h
  refine ⟨fun k => some k = vh.ownBlock ∨ w.heap.size ≤ k, ⟨⟨h1, h2, vh, h3, Kd.R_mono (Kd.R_tight rfl h4) (fun k hk => .inl hk)⟩, ?_, fun k hk => .inr hk, ft⟩, ?_⟩
  · rintro (q | q)
    · exact Kd.R_ne h4 h3 (by decide) q
    · have := blk_lt h3; omega
  · intro d e base ok v xs hE he hr
    by_cases h66 : e = 66
    · exact .inr h66
    · refine .inl (Kd.R_mono (Kd.R_bound (Kd.R_tight hE hr)) (fun k hk => ?_))
      obtain ⟨k1, k2, k3, q, hq, cells, hc⟩ := hk
      rw [hE] at hq
      obtain rfl : q = e := by simpa using hq
      rintro (rfl | q1 | q1)
      · have hc' : w.heap[k]? = some (.cells #[.string s.rest, vh, .int .i64 s.marks, .int .i64 s.err, .bool s.closed] 66 (0, 0)) := h3
        rw [hc] at hc'
        injection hc' with hc'
        injection hc' with _ h5
        exact h66 h5
      · obtain ⟨cells2, hc2⟩ := Kd.R_typed h4 k q1.symm
        rw [hc] at hc2
        injection hc2 with hc2
        injection hc2 with _ h5
        exact he h5
      · omega
theorem strNums_size (p : List Int) : (strOfNums p).size = p.length := by
  have : (strOfNums p).data.toList.length = p.length := by rw [strOfNums_data, List.length_map]
  rw [← this, Array.length_toList]; rfl
theorem put_calls {w0 : World} {P : Nat → Prop} {g N : Nat} {s : S} {w : World} (h : Lives w0 P g N s w) (A0 : Option Addr) (c0 : Nat) (p : List Int) (t : ByteArray) (hp : Kd.C (Kd.int .u8) w A0 p.length p) (ht : strOfNums p = t) (hN : N + 40 * p.length ≤ 800000) :
    Calls Try.prog 17 #[.pointer (some ⟨g, 0, none⟩), .slice A0 p.length c0] w fun e w' => ∃ v0_ : Value, e = .returned (.tuple #[v0_, .int .i64 (s.put t).2.1]) ∧ Lives w0 P g (N + 40 * p.length) (s.put t).2.2 w' ∧ Kd.R (Kd.int .u8) 5 w' w0.heap.size P v0_ (s.put t).1 ∧ Kept w w' (fun k => k = g ∨ P k) := by
  have hs : t.size = p.length := by rw [← ht]; exact strNums_size p
  have hf := h.fits.size
  refine (Write.calls w0 P g s A0 c0 p w hp h.inv h.ng h.fr h.fits.val h.fits.m0 h.fits.m1 (by omega) t ht hs).mono ?_
  rintro e w' ⟨v, rfl, h1, h2, h3⟩
  have := (put_keeps h.fits t).1
  rw [hs] at this
  exact ⟨v, rfl, ⟨h1, h.ng, fun k hk => h.fr k (Nat.le_trans h3.1 hk), this⟩, h2, h3⟩
theorem close_calls {w0 : World} {P : Nat → Prop} {g N : Nat} {s : S} {w : World} (h : Lives w0 P g N s w) (hN : N ≤ 1000000) :
    Calls Try.prog 19 #[.pointer (some ⟨g, 0, none⟩)] w fun e w' => ∃ v0_ : Value, e = .returned (.tuple #[v0_, .int .i64 s.close.2.1]) ∧ Lives w0 P g N s.close.2.2 w' ∧ Kd.R (Kd.int .u8) 5 w' w0.heap.size (fun k => w.heap.size ≤ k) v0_ s.close.1 ∧ Kept w w' (fun k => k = g) := by
  have hf := h.fits.size
  refine (Close.calls w0 P g s w h.inv h.ng h.fr h.fits.val (by omega)).mono ?_
  rintro e w' ⟨v, rfl, h1, h2, h3⟩
  exact ⟨v, rfl, ⟨h1, h.ng, fun k hk => h.fr k (Nat.le_trans h3.1 hk), (close_keeps h.fits).1⟩, h2, h3⟩

set_option maxRecDepth 100000 in
theorem b1 : S0.put ⟨#[120, 97]⟩ = ([120], 0, ⟨⟨#[]⟩, [97], 0, 0, false⟩) := by kernel_rfl
set_option maxRecDepth 100000 in
theorem b2 : (⟨⟨#[]⟩, [97], 0, 0, false⟩ : S).put ⟨#[204, 129]⟩ = ([], 0, ⟨⟨#[]⟩, [97, 769], 1, 0, false⟩) := by kernel_rfl
set_option maxRecDepth 100000 in
theorem b3 : (⟨⟨#[]⟩, [97, 769], 1, 0, false⟩ : S).close = ([97, 204, 129], 0, ⟨⟨#[]⟩, [], 1, 0, true⟩) := by kernel_rfl
theorem b4 : (⟨⟨#[]⟩, [], 1, 0, true⟩ : S).put ⟨#[]⟩ = ([], 11, ⟨⟨#[]⟩, [], 1, 0, true⟩) := rfl
end Go.Proofs.Ytiplbhjllkfemaa.MSt
