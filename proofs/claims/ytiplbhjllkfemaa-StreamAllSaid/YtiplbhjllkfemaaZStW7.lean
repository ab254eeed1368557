/-
  The law of bad bytes: walked.
-/
import Derived.Test.YtiplbhjllkfemaaZStP
namespace Go.Proofs.Ytiplbhjllkfemaa.MSt
open Go.RowKit Go.Proofs.YtiplbhjllkfemaaW.PrintWords Go.Proofs.YtiplbhjllkfemaaW.PrintLast Go.Proofs.YtiplbhjllkfemaaW.PrintMore
attribute [local go_sem] max2_int min2_int max_two min_two max_three min_three max_four min_four
open Go.Proofs.Ytiplbhjllkfemaa.Stm (S S0 Fits put_keeps close_keeps over begs)
open Go.Proofs.Ytiplbhjllkfemaa.Utf (valid bnums dec chars isByte)
open Go.Proofs.Ytiplbhjllkfemaa.NChars (canon expand)
open Go.Proofs.Ytiplbhjllkfemaa.NText (cut_f)
open Go.Proofs.Ytiplbhjllkfemaa.StP
set_option linter.unusedVariables false
set_option linter.unusedSimpArgs false

theorem bytesOf_nums (s : ByteArray) : strOfNums (bytesOf s) = s := Utf.str_nums s
theorem put_calls2 {w0 : World} {P : Nat → Prop} {g N : Nat} {s : S} {w : World} (h : Lives w0 P g N s w) (A0 : Option Addr) (c0 n : Nat) (p : List Int) (t : ByteArray) (hn : p.length = n) (hp : Kd.C (Kd.int .u8) w A0 n p) (ht : strOfNums p = t) (hN : N + 40 * n ≤ 800000) :
    Calls Try.prog 17 #[.pointer (some ⟨g, 0, none⟩), .slice A0 n c0] w fun e w' => ∃ v0_ : Value, e = .returned (.tuple #[v0_, .int .i64 (s.put t).2.1]) ∧ Lives w0 P g (N + 40 * n) (s.put t).2.2 w' ∧ Kd.R (Kd.int .u8) 5 w' w0.heap.size P v0_ (s.put t).1 ∧ Kept w w' (fun k => k = g ∨ P k) := by
  subst hn
  exact put_calls h A0 c0 p t hp ht hN
theorem bytes_C (W : World) (s : ByteArray) (hs : s.size ≤ 1000000) : Kd.C (Kd.int .u8) (Lib.bytesWorld W 5 s) (some ⟨W.heap.size, 0, none⟩) s.size (bytesOf s) :=
  Kd.C_of_reads (enc := Value.int .u8) (d := (0 : Int)) (h1 := fun _ => rfl) (bytes_reads W 5 s (by omega))

theorem bytes_Cn (W : World) (s : ByteArray) (n : Nat) (hn : s.size = n) (hs : s.size ≤ 1000000) : Kd.C (Kd.int .u8) (Lib.bytesWorld W 5 s) (some ⟨W.heap.size, 0, none⟩) n (bytesOf s) := by
  subst hn; exact bytes_C W s hs

theorem put_bytes {w0 : World} {P : Nat → Prop} {g N : Nat} {s : S} {w : World} (h : Lives w0 P g N s w) (u : ByteArray) (n c0 : Nat) (hn : u.size = n) (hN : N + 40 * n ≤ 800000) :
    Calls Try.prog 17 #[.pointer (some ⟨g, 0, none⟩), .slice (some ⟨w.heap.size, 0, none⟩) n c0] (Lib.bytesWorld w 5 u) fun e w' => ∃ v0_ : Value, e = .returned (.tuple #[v0_, .int .i64 (s.put u).2.1]) ∧ Lives w0 P g (N + 40 * n) (s.put u).2.2 w' ∧ Kd.R (Kd.int .u8) 5 w' w0.heap.size P v0_ (s.put u).1 ∧ Kept w w' (fun k => k = g ∨ P k) := by
  have hb : Below w.heap.size w (Lib.bytesWorld w 5 u) := bytes_below (Below.refl _ _) (Nat.le_refl _) 5 u
  refine (put_calls2 (h.step hb) (some ⟨w.heap.size, 0, none⟩) c0 n (bytesOf u) u (by rw [bytesOf_length]; exact hn) (bytes_Cn w u n hn (by omega)) (bytesOf_nums u) hN).mono ?_
  rintro e w' ⟨v, h1, h2, h3, h4⟩
  exact ⟨v, h1, h2, h3, Kept.then_ (Kept.of_below hb _) h4 (fun _ h => .inl h)⟩

end Go.Proofs.Ytiplbhjllkfemaa.MSt
