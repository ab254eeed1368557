/-
  utf.Begins comes to 'begs'.
-/
import Derived.Test.YtiplbhjllkfemaaZStm
namespace Go.Proofs.Ytiplbhjllkfemaa.PureSt
open Go.RowKit Go.Proofs.Ytiplbhjllkfemaa.MSt Go.Proofs.YtiplbhjllkfemaaW.PrintWords Go.Proofs.YtiplbhjllkfemaaW.PrintLast Go.Proofs.YtiplbhjllkfemaaW.PrintMore Go.Proofs.Ytiplbhjllkfemaa.Utf
open Go.Proofs.Ytiplbhjllkfemaa.Stm (begs begT lead leastN)

theorem shl6 (x d : Int) (e : Nat) (h0 : 0 ≤ x) (h1 : x < 1000000000) (he : d = e) (h2 : e ≤ 3) : shl .i64 x (wrap64 (6 * wrap64 d)) = x * 64 ^ e := by
  subst he
  have hd : wrap64 (6 * wrap64 (e : Int)) = 6 * (e : Int) := by unfold wrap64; omega
  rw [hd]
  unfold shl
  have : (6 * (e : Int)).toNat = 6 * e := by omega
  rw [this, show IntKind.i64.bits = 64 from rfl, Nat.min_eq_left (by omega), Int.pow_mul, show ((2 : Int) ^ 6) = 64 by decide]
  rcases (show e = 0 ∨ e = 1 ∨ e = 2 ∨ e = 3 by omega) with rfl | rfl | rfl | rfl <;> exact wraps_i64 _ (by omega) (by omega)
theorem bl_more (k : Nat) (s : ByteArray) (n c i b : Int) (h0 : 0 ≤ i) (hs : i < s.size) (hb : bt s i = b) (b0 : 0 ≤ b) (b1 : b < 256) (c0 : 0 ≤ c) (c1 : c < 16777216) (hi2 : i < 10) :
    utf_Begins.l0 (k + 1) s n c i = if tail b then utf_Begins.l0 k s n (c * 64 + (b - 128)) (i + 1) else some false := by
  simp only [utf_Begins.l0]
  rw [if_pos hs, if_pos h0, hb]
  by_cases ht : tail b
  · have ht2 := ht
    unfold tail at ht2
    rw [if_pos ((u8_192 b b0 b1).2 ht), if_pos ht, w64 (x := c * 64) (by omega) (by omega), u8_and63 b b0 b1, w64 (x := b % 64) (by omega) (by omega), i64_or6 _ _ (by omega) (by omega) (by omega) (by omega) (by omega), w64 (x := i + 1) (by omega) (by omega), show b % 64 = b - 128 by omega]
  · rw [if_neg (fun h => ht ((u8_192 b b0 b1).1 h)), if_neg ht]
theorem bl_end (k : Nat) (s : ByteArray) (n c : Int) (d : Nat) (hd : n - (s.size : Int) = d) (h3 : d ≤ 3) (hn : 2 ≤ s.size) (c0 : 0 ≤ c) (c1 : c < 100000) (hm : utf_least.f n = some (leastN n)) :
    utf_Begins.l0 (k + 1) s n c (s.size : Int) = some (decide ((c + 1) * 64 ^ d - 1 ≥ leastN n) && decide (c * 64 ^ d ≤ 1114111) && (decide (c * 64 ^ d < 55296) || decide ((c + 1) * 64 ^ d - 1 > 57343))) := by
  simp only [utf_Begins.l0]
  have e1 : wrap64 (n - (s.size : Int)) = (d : Int) := by rw [hd]; exact w64 (by omega) (by omega)
  have s1 := shl6 c (n - (s.size : Int)) d c0 (by omega) hd h3
  have s2 := shl6 (c + 1) (n - (s.size : Int)) d (by omega) (by omega) hd h3
  have e2 : wrap64 (6 * wrap64 (n - (s.size : Int))) = 6 * (d : Int) := by rw [e1]; exact w64 (by omega) (by omega)
  have p : (1 : Int) ≤ 64 ^ d ∧ (64 : Int) ^ d ≤ 262144 := by
    rcases (show d = 0 ∨ d = 1 ∨ d = 2 ∨ d = 3 by omega) with rfl | rfl | rfl | rfl <;> decide
  rw [if_neg (by omega), if_neg (by omega), if_pos (by rw [e2]; omega), hm, Option.bind_some, w64 (x := c + 1) (by omega) (by omega), s1, s2]
  have q0 : 0 ≤ (c + 1) * 64 ^ d := Int.mul_nonneg (by omega) (by omega)
  have q1 : (c + 1) * 64 ^ d ≤ 100000 * 262144 := Int.mul_le_mul (by omega) p.2 (by omega) (by omega)
  rw [w64 (x := (c + 1) * 64 ^ d - 1) (by omega) (by omega)]
  generalize (c + 1) * 64 ^ d - 1 = H
  generalize c * 64 ^ d = L
  generalize leastN n = m
  by_cases g1 : H ≥ m <;> by_cases g2 : L ≤ 1114111 <;> by_cases g3 : L < 55296 <;> simp [g1, g2, g3]
theorem begins_f (k : Nat) (s : ByteArray) : utf_Begins.f (k + 10) s = some (begs (bnums s)) := by
  unfold utf_Begins.f
  by_cases h0 : s.toList = ([] : List UInt8)
  · rw [if_pos h0, bnums_nil h0]; rfl
  · rw [if_neg h0]
    have hsz := bnums_length s
    have hbt := bt_nums s
    have hby := bnums_byte s
    have hne := bnums_ne h0
    obtain ⟨a, t, hat⟩ : ∃ a t, bnums s = a :: t := by
      cases hn : bnums s with
      | nil => exact absurd hn hne
      | cons a t => exact ⟨a, t, rfl⟩
    rw [hat] at hsz hbt hby
    rw [hat]
    have ha := hby a (by simp)
    have b0 : bt s 0 = a := by rw [hbt]; rfl
    simp only [List.length_cons] at hsz
    have hf : utf_form.f (k + 10) a = some (lead a) := by
      rw [form_f (k + 8) a ha.1 ha.2]
      unfold lead
      by_cases c1 : a < 128
      · simp [c1]
      · by_cases c2 : a < 194
        · simp [c1, c2]
        · by_cases c3 : a < 224
          · simp [c1, c2, c3]; omega
          · by_cases c4 : a < 240
            · simp [c1, c2, c3, c4]; omega
            · by_cases c5 : a < 245
              · simp [c1, c2, c3, c4, c5]; omega
              · simp [c1, c2, c3, c4, c5]
    have hlr : (lead a).1 = 0 ∨ (1 ≤ (lead a).1 ∧ (lead a).1 ≤ 4) := by unfold lead; (repeat' split) <;> simp
    have hl2 : 0 ≤ (lead a).2 ∧ (lead a).2 < 128 := by
      unfold lead
      split
      · exact ⟨ha.1, by assumption⟩
      · split
        · exact ⟨by decide, by decide⟩
        · split
          · constructor <;> (show _; simp only; omega)
          · split
            · constructor <;> (show _; simp only; omega)
            · split
              · constructor <;> (show _; simp only; omega)
              · exact ⟨by decide, by decide⟩
    have hl16 : 3 ≤ (lead a).1 → (lead a).2 < 16 := by
      unfold lead
      split
      · intro h; simp at h
      · split
        · intro h; simp at h
        · split
          · intro h; simp at h
          · split
            · intro _; simp only; omega
            · split
              · intro _; simp only; omega
              · intro h; simp at h
    have hm : utf_least.f (lead a).1 = some (leastN (lead a).1) := by
      unfold utf_least.f leastN
      (repeat' split) <;> first | rfl | (exfalso; omega)
    rw [if_pos (by omega), b0, hf, Option.bind_some]
    generalize hn : (lead a).1 = n at hlr hl16 hm
    generalize hc : (lead a).2 = c at hl2 hl16
    simp only [begs, hn, hc]
    by_cases z : n = 0
    · simp only [z, if_true, utf_Begins.j0]
    · rw [if_neg z, if_neg z]
      by_cases z2 : ((t.length : Nat) : Int) + 1 ≥ n
      · rw [if_pos z2, decide_eq_true (by omega)]
        simp only [utf_Begins.j0, if_true]
      · rw [if_neg z2, decide_eq_false (by omega)]
        simp only [utf_Begins.j0]
        rw [if_neg (by decide)]
        match t with
        | [] =>
          simp only [List.length_nil] at hsz
          simp only [begT, if_true, utf_Begins.l0]
          rw [if_neg (by omega), if_pos (by omega)]
        | [b] =>
          simp only [List.length_cons, List.length_nil] at hsz z2
          have hb := hby b (by simp)
          rw [bl_more (k + 8) s n c 1 b (by omega) (by omega) (by rw [hbt]; rfl) hb.1 hb.2 hl2.1 (by omega) (by omega)]
          simp only [begT]
          by_cases t1 : tail b
          · rw [if_pos t1, if_pos t1]
            unfold tail at t1
            have := hl16 (by omega)
            rw [show (1 : Int) + 1 = (s.size : Int) by omega, bl_end (k + 7) s n _ (n.toNat - 2) (by omega) (by omega) (by omega) (by omega) (by omega) hm]
            simp only [List.length_cons, List.length_nil, if_false, List.cons_ne_nil]
          · rw [if_neg t1, if_neg t1]
        | [b, d] =>
          simp only [List.length_cons, List.length_nil] at hsz z2
          have hb := hby b (by simp)
          have hd := hby d (by simp)
          have := hl16 (by omega)
          rw [bl_more (k + 8) s n c 1 b (by omega) (by omega) (by rw [hbt]; rfl) hb.1 hb.2 hl2.1 (by omega) (by omega)]
          simp only [begT]
          by_cases t1 : tail b
          · rw [if_pos t1, if_pos t1]
            unfold tail at t1
            rw [bl_more (k + 7) s n _ (1 + 1) d (by omega) (by omega) (by rw [hbt]; rfl) hd.1 hd.2 (by omega) (by omega) (by omega)]
            by_cases t2 : tail d
            · rw [if_pos t2, if_pos t2]
              unfold tail at t2
              have hc8 : c < 8 := by
                have h4 : n = 4 := by omega
                rw [← hc]; rw [← hn] at h4
                unfold lead at h4 ⊢
                split at h4
                · simp at h4
                · split at h4
                  · simp at h4
                  · split at h4
                    · simp at h4
                    · split at h4
                      · simp at h4
                      · split at h4
                        · simp only [*, if_true, if_false]; omega
                        · simp at h4
              rw [show (1 : Int) + 1 + 1 = (s.size : Int) by omega, bl_end (k + 6) s n _ (n.toNat - 3) (by omega) (by omega) (by omega) (by omega) (by omega) hm]
              simp only [List.length_cons, List.length_nil, if_false, List.cons_ne_nil]
            · rw [if_neg t2, if_neg t2]
          · rw [if_neg t1, if_neg t1]
        | b :: d :: f :: t =>
          simp only [List.length_cons] at z2
          omega
theorem begins_any (s : ByteArray) : ∃ k, utf_Begins.f k s = some (begs (bnums s)) := ⟨10, begins_f 0 s⟩
theorem first_any (s : ByteArray) : ∃ k, utf_First.f k s = some (dec (bnums s)) := ⟨10, first_f 0 s⟩
end Go.Proofs.Ytiplbhjllkfemaa.PureSt
