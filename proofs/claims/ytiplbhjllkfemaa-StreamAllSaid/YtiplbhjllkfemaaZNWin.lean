/-
  What the program's readers of the constants (ucd.hex, ucd.line, ucd.decimal, and Map's own loop) tell at one line of a long text they tell at that line alone.
-/
import Derived.Test.YtiplbhjllkfemaaZMStx13
import Derived.Test.YtiplbhjllkfemaaZNOrd
namespace Go.Proofs.Ytiplbhjllkfemaa.NWin
open Go.RowKit Go.Proofs.YtiplbhjllkfemaaW.PrintWords Go.Proofs.Ytiplbhjllkfemaa.MSt Go.Proofs.Ytiplbhjllkfemaa.NOrd

theorem w64 {x : Int} (h0 : -9223372036854775808 ≤ x) (h1 : x < 9223372036854775808) : wrap64 x = x := by
  unfold wrap64; omega
/-- A text of these bytes. -/
def mkb (l : List UInt8) : ByteArray := ⟨⟨l⟩⟩
theorem mkb_size (l : List UInt8) : (mkb l).size = l.length := rfl
theorem bt_mkb (s : ByteArray) (i : Int) : bt s i = ((s.data.toList[i.toNat]?.map (fun b : UInt8 => (b.toNat : Int))).getD 0) := by
  unfold bt
  by_cases h : i.toNat < s.size
  · have h2 : i.toNat < s.data.toList.length := by rw [Array.length_toList]; exact h
    rw [dif_pos h, List.getElem?_eq_getElem h2]
    rfl
  · have h2 : ¬ i.toNat < s.data.toList.length := by rw [Array.length_toList]; exact h
    rw [dif_neg h, List.getElem?_eq_none (by omega)]; rfl

structure Win (s : ByteArray) (p : Int) (t : ByteArray) : Prop where
  p0 : 0 ≤ p
  fits : p + t.size ≤ s.size
  small : (s.size : Int) ≤ 1000000000
  at_ : ∀ i : Int, 0 ≤ i → i < t.size → bt s (p + i) = bt t i
theorem Win.of {s : ByteArray} {pre b post : List UInt8} (h : s.data.toList = pre ++ b ++ post) (hs : (s.size : Int) ≤ 1000000000) : Win s pre.length (mkb b) := by
  have hsz : s.size = pre.length + b.length + post.length := by
    have := congrArg List.length h
    rw [Array.length_toList] at this
    simp only [List.length_append] at this
    exact this
  refine ⟨by omega, by rw [mkb_size]; omega, hs, fun i h0 h1 => ?_⟩
  rw [mkb_size] at h1
  rw [bt_mkb, bt_mkb, h]
  have e : ((pre.length : Int) + i).toNat = pre.length + i.toNat := by omega
  rw [e, List.append_assoc, List.getElem?_append_right (by omega), show pre.length + i.toNat - pre.length = i.toNat by omega, List.getElem?_append_left (by omega)]
  rfl

theorem hex_j1 (s : ByteArray) (k : Nat) (x n c : Int) (b : Bool) : ucd_hex.j1 (k + 1) s x n c b = if b = true then (ucd_hex.l0 k s (wrap64 (x + 1)) (Go.bits .or .i64 (wrap64 (n * 16)) (wrap64 (c - 48)))) else (if c ≥ 65 then (if c ≤ 70 then (ucd_hex.l0 k s (wrap64 (x + 1)) (Go.bits .or .i64 (wrap64 (n * 16)) (wrap64 ((wrap64 (c - 65)) + 10)))) else (some (n, x))) else (some (n, x))) := by rw [ucd_hex.j1]
theorem hex_win {s t : ByteArray} {p : Int} (W : Win s p t) : ∀ (m k : Nat), k ≤ m → ∀ (i n v e : Int), 0 ≤ i → ucd_hex.l0 k t i n = some (v, e) → e < t.size → ucd_hex.l0 k s (p + i) n = some (v, p + e) := by
  have hp := W.p0; have hf := W.fits; have hsm := W.small
  intro m
  induction m with
  | zero =>
    intro k hk i n v e _ h _
    have hk0 : k = 0 := by omega
    subst hk0; cases h
  | succ m ih =>
    intro k hk i n v e hi h he
    cases k with
    | zero => cases h
    | succ k =>
      rw [ucd_hex.l0] at h ⊢
      by_cases h1 : i < (t.size : Int)
      · rw [if_pos h1, if_pos hi] at h
        rw [if_pos (by omega), if_pos (by omega), W.at_ i hi h1]
        generalize wrap64 (bt t i) = c at h ⊢
        have key : ∀ b, ucd_hex.j1 k t i n c b = some (v, e) → ucd_hex.j1 k s (p + i) n c b = some (v, p + e) := by
          intro b hb
          cases k with
          | zero => cases hb
          | succ k =>
            rw [hex_j1] at hb ⊢
            rw [w64 (x := i + 1) (by omega) (by omega)] at hb
            rw [w64 (x := p + i + 1) (by omega) (by omega), show p + i + 1 = p + (i + 1) by omega]
            by_cases hb1 : b = true
            · rw [if_pos hb1] at hb ⊢
              exact ih k (by omega) (i + 1) _ v e (by omega) hb he
            · rw [if_neg hb1] at hb ⊢
              by_cases h65 : c ≥ 65
              · rw [if_pos h65] at hb ⊢
                by_cases h70 : c ≤ 70
                · rw [if_pos h70] at hb ⊢
                  exact ih k (by omega) (i + 1) _ v e (by omega) hb he
                · rw [if_neg h70] at hb ⊢
                  cases hb; rfl
              · rw [if_neg h65] at hb ⊢
                cases hb; rfl
        by_cases h48 : c ≥ 48
        · rw [if_pos h48] at h ⊢; exact key _ h
        · rw [if_neg h48] at h ⊢; exact key _ h
      · rw [if_neg h1] at h
        cases h
        omega
theorem line_win {s t : ByteArray} {p : Int} (W : Win s p t) (hl : bt t (t.size - 1) = 10) (m : Nat) : ∀ (k : Nat) (i : Int), (t.size - 1 - i).toNat = m → 0 ≤ i → i < t.size → (m < k) → (∀ j, i ≤ j → j < t.size - 1 → bt t j ≠ 10) → ucd_line.l0 k s (p + i) = some (p + t.size) := by
  have hp := W.p0; have hf := W.fits; have hsm := W.small
  induction m with
  | zero =>
    intro k i hm h0 h1 hk hj
    obtain ⟨k, rfl⟩ : ∃ q, k = q + 1 := ⟨k - 1, by omega⟩
    have hi : i = t.size - 1 := by omega
    rw [ucd_line.l0, if_pos (by omega), if_pos (by omega), W.at_ i h0 h1, if_pos (by rw [hi]; exact hl), w64 (by omega) (by omega)]
    congr 1; omega
  | succ m ih =>
    intro k i hm h0 h1 hk hj
    obtain ⟨k, rfl⟩ : ∃ q, k = q + 1 := ⟨k - 1, by omega⟩
    rw [ucd_line.l0, if_pos (by omega), if_pos (by omega), W.at_ i h0 h1, if_neg (hj i (by omega) (by omega)), w64 (by omega) (by omega), show p + i + 1 = p + (i + 1) by omega]
    exact ih k (i + 1) (by omega) (by omega) (by omega) (by omega) (fun j h2 h3 => hj j (by omega) h3)
theorem decimal_win {s t : ByteArray} {p : Int} (W : Win s p t) (hl : bt t (t.size - 1) = 10) : ∀ (k : Nat) (i n v : Int), 0 ≤ i → i < t.size → ucd_decimal.l0 k t i n = some v → ucd_decimal.l0 k s (p + i) n = some v := by
  have hp := W.p0; have hf := W.fits; have hsm := W.small
  intro k
  induction k with
  | zero => intro i n v _ _ h; cases h
  | succ k ih =>
    intro i n v h0 h1 h
    rw [ucd_decimal.l0] at h ⊢
    rw [if_pos h1, if_pos h0] at h
    rw [if_pos (by omega), if_pos (by omega), W.at_ i h0 h1]
    by_cases h48 : bt t i ≥ 48
    · rw [if_pos h48] at h ⊢
      by_cases h57 : bt t i ≤ 57
      · rw [if_pos h57] at h ⊢
        have hne : i ≠ t.size - 1 := fun e => by rw [e, hl] at h48; omega
        rw [w64 (x := i + 1) (by omega) (by omega)] at h
        rw [w64 (x := p + i + 1) (by omega) (by omega), show p + i + 1 = p + (i + 1) by omega]
        exact ih (i + 1) _ v (by omega) (by omega) h
      · rw [if_neg h57] at h ⊢; exact h
    · rw [if_neg h48] at h ⊢; exact h

/-- Map's own loop, at one line. -/
def l1t : Nat → ByteArray → Int → List Int → Option (List Int)
  | 0, _, _, _ => none
  | k + 1, t, i, acc => if 0 ≤ i ∧ i < t.size then (if bt t i = 32 then (ucd_hex.f k t (i + 1)).bind fun b => l1t k t b.2 (acc ++ [b.1]) else some acc) else none
theorem l1t_in {k : Nat} {t : ByteArray} {i : Int} {acc r : List Int} (h : l1t k t i acc = some r) : 0 ≤ i ∧ i < t.size := by
  cases k with
  | zero => cases h
  | succ k =>
    rw [l1t] at h
    by_cases h1 : 0 ≤ i ∧ i < t.size
    · exact h1
    · rw [if_neg h1] at h; cases h
theorem l1_win {t : ByteArray} {p : Int} (W : Win lit_31b68b p t) (hs : (lit_31b68b.size : Int) = 1304) (n : Int) : ∀ (k : Nat) (i : Int) (acc r : List Int), acc.length + k ≤ 1000 → l1t k t i acc = some r → ucd_Map.l1 k n n (p + i) acc = some r := by
  have hp := W.p0; have hf := W.fits
  intro k
  induction k with
  | zero => intro i acc r _ h; cases h
  | succ k ih =>
    intro i acc r hk h
    obtain ⟨h0, h1⟩ := l1t_in h
    rw [l1t, if_pos ⟨h0, h1⟩] at h
    rw [ucd_Map.l1, if_pos (Eq.refl n), if_pos (by omega), if_pos (by omega), if_pos (by omega), W.at_ i h0 h1]
    by_cases h32 : bt t i = 32
    · rw [if_pos h32] at h ⊢
      obtain ⟨⟨v, e⟩, hb, h⟩ := Option.bind_eq_some_iff.1 h
      obtain ⟨he0, he1⟩ := l1t_in h
      rw [w64 (x := p + i + 1) (by omega) (by omega), show p + i + 1 = p + (i + 1) by omega]
      have g : ucd_hex.f k lit_31b68b (p + (i + 1)) = some (v, p + e) := hex_win W k k (Nat.le_refl _) (i + 1) 0 v e (by omega) hb he1
      rw [g, Option.bind_some]
      dsimp only
      rw [if_pos (by omega)]
      exact ih e (acc ++ [v]) r (by rw [List.length_append, List.length_singleton]; omega) h
    · rw [if_neg h32] at h ⊢; exact h
end Go.Proofs.Ytiplbhjllkfemaa.NWin
