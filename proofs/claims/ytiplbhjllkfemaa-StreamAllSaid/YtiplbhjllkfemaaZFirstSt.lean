/-
  The two texts of First come to 'dec', the one for bytes that come in.
-/
import Derived.Test.YtiplbhjllkfemaaZUtfBits
import Derived.Test.YtiplbhjllkfemaaZMStx13
namespace Go.Proofs.Ytiplbhjllkfemaa.PureSt
open Go.RowKit Go.Proofs.Ytiplbhjllkfemaa.MSt Go.Proofs.YtiplbhjllkfemaaW.PrintWords Go.Proofs.YtiplbhjllkfemaaW.PrintLast Go.Proofs.Ytiplbhjllkfemaa.Utf

theorem bt_nums (s : ByteArray) (i : Int) : bt s i = (bnums s).getD i.toNat 0 := by
  have e : s.data.toList.length = s.size := by rw [Array.length_toList]; rfl
  unfold bt bnums
  by_cases h : i.toNat < s.size
  · rw [dif_pos h, List.getD_eq_getElem?_getD, List.getElem?_map, List.getElem?_eq_getElem (by omega), Option.map_some, Option.getD_some]
    rfl
  · rw [dif_neg h, List.getD_eq_getElem?_getD, List.getElem?_map, List.getElem?_eq_none (by omega)]
    rfl

theorem form_f (k : Nat) (b : Int) (h0 : 0 ≤ b) (h1 : b < 256) : utf_form.f (k + 2) b = some (if b < 128 then (1, b) else if b < 194 then (0, 0) else if b < 224 then (2, b % 32) else if b < 240 then (3, b % 16) else if b < 245 then (4, b % 8) else (0, 0)) := by
  unfold utf_form.f
  by_cases c1 : b < 128
  · rw [if_pos c1, if_pos c1, w64 (by omega) (by omega)]
  · rw [if_neg c1, if_neg c1]
    by_cases c2 : b < 194
    · rw [if_neg (by omega), if_pos c2]
      simp only [utf_form.j0]
      rw [if_neg (by simp), if_neg (by omega)]
      simp only [utf_form.j1]
      rw [if_neg (by simp), if_neg (by omega)]
    · rw [if_pos (by omega), if_neg c2]
      by_cases c3 : b < 224
      · rw [if_pos c3, decide_eq_true c3]
        simp only [utf_form.j0]
        rw [if_pos trivial, u8_and31 b h0 h1, w64 (by omega) (by omega)]
      · rw [if_neg c3, decide_eq_false c3]
        simp only [utf_form.j0]
        rw [if_neg (by simp), if_pos (by omega)]
        by_cases c4 : b < 240
        · rw [if_pos c4, decide_eq_true c4]
          simp only [utf_form.j1]
          rw [if_pos trivial, u8_and15 b h0 h1, w64 (by omega) (by omega)]
        · rw [if_neg c4, decide_eq_false c4]
          simp only [utf_form.j1]
          rw [if_neg (by simp), if_pos (by omega)]
          by_cases c5 : b < 245
          · rw [if_pos c5, if_pos c5, u8_and7 b h0 h1, w64 (by omega) (by omega)]
          · rw [if_neg c5, if_neg c5]

theorem valid_f (c : Int) : utf_Valid.f c = some (decide (valid c)) := by
  unfold utf_Valid.f
  by_cases h1 : c ≥ 0
  · rw [if_pos h1]
    by_cases h2 : c ≤ 1114111
    · rw [if_pos h2]
      by_cases h3 : c < 55296
      · rw [if_pos h3]; exact congrArg some (decide_eq_true (show valid c by unfold valid; omega)).symm
      · rw [if_neg h3]; exact congrArg some (decide_eq_decide.2 (by unfold valid; omega))
    · rw [if_neg h2]; exact congrArg some (decide_eq_false (show ¬ valid c by unfold valid; omega)).symm
  · rw [if_neg h1]; exact congrArg some (decide_eq_false (show ¬ valid c by unfold valid; omega)).symm

/-- One byte more. -/
theorem l0_more (k : Nat) (s : ByteArray) (n c i b : Int) (hi : i < n) (h0 : 0 ≤ i) (hs : i < s.size) (hb : bt s i = b) (b0 : 0 ≤ b) (b1 : b < 256) (c0 : 0 ≤ c) (c1 : c < 16777216) (hi2 : i < 10) :
    utf_First.l0 (k + 1) s n c i = if tail b then utf_First.l0 k s n (c * 64 + b % 64) (i + 1) else some (-1, 0) := by
  simp only [utf_First.l0]
  rw [if_pos hi, if_pos h0, if_pos hs, hb]
  by_cases ht : tail b
  · rw [if_pos ((u8_192 b b0 b1).2 ht), if_pos ht, w64 (x := c * 64) (by omega) (by omega), u8_and63 b b0 b1, w64 (x := b % 64) (by omega) (by omega), i64_or6 _ _ (by omega) (by omega) (by omega) (by omega) (by omega), w64 (x := i + 1) (by omega) (by omega)]
  · rw [if_neg (fun h => ht ((u8_192 b b0 b1).1 h)), if_neg ht]

theorem l0_end (k : Nat) (s : ByteArray) (n c : Int) (m : Int) (hm : utf_least.f n = some m) :
    utf_First.l0 (k + 1) s n c n = if m ≤ c ∧ valid c then some (c, n) else some (-1, 0) := by
  simp only [utf_First.l0]
  rw [if_neg (by omega), hm]
  simp only [Option.bind_some]
  by_cases h : m ≤ c
  · rw [if_neg (by omega), valid_f]
    simp only [Option.bind_some]
    by_cases hv : valid c
    · rw [if_pos (by simpa using hv), if_pos ⟨h, hv⟩]
    · rw [if_neg (by simpa using hv), if_neg (fun x => hv x.2)]
  · rw [if_pos (by omega), if_neg (fun x => h x.1)]

theorem first_f (k : Nat) (s : ByteArray) : utf_First.f (k + 10) s = some (dec (bnums s)) := by
  unfold utf_First.f
  by_cases h0 : s.toList = ([] : List UInt8)
  · rw [if_pos h0, bnums_nil h0]; rfl
  · rw [if_neg h0]
    have hsz := bnums_length s
    have hbt := bt_nums s
    have hby := bnums_byte s
    have hne := bnums_ne h0
    obtain ⟨a, t, hat⟩ : ∃ a t, bnums s = a :: t := by
      cases hn : bnums s with
      | nil => exact absurd hn hne
      | cons a t => exact ⟨a, t, rfl⟩
    rw [hat] at hsz hbt hby
    rw [hat]
    have ha := hby a (by simp)
    have b0 : bt s 0 = a := by rw [hbt]; rfl
    simp only [List.length_cons] at hsz
    rw [if_pos (by omega), b0, form_f (k + 8) a ha.1 ha.2]
    simp only [Option.bind_some, dec]
    by_cases c1 : a < 128
    · simp only [c1, if_true]
      rw [if_neg (by omega), decide_eq_false (by omega)]
      simp only [utf_First.j0]
      rw [if_neg (by simp), l0_end _ s 1 a 0 rfl, if_pos ⟨by omega, by unfold valid; omega⟩]
    · by_cases c2 : a < 194
      · simp only [c1, c2, if_true, if_false]
        simp only [utf_First.j0, if_true]
      · by_cases c3 : a < 224
        · simp only [c1, c2, c3, if_true, if_false]
          rw [if_neg (by omega)]
          match t with
          | [] =>
            rw [decide_eq_true (by simp at hsz; omega)]
            simp only [utf_First.j0, if_true]
          | b :: t =>
            simp only [List.length_cons] at hsz
            have hb := hby b (by simp)
            rw [decide_eq_false (by omega)]
            simp only [utf_First.j0]
            rw [if_neg (by simp), l0_more _ s 2 _ 1 b (by omega) (by omega) (by omega) (by rw [hbt]; rfl) hb.1 hb.2 (by omega) (by omega) (by omega)]
            by_cases t1 : tail b
            · have t1' := t1
              unfold tail at t1'
              rw [if_pos t1, if_pos t1, show (1 : Int) + 1 = 2 from rfl, l0_end _ s 2 _ 128 rfl]
              have e : a % 32 * 64 + b % 64 = (a - 192) * 64 + (b - 128) := by omega
              rw [e, if_pos ⟨by omega, by unfold valid; omega⟩]
            · rw [if_neg t1, if_neg t1]
        · by_cases c4 : a < 240
          · simp only [c1, c2, c3, c4, if_true, if_false]
            rw [if_neg (by omega)]
            match t with
            | [] =>
              rw [decide_eq_true (by simp at hsz; omega)]
              simp only [utf_First.j0, if_true]
            | [_] =>
              rw [decide_eq_true (by simp at hsz; omega)]
              simp only [utf_First.j0, if_true]
            | b :: c :: t =>
              simp only [List.length_cons] at hsz
              have hb := hby b (by simp)
              have hc := hby c (by simp)
              rw [decide_eq_false (by omega)]
              simp only [utf_First.j0]
              rw [if_neg (by simp), l0_more _ s 3 _ 1 b (by omega) (by omega) (by omega) (by rw [hbt]; rfl) hb.1 hb.2 (by omega) (by omega) (by omega)]
              by_cases t1 : tail b
              · have t1' := t1
                unfold tail at t1'
                rw [if_pos t1, l0_more _ s 3 _ (1 + 1) c (by omega) (by omega) (by omega) (by rw [hbt]; rfl) hc.1 hc.2 (by omega) (by omega) (by omega)]
                by_cases t2 : tail c
                · have t2' := t2
                  unfold tail at t2'
                  rw [if_pos t2, show (1 : Int) + 1 + 1 = 3 from rfl, l0_end _ s 3 _ 2048 rfl]
                  have e : (a % 16 * 64 + b % 64) * 64 + c % 64 = ((a - 224) * 64 + (b - 128)) * 64 + (c - 128) := by omega
                  rw [e]
                  by_cases g : 2048 ≤ ((a - 224) * 64 + (b - 128)) * 64 + (c - 128) ∧ valid (((a - 224) * 64 + (b - 128)) * 64 + (c - 128))
                  · rw [if_pos g, if_pos ⟨t1, t2, g⟩]
                  · rw [if_neg g, if_neg (fun x => g ⟨x.2.2.1, x.2.2.2⟩)]
                · rw [if_neg t2, if_neg (fun x => t2 x.2.1)]
              · rw [if_neg t1, if_neg (fun x => t1 x.1)]
          · by_cases c5 : a < 245
            · simp only [c1, c2, c3, c4, c5, if_true, if_false]
              rw [if_neg (by omega)]
              match t with
              | [] =>
                rw [decide_eq_true (by simp at hsz; omega)]
                simp only [utf_First.j0, if_true]
              | [_] =>
                rw [decide_eq_true (by simp at hsz; omega)]
                simp only [utf_First.j0, if_true]
              | [_, _] =>
                rw [decide_eq_true (by simp at hsz; omega)]
                simp only [utf_First.j0, if_true]
              | b :: c :: d :: t =>
                simp only [List.length_cons] at hsz
                have hb := hby b (by simp)
                have hc := hby c (by simp)
                have hd := hby d (by simp)
                rw [decide_eq_false (by omega)]
                simp only [utf_First.j0]
                rw [if_neg (by simp), l0_more _ s 4 _ 1 b (by omega) (by omega) (by omega) (by rw [hbt]; rfl) hb.1 hb.2 (by omega) (by omega) (by omega)]
                by_cases t1 : tail b
                · have t1' := t1
                  unfold tail at t1'
                  rw [if_pos t1, l0_more _ s 4 _ (1 + 1) c (by omega) (by omega) (by omega) (by rw [hbt]; rfl) hc.1 hc.2 (by omega) (by omega) (by omega)]
                  by_cases t2 : tail c
                  · have t2' := t2
                    unfold tail at t2'
                    rw [if_pos t2, l0_more _ s 4 _ (1 + 1 + 1) d (by omega) (by omega) (by omega) (by rw [hbt]; rfl) hd.1 hd.2 (by omega) (by omega) (by omega)]
                    by_cases t3 : tail d
                    · have t3' := t3
                      unfold tail at t3'
                      rw [if_pos t3, show (1 : Int) + 1 + 1 + 1 = 4 from rfl, l0_end _ s 4 _ 65536 rfl]
                      have e : ((a % 8 * 64 + b % 64) * 64 + c % 64) * 64 + d % 64 = (((a - 240) * 64 + (b - 128)) * 64 + (c - 128)) * 64 + (d - 128) := by omega
                      rw [e]
                      by_cases g : 65536 ≤ (((a - 240) * 64 + (b - 128)) * 64 + (c - 128)) * 64 + (d - 128) ∧ valid ((((a - 240) * 64 + (b - 128)) * 64 + (c - 128)) * 64 + (d - 128))
                      · rw [if_pos g, if_pos ⟨t1, t2, t3, g⟩]
                      · rw [if_neg g, if_neg (fun x => g ⟨x.2.2.2.1, x.2.2.2.2⟩)]
                    · rw [if_neg t3, if_neg (fun x => t3 x.2.2.1)]
                  · rw [if_neg t2, if_neg (fun x => t2 x.2.1)]
                · rw [if_neg t1, if_neg (fun x => t1 x.1)]
            · simp only [c1, c2, c3, c4, c5, if_false]
              simp only [utf_First.j0, if_true]

theorem first_at {k : Nat} (hk : 10 ≤ k) (s : ByteArray) : utf_First.f k s = some (dec (bnums s)) := by
  obtain ⟨k, rfl⟩ : ∃ m, k = m + 10 := ⟨k - 10, by omega⟩
  exact first_f k s

end Go.Proofs.Ytiplbhjllkfemaa.PureSt
