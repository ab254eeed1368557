/-
  The reference's First comes to 'dec', for whatever bytes come in.
-/
import Derived.Test.YtiplbhjllkfemaaZRefOneSt
namespace Go.Proofs.Ytiplbhjllkfemaa.PureSt
open Go.RowKit Go.Proofs.Ytiplbhjllkfemaa.MSt Go.Proofs.YtiplbhjllkfemaaW.PrintWords Go.Proofs.YtiplbhjllkfemaaW.PrintLast Go.Proofs.Ytiplbhjllkfemaa.Utf

theorem r_more (k : Nat) (s : ByteArray) (n c i b : Int) (hi : i < n) (h0 : 0 ≤ i) (hs : i < s.size) (hb : bt s i = b) (b0 : 0 ≤ b) (b1 : b < 256) (c0 : 0 ≤ c) (c1 : c < 16777216) (hi2 : i < 10) :
    incipitref1_First.l0 (k + 1) s n c i = if tail b then incipitref1_First.l0 k s n (c * 64 + (b - 128)) (i + 1) else some (-1, 0) := by
  simp only [incipitref1_First.l0]
  rw [if_pos hi, if_pos h0, if_pos hs, hb, Int.tdiv_eq_ediv_of_nonneg b0, Int.tmod_eq_emod_of_nonneg b0]
  by_cases ht : tail b
  · have ht' := ht
    unfold tail at ht'
    rw [if_pos (by omega), if_pos ht, w64 (x := c * 64) (by omega) (by omega), w64 (x := b % 64) (by omega) (by omega), w64 (x := c * 64 + b % 64) (by omega) (by omega), w64 (x := i + 1) (by omega) (by omega), show b % 64 = b - 128 by omega]
  · have ht' := ht
    unfold tail at ht'
    rw [if_neg (by omega), if_neg ht]

theorem r_end (k : Nat) (s : ByteArray) (n : Int) (c : Int) (h0 : 0 ≤ n) (hn : n ≤ s.size) :
    incipitref1_First.l0 (k + 1) s n c n = if valid c ∧ enc c = (bnums s).take n.toNat then some (c, n) else some (-1, 0) := by
  simp only [incipitref1_First.l0]
  rw [if_neg (by omega), rvalid_f]
  simp only [Option.bind_some]
  by_cases hv : valid c
  · rw [if_pos (by simpa using hv), one_f c hv]
    simp only [Option.bind_some]
    rw [if_pos h0, if_pos hn]
    have e : (strOfNums (enc c)).toList = (s.extract 0 n.toNat).toList ↔ enc c = (bnums s).take n.toNat := by
      rw [toList_nums, bnums_str (enc_byte hv), bnums_extract]; simp
    by_cases g : enc c = (bnums s).take n.toNat
    · rw [if_pos (e.2 g), if_pos ⟨hv, g⟩]
    · rw [if_neg (fun x => g (e.1 x)), if_neg (fun x => g x.2)]
  · rw [if_neg (by simpa using hv), if_neg (fun x => hv x.1)]

theorem ref_first_f (k : Nat) (s : ByteArray) : incipitref1_First.f (k + 10) s = some (dec (bnums s)) := by
  unfold incipitref1_First.f
  by_cases h0 : s.toList = ([] : List UInt8)
  · rw [if_pos h0, bnums_nil h0]; rfl
  · rw [if_neg h0]
    have hsz := bnums_length s
    have hbt := bt_nums s
    have hby := bnums_byte s
    have hne := bnums_ne h0
    have hend := fun (k : Nat) (n c : Int) (h0 : 0 ≤ n) (hn : n ≤ s.size) => r_end k s n c h0 hn
    obtain ⟨a, t, hat⟩ : ∃ a t, bnums s = a :: t := by
      cases hn : bnums s with
      | nil => exact absurd hn hne
      | cons a t => exact ⟨a, t, rfl⟩
    rw [hat] at hsz hbt hby hend
    rw [hat]
    have ha := hby a (by simp)
    have b0 : bt s 0 = a := by rw [hbt]; rfl
    simp only [List.length_cons] at hsz
    rw [if_pos (by omega), b0, w64 (x := a) (by omega) (by omega)]
    simp only [dec]
    by_cases d1 : a ≥ 240
    · rw [if_pos d1, if_neg (by omega), if_neg (by omega), if_neg (by omega), if_neg (by omega), w64 (x := a - 240) (by omega) (by omega)]
      simp only [incipitref1_First.j0]
      match t with
      | [] => simp only [List.length_nil] at hsz; rw [if_pos (by omega)]; split <;> rfl
      | [_] => simp only [List.length_nil, List.length_cons] at hsz; rw [if_pos (by omega)]; split <;> rfl
      | [_, _] => simp only [List.length_nil, List.length_cons] at hsz; rw [if_pos (by omega)]; split <;> rfl
      | b :: c :: d :: t =>
        simp only [List.length_cons] at hsz
        dsimp only
        have hb := hby b (by simp)
        have hc := hby c (by simp)
        have hd := hby d (by simp)
        rw [if_neg (by omega), r_more _ s 4 _ 1 b (by omega) (by omega) (by omega) (by rw [hbt]; rfl) hb.1 hb.2 (by omega) (by omega) (by omega)]
        by_cases t1 : tail b
        · have t1' := t1
          unfold tail at t1'
          rw [if_pos t1, r_more _ s 4 _ (1 + 1) c (by omega) (by omega) (by omega) (by rw [hbt]; rfl) hc.1 hc.2 (by omega) (by omega) (by omega)]
          by_cases t2 : tail c
          · have t2' := t2
            unfold tail at t2'
            rw [if_pos t2, r_more _ s 4 _ (1 + 1 + 1) d (by omega) (by omega) (by omega) (by rw [hbt]; rfl) hd.1 hd.2 (by omega) (by omega) (by omega)]
            by_cases t3 : tail d
            · have t3' := t3
              unfold tail at t3'
              rw [if_pos t3, show (1 : Int) + 1 + 1 + 1 = 4 from rfl, hend _ 4 _ (by omega) (by omega)]
              have et : (a :: b :: c :: d :: t).take (4 : Int).toNat = [a, b, c, d] := rfl
              rw [et]
              by_cases g : 65536 ≤ (((a - 240) * 64 + (b - 128)) * 64 + (c - 128)) * 64 + (d - 128) ∧ valid ((((a - 240) * 64 + (b - 128)) * 64 + (c - 128)) * 64 + (d - 128))
              · have e : enc ((((a - 240) * 64 + (b - 128)) * 64 + (c - 128)) * 64 + (d - 128)) = [a, b, c, d] := by
                  unfold enc; rw [if_neg (by omega), if_neg (by omega), if_neg (by omega)]; congr 1; omega; congr 1; omega; congr 1; omega; congr 1; omega
                have g2 := g.2
                unfold valid at g2
                rw [if_pos ⟨g.2, e⟩, if_pos (by omega), if_pos ⟨t1, t2, t3, g⟩]
              · have e : ¬ (valid ((((a - 240) * 64 + (b - 128)) * 64 + (c - 128)) * 64 + (d - 128)) ∧ enc ((((a - 240) * 64 + (b - 128)) * 64 + (c - 128)) * 64 + (d - 128)) = [a, b, c, d]) := by
                  rintro ⟨v, q⟩
                  refine g ⟨?_, v⟩
                  unfold enc at q
                  by_cases q1 : (((a - 240) * 64 + (b - 128)) * 64 + (c - 128)) * 64 + (d - 128) < 65536
                  · exfalso
                    split at q
                    · simp at q
                    · split at q
                      · simp at q
                      · (try rw [if_pos q1] at q); simp at q
                  · omega
                rw [if_neg e]
                split
                · rw [if_neg (fun x => g ⟨x.2.2.2.1, x.2.2.2.2⟩)]
                · rfl
            · rw [if_neg t3]
              split
              · rw [if_neg (fun x => t3 x.2.2.1)]
              · rfl
          · rw [if_neg t2]
            split
            · rw [if_neg (fun x => t2 x.2.1)]
            · rfl
        · rw [if_neg t1]
          split
          · rw [if_neg (fun x => t1 x.1)]
          · rfl
    · rw [if_neg d1]
      by_cases d2 : a ≥ 224
      · rw [if_pos d2, if_neg (by omega), if_neg (by omega), if_neg (by omega), if_pos (by omega), w64 (x := a - 224) (by omega) (by omega)]
        simp only [incipitref1_First.j0]
        match t with
        | [] => simp only [List.length_nil] at hsz; rw [if_pos (by omega)]
        | [_] => simp only [List.length_nil, List.length_cons] at hsz; rw [if_pos (by omega)]
        | b :: c :: t =>
          simp only [List.length_cons] at hsz
          dsimp only
          have hb := hby b (by simp)
          have hc := hby c (by simp)
          rw [if_neg (by omega), r_more _ s 3 _ 1 b (by omega) (by omega) (by omega) (by rw [hbt]; rfl) hb.1 hb.2 (by omega) (by omega) (by omega)]
          by_cases t1 : tail b
          · have t1' := t1
            unfold tail at t1'
            rw [if_pos t1, r_more _ s 3 _ (1 + 1) c (by omega) (by omega) (by omega) (by rw [hbt]; rfl) hc.1 hc.2 (by omega) (by omega) (by omega)]
            by_cases t2 : tail c
            · have t2' := t2
              unfold tail at t2'
              rw [if_pos t2, show (1 : Int) + 1 + 1 = 3 from rfl, hend _ 3 _ (by omega) (by omega)]
              have et : (a :: b :: c :: t).take (3 : Int).toNat = [a, b, c] := rfl
              rw [et]
              by_cases g : 2048 ≤ ((a - 224) * 64 + (b - 128)) * 64 + (c - 128) ∧ valid (((a - 224) * 64 + (b - 128)) * 64 + (c - 128))
              · have e : enc (((a - 224) * 64 + (b - 128)) * 64 + (c - 128)) = [a, b, c] := by
                  unfold enc; rw [if_neg (by omega), if_neg (by omega), if_pos (by omega)]; congr 1; omega; congr 1; omega; congr 1; omega
                rw [if_pos ⟨g.2, e⟩, if_pos ⟨t1, t2, g⟩]
              · have e : ¬ (valid (((a - 224) * 64 + (b - 128)) * 64 + (c - 128)) ∧ enc (((a - 224) * 64 + (b - 128)) * 64 + (c - 128)) = [a, b, c]) := by
                  rintro ⟨v, q⟩
                  refine g ⟨?_, v⟩
                  unfold enc at q
                  by_cases q1 : ((a - 224) * 64 + (b - 128)) * 64 + (c - 128) < 2048
                  · exfalso
                    split at q
                    · simp at q
                    · (try rw [if_pos q1] at q); simp at q
                  · omega
                rw [if_neg e, if_neg (fun x => g ⟨x.2.2.1, x.2.2.2⟩)]
            · rw [if_neg t2, if_neg (fun x => t2 x.2.1)]
          · rw [if_neg t1, if_neg (fun x => t1 x.1)]
      · rw [if_neg d2]
        by_cases d3 : a ≥ 192
        · rw [if_pos d3, if_neg (by omega), w64 (x := a - 192) (by omega) (by omega)]
          simp only [incipitref1_First.j0]
          match t with
          | [] => simp only [List.length_nil] at hsz; rw [if_pos (by omega)]; (split; rfl; rw [if_pos (by omega)])
          | b :: t =>
            simp only [List.length_cons] at hsz
            dsimp only
            have hb := hby b (by simp)
            rw [if_neg (by omega), r_more _ s 2 _ 1 b (by omega) (by omega) (by omega) (by rw [hbt]; rfl) hb.1 hb.2 (by omega) (by omega) (by omega)]
            by_cases t1 : tail b
            · have t1' := t1
              unfold tail at t1'
              rw [if_pos t1, show (1 : Int) + 1 = 2 from rfl, hend _ 2 _ (by omega) (by omega)]
              have et : (a :: b :: t).take (2 : Int).toNat = [a, b] := rfl
              rw [et]
              by_cases g : 194 ≤ a
              · have e : enc ((a - 192) * 64 + (b - 128)) = [a, b] := by
                  unfold enc; rw [if_neg (by omega), if_pos (by omega)]; congr 1; omega; congr 1; omega
                rw [if_pos ⟨by unfold valid; omega, e⟩, if_neg (by omega), if_pos (by omega), if_pos t1]
              · have e : ¬ (valid ((a - 192) * 64 + (b - 128)) ∧ enc ((a - 192) * 64 + (b - 128)) = [a, b]) := by
                  rintro ⟨v, q⟩
                  unfold enc at q
                  rw [if_pos (by omega)] at q
                  simp at q
                rw [if_neg e, if_pos (by omega)]
            · rw [if_neg t1]
              split
              · rfl
              · rw [if_pos (by omega)]; try rw [if_neg t1]
        · rw [if_neg d3]
          by_cases d4 : a ≥ 128
          · rw [if_pos d4, if_neg (by omega), if_pos (by omega)]
          · rw [if_neg d4, if_pos (by omega)]
            simp only [incipitref1_First.j0]
            rw [if_neg (by omega), hend _ 1 _ (by omega) (by omega)]
            have e : enc a = [a] := by unfold enc; rw [if_pos (by omega)]
            have et : (a :: t).take (1 : Int).toNat = [a] := rfl
            rw [et, if_pos ⟨by unfold valid; omega, e⟩]

theorem ref_first_at {k : Nat} (hk : 10 ≤ k) (s : ByteArray) : incipitref1_First.f k s = some (dec (bnums s)) := by
  obtain ⟨k, rfl⟩ : ∃ m, k = m + 10 := ⟨k - 10, by omega⟩
  exact ref_first_f k s

end Go.Proofs.Ytiplbhjllkfemaa.PureSt
