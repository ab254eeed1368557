/-
  Texts in the order of their bytes are in the order of their characters.
-/
import Derived.Test.YtklggdenloenlaaUtf
import Derived.Lib.Bytealg
namespace Go.Proofs.Ytklggdenloenlaa.CmpI
open Go.RowKit Go.Proofs.Ytklggdenloenlaa.Utf
def cmpI : List Int → List Int → Int
  | [], [] => 0
  | [], _ :: _ => -1
  | _ :: _, [] => 1
  | x :: xs, y :: ys => if x < y then -1 else if y < x then 1 else cmpI xs ys
theorem cmp_bytes : ∀ (l m : List UInt8), Lib.compareBytes l m = cmpI (l.map fun b => (b.toNat : Int)) (m.map fun b => (b.toNat : Int))
  | [], [] => rfl
  | [], _ :: _ => rfl
  | _ :: _, [] => rfl
  | a :: l, b :: m => by
    have ih := cmp_bytes l m
    rw [List.map_cons, List.map_cons, cmpI, Lib.compareBytes, ih]
    by_cases h : a < b
    · have q : (a.toNat : Int) < b.toNat := by have := UInt8.lt_iff_toNat_lt.1 h; omega
      rw [if_pos h, if_pos q]
    · have q : ¬ (a.toNat : Int) < b.toNat := fun z => h (UInt8.lt_iff_toNat_lt.2 (by omega))
      rw [if_neg h, if_neg q]
      by_cases h3 : b < a
      · have q3 : (b.toNat : Int) < a.toNat := by have := UInt8.lt_iff_toNat_lt.1 h3; omega
        rw [if_pos h3, if_pos q3]
      · have q3 : ¬ (b.toNat : Int) < a.toNat := fun z => h3 (UInt8.lt_iff_toNat_lt.2 (by omega))
        rw [if_neg h3, if_neg q3]
theorem cmp_swap : ∀ (l m : List Int), cmpI m l = -cmpI l m
  | [], [] => rfl
  | [], _ :: _ => rfl
  | _ :: _, [] => rfl
  | a :: l, b :: m => by
    have ih := cmp_swap l m
    rw [cmpI, cmpI, ih]
    by_cases h : a < b
    · have h2 : ¬ b < a := by omega
      rw [if_pos h, if_neg h2, if_pos h]; rfl
    · by_cases h2 : b < a
      · rw [if_pos h2, if_neg h, if_pos h2]
      · rw [if_neg h2, if_neg h, if_neg h, if_neg h2]
theorem cmp_pre : ∀ (p l m : List Int), cmpI (p ++ l) (p ++ m) = cmpI l m
  | [], _, _ => rfl
  | x :: p, l, m => by
    rw [List.cons_append, List.cons_append, cmpI, if_neg (by omega), if_neg (by omega)]; exact cmp_pre p l m
theorem cmp1 {x y : Int} (h : x < y) (l m : List Int) : cmpI (x :: l) (y :: m) = -1 := by rw [cmpI, if_pos h]
theorem cmp2 {x y : Int} (h : x ≤ y) {l m : List Int} (h2 : x = y → cmpI l m = -1) : cmpI (x :: l) (y :: m) = -1 := by
  rw [cmpI]
  by_cases q : x < y
  · rw [if_pos q]
  · rw [if_neg q, if_neg (by omega)]; exact h2 (by omega)
theorem cmp_enc {c d : Int} (hc : valid c) (hd : valid d) (h : c < d) (s t : List Int) : cmpI (enc c ++ s) (enc d ++ t) = -1 := by
  unfold valid at hc hd
  unfold enc
  by_cases c1 : c < 128
  · rw [if_pos c1]
    by_cases d1 : d < 128
    · rw [if_pos d1]; exact cmp1 h _ _
    · rw [if_neg d1]; (repeat' split) <;> exact cmp1 (by omega) _ _
  · rw [if_neg c1, if_neg (show ¬ d < 128 by omega)]
    by_cases c2 : c < 2048
    · rw [if_pos c2]
      by_cases d2 : d < 2048
      · rw [if_pos d2]
        exact cmp2 (by omega) fun _ => cmp1 (by omega) _ _
      · rw [if_neg d2]; (repeat' split) <;> exact cmp1 (by omega) _ _
    · rw [if_neg c2, if_neg (show ¬ d < 2048 by omega)]
      by_cases c3 : c < 65536
      · rw [if_pos c3]
        by_cases d3 : d < 65536
        · rw [if_pos d3]
          exact cmp2 (by omega) fun _ => cmp2 (by omega) fun _ => cmp1 (by omega) _ _
        · rw [if_neg d3]; exact cmp1 (by omega) _ _
      · rw [if_neg c3, if_neg (show ¬ d < 65536 by omega)]
        exact cmp2 (by omega) fun _ => cmp2 (by omega) fun _ => cmp2 (by omega) fun _ => cmp1 (by omega) _ _
theorem enc_head (c : Int) : ∃ x l, enc c = x :: l := by
  have := enc_pos c
  cases h : enc c with
  | nil => rw [h] at this; simp at this
  | cons x l => exact ⟨x, l, rfl⟩
theorem cmp_all : ∀ (a b : List Int), (∀ c ∈ a, valid c) → (∀ c ∈ b, valid c) → cmpI (encAll a) (encAll b) = cmpI a b
  | [], [], _, _ => rfl
  | [], d :: b, _, _ => by
    obtain ⟨x, l, e⟩ := enc_head d
    show cmpI [] (enc d ++ encAll b) = -1
    rw [e]; rfl
  | c :: a, [], _, _ => by
    obtain ⟨x, l, e⟩ := enc_head c
    show cmpI (enc c ++ encAll a) [] = 1
    rw [e]; rfl
  | c :: a, d :: b, ha, hb => by
    have hc := ha c (by simp)
    have hd := hb d (by simp)
    show cmpI (enc c ++ encAll a) (enc d ++ encAll b) = _
    rw [cmpI]
    by_cases h : c < d
    · rw [if_pos h, cmp_enc hc hd h]
    · rw [if_neg h]
      by_cases h2 : d < c
      · rw [if_pos h2, cmp_swap, cmp_enc hd hc h2]; rfl
      · obtain rfl : c = d := by omega
        rw [if_neg h2, cmp_pre]
        exact cmp_all a b (fun x hx => ha x (by simp [hx])) (fun x hx => hb x (by simp [hx]))
theorem cmp_str (a b : List Int) (ha : ∀ c ∈ a, valid c) (hb : ∀ c ∈ b, valid c) : Lib.compareBytes (strOfNums (encAll a)).data.toList (strOfNums (encAll b)).data.toList = cmpI a b := by
  rw [cmp_bytes]
  have e : ∀ l : List Int, (∀ c ∈ l, valid c) → ((strOfNums (encAll l)).data.toList.map fun b => (b.toNat : Int)) = encAll l := fun l h => bnums_str (encAll_byte h)
  rw [e a ha, e b hb, cmp_all a b ha hb]
theorem cmp_range : ∀ (l m : List Int), cmpI l m = 0 ∨ cmpI l m = 1 ∨ cmpI l m = -1
  | [], [] => .inl rfl
  | [], _ :: _ => .inr (.inr rfl)
  | _ :: _, [] => .inr (.inl rfl)
  | a :: l, b :: m => by
    rw [cmpI]
    split
    · exact .inr (.inr rfl)
    · split
      · exact .inr (.inl rfl)
      · exact cmp_range l m
end Go.Proofs.Ytklggdenloenlaa.CmpI
