/-
  What stands between two texts: the program's and the document's, and where it lies; no canonical form in sight.
-/
import Derived.Test.YtiplbhjllkfemaaUtf
import Derived.Test.YtiplbhjllkfemaaNOrd
import Derived.Test.YtiplbhjllkfemaaMAllx16
import Derived.Test.YtiplbhjllkfemaaMAllx17
namespace Go.Proofs.Ytiplbhjllkfemaa.NBtw
open Go.RowKit Go.Proofs.Ytiplbhjllkfemaa.MAll Go.Proofs.YtiplbhjllkfemaaW.PrintWords Go.Proofs.YtiplbhjllkfemaaW.PrintLast Go.Proofs.Ytiplbhjllkfemaa.Utf Go.Proofs.Ytiplbhjllkfemaa.NOrd

theorem bt_nums (s : ByteArray) (i : Int) : bt s i = (bnums s).getD i.toNat 0 := by
  have e : s.data.toList.length = s.size := by rw [Array.length_toList]; rfl
  unfold bt bnums
  by_cases h : i.toNat < s.size
  · rw [dif_pos h, List.getD_eq_getElem?_getD, List.getElem?_map, List.getElem?_eq_getElem (by omega), Option.map_some, Option.getD_some]
    rfl
  · rw [dif_neg h, List.getD_eq_getElem?_getD, List.getElem?_map, List.getElem?_eq_none (by omega)]
    rfl

theorem drop_bt {s : ByteArray} {i : Nat} (h : i < s.size) : (bnums s).drop i = bt s i :: (bnums s).drop (i + 1) := by
  have hi : i < (bnums s).length := by rw [bnums_length]; exact h
  rw [List.drop_eq_getElem_cons hi, bt_nums]
  simp [hi]
theorem wrap_next {i : Nat} (h : (i : Int) < 1000000000) : wrap64 ((i : Int) + 1) = ((i + 1 : Nat) : Int) := by unfold wrap64; omega
/-- What stands between two texts. -/
def btw : List Int → List Int → List Int
  | x :: a, y :: b => if x = y then x :: btw a b else if (x + 1) % 256 < y then [(x + 1) % 256] else x :: a
  | a, _ => a
theorem btw_nil (a : List Int) : btw a [] = a := by cases a <;> rfl
theorem nil_btw (b : List Int) : btw [] b = [] := by cases b <;> rfl
theorem btw_len : ∀ a b : List Int, (btw a b).length ≤ a.length
  | [], b => by rw [nil_btw]; exact Nat.le_refl _
  | x :: a, [] => by rw [btw_nil]; exact Nat.le_refl _
  | x :: a, y :: b => by
    rw [btw]
    split
    · have := btw_len a b; simp; omega
    · split <;> simp
theorem btw_byte : ∀ a b : List Int, isByte a → isByte (btw a b)
  | [], b, _ => by rw [nil_btw]; intro x hx; cases hx
  | x :: a, [], h => by rw [btw_nil]; exact h
  | x :: a, y :: b, h => by
    rw [btw]
    split
    · intro z hz
      rcases List.mem_cons.1 hz with rfl | hz
      · exact h _ (List.mem_cons_self ..)
      · exact btw_byte a b (fun u hu => h u (List.mem_cons_of_mem _ hu)) z hz
    · split
      · intro z hz
        rcases List.mem_cons.1 hz with rfl | hz
        · omega
        · cases hz
      · exact h
theorem take_bt {s : ByteArray} {i : Nat} (h : i < s.size) : (bnums s).take (i + 1) = (bnums s).take i ++ [bt s i] := by
  have hi : i < (bnums s).length := by rw [bnums_length]; exact h
  rw [List.take_succ_eq_append_getElem hi, bt_nums]
  simp [hi]
theorem isByte_one {c : Int} (h0 : 0 ≤ c) (h1 : c < 256) : isByte [c] := by
  intro x hx; rcases List.mem_cons.1 hx with rfl | hx
  · exact ⟨h0, h1⟩
  · cases hx
theorem str_len {l : List Int} (h : isByte l) : (strOfNums l).size = l.length := by rw [← bnums_length, bnums_str h]
theorem end_eq (s : ByteArray) (i : Nat) (c : Int) (h0 : 0 ≤ c) (h1 : c < 256) : s.extract 0 i ++ strOfNums [c] = strOfNums ((bnums s).take i ++ [c]) := by
  apply bnums_inj
  rw [bnums_append, bnums_extract, bnums_str (isByte_one h0 h1), bnums_str, List.drop_zero]
  intro x hx
  rcases List.mem_append.1 hx with hx | hx
  · exact bnums_byte s x (List.mem_of_mem_take hx)
  · exact isByte_one h0 h1 x hx
theorem end_size (s : ByteArray) (i : Nat) (c : Int) (hs : s.size ≤ 100000) (h0 : 0 ≤ c) (h1 : c < 256) : (s.extract 0 ((i : Int)).toNat).size + (strOfNums [c]).size ≤ 9223372036854775807 := by
  have e : (s.extract 0 ((i : Int)).toNat).size ≤ s.size := by
    rw [← bnums_length, ← bnums_length, bnums_extract, List.drop_zero]; exact List.length_take_le' _ _
  rw [str_len (isByte_one h0 h1)]; simp; omega
theorem between_l (s t : ByteArray) (hs : s.size ≤ 100000) (m : Nat) (hm : m ≤ s.size) (hm2 : m ≤ t.size) (hm3 : m = s.size ∨ m = t.size) : ∀ (d i : Nat), i + d = m →
    Evr (fun k => ckey_Between.l0 k s t m i) (strOfNums ((bnums s).take i ++ btw ((bnums s).drop i) ((bnums t).drop i)))
  | 0, i, e => by
    refine Evr.succ (fun k => by rw [ckey_Between.l0, if_neg (by omega)]) (Evr.of fun _ => ?_)
    rcases hm3 with h | h
    · rw [List.drop_of_length_le (l := bnums s) (by rw [bnums_length]; omega), nil_btw, List.append_nil, List.take_of_length_le (by rw [bnums_length]; omega), str_nums]
    · rw [List.drop_of_length_le (l := bnums t) (by rw [bnums_length]; omega), btw_nil, List.take_append_drop, str_nums]
  | d + 1, i, e => by
    rw [drop_bt (s := s) (i := i) (by omega), drop_bt (s := t) (i := i) (by omega), btw]
    have hb := bnums_byte s (bt s i) (by have := drop_bt (s := s) (i := i) (by omega); exact List.mem_of_mem_drop (this ▸ List.mem_cons_self ..))
    by_cases h1 : bt s i = bt t i
    · rw [if_pos h1]
      have ih := between_l s t hs m hm hm2 hm3 d (i + 1) (by omega)
      rw [take_bt (by omega), List.append_assoc] at ih
      refine Evr.succ (fun k => by rw [ckey_Between.l0, if_pos (by omega), if_pos (by omega), if_pos (by omega), if_pos (by omega), if_pos h1, wrap_next (by omega)]) ih
    · rw [if_neg h1]
      by_cases h2 : (bt s i + 1) % 256 < bt t i
      · rw [if_pos h2, ← end_eq s i _ (by omega) (by omega)]
        have hz := end_size s i ((bt s i + 1) % 256) hs (by omega) (by omega)
        refine Evr.succ (fun k => by rw [ckey_Between.l0, if_pos (by omega), if_pos (by omega), if_pos (by omega), if_pos (by omega), if_neg h1, if_pos h2, if_pos (by omega), Option.bind_some, if_pos hz]; rfl) (Evr.of fun _ => rfl)
      · rw [if_neg h2, ← drop_bt (by omega), List.take_append_drop, str_nums]
        exact Evr.succ (fun k => by rw [ckey_Between.l0, if_pos (by omega), if_pos (by omega), if_pos (by omega), if_pos (by omega), if_neg h1, if_neg h2]) (Evr.of fun _ => rfl)
def between (s t : ByteArray) : ByteArray := if Op.bytesLess s.toList t.toList = true then strOfNums (btw (bnums s) (bnums t)) else s
theorem between_f (s t : ByteArray) (hs : s.size ≤ 100000) : Evr (fun k => ckey_Between.f k s t) (between s t) := by
  unfold ckey_Between.f between
  by_cases h : Op.bytesLess s.toList t.toList = true
  · rw [if_pos h]
    have hm : mn (s.size : Int) (t.size : Int) = ((min s.size t.size : Nat) : Int) := by unfold mn; split <;> omega
    refine Evr.congr (fun k => by rw [if_pos h, hm]; rfl) (between_l s t hs _ (Nat.min_le_left _ _) (Nat.min_le_right _ _) (by omega) (min s.size t.size) 0 (by omega))
  · rw [if_neg h]
    exact Evr.congr (fun k => by rw [if_neg h]) (Evr.of fun _ => rfl)
theorem rbetween_l (s t : ByteArray) (hs : s.size ≤ 100000) : ∀ (d i : Nat), i + d = min s.size t.size →
    Evr (fun k => incipitref1_Between.l0 k s t i) (strOfNums ((bnums s).take i ++ btw ((bnums s).drop i) ((bnums t).drop i)))
  | 0, i, e => by
    have hend : strOfNums ((bnums s).take i ++ btw ((bnums s).drop i) ((bnums t).drop i)) = s := by
      rcases (show i = s.size ∨ i = t.size by omega) with h | h
      · rw [List.drop_of_length_le (l := bnums s) (by rw [bnums_length]; omega), nil_btw, List.append_nil, List.take_of_length_le (by rw [bnums_length]; omega), str_nums]
      · rw [List.drop_of_length_le (l := bnums t) (by rw [bnums_length]; omega), btw_nil, List.take_append_drop, str_nums]
    rw [hend]
    by_cases h : (i : Int) < s.size
    · refine Evr.succ (fun k => by rw [incipitref1_Between.l0, if_pos h, decide_eq_false (by omega)]) ?_
      exact Evr.succ (fun k => by rw [incipitref1_Between.j1, if_neg Bool.false_ne_true]) (Evr.of fun _ => rfl)
    · refine Evr.succ (fun k => by rw [incipitref1_Between.l0, if_neg h]) ?_
      exact Evr.succ (fun k => by rw [incipitref1_Between.j1, if_neg Bool.false_ne_true]) (Evr.of fun _ => rfl)
  | d + 1, i, e => by
    rw [drop_bt (s := s) (i := i) (by omega), drop_bt (s := t) (i := i) (by omega), btw]
    have hb := bnums_byte s (bt s i) (by have := drop_bt (s := s) (i := i) (by omega); exact List.mem_of_mem_drop (this ▸ List.mem_cons_self ..))
    refine Evr.succ (fun k => by rw [incipitref1_Between.l0, if_pos (by omega), decide_eq_true (by omega)]) ?_
    by_cases h1 : bt s i = bt t i
    · rw [if_pos h1]
      have ih := rbetween_l s t hs d (i + 1) (by omega)
      rw [take_bt (by omega), List.append_assoc] at ih
      refine Evr.succ (fun k => by rw [incipitref1_Between.j1, if_pos (Eq.refl true), if_pos (by omega), if_pos (by omega), if_pos (by omega), if_pos h1, wrap_next (by omega)]) ih
    · rw [if_neg h1]
      by_cases h2 : (bt s i + 1) % 256 < bt t i
      · rw [if_pos h2, ← end_eq s i _ (by omega) (by omega)]
        have hz := end_size s i ((bt s i + 1) % 256) hs (by omega) (by omega)
        refine Evr.succ (fun k => by rw [incipitref1_Between.j1, if_pos (Eq.refl true), if_pos (by omega), if_pos (by omega), if_pos (by omega), if_neg h1, if_pos h2, if_pos (by omega), Option.bind_some, if_pos hz]; rfl) (Evr.of fun _ => rfl)
      · rw [if_neg h2, ← drop_bt (by omega), List.take_append_drop, str_nums]
        exact Evr.succ (fun k => by rw [incipitref1_Between.j1, if_pos (Eq.refl true), if_pos (by omega), if_pos (by omega), if_pos (by omega), if_neg h1, if_neg h2]) (Evr.of fun _ => rfl)
theorem rbetween_f (s t : ByteArray) (hs : s.size ≤ 100000) : Evr (fun k => incipitref1_Between.f k s t) (between s t) := by
  unfold incipitref1_Between.f between
  by_cases h : Op.bytesLess s.toList t.toList = true
  · rw [if_pos h]
    exact Evr.congr (fun k => by rw [if_pos h]; rfl) (rbetween_l s t hs (min s.size t.size) 0 (by omega))
  · rw [if_neg h]
    exact Evr.congr (fun k => by rw [if_neg h]) (Evr.of fun _ => rfl)

/-- Below, of numbers. -/
def ltI : List Int → List Int → Bool
  | _, [] => false
  | [], _ :: _ => true
  | x :: a, y :: b => decide (x < y) || (decide (x = y) && ltI a b)
theorem less_ltI : ∀ l m : List UInt8, Op.bytesLess l m = ltI (l.map fun b => (b.toNat : Int)) (m.map fun b => (b.toNat : Int))
  | [], [] => rfl
  | _ :: _, [] => rfl
  | [], _ :: _ => rfl
  | a :: l, b :: m => by
    rw [Op.bytesLess, List.map_cons, List.map_cons, ltI, less_ltI l m]
    have e1 : decide (a < b) = decide ((a.toNat : Int) < b.toNat) := by simp [UInt8.lt_iff_toNat_lt]
    have e2 : (a == b) = decide ((a.toNat : Int) = b.toNat) := by
      rw [Bool.eq_iff_iff]; simp [← UInt8.toNat_inj]; omega
    rw [e1, e2]
theorem less_nums (s t : ByteArray) : Op.bytesLess s.toList t.toList = ltI (bnums s) (bnums t) := by
  rw [_root_.Go.ByteArray.toList_eq, _root_.Go.ByteArray.toList_eq]; exact less_ltI _ _
theorem ltI_self : ∀ a : List Int, ltI a a = false
  | [] => rfl
  | x :: a => by rw [ltI, ltI_self a]; simp
theorem btw_between : ∀ a b : List Int, isByte a → isByte b → ltI a b = true → ltI (btw a b) a = false ∧ ltI (btw a b) b = true
  | a, [], _, _, h => by cases a <;> cases h
  | [], y :: b, _, _, _ => by rw [nil_btw]; exact ⟨rfl, rfl⟩
  | x :: a, y :: b, ha, hb, h => by
    have hx := ha x (List.mem_cons_self ..); have hy := hb y (List.mem_cons_self ..)
    rw [btw]
    by_cases e : x = y
    · subst e
      rw [if_pos rfl]
      have h' : ltI a b = true := by rw [ltI] at h; simpa using h
      obtain ⟨p, q⟩ := btw_between a b (fun u hu => ha u (List.mem_cons_of_mem _ hu)) (fun u hu => hb u (List.mem_cons_of_mem _ hu)) h'
      rw [ltI, ltI, p, q]; simp
    · rw [if_neg e]
      have hl : x < y := by rw [ltI] at h; simp [e] at h; exact h
      split
      · rename_i h2
        rw [ltI, ltI, decide_eq_false (by omega), decide_eq_false (by omega), decide_eq_true h2]; simp
      · rw [ltI_self]; exact ⟨rfl, h⟩

theorem ltI_tri : ∀ a b : List Int, ltI a b = false → a ≠ b → ltI b a = true
  | [], [], _, h => absurd rfl h
  | [], _ :: _, h, _ => by cases h
  | _ :: _, [], _, _ => rfl
  | x :: a, y :: b, h, hn => by
    rw [ltI] at h ⊢
    simp only [Bool.or_eq_false_iff, decide_eq_false_iff_not, Bool.and_eq_false_iff] at h
    obtain ⟨h1, h2⟩ := h
    by_cases e : x = y
    · subst e
      rcases h2 with h2 | h2
      · exact absurd rfl h2
      · rw [ltI_tri a b h2 (fun e => hn (by rw [e]))]; simp
    · rw [decide_eq_true (show y < x by omega)]; rfl
end Go.Proofs.Ytiplbhjllkfemaa.NBtw
