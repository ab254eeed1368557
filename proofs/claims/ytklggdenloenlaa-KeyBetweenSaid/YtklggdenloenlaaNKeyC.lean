/-
  Keys: the document's Between.
-/
import Derived.Test.YtklggdenloenlaaNKeyA
import Derived.Test.YtklggdenloenlaaK19
namespace Go.Proofs.Ytklggdenloenlaa.NKey
open Go.RowKit Go.Proofs.Ytklggdenloenlaa.MNorm Go.Proofs.YtklggdenloenlaaW.PrintWords Go.Proofs.Ytklggdenloenlaa.Utf Go.Proofs.Ytklggdenloenlaa.NOrd Go.Proofs.Ytklggdenloenlaa.NText Go.Proofs.Ytklggdenloenlaa.NChars
open Go.Proofs.Ytklggdenloenlaa.PureNorm (bt_nums)

/-- Below, of numbers. -/
def ltI : List Int → List Int → Bool
  | _, [] => false
  | [], _ :: _ => true
  | x :: a, y :: b => decide (x < y) || (decide (x = y) && ltI a b)
theorem less_ltI : ∀ l m : List UInt8, Op.bytesLess l m = ltI (l.map fun b => (b.toNat : Int)) (m.map fun b => (b.toNat : Int))
  | [], [] => rfl
  | _ :: _, [] => rfl
  | [], _ :: _ => rfl
  | a :: l, b :: m => by
    rw [Op.bytesLess, List.map_cons, List.map_cons, ltI, less_ltI l m]
    have e1 : decide (a < b) = decide ((a.toNat : Int) < b.toNat) := by simp [UInt8.lt_iff_toNat_lt]
    have e2 : (a == b) = decide ((a.toNat : Int) = b.toNat) := by
      rw [Bool.eq_iff_iff]; simp [← UInt8.toNat_inj]; omega
    rw [e1, e2]
theorem less_nums (s t : ByteArray) : Op.bytesLess s.toList t.toList = ltI (bnums s) (bnums t) := by
  rw [_root_.Go.ByteArray.toList_eq, _root_.Go.ByteArray.toList_eq]; exact less_ltI _ _
theorem ltI_self : ∀ a : List Int, ltI a a = false
  | [] => rfl
  | x :: a => by rw [ltI, ltI_self a]; simp
theorem btw_between : ∀ a b : List Int, isByte a → isByte b → ltI a b = true → ltI (btw a b) a = false ∧ ltI (btw a b) b = true
  | a, [], _, _, h => by cases a <;> cases h
  | [], y :: b, _, _, _ => by rw [nil_btw]; exact ⟨rfl, rfl⟩
  | x :: a, y :: b, ha, hb, h => by
    have hx := ha x (List.mem_cons_self ..); have hy := hb y (List.mem_cons_self ..)
    rw [btw]
    by_cases e : x = y
    · subst e
      rw [if_pos rfl]
      have h' : ltI a b = true := by rw [ltI] at h; simpa using h
      obtain ⟨p, q⟩ := btw_between a b (fun u hu => ha u (List.mem_cons_of_mem _ hu)) (fun u hu => hb u (List.mem_cons_of_mem _ hu)) h'
      rw [ltI, ltI, p, q]; simp
    · rw [if_neg e]
      have hl : x < y := by rw [ltI] at h; simp [e] at h; exact h
      split
      · rename_i h2
        rw [ltI, ltI, decide_eq_false (by omega), decide_eq_false (by omega), decide_eq_true h2]; simp
      · rw [ltI_self]; exact ⟨rfl, h⟩

theorem rbetween_l (s t : ByteArray) (hs : s.size ≤ 100000) : ∀ (d i : Nat), i + d = min s.size t.size →
    Evr (fun k => incipitref1_Between.l0 k s t i) (strOfNums ((bnums s).take i ++ btw ((bnums s).drop i) ((bnums t).drop i)))
  | 0, i, e => by
    have hend : strOfNums ((bnums s).take i ++ btw ((bnums s).drop i) ((bnums t).drop i)) = s := by
      rcases (show i = s.size ∨ i = t.size by omega) with h | h
      · rw [List.drop_of_length_le (l := bnums s) (by rw [bnums_length]; omega), nil_btw, List.append_nil, List.take_of_length_le (by rw [bnums_length]; omega), str_nums]
      · rw [List.drop_of_length_le (l := bnums t) (by rw [bnums_length]; omega), btw_nil, List.take_append_drop, str_nums]
    rw [hend]
    by_cases h : (i : Int) < s.size
    · refine Evr.succ (fun k => by rw [incipitref1_Between.l0, if_pos h, decide_eq_false (by omega)]) ?_
      exact Evr.succ (fun k => by rw [incipitref1_Between.j1, if_neg Bool.false_ne_true]) (Evr.of fun _ => rfl)
    · refine Evr.succ (fun k => by rw [incipitref1_Between.l0, if_neg h]) ?_
      exact Evr.succ (fun k => by rw [incipitref1_Between.j1, if_neg Bool.false_ne_true]) (Evr.of fun _ => rfl)
  | d + 1, i, e => by
    rw [drop_bt (s := s) (i := i) (by omega), drop_bt (s := t) (i := i) (by omega), btw]
    have hb := bnums_byte s (bt s i) (by have := drop_bt (s := s) (i := i) (by omega); exact List.mem_of_mem_drop (this ▸ List.mem_cons_self ..))
    refine Evr.succ (fun k => by rw [incipitref1_Between.l0, if_pos (by omega), decide_eq_true (by omega)]) ?_
    by_cases h1 : bt s i = bt t i
    · rw [if_pos h1]
      have ih := rbetween_l s t hs d (i + 1) (by omega)
      rw [take_bt (by omega), List.append_assoc] at ih
      refine Evr.succ (fun k => by rw [incipitref1_Between.j1, if_pos (Eq.refl true), if_pos (by omega), if_pos (by omega), if_pos (by omega), if_pos h1, wrap_next (by omega)]) ih
    · rw [if_neg h1]
      by_cases h2 : (bt s i + 1) % 256 < bt t i
      · rw [if_pos h2, ← end_eq s i _ (by omega) (by omega)]
        have hz := end_size s i ((bt s i + 1) % 256) hs (by omega) (by omega)
        refine Evr.succ (fun k => by rw [incipitref1_Between.j1, if_pos (Eq.refl true), if_pos (by omega), if_pos (by omega), if_pos (by omega), if_neg h1, if_pos h2, if_pos (by omega), Option.bind_some, if_pos hz]; rfl) (Evr.of fun _ => rfl)
      · rw [if_neg h2, ← drop_bt (by omega), List.take_append_drop, str_nums]
        exact Evr.succ (fun k => by rw [incipitref1_Between.j1, if_pos (Eq.refl true), if_pos (by omega), if_pos (by omega), if_pos (by omega), if_neg h1, if_neg h2]) (Evr.of fun _ => rfl)
theorem rbetween_f (s t : ByteArray) (hs : s.size ≤ 100000) : Evr (fun k => incipitref1_Between.f k s t) (between s t) := by
  unfold incipitref1_Between.f between
  by_cases h : Op.bytesLess s.toList t.toList = true
  · rw [if_pos h]
    exact Evr.congr (fun k => by rw [if_pos h]; rfl) (rbetween_l s t hs (min s.size t.size) 0 (by omega))
  · rw [if_neg h]
    exact Evr.congr (fun k => by rw [if_neg h]) (Evr.of fun _ => rfl)

end Go.Proofs.Ytklggdenloenlaa.NKey
