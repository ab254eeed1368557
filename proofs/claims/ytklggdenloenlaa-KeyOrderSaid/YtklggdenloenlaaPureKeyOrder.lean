/-
  Proved: for all []int a and b, incipitlaw6.KeyOrder(a, b) returns true: of the first 20 numbers of each, where all are characters, the texts' order by bytes is the lists' order. No condition beyond lengths and numbers being such as the statement lets in.
-/
import Derived.Test.YtklggdenloenlaaCmpI
import Derived.Test.YtklggdenloenlaaRefWriteKo
import Derived.Test.YtklggdenloenlaaKoA
import Derived.Test.YtklggdenloenlaaKoC
namespace Go.Proofs.Ytklggdenloenlaa.Pure
open Go.RowKit Go.Proofs.Ytklggdenloenlaa.MKo Go.Proofs.YtklggdenloenlaaW.PrintWords Go.Proofs.Ytklggdenloenlaa.Utf Go.Proofs.Ytklggdenloenlaa.CmpI
open Go.Proofs.Ytklggdenloenlaa.PureKo (wrote rwrite_f)

theorem compare_f (s t : ByteArray) : ckey_Compare.f s t = some (Lib.compareBytes s.data.toList t.data.toList) := rfl
theorem fin (a b : List Int) (ha : ∀ c ∈ a, valid c) (hb : ∀ c ∈ b, valid c) (x y : Int) (h : x = cmpI a b) (h2 : y = -x) :
    ((ckey_Compare.f (strOfNums (encAll a)) (strOfNums (encAll b))).bind fun u => (if u = x then ((ckey_Compare.f (strOfNums (encAll b)) (strOfNums (encAll a))).bind fun v => (some (v == y))) else (none))) = some true := by
  rw [compare_f, cmp_str a b ha hb, Option.bind_some, if_pos h.symm, compare_f, cmp_str b a hb ha, Option.bind_some, cmp_swap a b, ← h, h2, beq_self_eq_true]
theorem rd_at (l : List Int) (i : Nat) (h : i < l.length) : rd l (i : Int) = l[i] := by
  unfold rd
  rw [Int.toNat_natCast, List.getD_eq_getElem?_getD, List.getElem?_eq_getElem h, Option.getD_some]
theorem loop (a b : List Int) (hl : a.length ≤ 20) (hl2 : b.length ≤ 20) (ha : ∀ c ∈ a, valid c) (hb : ∀ c ∈ b, valid c) : ∀ (d k i : Nat) (x : Int), i + d = a.length → i ≤ b.length → d < k →
    (x = 0 → cmpI a b = cmpI (a.drop i) (b.drop i)) → (x ≠ 0 → x = cmpI a b) → incipitlaw6_KeyOrder.l0 k a b (strOfNums (encAll a)) (strOfNums (encAll b)) x i = some true := by
  intro d
  induction d with
  | zero =>
    intro k i x hi hib hk h0 h1
    obtain ⟨k, rfl⟩ : ∃ m, k = m + 1 := ⟨k - 1, by omega⟩
    have F := fin a b ha hb
    have n1 : ¬ (i : Int) < a.length := by omega
    rw [incipitlaw6_KeyOrder.l0, if_neg n1]
    have da : a.drop i = [] := List.drop_of_length_le (by omega)
    by_cases hx : x = 0
    · have hc := h0 hx
      rw [da] at hc
      rw [if_pos hx]
      by_cases e : (a.length : Int) = b.length
      · have db : b.drop i = [] := List.drop_of_length_le (by omega)
        rw [db] at hc
        rw [if_pos e]
        exact F x _ (by rw [hx, hc]; rfl) (w64 (by omega) (by omega))
      · have e2 : (a.length : Int) < b.length := by omega
        rw [if_neg e, if_pos e2]
        have db := List.drop_eq_getElem_cons (show i < b.length by omega)
        rw [db] at hc
        exact F (-1) _ (by rw [hc]; rfl) rfl
    · rw [if_neg hx]
      have := h1 hx
      exact F x _ this (w64 (by rcases cmp_range a b with q | q | q <;> omega) (by rcases cmp_range a b with q | q | q <;> omega))
  | succ d ih =>
    intro k i x hi hib hk h0 h1
    obtain ⟨k, rfl⟩ : ∃ m, k = m + 1 := ⟨k - 1, by omega⟩
    have F := fin a b ha hb
    have p1 : (i : Int) < a.length := by omega
    have da := List.drop_eq_getElem_cons (show i < a.length by omega)
    rw [incipitlaw6_KeyOrder.l0, if_pos p1]
    by_cases h2 : (i : Int) < b.length
    · rw [if_pos h2]
      by_cases hx : x = 0
      · have hc := h0 hx
        have db := List.drop_eq_getElem_cons (show i < b.length by omega)
        rw [da, db, cmpI] at hc
        have p0 : (0 : Int) ≤ i := by omega
        have wn : wrap64 ((i : Int) + 1) = ((i + 1 : Nat) : Int) := by rw [w64 (by omega) (by omega)]; rfl
        rw [if_pos hx, if_pos p0, rd_at a i (by omega), rd_at b i (by omega), wn]
        by_cases c : a[i] < b[i]
        · have c2 : ¬ a[i] > b[i] := by omega
          rw [if_pos c] at hc
          rw [if_pos c, if_neg c2]
          exact ih k (i + 1) (-1) (by omega) (by omega) (by omega) (fun h => absurd h (by omega)) (fun _ => hc.symm)
        · rw [if_neg c] at hc
          rw [if_neg c]
          by_cases c2 : a[i] > b[i]
          · have c3 : b[i] < a[i] := c2
            rw [if_pos c3] at hc
            rw [if_pos c2]
            exact ih k (i + 1) 1 (by omega) (by omega) (by omega) (fun h => absurd h (by omega)) (fun _ => hc.symm)
          · have c3 : ¬ b[i] < a[i] := c2
            rw [if_neg c3] at hc
            rw [if_neg c2]
            exact ih k (i + 1) x (by omega) (by omega) (by omega) (fun _ => hc) h1
      · rw [if_neg hx]
        have := h1 hx
        exact F x _ this (w64 (by rcases cmp_range a b with q | q | q <;> omega) (by rcases cmp_range a b with q | q | q <;> omega))
    · rw [if_neg h2]
      by_cases hx : x = 0
      · have hc := h0 hx
        have db : b.drop i = [] := List.drop_of_length_le (by omega)
        have e : ¬ (a.length : Int) = b.length := by omega
        have e2 : ¬ (a.length : Int) < b.length := by omega
        rw [da, db] at hc
        rw [if_pos hx, if_neg e, if_neg e2]
        exact F 1 _ (by rw [hc]; rfl) rfl
      · rw [if_neg hx]
        have := h1 hx
        exact F x _ this (w64 (by rcases cmp_range a b with q | q | q <;> omega) (by rcases cmp_range a b with q | q | q <;> omega))
theorem e101 : ∀ (k : Nat) (a b : List Int) (s t : ByteArray) (x i : Int), incipitlaw6_KeyOrder.l101 k a b s t x i = incipitlaw6_KeyOrder.l0 k a b s t x i
  | 0, _, _, _, _, _, _ => by simp only [incipitlaw6_KeyOrder.l101, incipitlaw6_KeyOrder.l0]
  | k + 1, a, b, s, t, x, i => by rw [incipitlaw6_KeyOrder.l101, incipitlaw6_KeyOrder.l0]; simp only [e101 k]
theorem e102 : ∀ (k : Nat) (a b : List Int) (s t : ByteArray) (x i : Int), incipitlaw6_KeyOrder.l102 k a b s t x i = incipitlaw6_KeyOrder.l0 k a b s t x i
  | 0, _, _, _, _, _, _ => by simp only [incipitlaw6_KeyOrder.l102, incipitlaw6_KeyOrder.l0]
  | k + 1, a, b, s, t, x, i => by rw [incipitlaw6_KeyOrder.l102, incipitlaw6_KeyOrder.l0]; simp only [e102 k]
theorem e103 : ∀ (k : Nat) (a b : List Int) (s t : ByteArray) (x i : Int), incipitlaw6_KeyOrder.l103 k a b s t x i = incipitlaw6_KeyOrder.l0 k a b s t x i
  | 0, _, _, _, _, _, _ => by simp only [incipitlaw6_KeyOrder.l103, incipitlaw6_KeyOrder.l0]
  | k + 1, a, b, s, t, x, i => by rw [incipitlaw6_KeyOrder.l103, incipitlaw6_KeyOrder.l0]; simp only [e103 k]
theorem both (a b : List Int) (hl : a.length ≤ 20) (hl2 : b.length ≤ 20) : ((incipitref1_Write.f 100 a).bind fun x => ((incipitref1_Write.f 100 b).bind fun y => (if x.2 = true then (if y.2 = true then (incipitlaw6_KeyOrder.l0 100 a b x.1 y.1 0 0) else (some true)) else (some true)))) = some true := by
  rw [rwrite_f a (by omega) 100 (by omega), Option.bind_some, rwrite_f b (by omega) 100 (by omega), Option.bind_some]
  unfold wrote
  by_cases va : ∀ c ∈ a, valid c
  · by_cases vb : ∀ c ∈ b, valid c
    · rw [if_pos va, if_pos vb, if_pos (Eq.refl true), if_pos (Eq.refl true), List.nil_append, List.nil_append]
      exact loop a b hl hl2 va vb a.length 100 0 0 (by omega) (by omega) (by omega) (fun _ => rfl) (fun h => absurd rfl h)
    · rw [if_pos va, if_neg vb, if_pos (Eq.refl true)]; rfl
  · rw [if_neg va]; rfl
theorem KeyOrder : incipitlaw6_KeyOrder.Pure := by
  intro l0 l1 _ _ _ _ _ _
  refine ⟨100, ?_⟩
  unfold incipitlaw6_KeyOrder.f
  rw [incipitlaw6_begun.f, Option.bind_some, if_pos (Eq.refl true)]
  simp only [e101, e102, e103]
  have t0 : (l0.take 20).length ≤ 20 := by rw [List.length_take]; omega
  have t1 : (l1.take 20).length ≤ 20 := by rw [List.length_take]; omega
  by_cases c : (l0.length : Int) > 20
  · have c' : (20 : Int) ≤ l0.length := by omega
    rw [if_pos c, if_pos c', Option.bind_some]
    by_cases c2 : (l1.length : Int) > 20
    · have c2' : (20 : Int) ≤ l1.length := by omega
      rw [if_pos c2, if_pos c2', Option.bind_some]
      exact both _ _ t0 t1
    · rw [if_neg c2]; exact both _ _ t0 (by omega)
  · rw [if_neg c]
    by_cases c2 : (l1.length : Int) > 20
    · have c2' : (20 : Int) ≤ l1.length := by omega
      rw [if_pos c2, if_pos c2', Option.bind_some]
      exact both _ _ (by omega) t1
    · rw [if_neg c2]; exact both _ _ (by omega) (by omega)
end Go.Proofs.Ytklggdenloenlaa.Pure
