/-
  Proved: for all whole numbers n, key, value, incipitlaw12.GroupMany(n, key, value) returns true: a group of 1 to 50 puts may be, no other number; one put's key may have 1 to 4096 bytes, its value no more than the limit. No condition beyond the numbers being of 64 bits.
-/
import Derived.Test.YtdefoinlpepolaaGKey
import Derived.Test.YtdefoinlpepolaaMGrpLGroupMany
namespace Go.Proofs.Ytdefoinlpepolaa.Pure
open Go.RowKit Go.Proofs.Ytdefoinlpepolaa.MGrp Go.Proofs.YtdefoinlpepolaaW.PrintWords Go.Proofs.Ytdefoinlpepolaa.Utf Go.Proofs.Ytdefoinlpepolaa.NOrd Go.Proofs.Ytdefoinlpepolaa.GKey

def opk : S25 := ⟨1, ⟨#[107]⟩, ⟨#[]⟩⟩
theorem rd_rep (n : Nat) (i : Int) (h0 : 0 ≤ i) (h1 : i < n) : rd_T25 (List.replicate n opk) i = opk := by
  unfold rd_T25
  rw [List.getD_eq_getElem?_getD, List.getElem?_replicate, if_pos (by omega)]; rfl
theorem k_str : strOfNums [107] = (⟨#[107]⟩ : ByteArray) := bnums_inj (by rw [bnums_str (by intro x hx; simp at hx; omega)]; rfl)
theorem one_k : makef (⟨#[107]⟩ : ByteArray) = (⟨#[107]⟩, ⟨#[107]⟩, 0) := by
  rw [← k_str, make_low (by intro x hx; simp at hx; omega) (by intro x hx; simp at hx; omega)]; rfl
/-- One change, looked at. -/
theorem step (l : List S25) (i : Int) (h0 : 0 ≤ i) (h1 : i < (l.length : Int)) (hl : l.length < 1000) (hk : (rd_T25 l i).f0 = 1) (hs : (rd_T25 l i).f1.size ≤ 100000) (R : Int)
    (hR : (makef (rd_T25 l i).f1).2.2 = 0 → ¬ (((rd_T25 l i).f2.size : Int) > 1048576) → Evr (fun k => batch_Check.l0 k l (l.length : Int) (i + 1)) R) :
    Evr (fun k => batch_Check.l0 k l (l.length : Int) i) (if (makef (rd_T25 l i).f1).2.2 = 0 then (if ((rd_T25 l i).f2.size : Int) > 1048576 then 2 else R) else (makef (rd_T25 l i).f1).2.2) := by
  refine Evr.succ (h := fun k => batch_Check.j2 k l (l.length : Int) i false 1 (rd_T25 l i).f1 (rd_T25 l i).f2) (fun k => ?_) ?_
  · rw [batch_Check.l0, if_pos h1, if_pos h0, if_pos h1, hk, if_pos (Eq.refl (1 : Int)), if_neg (by decide)]
  · refine Evr.succ (fun k => by rw [batch_Check.j2, if_neg Bool.false_ne_true]) (Evr.bind (make_f (rd_T25 l i).f1 hs) ?_)
    by_cases c : (makef (rd_T25 l i).f1).2.2 = 0
    · by_cases c2 : ((rd_T25 l i).f2.size : Int) > 1048576
      · refine Evr.congr (fun k => by rw [if_pos c, if_pos c2]) (Evr.of fun _ => ?_)
        rw [if_pos c, if_pos c2]
      · rw [if_pos c, if_neg c2]
        exact Evr.congr (fun k => by rw [if_pos c, if_neg c2, w64 (by omega) (by omega)]) (hR c c2)
    · rw [if_neg c]
      exact Evr.congr (fun k => by rw [if_neg c]) (Evr.of fun _ => rfl)
theorem many (n : Nat) (hn : n < 1000) : ∀ (d i : Nat), i + d = n → Evr (fun k => batch_Check.l0 k (List.replicate n opk) ((List.replicate n opk).length : Int) i) 0
  | 0, i, e => Evr.succ (fun k => by rw [batch_Check.l0, if_neg (by rw [List.length_replicate]; omega)]) (Evr.of fun _ => rfl)
  | d + 1, i, e => by
    have ih := many n hn d (i + 1) (by omega)
    have r := rd_rep n i (by omega) (by omega)
    have s := step (List.replicate n opk) i (by omega) (by rw [List.length_replicate]; omega) (by rw [List.length_replicate]; omega) (by rw [r]; rfl) (by rw [r]; decide) 0 (fun _ _ => ih)
    rw [r] at s
    have e1 : (makef opk.f1).2.2 = 0 := by show (makef (⟨#[107]⟩ : ByteArray)).2.2 = 0; rw [one_k]
    rw [if_pos e1, if_neg (by decide)] at s
    exact s
theorem check_many (n : Nat) (hn : n < 1000) : Evr (fun k => batch_Check.f k (List.replicate n opk)) (if n < 1 ∨ n > 50 then 12 else 0) := by
  unfold batch_Check.f
  have hl : ((List.replicate n opk).length : Int) = n := by rw [List.length_replicate]
  by_cases h : n < 1
  · rw [if_pos (Or.inl h)]
    exact Evr.congr (fun k => by rw [if_pos (by omega)]) (Evr.succ (fun k => by rw [batch_Check.j0, if_pos (Eq.refl true)]) (Evr.of fun _ => rfl))
  · by_cases h2 : n > 50
    · rw [if_pos (Or.inr h2)]
      exact Evr.congr (fun k => by rw [if_neg (by omega), decide_eq_true (by omega)]) (Evr.succ (fun k => by rw [batch_Check.j0, if_pos (Eq.refl true)]) (Evr.of fun _ => rfl))
    · rw [if_neg (by omega)]
      exact Evr.congr (fun k => by rw [if_neg (by omega), decide_eq_false (by omega)]) (Evr.succ (fun k => by rw [batch_Check.j0, if_neg Bool.false_ne_true]; rfl) (many n hn n 0 (by omega)))
def opz (a b : Nat) : S25 := ⟨1, strOfNums (List.replicate a 0), strOfNums (List.replicate b 0)⟩
theorem zeros0 (a : Nat) : ∀ x ∈ List.replicate a (0 : Int), 0 ≤ x := by intro x hx; rw [List.eq_of_mem_replicate hx]; omega
theorem zeros1 (a : Nat) : ∀ x ∈ List.replicate a (0 : Int), x < 128 := by intro x hx; rw [List.eq_of_mem_replicate hx]; omega
theorem zeros_size (a : Nat) : (strOfNums (List.replicate a 0)).size = a := by
  rw [str_len (fun x hx => ⟨zeros0 a x hx, by have := zeros1 a x hx; omega⟩), List.length_replicate]
theorem check_one (a b : Nat) (ha : a ≤ 4200) : Evr (fun k => batch_Check.f k [opz a b]) (if a < 1 ∨ a > 4096 then 1 else if b > 1048576 then 2 else 0) := by
  unfold batch_Check.f
  refine Evr.congr (fun k => by rw [if_neg (by simp), decide_eq_false (by simp)]) (Evr.succ (fun k => by rw [batch_Check.j0, if_neg Bool.false_ne_true]) ?_)
  have r : rd_T25 [opz a b] 0 = opz a b := rfl
  have s := step [opz a b] 0 (by omega) (by simp) (by simp) (by rw [r]; rfl) (by rw [r]; show (strOfNums (List.replicate a 0)).size ≤ _; rw [zeros_size]; omega) 0
    (fun _ _ => Evr.succ (fun k => by rw [batch_Check.l0, if_neg (by simp)]) (Evr.of fun _ => rfl))
  rw [r] at s
  have e1 : makef (opz a b).f1 = if a < 1 ∨ a > 4096 then (⟨#[]⟩, ⟨#[]⟩, 1) else (strOfNums (List.replicate a 0), strOfNums (List.replicate a 0), 0) := by
    show makef (strOfNums (List.replicate a 0)) = _
    rw [make_low (zeros0 a) (zeros1 a), List.length_replicate]
  have e2 : (opz a b).f2.size = b := zeros_size b
  rw [e1, e2] at s
  by_cases h : a < 1 ∨ a > 4096
  · rw [if_pos h]
    rw [if_pos h] at s
    exact s
  · rw [if_neg h]
    rw [if_neg h, if_pos (Eq.refl (0 : Int))] at s
    by_cases h2 : b > 1048576
    · rw [if_pos h2]; rw [if_pos (by omega)] at s; exact s
    · rw [if_neg h2]; rw [if_neg (by omega)] at s; exact s
theorem j3_f (x1 x2 x10 x11 x12 : Int) (h : x11 = if x1 < 1 ∨ x1 > 4096 then 1 else if x2 > 5 then 2 else 0) (h2 : x10 = x12) : Evr (fun k => incipitlaw12_GroupMany.j3 k x1 x2 x10 x11 x12) true := by
  refine Evr.succ (fun k => by rw [incipitlaw12_GroupMany.j3]) (Evr.of fun _ => ?_)
  subst h h2
  by_cases c1 : x2 > 5 <;> by_cases c2 : x1 < 1 <;> by_cases c3 : x1 > 4096 <;> simp [c1, c2, c3]
theorem loop (m a v : Nat) (hm : m ≤ 60) (ha : a ≤ 4200) (hv : v ≤ 10) : ∀ (d i : Nat), i + d = m → Evr (fun k => incipitlaw12_GroupMany.l0 k m a v (List.replicate i opk) i) true
  | 0, i, e => by
    obtain rfl : i = m := by omega
    have wv : wrap64 (1048571 + (v : Int)) = ((1048571 + v : Nat) : Int) := by rw [w64 (by omega) (by omega)]; omega
    refine Evr.succ (fun k => by rw [incipitlaw12_GroupMany.l0, if_neg (by omega)]) (Evr.bind (check_many i (by omega)) ?_)
    refine Evr.congr (fun k => by rw [if_pos (by omega), if_pos (by omega), wv, if_pos (by omega), if_pos (by omega), Int.toNat_natCast, Int.toNat_natCast]; rfl) (Evr.bind (A := fun k => batch_Check.f k [opz a (1048571 + v)]) (B := fun k t309 => if (i : Int) < 1 then incipitlaw12_GroupMany.j2 k a v (if i < 1 ∨ i > 50 then 12 else 0) t309 0 true else incipitlaw12_GroupMany.j2 k a v (if i < 1 ∨ i > 50 then 12 else 0) t309 0 (decide ((i : Int) > 50))) (check_one a (1048571 + v) ha) ?_)
    have fin : ∀ w : Int, (if i < 1 ∨ i > 50 then (12 : Int) else 0) = w → Evr (fun k => incipitlaw12_GroupMany.j3 k a v (if i < 1 ∨ i > 50 then 12 else 0) (if a < 1 ∨ a > 4096 then 1 else if 1048571 + v > 1048576 then 2 else 0) w) true := by
      intro w hw
      refine j3_f _ _ _ _ _ ?_ hw
      by_cases c2 : a < 1 ∨ a > 4096
      · have d2 : (a : Int) < 1 ∨ (a : Int) > 4096 := by omega
        rw [if_pos c2, if_pos d2]
      · have d2 : ¬ ((a : Int) < 1 ∨ (a : Int) > 4096) := by omega
        rw [if_neg c2, if_neg d2]
        by_cases c3 : 1048571 + v > 1048576
        · have d3 : (v : Int) > 5 := by omega
          rw [if_pos c3, if_pos d3]
        · have d3 : ¬ (v : Int) > 5 := by omega
          rw [if_neg c3, if_neg d3]
    by_cases c : (i : Int) < 1
    · refine Evr.congr (fun k => by rw [if_pos c]) (Evr.succ (fun k => by rw [incipitlaw12_GroupMany.j2, if_pos (Eq.refl true)]) (fin 12 (by rw [if_pos (by omega)])))
    · by_cases c2 : (i : Int) > 50
      · refine Evr.congr (fun k => by rw [if_neg c, decide_eq_true c2]) (Evr.succ (fun k => by rw [incipitlaw12_GroupMany.j2, if_pos (Eq.refl true)]) (fin 12 (by rw [if_pos (by omega)])))
      · refine Evr.congr (fun k => by rw [if_neg c, decide_eq_false c2]) (Evr.succ (fun k => by rw [incipitlaw12_GroupMany.j2, if_neg Bool.false_ne_true]) (fin 0 (by rw [if_neg (by omega)])))
  | d + 1, i, e => by
    have ih := loop m a v hm ha hv d (i + 1) (by omega)
    refine Evr.succ (fun k => ?_) ih
    rw [incipitlaw12_GroupMany.l0, if_pos (by omega), if_pos (by rw [List.length_replicate]; omega), w64 (by omega) (by omega), List.replicate_succ' (n := i)]
    rfl
theorem GroupMany : incipitlaw12_GroupMany.Pure := by
  intro n key value _ _ _
  suffices h : Evr (fun k => incipitlaw12_GroupMany.f k n key value) true by
    obtain ⟨k, hk⟩ := h
    exact ⟨k, hk k (Nat.le_refl _)⟩
  unfold incipitlaw12_GroupMany.f
  have out : Evr (fun k => incipitlaw12_GroupMany.j0 k n key value true) true := Evr.succ (fun k => by rw [incipitlaw12_GroupMany.j0, if_pos (Eq.refl true)]) (Evr.of fun _ => rfl)
  refine Evr.congr (fun k => by rw [incipitlaw12_begun.f, Option.bind_some, if_pos (Eq.refl true)]) ?_
  by_cases c1 : n < 0
  · exact Evr.congr (fun k => by rw [if_pos c1]) out
  by_cases c2 : n > 60
  · exact Evr.congr (fun k => by rw [if_neg c1, if_pos c2]) out
  by_cases c3 : key < 0
  · exact Evr.congr (fun k => by rw [if_neg c1, if_neg c2, if_pos c3]) out
  by_cases c4 : key > 4200
  · exact Evr.congr (fun k => by rw [if_neg c1, if_neg c2, if_neg c3, if_pos c4]) out
  by_cases c5 : value < 0
  · exact Evr.congr (fun k => by rw [if_neg c1, if_neg c2, if_neg c3, if_neg c4, if_pos c5]) out
  by_cases c6 : value > 10
  · exact Evr.congr (fun k => by rw [if_neg c1, if_neg c2, if_neg c3, if_neg c4, if_neg c5, decide_eq_true c6]) out
  refine Evr.congr (fun k => by rw [if_neg c1, if_neg c2, if_neg c3, if_neg c4, if_neg c5, decide_eq_false c6]) (Evr.succ (fun k => by rw [incipitlaw12_GroupMany.j0, if_neg Bool.false_ne_true]) ?_)
  obtain ⟨m, rfl⟩ := Int.eq_ofNat_of_zero_le (show 0 ≤ n by omega)
  obtain ⟨a, rfl⟩ := Int.eq_ofNat_of_zero_le (show 0 ≤ key by omega)
  obtain ⟨v, rfl⟩ := Int.eq_ofNat_of_zero_le (show 0 ≤ value by omega)
  exact loop m a v (by omega) (by omega) (by omega) m 0 (by omega)
end Go.Proofs.Ytdefoinlpepolaa.Pure
