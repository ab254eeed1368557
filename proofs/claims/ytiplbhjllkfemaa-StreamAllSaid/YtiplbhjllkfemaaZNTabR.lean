/-
  What the document's answer (incipitref1) tells of a character is what the program's rows tell: class, map, taken apart.
-/
import Derived.Test.YtiplbhjllkfemaaZNChars
import Derived.Test.YtiplbhjllkfemaaZUtf
import Derived.Test.YtiplbhjllkfemaaZMStx13
import Derived.KernelRfl
namespace Go.Proofs.Ytiplbhjllkfemaa.NTabR
open Go.RowKit Go.Proofs.YtiplbhjllkfemaaW.PrintWords Go.Proofs.Ytiplbhjllkfemaa.MSt Go.Proofs.Ytiplbhjllkfemaa.NOrd Go.Proofs.Ytiplbhjllkfemaa.NWin Go.Proofs.Ytiplbhjllkfemaa.NTab
open Go.Proofs.Ytiplbhjllkfemaa.NChars hiding w64
open Go.Proofs.Ytiplbhjllkfemaa.Utf (bnums bnums_inj bnums_extract)

theorem bnums_mkb (l : List UInt8) : bnums (mkb l) = l.map fun b => (b.toNat : Int) := rfl
theorem extract_row {s : ByteArray} {pre w post : List UInt8} (h : s.data.toList = pre ++ w ++ post) : s.extract pre.length (pre.length + w.length) = mkb w := by
  refine bnums_inj ?_
  have e : bnums s = pre.map (fun b : UInt8 => (b.toNat : Int)) ++ w.map (fun b : UInt8 => (b.toNat : Int)) ++ post.map (fun b : UInt8 => (b.toNat : Int)) := by
    unfold bnums; rw [h]; simp
  rw [bnums_extract, bnums_mkb, e, List.take_append_of_le_length (by simp), List.take_of_length_le (by simp), List.drop_append_of_le_length (by simp)]
  simp

/-- The lines of a text of lines. -/
theorem lines_l0 (s : ByteArray) (hs : (s.size : Int) ≤ 1000000000) (r : List ByteArray) : ∀ (rows : List (List UInt8)) (pre : List UInt8) (acc : List ByteArray), s.data.toList = pre ++ rows.flatten → (rows.all okl) = true → acc.length + rows.length ≤ 100000 →
    r = acc ++ rows.map (fun b => mkb b.dropLast) → Evr (fun k => incipitref1_lines.l0 k s acc pre.length pre.length) r
  | [], pre, acc, hd, _, _, hr => by
    have h1 : s.data.toList.length = pre.length := by rw [hd]; simp
    have h2 : s.data.toList.length = s.size := Array.length_toList
    refine Evr.succ (h := fun _ => some acc) (fun k => ?_) (Evr.of fun _ => by rw [hr]; simp)
    rw [incipitref1_lines.l0, if_neg (by omega)]
  | b :: rows, pre, acc, hd, hok, hl, hr => by
    simp only [List.all_cons, Bool.and_eq_true] at hok
    obtain ⟨h1, h2⟩ := hok
    have hd' : s.data.toList = pre ++ b ++ rows.flatten := by rw [hd]; simp
    have W := Win.of hd' hs
    have hfit := W.fits
    rw [mkb_size] at hfit
    simp only [okl, Bool.and_eq_true, decide_eq_true_eq] at h1
    obtain ⟨⟨hb0, hb1⟩, hb2⟩ := h1
    obtain ⟨w, z, rfl⟩ : ∃ w z, b = w ++ [z] := ⟨b.dropLast, b.getLast (by intro e; subst e; simp at hb0), (List.dropLast_concat_getLast _).symm⟩
    rw [List.dropLast_concat] at hb2
    have hlw : ((w ++ [z]).length : Int) = w.length + 1 := by simp
    rw [hlw] at hb1 hfit
    have hex : s.extract pre.length (pre.length + w.length) = mkb w := extract_row (post := z :: rows.flatten) (by rw [hd']; simp)
    have ih := lines_l0 s hs r rows (pre ++ (w ++ [z])) (acc ++ [mkb w]) (by rw [hd']) h2 (by simp at hl ⊢; omega) (by rw [hr]; simp)
    have go : ∀ (n : Nat) (j : Nat), w.length - j = n → j ≤ w.length → Evr (fun k => incipitref1_lines.l0 k s acc pre.length ((pre.length : Int) + j)) r := by
      intro n
      induction n with
      | zero =>
        intro j hj hj2
        have : j = w.length := by omega
        subst this
        refine Evr.succ (fun k => ?_) ih
        have hat := W.at_ w.length (by omega) (by rw [mkb_size, hlw]; omega)
        have e10 : bt (mkb (w ++ [z])) w.length = 10 := by rw [show ((w.length : Int) + 1 - 1) = w.length by omega] at hb1; exact hb1
        rw [incipitref1_lines.l0, if_pos (by omega), if_pos (by omega), hat, if_pos e10, if_pos (by omega), if_pos (by omega), if_pos (by omega), if_pos (by simp at hl; omega), w64 (by omega) (by omega)]
        rw [show (((pre.length : Int)).toNat) = pre.length by omega, show ((pre.length : Int) + w.length).toNat = pre.length + w.length by omega, hex]
        rw [List.length_append, Int.natCast_add, hlw, Int.add_assoc]
      | succ n ihn =>
        intro j hj hj2
        have hrec := ihn (j + 1) (by omega) (by omega)
        refine Evr.succ (fun k => ?_) hrec
        have hat := W.at_ j (by omega) (by rw [mkb_size, hlw]; omega)
        have hne : bt (mkb (w ++ [z])) j ≠ 10 := by
          rw [bt_mkb]
          have h5 : (mkb (w ++ [z])).data.toList[(j : Int).toNat]? = some (w[j]'(by omega)) := by
            show (w ++ [z])[(j : Int).toNat]? = _
            rw [Int.toNat_natCast, List.getElem?_append_left (by omega), List.getElem?_eq_getElem (by omega)]
          rw [h5]
          intro h6
          have h7 : ((w[j]'(by omega)).toNat : Int) = 10 := h6
          have h4 := List.all_eq_true.1 hb2 (w[j]'(by omega)) (List.getElem_mem _)
          have h8 : (w[j]'(by omega)) = 10 := UInt8.toNat_inj.1 (by have : (10 : UInt8).toNat = 10 := rfl; omega)
          rw [h8] at h4
          cases h4
        rw [incipitref1_lines.l0, if_pos (by omega), if_pos (by omega), hat, if_neg hne, w64 (by omega) (by omega)]
        rw [show (pre.length : Int) + j + 1 = pre.length + ((j + 1 : Nat) : Int) by omega]
    have := go w.length 0 (by omega) (by omega)
    simpa using this
theorem lines_f {s : ByteArray} (hs : (s.size : Int) ≤ 1000000000) {rows : List (List UInt8)} (hd : s.data.toList = rows.flatten) (hok : (rows.all okl) = true) (hl : rows.length ≤ 100000) :
    Evr (fun k => incipitref1_lines.f k s) (rows.map fun b => mkb b.dropLast) :=
  lines_l0 s hs _ rows [] [] (by simpa using hd) hok (by simpa using hl) (by simp)

def clsR : List (List UInt8 × Int × Int × Int) → Int → Int
  | [], _ => 0
  | (_, f, t, v) :: r, c => if c ≥ f then (if c ≤ t then v else clsR r c) else clsR r c
def lookR : List (List UInt8 × Int × List Int) → Int → List Int
  | [], _ => []
  | (_, f, l) :: r, c => if f = c then l else lookR r c
def ascc : List (List UInt8 × Int × Int × Int) → Int → Bool
  | [], _ => true
  | (_, f, t, _) :: r, lo => decide (lo < f) && decide (f ≤ t) && ascc r t
def ascm : List (List UInt8 × Int × List Int) → Int → Bool
  | [], _ => true
  | (_, f, _) :: r, lo => decide (lo < f) && ascm r f
theorem clsR_low : ∀ (rows : List (List UInt8 × Int × Int × Int)) (lo c : Int), ascc rows lo = true → c ≤ lo → clsR rows c = 0
  | [], _, _, _, _ => rfl
  | (b, f, t, v) :: r, lo, c, h, hc => by
    simp only [ascc, Bool.and_eq_true, decide_eq_true_eq] at h
    rw [clsR, if_neg (by omega), clsR_low r t c h.2 (by omega)]
theorem clsR_cls : ∀ (rows : List (List UInt8 × Int × Int × Int)) (lo c : Int), ascc rows lo = true → clsR rows c = cls rows c
  | [], _, _, _ => rfl
  | (b, f, t, v) :: r, lo, c, h => by
    simp only [ascc, Bool.and_eq_true, decide_eq_true_eq] at h
    rw [clsR, cls, clsR_cls r t c h.2]
    by_cases h1 : f > c
    · rw [if_pos h1, if_neg (by omega), ← clsR_cls r t c h.2, clsR_low r t c h.2 (by omega)]
    · rw [if_neg h1, if_pos (by omega)]
theorem lookR_low : ∀ (rows : List (List UInt8 × Int × List Int)) (lo c : Int), ascm rows lo = true → c ≤ lo → lookR rows c = []
  | [], _, _, _, _ => rfl
  | (b, f, l) :: r, lo, c, h, hc => by
    simp only [ascm, Bool.and_eq_true, decide_eq_true_eq] at h
    rw [lookR, if_neg (by omega), lookR_low r f c h.2 (by omega)]
theorem lookR_lookm : ∀ (rows : List (List UInt8 × Int × List Int)) (lo c : Int), ascm rows lo = true → lookR rows c = lookm rows c
  | [], _, _, _ => rfl
  | (b, f, l) :: r, lo, c, h => by
    simp only [ascm, Bool.and_eq_true, decide_eq_true_eq] at h
    rw [lookR, lookm]
    by_cases h1 : f < c
    · rw [if_pos h1, if_neg (by omega), lookR_lookm r f c h.2]
    · rw [if_neg h1]
      by_cases h2 : f = c
      · rw [if_pos h2, if_pos h2]
      · rw [if_neg h2, if_neg h2, lookR_low r f c h.2 (by omega)]

theorem rd_line (d : ByteArray) (pre : List ByteArray) (x : ByteArray) (post : List ByteArray) : rdOf d (pre ++ x :: post) pre.length = x := by simp [rdOf]
def chkcR : List (List UInt8 × Int × Int × Int) → Bool
  | [] => true
  | (b, f, t, v) :: r => (match incipitref1_words.f 40 (mkb b.dropLast) with
      | some ws => decide (ws.length = 3) && decide (incipitref1_number.f 20 (rdOf ByteArray.empty ws 0) 16 = some f) && decide (incipitref1_number.f 20 (rdOf ByteArray.empty ws 1) 16 = some t) && decide (incipitref1_number.f 20 (rdOf ByteArray.empty ws 2) 10 = some v)
      | none => false) && chkcR r
theorem chkcR_ok : chkcR crow = true := by decide +kernel
theorem rclass_l0 (c : Int) : ∀ (rows : List (List UInt8 × Int × Int × Int)) (pre : List ByteArray), chkcR rows = true → pre.length + rows.length ≤ 100000 →
    Evr (fun k => incipitref1_Class.l0 k c (pre ++ rows.map fun r => mkb r.1.dropLast) pre.length) (clsR rows c)
  | [], pre, _, hl => by
    refine Evr.succ (h := fun _ => some 0) (fun k => ?_) (Evr.of fun _ => rfl)
    rw [incipitref1_Class.l0, if_neg (by simp)]
  | (b, f, t, v) :: r, pre, h, hl => by
    simp only [chkcR, Bool.and_eq_true] at h
    obtain ⟨h1, h2⟩ := h
    simp only [List.length_cons] at hl
    split at h1
    · rename_i ws hw
      simp only [Bool.and_eq_true, decide_eq_true_eq] at h1
      obtain ⟨⟨⟨h3, h4⟩, h5⟩, h6⟩ := h1
      have g1 : Evr (fun k => incipitref1_words.f k (mkb b.dropLast)) ws := Evr.up (fun k => incipitref1_words.mono _ k) hw
      have g2 : Evr (fun k => incipitref1_number.f k (rdOf ByteArray.empty ws 0) 16) f := Evr.up (fun k => incipitref1_number.mono _ _ k) h4
      have g3 : Evr (fun k => incipitref1_number.f k (rdOf ByteArray.empty ws 1) 16) t := Evr.up (fun k => incipitref1_number.mono _ _ k) h5
      have g4 : Evr (fun k => incipitref1_number.f k (rdOf ByteArray.empty ws 2) 10) v := Evr.up (fun k => incipitref1_number.mono _ _ k) h6
      have ih := rclass_l0 c r (pre ++ [mkb b.dropLast]) h2 (by rw [List.length_append, List.length_singleton]; omega)
      have el : pre ++ [mkb b.dropLast] ++ r.map (fun r => mkb r.1.dropLast) = pre ++ ((b, f, t, v) :: r).map (fun r => mkb r.1.dropLast) := by simp
      rw [el, List.length_append, List.length_singleton, Int.natCast_add] at ih
      have hlen : ((pre ++ ((b, f, t, v) :: r).map (fun r => mkb r.1.dropLast)).length : Int) = pre.length + 1 + r.length := by simp; omega
      refine Evr.succ (fun k => by rw [incipitref1_Class.l0, if_pos (by omega), if_pos (by omega), List.map_cons, rd_line]) (Evr.bind g1 ?_)
      refine Evr.congr (fun k => if_pos (by omega)) (Evr.bind g2 ?_)
      rw [clsR]
      have nx : Evr (fun k => incipitref1_Class.l0 k c (pre ++ mkb b.dropLast :: r.map (fun r => mkb r.1.dropLast)) (wrap64 ((pre.length : Int) + 1))) (clsR r c) := by
        rw [w64 (by omega) (by omega)]; exact ih
      by_cases c1 : c ≥ f
      · rw [if_pos c1]
        refine Evr.congr (fun k => by rw [if_pos c1, if_pos (by omega)]) (Evr.bind g3 ?_)
        by_cases c2 : c ≤ t
        · rw [if_pos c2]
          exact Evr.congr (fun k => by rw [if_pos c2, if_pos (by omega)]) (Evr.bind g4 (Evr.of fun _ => rfl))
        · rw [if_neg c2]
          exact Evr.congr (fun k => if_neg c2) nx
      · rw [if_neg c1]
        exact Evr.congr (fun k => if_neg c1) nx
    · cases h1
theorem okc : ((crow.map (·.1)).all okl) = true := by decide +kernel
theorem okm : ((mrow.map (·.1)).all okl) = true := by decide +kernel
theorem rclass_f (c : Int) : Evr (fun k => incipitref1_Class.f k c) (clf c) := by
  unfold clf
  by_cases h : c < 768
  · rw [if_pos h]; exact Evr.of fun k => by unfold incipitref1_Class.f; rw [if_pos h]
  · rw [if_neg h, ← clsR_cls crow 0 c (by decide +kernel)]
    have hl := lines_f (s := lit_73ae92) (by have := csize; omega) crow_all okc (by decide +kernel)
    refine Evr.congr (fun k => by unfold incipitref1_Class.f; rw [if_neg h]) (Evr.bind hl ?_)
    have := rclass_l0 c crow [] chkcR_ok (by decide +kernel)
    rw [List.map_map]
    exact this

def chkmR : List (List UInt8 × Int × List Int) → Bool
  | [] => true
  | (b, f, l) :: r => (match incipitref1_words.f 60 (mkb b.dropLast) with
      | some ws => decide (0 < ws.length) && decide (incipitref1_number.f 20 (rdOf ByteArray.empty ws 0) 16 = some f) && decide (incipitref1_Map.l1 40 ws [] 1 = some l)
      | none => false) && chkmR r
theorem chkmR_ok : chkmR mrow = true := by decide +kernel
theorem rmap_l1_up (a : List ByteArray) (l : List Int) (i : Int) : ∀ k r, incipitref1_Map.l1 k a l i = some r → incipitref1_Map.l1 (k + 1) a l i = some r := fun k => (incipitref1_Map.mono_l k).2 a l i
theorem rmap_l0 (c : Int) : ∀ (rows : List (List UInt8 × Int × List Int)) (pre : List ByteArray), chkmR rows = true → pre.length + rows.length ≤ 100000 →
    Evr (fun k => incipitref1_Map.l0 k c (pre ++ rows.map fun r => mkb r.1.dropLast) pre.length) (lookR rows c)
  | [], pre, _, hl => by
    refine Evr.succ (h := fun _ => some []) (fun k => ?_) (Evr.of fun _ => rfl)
    rw [incipitref1_Map.l0, if_neg (by simp)]
  | (b, f, l) :: r, pre, h, hl => by
    simp only [chkmR, Bool.and_eq_true] at h
    obtain ⟨h1, h2⟩ := h
    simp only [List.length_cons] at hl
    split at h1
    · rename_i ws hw
      simp only [Bool.and_eq_true, decide_eq_true_eq] at h1
      obtain ⟨⟨h3, h4⟩, h5⟩ := h1
      have g1 : Evr (fun k => incipitref1_words.f k (mkb b.dropLast)) ws := Evr.up (fun k => incipitref1_words.mono _ k) hw
      have g2 : Evr (fun k => incipitref1_number.f k (rdOf ByteArray.empty ws 0) 16) f := Evr.up (fun k => incipitref1_number.mono _ _ k) h4
      have g3 : Evr (fun k => incipitref1_Map.l1 k ws [] 1) l := Evr.up (rmap_l1_up ws [] 1) h5
      have ih := rmap_l0 c r (pre ++ [mkb b.dropLast]) h2 (by rw [List.length_append, List.length_singleton]; omega)
      have el : pre ++ [mkb b.dropLast] ++ r.map (fun r => mkb r.1.dropLast) = pre ++ ((b, f, l) :: r).map (fun r => mkb r.1.dropLast) := by simp
      rw [el, List.length_append, List.length_singleton, Int.natCast_add] at ih
      have hlen : ((pre ++ ((b, f, l) :: r).map (fun r => mkb r.1.dropLast)).length : Int) = pre.length + 1 + r.length := by simp; omega
      refine Evr.succ (fun k => by rw [incipitref1_Map.l0, if_pos (by omega), if_pos (by omega), List.map_cons, rd_line]) (Evr.bind g1 ?_)
      refine Evr.congr (fun k => if_pos (by omega)) (Evr.bind g2 ?_)
      rw [lookR]
      by_cases c1 : f = c
      · rw [if_pos c1]
        exact Evr.congr (fun k => if_pos c1) g3
      · rw [if_neg c1]
        refine Evr.congr (fun k => if_neg c1) ?_
        rw [w64 (by omega) (by omega)]; exact ih
    · cases h1
theorem rmap_f (c : Int) : Evr (fun k => incipitref1_Map.f k c) (mapf c) := by
  unfold mapf
  by_cases h : c < 192
  · rw [if_pos h]; exact Evr.of fun k => by unfold incipitref1_Map.f; rw [if_pos h]
  · rw [if_neg h, ← lookR_lookm mrow 0 c (by decide +kernel)]
    have hl := lines_f (s := lit_31b68b) (by have := msize; omega) mrow_all okm (by decide +kernel)
    refine Evr.congr (fun k => by unfold incipitref1_Map.f; rw [if_neg h]) (Evr.bind hl ?_)
    have := rmap_l0 c mrow [] chkmR_ok (by decide +kernel)
    rw [List.map_map]
    exact this
theorem rapart_f (c : Int) : Evr (fun k => incipitref1_Apart.f k c) (apt c) := by
  unfold incipitref1_Apart.f apt
  have hs : Evr (fun k => incipitref1_Split.f k c) (letters c) := ⟨2000, fun k hk => ra_f k c hk⟩
  refine Evr.bind hs ?_
  by_cases h : letters c = []
  · rw [if_pos h]
    refine Evr.congr (fun k => if_pos h) (Evr.bind (rmap_f c) ?_)
    by_cases h2 : mapf c = []
    · rw [if_pos h2]; exact Evr.of fun _ => by rw [if_pos h2]
    · rw [if_neg h2]; exact Evr.of fun _ => by rw [if_neg h2]
  · rw [if_neg h]; exact Evr.of fun _ => by rw [if_neg h]

/-! ### the document's Chars -/
theorem rd_at (u : List Int) (c : Int) (v : List Int) {i : Int} (h : i = u.length) : rd (u ++ c :: v) i = c := by subst h; simp [rd]
theorem set_at (u : List Int) (c d : Int) (v : List Int) {i : Int} (h : i = u.length) : (u ++ c :: v).set i.toNat d = u ++ d :: v := by subst h; simp
theorem bubble (x0 x6 : List Int) (x5 x7 : Int) (c : Int) (r : List Int) : ∀ (n : Nat) (s1 : List Int), s1.length = n → ∀ (s2 : List Int), s1.length + s2.length ≤ 1000000000000 →
    Evr (fun k => incipitref1_Chars.l1 k x0 ((insr clf c s1.reverse).reverse ++ s2) (((insr clf c s1.reverse).reverse ++ s2).map clf) x5 x6 (wrap64 (x7 + 1))) r →
    Evr (fun k => incipitref1_Chars.l2 k x0 (s1 ++ c :: s2) ((s1 ++ c :: s2).map clf) x5 x6 x7 s1.length) r := by
  intro n
  induction n with
  | zero =>
    intro s1 h1 s2 hl hr
    obtain rfl := List.eq_nil_of_length_eq_zero h1
    refine Evr.succ (fun k => ?_) hr
    rw [incipitref1_Chars.l2, if_neg (by simp)]; rfl
  | succ n ih =>
    intro s1 h1 s2 hl hr
    obtain ⟨s0, d, rfl⟩ : ∃ s0 d, s1 = s0 ++ [d] := ⟨s1.dropLast, s1.getLast (by intro e; subst e; simp at h1), (List.dropLast_concat_getLast _).symm⟩
    have h0 : s0.length = n := by simpa using h1
    have hl1 : ((s0 ++ [d]).length : Int) = s0.length + 1 := by simp
    simp only [List.length_append, List.length_singleton] at hl
    have ec : (s0 ++ [d] ++ c :: s2).map clf = (s0.map clf ++ [clf d]) ++ clf c :: s2.map clf := by simp
    have ed : (s0 ++ [d] ++ c :: s2).map clf = s0.map clf ++ clf d :: (clf c :: s2.map clf) := by simp
    have lc : (((s0 ++ [d] ++ c :: s2).map clf).length : Int) = s0.length + 2 + s2.length := by simp; omega
    have lo : ((s0 ++ [d] ++ c :: s2).length : Int) = s0.length + 2 + s2.length := by simp; omega
    have q1 : rd ((s0 ++ [d] ++ c :: s2).map clf) ((s0.length : Int) + 1) = clf c := by rw [ec]; exact rd_at _ _ _ (by simp)
    have q2 : rd ((s0 ++ [d] ++ c :: s2).map clf) (s0.length : Int) = clf d := by rw [ed]; exact rd_at _ _ _ (by simp)
    have o1 : rd (s0 ++ [d] ++ c :: s2) ((s0.length : Int) + 1) = c := rd_at _ _ _ (by simp)
    have o2 : rd (s0 ++ [d] ++ c :: s2) (s0.length : Int) = d := by
      have : s0 ++ [d] ++ c :: s2 = s0 ++ d :: (c :: s2) := by simp
      rw [this]; exact rd_at _ _ _ rfl
    have e1 : ((s0 ++ [d] ++ c :: s2).set (s0.length : Int).toNat c).set ((s0.length : Int) + 1).toNat d = s0 ++ c :: (d :: s2) := by
      have : s0 ++ [d] ++ c :: s2 = s0 ++ d :: (c :: s2) := by simp
      rw [this, set_at _ _ _ _ rfl]
      have : s0 ++ c :: (c :: s2) = (s0 ++ [c]) ++ c :: s2 := by simp
      rw [this, set_at _ _ _ _ (by simp)]; simp
    have e2 : (((s0 ++ [d] ++ c :: s2).map clf).set (s0.length : Int).toNat (clf c)).set ((s0.length : Int) + 1).toNat (clf d) = (s0 ++ c :: (d :: s2)).map clf := by
      rw [ed, set_at _ _ _ _ (by simp)]
      have : s0.map clf ++ clf c :: (clf c :: s2.map clf) = (s0.map clf ++ [clf c]) ++ clf c :: s2.map clf := by simp
      rw [this, set_at _ _ _ _ (by simp)]; simp
    rw [hl1]
    rw [List.reverse_append, List.reverse_singleton, List.singleton_append, insr] at hr
    by_cases hc : 0 < clf c ∧ clf c < clf d
    · rw [if_pos hc] at hr
      have := ih s0 h0 (d :: s2) (by simp; omega) (by simpa using hr)
      refine Evr.succ (fun k => ?_) this
      rw [incipitref1_Chars.l2, if_pos (by omega), if_pos (by omega), if_pos (by omega), q1, if_pos hc.1, w64 (x := (s0.length : Int) + 1 - 1) (by omega) (by omega), show (s0.length : Int) + 1 - 1 = s0.length by omega, if_pos (by omega), if_pos (by omega), q2, if_pos hc.2, if_pos (by omega), if_pos (by omega), o1, o2, e1, e2]
    · rw [if_neg hc] at hr
      have er : (c :: d :: s0.reverse).reverse ++ s2 = s0 ++ [d] ++ c :: s2 := by simp
      rw [er] at hr
      refine Evr.succ (fun k => ?_) hr
      rw [incipitref1_Chars.l2, if_pos (by omega), if_pos (by omega), if_pos (by omega), q1, w64 (x := (s0.length : Int) + 1 - 1) (by omega) (by omega), show (s0.length : Int) + 1 - 1 = s0.length by omega]
      by_cases h2 : clf c > 0
      · rw [if_pos h2, if_pos (by omega), if_pos (by omega), q2, if_neg (by omega)]
      · rw [if_neg h2]
theorem rchars_l1 (x0 : List Int) (x5 : Int) (r : List Int) : ∀ (rest pre R : List Int), R.length + rest.length ≤ 100000000000 → pre.length + rest.length ≤ 100000000000 →
    Evr (fun k => incipitref1_Chars.l0 k x0 ((ordr clf R rest).reverse) ((ordr clf R rest).reverse.map clf) (wrap64 (x5 + 1))) r →
    Evr (fun k => incipitref1_Chars.l1 k x0 R.reverse (R.reverse.map clf) x5 (pre ++ rest) pre.length) r
  | [], pre, R, hl, hl2, hr => by
    refine Evr.succ (fun k => ?_) hr
    rw [incipitref1_Chars.l1, if_neg (by simp)]; rfl
  | c :: rest, pre, R, hl, hl2, hr => by
    simp only [List.length_cons] at hl hl2
    rw [ordr_cons] at hr
    have li := (insr_perm clf c R).length_eq
    simp only [List.length_cons] at li
    have ih := rchars_l1 x0 x5 r rest (pre ++ [c]) (insr clf c R) (by omega) (by rw [List.length_append, List.length_singleton]; omega) hr
    have el : pre ++ [c] ++ rest = pre ++ c :: rest := by simp
    rw [el, List.length_append, List.length_singleton, Int.natCast_add] at ih
    have hb := bubble x0 (pre ++ c :: rest) x5 pre.length c r R.reverse.length R.reverse rfl [] (by simp; omega) (by
      rw [List.reverse_reverse, List.append_nil, w64 (by omega) (by omega)]; exact ih)
    have hrd : rd (pre ++ c :: rest) pre.length = c := rd_at _ _ _ rfl
    have hy : ((R.reverse ++ [c]).length : Int) = R.length + 1 := by simp
    refine Evr.succ (fun k => by rw [incipitref1_Chars.l1, if_pos (by simp; omega), if_pos (by omega), if_pos (by rw [List.length_reverse]; omega), Option.bind_some, hrd]) (Evr.bind (rclass_f c) ?_)
    refine Evr.congr (fun k => by rw [if_pos (show (R.reverse.map clf).length < 17592186044416 by simp; omega), hy, w64 (by omega) (by omega)]) ?_
    rw [show (R.length : Int) + 1 - 1 = R.reverse.length by simp]
    rw [List.map_append] at hb
    exact hb
theorem rchars_l0 (l : List Int) (hl : l.length ≤ 10000000000) : ∀ (rest pre R : List Int), l = pre ++ rest → R.length ≤ 5 * pre.length → Evr (fun k => incipitref1_Chars.l0 k l R.reverse (R.reverse.map clf) pre.length) ((ordr clf R (expand rest)).reverse)
  | [], pre, R, e, hR => by
    rw [List.append_nil] at e
    subst e
    refine Evr.succ (h := fun _ => some R.reverse) (fun k => ?_) (Evr.of fun _ => rfl)
    rw [incipitref1_Chars.l0, if_neg (by omega)]
  | c :: rest, pre, R, e, hR => by
    have hlen : l.length = pre.length + 1 + rest.length := by rw [e]; simp; omega
    have ha := apt_len c
    have hrd : rd l pre.length = c := by rw [e]; exact rd_at _ _ _ rfl
    have lo := (ordr_perm clf (apt c) R).length_eq
    rw [List.length_append] at lo
    have ih := rchars_l0 l hl rest (pre ++ [c]) (ordr clf R (apt c)) (by rw [e]; simp) (by rw [List.length_append, List.length_singleton]; omega)
    rw [List.length_append, List.length_singleton, Int.natCast_add] at ih
    have ex : expand (c :: rest) = apt c ++ expand rest := rfl
    rw [ex, ordr_append]
    have := rchars_l1 l pre.length _ (apt c) [] R (by omega) (by simp; omega) (by rw [w64 (by omega) (by omega)]; exact ih)
    refine Evr.succ (fun k => by rw [incipitref1_Chars.l0, if_pos (by omega), if_pos (by omega), hrd]) (Evr.bind (rapart_f c) ?_)
    simpa using this
theorem rchars_f (l : List Int) (hl : l.length ≤ 10000000000) : Evr (fun k => incipitref1_Chars.f k l) (canon l) := by
  have := rchars_l0 l hl l [] [] rfl (by simp)
  exact this
end Go.Proofs.Ytiplbhjllkfemaa.NTabR
