/-
  PickLevels, walked.
-/
import Derived.Test.YtjhijcehcklipaaZVeP5
import Derived.Test.YtjhijcehcklipaaZVeW17
import Derived.Test.YtjhijcehcklipaaZVeP7
namespace Go.Proofs.Ytjhijcehcklipaa.MVe
open Go.RowKit Go.Proofs.YtjhijcehcklipaaW.PrintWords Go.Proofs.YtjhijcehcklipaaW.PrintLast Go.Proofs.YtjhijcehcklipaaW.PrintMore
set_option linter.unusedVariables false
set_option linter.unusedSimpArgs false

def nP (ms : List Int) (i : Nat) : Int := if Int.tmod (ms.getD i 0) 20000 < 0 then -(Int.tmod (ms.getD i 0) 20000) else Int.tmod (ms.getD i 0) 20000
theorem nP_in (ms : List Int) (i : Nat) : 0 ≤ nP ms i ∧ nP ms i < 20000 := by
  unfold nP
  have h1 := Int.tmod_lt_of_pos (ms.getD i 0) (show (0 : Int) < 20000 by decide)
  have h2 := Int.lt_tmod_of_pos (ms.getD i 0) (show (0 : Int) < 20000 by decide)
  split <;> omega
def tabP (ms : List Int) (i : Nat) : S41 := ⟨(i : Int) + 1, 1 + ((i % 4 : Nat) : Int), nP ms i, s1 (97 + i), s1 (97 + i)⟩
def tabsP (ms : List Int) (n : Nat) : List S41 := (List.range n).map (tabP ms)
theorem tabsP_succ (ms : List Int) (n : Nat) : tabsP ms (n + 1) = tabsP ms n ++ [tabP ms n] := by unfold tabsP; rw [List.range_succ, List.map_append]; rfl
theorem tabsP_len (ms : List Int) (n : Nat) : (tabsP ms n).length = n := by unfold tabsP; rw [List.length_map, List.length_range]
theorem tabsP_mem {ms : List Int} {n : Nat} {x : S41} (h : x ∈ tabsP ms n) : ∃ i, i < n ∧ x = tabP ms i := by
  obtain ⟨i, hi, rfl⟩ := List.mem_map.1 h
  exact ⟨i, List.mem_range.1 hi, rfl⟩
theorem tabsP_in {ms : List Int} {n i : Nat} (h : i < n) : tabP ms i ∈ tabsP ms n := List.mem_map.2 ⟨i, List.mem_range.2 h, rfl⟩
theorem tabsP_pair {ms : List Int} {n : Nat} {R : S41 → S41 → Prop} (h : ∀ i j, i < j → j < n → R (tabP ms i) (tabP ms j)) : (tabsP ms n).Pairwise R := by
  rw [List.pairwise_iff_getElem]
  intro i j hi hj hij
  have hj' : j < n := by rw [tabsP_len] at hj; exact hj
  have e : ∀ k (hk : k < (tabsP ms n).length), (tabsP ms n)[k] = tabP ms k := fun k hk => by simp [tabsP]
  rw [e i hi, e j hj]
  exact h i j hij hj'
theorem levels_ap {ms : List Int} {n : Nat} (hn : n ≤ 12) : apV ⟨[], 1, 0, 0⟩ 50 0 0 (tabsP ms n) [] = some ⟨tabsP ms n, 50, 0, 0⟩ := by
  refine apV_adds (by omega) (tabsP_pair fun i j hij hj => by show (i : Int) + 1 ≠ (j : Int) + 1; omega) (fun x hx => ?_) (tabsP_pair fun i j hij hj => ?_) (by rw [tabsP_len]; omega)
  · obtain ⟨i, hi, rfl⟩ := tabsP_mem hx
    refine ⟨?_, by show (i : Int) + 1 < 50; omega⟩
    have hs := nP_in ms i
    rw [fileOk_iff]
    refine ⟨⟨by show 1 ≤ (i : Int) + 1; omega, by show (i : Int) + 1 ≤ _; omega⟩, ⟨by show 0 ≤ 1 + ((i % 4 : Nat) : Int); omega, by show 1 + ((i % 4 : Nat) : Int) ≤ 4; omega⟩, ⟨hs.1, by show nP ms i ≤ _; omega⟩, ?_, ?_, ?_⟩
    · exact leS_refl _
    · show ((s1 (97 + i)).size : Int) ≤ 13000; rw [s1_size]; decide
    · show ((s1 (97 + i)).size : Int) ≤ 13000; rw [s1_size]; decide
  · unfold hit
    rw [meet_s1 (x := 97 + (j : Int)) (y := 97 + j) (z := 97 + (i : Int)) (u := 97 + i) (by omega) (by omega) (by omega) (by omega) rfl rfl rfl rfl]
    rw [decide_eq_false (show ¬ (max (97 + (j : Int)) (97 + i) ≤ min (97 + (j : Int)) (97 + i)) by omega), Bool.and_false]
theorem levels_good {ms : List Int} {n : Nat} (hn : n ≤ 12) : VGood ⟨tabsP ms n, 50, 0, 0⟩ := VGood.start.ap (levels_ap hn)
/-- A level's sum. -/
def sumP (ms : List Int) (lv : Int) : Nat → Int
  | 0 => 0
  | i + 1 => sumP ms lv i + (if 1 + ((i % 4 : Nat) : Int) = lv then nP ms i else 0)
theorem sumS_acc (xs : List S41) : ∀ a : Int, xs.foldl (fun s f => s + f.f2) a = a + sumS xs := by
  unfold sumS
  induction xs with
  | nil => intro a; simp
  | cons x r ih => intro a; rw [List.foldl_cons, List.foldl_cons, ih, ih (0 + x.f2)]; omega
theorem sumS_cons (x : S41) (r : List S41) : sumS (x :: r) = x.f2 + sumS r := by
  have h : sumS (x :: r) = r.foldl (fun s f => s + f.f2) (0 + x.f2) := rfl
  rw [h, sumS_acc]; omega
theorem sumS_append (xs ys : List S41) : sumS (xs ++ ys) = sumS xs + sumS ys := by
  induction xs with
  | nil => have : sumS [] = 0 := rfl; rw [List.nil_append, this]; omega
  | cons x r ih => rw [List.cons_append, sumS_cons, sumS_cons, ih]; omega
theorem sumS_perm {xs ys : List S41} (h : xs.Perm ys) : sumS xs = sumS ys := by
  induction h with
  | nil => rfl
  | cons x _ ih => rw [sumS_cons, sumS_cons, ih]
  | swap x y l => rw [sumS_cons, sumS_cons, sumS_cons, sumS_cons]; omega
  | trans _ _ h1 h2 => rw [h1, h2]
theorem sumP_eq (ms : List Int) (lv : Int) : ∀ n, sumS ((tabsP ms n).filter fun x => x.f1 == lv) = sumP ms lv n
  | 0 => rfl
  | n + 1 => by
    rw [tabsP_succ, List.filter_append, sumS_append, sumP_eq ms lv n, sumP]
    congr 1
    rw [List.filter_cons, List.filter_nil]
    by_cases h : 1 + ((n % 4 : Nat) : Int) = lv
    · rw [if_pos h, if_pos (show ((tabP ms n).f1 == lv) = true from beq_iff_eq.2 h), sumS_cons]
      have : sumS [] = 0 := rfl
      rw [this]; show nP ms n + 0 = _; omega
    · rw [if_neg h, if_neg (show ¬ ((tabP ms n).f1 == lv) = true from fun e => h (beq_iff_eq.1 e))]; rfl
theorem sum_lev (ms : List Int) (lv : Int) (n : Nat) : sumS (levR lv (tabsP ms n)) = sumP ms lv n := by
  rw [sumS_perm (levR_perm lv _), sumP_eq]
theorem sumP_small (ms : List Int) (lv : Int) : ∀ n : Nat, (n : Int) < lv → sumP ms lv n = 0
  | 0, _ => rfl
  | n + 1, h => by
    rw [sumP, sumP_small ms lv n (by omega), if_neg (by omega)]; rfl
theorem sumP_in (ms : List Int) (lv : Int) : ∀ n : Nat, 0 ≤ sumP ms lv n ∧ sumP ms lv n ≤ 20000 * n
  | 0 => ⟨Int.le_refl _, Int.le_refl _⟩
  | n + 1 => by
    have ih := sumP_in ms lv n
    have h := nP_in ms n
    rw [sumP]
    split <;> omega
theorem minF_mem : ∀ (xs : List S41) (m : S41), (minF m xs = m ∨ minF m xs ∈ xs) ∧ (minF m xs).f0 ≤ m.f0 ∧ ∀ x ∈ xs, (minF m xs).f0 ≤ x.f0
  | [], m => ⟨.inl rfl, Int.le_refl _, fun x h => by cases h⟩
  | y :: r, m => by
    have e : minF m (y :: r) = minF (if y.f0 < m.f0 then y else m) r := rfl
    rw [e]
    obtain ⟨h1, h2, h3⟩ := minF_mem r (if y.f0 < m.f0 then y else m)
    by_cases h : y.f0 < m.f0
    · rw [if_pos h] at h1 h2 h3 ⊢
      refine ⟨.inr ?_, by omega, fun x hx => ?_⟩
      · rcases h1 with h1 | h1
        · rw [h1]; exact List.mem_cons_self
        · exact List.mem_cons_of_mem _ h1
      · rcases List.mem_cons.1 hx with rfl | hx
        · exact h2
        · exact h3 x hx
    · rw [if_neg h] at h1 h2 h3 ⊢
      refine ⟨?_, h2, fun x hx => ?_⟩
      · rcases h1 with h1 | h1
        · exact .inl h1
        · exact .inr (List.mem_cons_of_mem _ h1)
      · rcases List.mem_cons.1 hx with rfl | hx
        · omega
        · exact h3 x hx
theorem minT_mem {xs : List S41} (h : 0 < xs.length) : minT xs ∈ xs ∧ ∀ x ∈ xs, (minT xs).f0 ≤ x.f0 := by
  unfold minT
  have e0 : xs.getD 0 z41 = xs[0] := by rw [List.getD_eq_getElem?_getD, List.getElem?_eq_getElem h, Option.getD_some]
  rw [e0]
  obtain ⟨h1, _, h3⟩ := minF_mem xs xs[0]
  refine ⟨?_, h3⟩
  rcases h1 with h1 | h1
  · rw [h1]; exact List.getElem_mem _
  · exact h1
theorem minT_lev {ms : List Int} {n : Nat} {lv : Nat} (h1 : 1 ≤ lv) (h3 : lv ≤ 4) (hn : lv ≤ n) : minT (levR (lv : Int) (tabsP ms n)) = tabP ms (lv - 1) := by
  have hm : tabP ms (lv - 1) ∈ levR (lv : Int) (tabsP ms n) := (levR_perm _ _).symm.subset (List.mem_filter.2 ⟨tabsP_in (by omega), beq_iff_eq.2 (by show 1 + (((lv - 1) % 4 : Nat) : Int) = lv; omega)⟩)
  obtain ⟨h4, h5⟩ := minT_mem (List.length_pos_of_mem hm)
  have h6 := h5 _ hm
  have h7 := List.mem_filter.1 ((levR_perm _ _).subset h4)
  obtain ⟨i, hi, e⟩ := tabsP_mem h7.1
  rw [e] at h6 h7 ⊢
  have h8 : (i : Int) + 1 ≤ ((lv - 1 : Nat) : Int) + 1 := h6
  have h9 : 1 + ((i % 4 : Nat) : Int) = lv := beq_iff_eq.1 h7.2
  rw [show i = lv - 1 by omega]
theorem over_none {ms : List Int} {n : Nat} (hn : n ≤ 12) {lv : Nat} (h1 : 1 ≤ lv) (h3 : lv ≤ 4) {k : Int} (hk : k ≠ lv) : overL k (s1 (97 + ((lv - 1 : Nat) : Int))) (s1 (97 + ((lv - 1 : Nat) : Int))) (tabsP ms n) = [] := by
  unfold overL overR
  split
  · rfl
  · refine List.filter_eq_nil_iff.2 fun f hf => ?_
    have h7 := List.mem_filter.1 ((levR_perm _ _).subset hf)
    obtain ⟨i, hi, rfl⟩ := tabsP_mem h7.1
    have h9 : 1 + ((i % 4 : Nat) : Int) = k := beq_iff_eq.1 h7.2
    unfold keepO
    rw [show (tabP ms i).f3 = s1 (97 + i) from rfl, show (tabP ms i).f4 = s1 (97 + i) from rfl, leS_s1 (by omega) (by omega), leS_s1 (by omega) (by omega), leS_s1 (by omega) (by omega)]
    rw [Bool.and_eq_true, Bool.and_eq_true, decide_eq_true_eq, decide_eq_true_eq, decide_eq_true_eq]
    omega
theorem bot_true {files : List S41} {a b : ByteArray} {k : Nat} (h : ∀ i : Nat, k ≤ i → overL (i : Int) a b files = []) : ∀ c, botF files a b k c = true
  | 0 => rfl
  | c + 1 => by rw [botF, bot_true h c, h (k + c) (by omega)]; rfl
theorem lo_one (m : S41) : loS [m] = m.f3 := minS_self m.f3
theorem hi_one (m : S41) : hiS [m] = m.f4 := maxS_self m.f4
/-- What a found level's job is. -/
theorem job_at {ms : List Int} {n : Nat} (hn : n ≤ 12) {lv : Nat} (h1 : 1 ≤ lv) (h3 : lv ≤ 3) (hs : sumP ms lv n > bnd lv) (hin : inR (tabsP ms n) = some ((lv : Int), [minT (levR (lv : Int) (tabsP ms n))])) :
    jobR (tabsP ms n) = ⟨lv, [tabP ms (lv - 1)], [], true, true⟩ := by
  have hlv : lv ≤ n := by
    rcases Nat.lt_or_ge n lv with h | h
    · have := sumP_small ms lv n (by omega)
      have := bnd_in lv
      omega
    · exact h
  have hD : inD (tabsP ms n) = ((lv : Int), [tabP ms (lv - 1)]) := by
    unfold inD
    rw [hin, minT_lev h1 (by omega) hlv]; rfl
  have hov : ∀ k : Int, k ≠ lv → overL k (tabP ms (lv - 1)).f3 (tabP ms (lv - 1)).f4 (tabsP ms n) = [] := fun k hk => over_none hn h1 (by omega) hk
  have hbel : belR (tabsP ms n) = [] := by
    unfold belR
    rw [hD]
    show overL ((lv : Int) + 1) (loS [tabP ms (lv - 1)]) (hiS [tabP ms (lv - 1)]) (tabsP ms n) = []
    rw [lo_one, hi_one]
    exact hov _ (by omega)
  unfold jobR
  rw [hbel, hD]
  show (⟨(lv : Int).toNat, [tabP ms (lv - 1)], [], botF (tabsP ms n) (loS ([tabP ms (lv - 1)] ++ [])) (hiS ([tabP ms (lv - 1)] ++ [])) ((lv : Int).toNat + 2) (3 - (lv : Int).toNat), true⟩ : Jb) = _
  rw [List.append_nil, lo_one, hi_one, Int.toNat_natCast, bot_true (fun i hi => hov _ (by omega))]
theorem lev0_nil (ms : List Int) (n : Nat) : levR 0 (tabsP ms n) = [] := by
  have h : (tabsP ms n).filter (fun x => x.f1 == 0) = [] := List.filter_eq_nil_iff.2 fun x hx => by
    obtain ⟨i, _, rfl⟩ := tabsP_mem hx
    rw [beq_iff_eq]
    show ¬ 1 + ((i % 4 : Nat) : Int) = 0
    omega
  have h2 := levR_perm 0 (tabsP ms n)
  rw [h] at h2
  exact List.perm_nil.1 h2
theorem in_scan (ms : List Int) (n : Nat) : inR (tabsP ms n) = scanR (tabsP ms n) 3 1 := by
  unfold inR
  rw [lev0_nil, if_neg (by decide)]
theorem job_none {ms : List Int} {n : Nat} (hin : inR (tabsP ms n) = none) : jobR (tabsP ms n) = ⟨0, [], [], false, false⟩ := by
  unfold jobR inD
  rw [hin]; rfl
end Go.Proofs.Ytjhijcehcklipaa.MVe
namespace Go.Proofs.Ytjhijcehcklipaa.MVe
open Go.RowKit Go.Proofs.YtjhijcehcklipaaW.PrintWords Go.Proofs.YtjhijcehcklipaaW.PrintLast Go.Proofs.YtjhijcehcklipaaW.PrintMore
attribute [local go_sem] max2_int min2_int max_two min_two max_three min_three max_four min_four
set_option linter.unusedVariables false
set_option linter.unusedSimpArgs false

/-- A row of ints in a block of a type. -/
def TBlk (w : World) (t b : Nat) (l : List Int) : Prop := w.heap[b]? = some (.cells (l.map (Value.int .i64)).toArray t (0, 0))
theorem TBlk.at_ {w : World} {t b k : Nat} {l : List Int} (h : TBlk w t b l) (hk : k < l.length) : w.cell? ⟨b, k, none⟩ = some (.int .i64 (l.getD k 0)) ∧ w.frozen? ⟨b, k, none⟩ = false := by
  refine ⟨?_, blk_frozen h k⟩
  rw [blk_cell h k]
  simp [hk]
theorem TBlk.set_ {w : World} {t b k : Nat} {l : List Int} (h : TBlk w t b l) (a : Int) : TBlk (w.setCell ⟨b, k, none⟩ (.int .i64 a)) t b (l.set k a) := by
  refine (blk_set h k _).trans ?_
  have e : ((l.map (Value.int .i64)).toArray).setIfInBounds k (.int .i64 a) = ((l.set k a).map (Value.int .i64)).toArray := by simp [List.map_set]
  rw [e]
def sumsP (ms : List Int) (j : Nat) : List Int := (List.range 5).map fun (i : Nat) => sumP ms (Int.ofNat i) j
def leastP (j i : Nat) : Int := if 1 ≤ i ∧ i ≤ j ∧ i ≤ 4 then (i : Int) else 0
def leastsP (j : Nat) : List Int := (List.range 5).map fun (i : Nat) => leastP j i
theorem sumsP_set (ms : List Int) (j : Nat) : (sumsP ms j).set (1 + j % 4) (sumP ms ((1 + j % 4 : Nat) : Int) j + nP ms j) = sumsP ms (j + 1) := by
  refine List.ext_getElem (by simp [sumsP]) fun i h1 h2 => ?_
  rw [List.getElem_set]
  simp only [sumsP, List.getElem_map, List.getElem_range]
  rw [sumP]
  show (if 1 + j % 4 = i then sumP ms ((1 + j % 4 : Nat) : Int) j + nP ms j else sumP ms (i : Int) j) = sumP ms (i : Int) j + (if 1 + ((j % 4 : Nat) : Int) = (i : Int) then nP ms j else 0)
  by_cases h : 1 + j % 4 = i
  · rw [if_pos h, if_pos (by omega), h]
  · rw [if_neg h, if_neg (by omega)]; omega
theorem leastsP_set {j : Nat} (hj : j < 4) : (leastsP j).set (1 + j % 4) ((j : Int) + 1) = leastsP (j + 1) := by
  refine List.ext_getElem (by simp [leastsP]) fun i h1 h2 => ?_
  have hi : i < 5 := by simpa [leastsP] using h2
  rw [List.getElem_set]
  simp only [leastsP, List.getElem_map, List.getElem_range]
  unfold leastP
  by_cases h : 1 + j % 4 = i
  · rw [if_pos h, if_pos (by omega)]; omega
  · rw [if_neg h]
    by_cases h3 : 1 ≤ i ∧ i ≤ j ∧ i ≤ 4
    · rw [if_pos h3, if_pos (by omega)]
    · rw [if_neg h3, if_neg (by omega)]
theorem leastsP_keep {j : Nat} (hj : 4 ≤ j) : leastsP (j + 1) = leastsP j := by
  unfold leastsP leastP
  refine List.map_congr_left fun i hi => ?_
  have hi : i < 5 := List.mem_range.1 hi
  by_cases h3 : 1 ≤ i ∧ i ≤ j ∧ i ≤ 4
  · rw [if_pos h3, if_pos (by omega)]
  · rw [if_neg h3, if_neg (by omega)]
/-- The loop's state: the version, the edit, the sums, the least numbers. -/
structure KSt (w : World) (ms : List Int) (g E S L j : Nat) (va : Value) (W : World) : Prop where
  v : VInv w (fun _ => False) g ⟨[], 1, 0, 0⟩ W
  e : W.heap[E]? = some (.cells #[.int .i64 0, .int .i64 0, .int .i64 0, va, .slice none 0 0] 45 (0, 0))
  s : TBlk W 49 S (sumsP ms j)
  l : TBlk W 50 L (leastsP j)
  ord : w.heap.size ≤ g ∧ g < E ∧ E < S ∧ S < L
  row : Kd.R k41 41 W w.heap.size (fun k => k ≠ g ∧ k ≠ E ∧ k ≠ S ∧ k ≠ L) va (tabsP ms j)
theorem KSt.step {w W W2 : World} {ms : List Int} {g E S L j : Nat} {va : Value} (h : KSt w ms g E S L j va W) (hb : Below W.heap.size W W2) : KSt w ms g E S L j va W2 := by
  obtain ⟨h1, h2, h3, h4, h5, h6⟩ := h
  exact ⟨h1.step hb, (hb.block _ (blk_lt h2)).trans h2, (hb.block _ (blk_lt h3)).trans h3, (hb.block _ (blk_lt h4)).trans h4, h5, Kd.R_below h6 hb⟩
theorem VInv.far {w0 w : World} {P : Nat → Prop} {g l k : Nat} {v : Ver} (h : VInv w0 P g v w) (hP : ∀ x, P x → x ≠ l) (hl : w0.heap.size ≤ l) (hne : g ≠ l) (u : Value) : VInv w0 P g v (w.setCell ⟨l, k, none⟩ u) := by
  obtain ⟨h1, h2, vf, h3, h4⟩ := h
  exact ⟨h1.setCell (p := ⟨l, k, none⟩) hl _, h2, vf, blk_far h3 (p := ⟨l, k, none⟩) hne _, Kd.R_far h4 (p := ⟨l, k, none⟩) hP _⟩
/-- behind the append, the edit's row stored. -/
theorem KSt.put {w W W3 : World} {ms : List Int} {g E S L j : Nat} {va v3 : Value} {xs : List S41} (h : KSt w ms g E S L j va W) (hg : W.grownBy W3 va.ownBlock) (hr : Kd.R k41 41 W3 w.heap.size (fun k => k ≠ g ∧ k ≠ E ∧ k ≠ S ∧ k ≠ L) v3 xs) :
    VInv w (fun _ => False) g ⟨[], 1, 0, 0⟩ (W3.setCell ⟨E, 3, none⟩ v3) ∧ (W3.setCell ⟨E, 3, none⟩ v3).heap[E]? = some (.cells #[.int .i64 0, .int .i64 0, .int .i64 0, v3, .slice none 0 0] 45 (0, 0)) ∧ TBlk (W3.setCell ⟨E, 3, none⟩ v3) 49 S (sumsP ms j) ∧ TBlk (W3.setCell ⟨E, 3, none⟩ v3) 50 L (leastsP j) ∧ Kd.R k41 41 (W3.setCell ⟨E, 3, none⟩ v3) w.heap.size (fun k => k ≠ g ∧ k ≠ E ∧ k ≠ S ∧ k ≠ L) v3 xs := by
  obtain ⟨h1, h2, h3, h4, h5, h6⟩ := h
  have hb : ∀ k, va.ownBlock = some k → w.heap.size ≤ k ∧ k ≠ g := fun k hk => ⟨own_base (Kd.R_own h6).choose_spec k hk, (h6.1 k hk).1⟩
  have hv3 := h1.grown hg hb
  refine ⟨hv3.far (fun _ hk => hk.elim) (by omega) (by omega) _, (blk_set (blk_grown h2 hg (fun e => (h6.1 _ e.symm).2.1 rfl)) 3 _).trans rfl, blk_far (p := ⟨E, 3, none⟩) (blk_grown h3 hg (fun e => (h6.1 _ e.symm).2.2.1 rfl)) (by show S ≠ E; omega) _, blk_far (p := ⟨E, 3, none⟩) (blk_grown h4 hg (fun e => (h6.1 _ e.symm).2.2.2 rfl)) (by show L ≠ E; omega) _, Kd.R_far hr (p := ⟨E, 3, none⟩) (fun k hk => hk.2.1) _⟩
theorem sums_at (ms : List Int) (j k : Nat) (hk : k < 5) : (sumsP ms j).getD k 0 = sumP ms (k : Int) j := by
  rw [List.getD_eq_getElem?_getD, List.getElem?_eq_getElem (by simpa [sumsP] using hk), Option.getD_some]
  simp [sumsP]
theorem leasts_at (j k : Nat) (hk : k < 5) : (leastsP j).getD k 0 = leastP j k := by
  rw [List.getD_eq_getElem?_getD, List.getElem?_eq_getElem (by simpa [leastsP] using hk), Option.getD_some]
  simp [leastsP]
theorem lvl_wrap {j : Nat} {I : Int} (hI : I = (j : Int)) : IntKind.i64.wrap (1 + I.tmod 4) = ((1 + j % 4 : Nat) : Int) := by
  have h : I.tmod 4 = ((j % 4 : Nat) : Int) := by rw [hI]; rfl
  rw [h, IntWalk.i64_in _ (by omega)]; omega
theorem bnd_at {k : Nat} (h1 : 1 ≤ k) (h3 : k ≤ 3) : ([0, 2000, 8000, 32000] : List Int).getD k 0 = bnd k := by
  have : k = 1 ∨ k = 2 ∨ k = 3 := by omega
  rcases this with rfl | rfl | rfl <;> rfl
/-- What stands behind pick.Next. -/
structure KE (w : World) (ms : List Int) (N S L T B : Nat) (J : Jb) (Ai Ab : Option Addr) (ci cb : Nat) (W : World) : Prop where
  b : Below w.heap.size w W
  s : TBlk W 49 S (sumsP ms N)
  l : TBlk W 50 L (leastsP N)
  t : W.heap[T]? = some (.cells #[.int .i64 J.lv, .slice Ai J.ins.length ci, .slice Ab J.bel.length cb, .bool J.bot] 52 (0, 0))
  r : TBlk W 3 B [0, 2000, 8000, 32000]
  c : Kd.C k41 W Ai J.ins.length J.ins
theorem KE.step {w W W2 : World} {ms : List Int} {N S L T B : Nat} {J : Jb} {Ai Ab : Option Addr} {ci cb : Nat} (h : KE w ms N S L T B J Ai Ab ci cb W) (hb : Below W.heap.size W W2) : KE w ms N S L T B J Ai Ab ci cb W2 := by
  obtain ⟨h0, h1, h2, h3, h4, h5⟩ := h
  exact ⟨below_then h0 h0.size hb, (hb.block _ (blk_lt h1)).trans h1, (hb.block _ (blk_lt h2)).trans h2, (hb.block _ (blk_lt h3)).trans h3, (hb.block _ (blk_lt h4)).trans h4, Kd.C_below h5 hb⟩
set_option maxHeartbeats 16000000 in
set_option maxRecDepth 100000 in
theorem PickLevels.calls (Am : Option Addr) (cm : Nat) (ms : List Int) (w : World) (hms : Kd.C (Kd.int .i64) w Am ms.length ms) (hcm : ms.length ≤ cm) : Calls Try.prog 7 #[.slice Am ms.length cm] w fun e w' => e = .returned (.bool true) ∧ Below w.heap.size w w' := by
  have hu41 := Try.underlying41
  have hu45 := Try.underlying45
  have hu49 := Try.underlying49
  have hu50 := Try.underlying50
  have hu52 := Try.underlying52
  have HMS := Aside0.mk hms
  have hmx : ms.length ≤ 9223372036854775807 := Kd.C_max hms
  obtain ⟨N, hN⟩ : ∃ N, N = min ms.length 12 := ⟨_, rfl⟩
  have hN12 : N ≤ 12 := by omega
  have HNN := Aside0.mk hN
  clear hms hN
  go_enter Try.func7, Try.ntmps7
  go_upto_region 8 with (first
    | (go_at_call 26
       refine (Begun26.holds _).mono ?_
       rintro e w1 ⟨rfl, hb⟩
       have HB1 := Aside0.mk hb
       clear hb)
    | (go_at_call 21
       refine (vNew.calls w w1 HB1.out).mono ?_
       rintro e w2 ⟨g, rfl, hg, hI, hb⟩
       have HI2 := Aside0.mk (hI (fun _ => False))
       clear hg hI hb))
  have hgl := HI2.out.lt
  have HK0 := Aside0.mk (show KSt w ms g w2.heap.size (w2.heap.size + 1) (w2.heap.size + 1 + 1) 0 (.slice none 0 0) (((w2.alloc (.cells #[.int .i64 0, .int .i64 0, .int .i64 0, .slice none 0 0, .slice none 0 0] 45)).alloc (.cells #[.int .i64 0, .int .i64 0, .int .i64 0, .int .i64 0, .int .i64 0] 49)).alloc (.cells #[.int .i64 0, .int .i64 0, .int .i64 0, .int .i64 0, .int .i64 0] 50)) from
    ⟨HI2.out.step (below_alloc (below_alloc (below_alloc (Below.refl _ _) _) _) _), blk_alloc (blk_alloc (blk_new _ _) _) _,
     by have h := blk_alloc (blk_new (w2.alloc (.cells #[.int .i64 0, .int .i64 0, .int .i64 0, .slice none 0 0, .slice none 0 0] 45)) (.cells #[.int .i64 0, .int .i64 0, .int .i64 0, .int .i64 0, .int .i64 0] 49)) (.cells #[.int .i64 0, .int .i64 0, .int .i64 0, .int .i64 0, .int .i64 0] 50); have e : (w2.alloc (.cells #[.int .i64 0, .int .i64 0, .int .i64 0, .slice none 0 0, .slice none 0 0] 45)).heap.size = w2.heap.size + 1 := by simp
        rw [e] at h; exact h,
     by have h := blk_new ((w2.alloc (.cells #[.int .i64 0, .int .i64 0, .int .i64 0, .slice none 0 0, .slice none 0 0] 45)).alloc (.cells #[.int .i64 0, .int .i64 0, .int .i64 0, .int .i64 0, .int .i64 0] 49)) (.cells #[.int .i64 0, .int .i64 0, .int .i64 0, .int .i64 0, .int .i64 0] 50); have e : ((w2.alloc (.cells #[.int .i64 0, .int .i64 0, .int .i64 0, .slice none 0 0, .slice none 0 0] 45)).alloc (.cells #[.int .i64 0, .int .i64 0, .int .i64 0, .int .i64 0, .int .i64 0] 49)).heap.size = w2.heap.size + 1 + 1 := by simp
        rw [e] at h; exact h,
     ⟨HI2.out.base, hgl, by omega, by omega⟩, Kd.R_nil _ _ _ _ _⟩)
  obtain ⟨W, hW⟩ : ∃ W, W = (((w2.alloc (.cells #[.int .i64 0, .int .i64 0, .int .i64 0, .slice none 0 0, .slice none 0 0] 45)).alloc (.cells #[.int .i64 0, .int .i64 0, .int .i64 0, .int .i64 0, .int .i64 0] 49)).alloc (.cells #[.int .i64 0, .int .i64 0, .int .i64 0, .int .i64 0, .int .i64 0] 50)) := ⟨_, rfl⟩
  rw [← hW] at HK0
  rw [← hW]
  obtain ⟨L, hL⟩ : ∃ L, w2.heap.size + 1 + 1 = L := ⟨_, rfl⟩
  simp only [hL] at HK0 ⊢
  obtain ⟨S, hS⟩ : ∃ S, w2.heap.size + 1 = S := ⟨_, rfl⟩
  simp only [hS] at HK0 ⊢
  obtain ⟨E, hE⟩ : ∃ E, w2.heap.size = E := ⟨_, rfl⟩
  simp only [hE] at HK0 ⊢
  clear hW hL hS hE hgl HI2
  go_upto_block 0 with (fail)
  go_cut [] (fun wc => ∃ va, Aside0 (KSt w ms g E S L N va wc))
  case first =>
    go_wp2
    go_loopw [8] (fun i wr => ∃ (j : Nat) (I : Int) (va : Value), j ≤ N ∧ i = .int .i64 I ∧ Aside0 (I = (j : Int)) ∧ Aside0 (KSt w ms g E S L j va wr)) (fun i _ => 12 - (intOf i).toNat)
    case atStart => exact ⟨0, 0, _, Nat.zero_le _, rfl, ⟨rfl⟩, HK0⟩
    case round =>
      clear HK0
      obtain ⟨j, I, va, hj, rfl, HI, HK⟩ := hrel
      have hI0 : 0 ≤ I ∧ I ≤ 12 := by have := HI.out; omega
      by_cases hlt : I < (ms.length : Int)
      · by_cases hlt2 : I < 12
        · have hjN : j < N := by have := HI.out; have := HNN.out; omega
          have hjl : j < ms.length := by have := HI.out; omega
          obtain ⟨ad, ea, hx0⟩ := Kd.at_int (Kd.C_below HMS.out HK.out.v.below) I (by omega) hlt
          cases ea
          have e : rd ms I = ms[j] := by rw [HI.out]; simp [rd, rdOf, hjl]
          rw [e] at hx0
          have HNP := Aside0.mk (show nP ms j = if Int.tmod ms[j] 20000 < 0 then -(Int.tmod ms[j] 20000) else Int.tmod ms[j] 20000 by
            unfold nP
            rw [List.getD_eq_getElem?_getD, List.getElem?_eq_getElem hjl, Option.getD_some])
          have HNI := Aside0.mk (nP_in ms j)
          obtain ⟨y, hy⟩ : ∃ y, ms[j] = y := ⟨_, rfl⟩
          rw [hy] at hx0 HNP
          have hw1 := lvl_wrap HI.out
          obtain ⟨lv, hlv⟩ : ∃ lv, 1 + j % 4 = lv := ⟨_, rfl⟩
          rw [hlv] at hw1
          have HLV := Aside0.mk hlv
          have hlv5 : lv < 5 ∧ 1 ≤ lv := by omega
          obtain ⟨z, hz⟩ : ∃ z, y.tmod 20000 = z := ⟨_, rfl⟩
          have hz1 : z < 20000 := hz ▸ Int.tmod_lt_of_pos y (by omega)
          have hz2 : -20000 < z := hz ▸ Int.lt_tmod_of_pos y (by omega)
          rw [hz] at HNP
          have hwn : IntKind.i64.wrap (-z) = -z := IntWalk.i64_in _ (by omega)
          clear e hy hlv
          go_upto_if 39 with (fail)
          rw [show 1 + I % 4 = (lv : Int) by have := HI.out; have := HLV.out; omega]
          go_cut [10] (fun v10 wc => v10 = .int .i64 (nP ms j) ∧ Aside0 (KSt w ms g E S L j va wc))
          case first =>
            by_cases hzn : z < 0
            · have e1 : decide (z < 0) = true := decide_eq_true hzn
              have E2 := Aside0.mk (show nP ms j = -z by rw [HNP.out, if_pos hzn])
              rw [e1]
              go_wp2
              go_meet
              case rel => exact ⟨by rw [E2.out], HK⟩
            · have e1 : decide (z < 0) = false := decide_eq_false hzn
              have E2 := Aside0.mk (show nP ms j = z by rw [HNP.out, if_neg hzn])
              rw [e1]
              go_wp2
              go_meet
              case rel => exact ⟨by rw [E2.out], HK⟩
          obtain ⟨rfl, HK2⟩ := hcut
          clear HK hx0 hw1 hwn hz hz1 hz2 HNP
          obtain ⟨n, hn⟩ : ∃ n, nP ms j = n := ⟨_, rfl⟩
          have HNE := Aside0.mk hn
          have hn2 : 0 ≤ n ∧ n < 20000 := hn ▸ HNI.out
          rw [hn]
          have hw2 : IntKind.i64.wrap (97 + I) = 97 + I := IntWalk.i64_in _ (by omega)
          have hw3 : IntKind.u8.wrap (97 + I) = 97 + I := u8_in _ (by omega)
          have hw6 : IntKind.i64.wrap (I + 1) = I + 1 := IntWalk.i64_in _ (by omega)
          have hcv1 := conv1 wc (97 + I)
          have HBA := Aside0.mk (below_alloc (Below.refl wc.heap.size wc) (.cells #[.int .u8 (97 + I)] 5))
          have HK3 := Aside0.mk (HK2.out.step HBA.out)
          have HTB := Aside0.mk (show tabP ms j = ⟨I + 1, (lv : Int), n, s1 (97 + I), s1 (97 + I)⟩ by unfold tabP; rw [← HNE.out, HI.out, ← HLV.out]; congr 1)
          have HTS := Aside0.mk (show tabsP ms (j + 1) = tabsP ms j ++ [⟨I + 1, (lv : Int), n, s1 (97 + I), s1 (97 + I)⟩] by rw [tabsP_succ, HTB.out])
          have HTL := Aside0.mk (tabsP_len ms j)
          have hE3 : (wc.alloc (.cells #[.int .u8 (97 + I)] 5)).cell? ⟨E, 3, none⟩ = some va := (blk_cell HK3.out.e 3).trans rfl
          have hord := HK3.out.ord
          have hLlt := blk_lt HK3.out.l
          obtain ⟨Wb, hWb⟩ : ∃ Wb, Wb = wc.alloc (.cells #[.int .u8 (97 + I)] 5) := ⟨_, rfl⟩
          obtain ⟨Av, cv, ev⟩ := Kd.R_slice HK3.out.row
          subst ev
          clear hn
          go_upto_region 17 with (
            at_builtin
            refine Kd.R_append k41 (w0 := w) w.heap.size rfl (.tmp 48) (.tmp 56) 39 41 (.agg #[.int .i64 0, .int .i64 0, .int .i64 0, .string ⟨#[]⟩, .string ⟨#[]⟩]) 56 rfl Try.underlying39 info41 rfl (by decide) (by omega) (.slice Av (tabsP ms j).length cv) (tabsP ms j) ⟨I + 1, (lv : Int), n, s1 (97 + I), s1 (97 + I)⟩ [.int .i64 (I + 1), .int .i64 (lv : Int), .int .i64 n, .string (s1 (97 + I)), .string (s1 (97 + I))] (fun k => k ≠ g ∧ k ≠ E ∧ k ≠ S ∧ k ≠ L) (fun _ => False) rfl (by first | (go_simp; done) | (go_simp; rfl)) ?aP (fun _ hk => hk.elim) ?aF ?aO ?aB ?aS ?aL ?_
            (case aP => exact k41_mkM _ _ _ (⟨I + 1, (lv : Int), n, s1 (97 + I), s1 (97 + I)⟩ : S41))
            (case aF => exact fun k hk => by have h1 : L < k := Nat.lt_of_lt_of_le hLlt hk; omega)
            (case aO => exact HK3.out.row)
            (case aB => exact HK3.out.v.below)
            (case aS => exact HK3.out.v.below.size)
            (case aL => have := HTL.out; omega)
            intro v3 w3 ho hb hg hat
            obtain ⟨A3, c3, e3⟩ := Kd.R_slice ho
            subst e3
            have HPUT := Aside0.mk (HK3.out.put hg ho)
            have hE3' : w3.cell? ⟨E, 3, none⟩ = some (.slice Av (tabsP ms j).length cv) := (blk_cell (blk_grown HK3.out.e hg (fun e => (HK3.out.row.1 _ e.symm).2.1 rfl)) 3).trans rfl
            have hE3f := blk_frozen (blk_grown HK3.out.e hg (fun e => (HK3.out.row.1 _ e.symm).2.1 rfl)) 3
            clear ho hb hg hat)
          obtain ⟨W3, hW3⟩ : ∃ W3, W3 = w3.setCell ⟨E, 3, none⟩ (.slice A3 ((tabsP ms j).length + 1) c3) := ⟨_, rfl⟩
          rw [show (tabsP ms j ++ [(⟨I + 1, (lv : Int), n, s1 (97 + I), s1 (97 + I)⟩ : S41)]).length = (tabsP ms j).length + 1 by simp, ← HTS.out, ← hW3] at HPUT
          rw [← hW3]
          clear hW3 hE3 hE3' hE3f hcv1 hLlt HBA HK2 HK3 hWb hw2 hw3
          have hs1 := (HPUT.out.2.2.1.at_ (k := lv) (by simp [sumsP]; omega)).1
          have hs2 := (HPUT.out.2.2.1.at_ (k := lv) (by simp [sumsP]; omega)).2
          rw [sums_at ms j lv (by omega)] at hs1
          have HSI := Aside0.mk (sumP_in ms (lv : Int) j)
          have HSE := Aside0.mk (show (sumsP ms j).set lv (sumP ms (lv : Int) j + n) = sumsP ms (j + 1) by rw [← sumsP_set ms j, HLV.out, HNE.out])
          obtain ⟨su, hsu⟩ : ∃ su, sumP ms (lv : Int) j = su := ⟨_, rfl⟩
          rw [hsu] at hs1 HSI HSE
          have hws : IntKind.i64.wrap (su + n) = su + n := IntWalk.i64_in _ (by have := HSI.out; omega)
          clear hsu
          have HSN := Aside0.mk (show TBlk (W3.setCell ⟨S, lv, none⟩ (.int .i64 (su + n))) 49 S (sumsP ms (j + 1)) by rw [← HSE.out]; exact HPUT.out.2.2.1.set_ _)
          have HLN := Aside0.mk (show TBlk (W3.setCell ⟨S, lv, none⟩ (.int .i64 (su + n))) 50 L (leastsP j) from blk_far (p := ⟨S, lv, none⟩) HPUT.out.2.2.2.1 (by show L ≠ S; omega) _)
          have HEN := Aside0.mk (blk_far (p := ⟨S, lv, none⟩) HPUT.out.2.1 (by show E ≠ S; omega) (.int .i64 (su + n)))
          have HVN := Aside0.mk (HPUT.out.1.far (l := S) (k := lv) (fun _ hk => hk.elim) (by omega) (by omega) (.int .i64 (su + n)))
          have HRN := Aside0.mk (Kd.R_far HPUT.out.2.2.2.2 (p := ⟨S, lv, none⟩) (fun k hk => hk.2.2.1) (.int .i64 (su + n)))
          have hl1 := (HLN.out.at_ (k := lv) (by simp [leastsP]; omega)).1
          have hl2 := (HLN.out.at_ (k := lv) (by simp [leastsP]; omega)).2
          rw [leasts_at j lv (by omega)] at hl1
          have HLE := Aside0.mk (show leastP j lv = if j < 4 then 0 else (lv : Int) by
            have := HLV.out
            unfold leastP
            by_cases h4 : j < 4
            · rw [if_pos h4, if_neg (by omega)]
            · rw [if_neg h4, if_pos (by omega)])
          obtain ⟨le, hle⟩ : ∃ le, leastP j lv = le := ⟨_, rfl⟩
          rw [hle] at hl1 HLE
          clear hle HPUT
          go_upto_if 68 with (fail)
          by_cases h4 : j < 4
          · have E1 := HLE.out
            rw [if_pos h4] at E1
            subst E1
            have HLS := Aside0.mk (show TBlk ((W3.setCell ⟨S, lv, none⟩ (.int .i64 (su + n))).setCell ⟨L, lv, none⟩ (.int .i64 (I + 1))) 50 L (leastsP (j + 1)) by
              have h := HLN.out.set_ (k := lv) (I + 1)
              have e := leastsP_set h4
              rw [HLV.out, ← HI.out] at e
              rw [e] at h
              exact h)
            go_wp2
            refine ⟨?_, by show 12 - (I + 1).toNat < 12 - I.toNat; omega⟩
            exact ⟨j + 1, I + 1, _, by omega, rfl, ⟨by have := HI.out; omega⟩, ⟨HVN.out.far (l := L) (k := lv) (fun _ hk => hk.elim) (by omega) (by omega) _, blk_far (p := ⟨L, lv, none⟩) HEN.out (by show E ≠ L; omega) _, blk_far (p := ⟨L, lv, none⟩) HSN.out (by show S ≠ L; omega) _, HLS.out, hord, Kd.R_far HRN.out (p := ⟨L, lv, none⟩) (fun k hk => hk.2.2.2) _⟩⟩
          · have E1 := HLE.out
            rw [if_neg h4] at E1
            subst E1
            have e1 : decide ((lv : Int) = 0) = false := decide_eq_false (by omega)
            have e2 : ((lv : Int) == 0) = false := beq_false_of_ne (by omega)
            have e3 : ((lv : Int) = 0) = False := eq_false (by omega)
            first | rw [e1] | rw [e2] | skip
            go_wp2
            refine ⟨?_, by show 12 - (I + 1).toNat < 12 - I.toNat; omega⟩
            exact ⟨j + 1, I + 1, _, by omega, rfl, ⟨by have := HI.out; omega⟩, ⟨HVN.out, HEN.out, HSN.out, by rw [leastsP_keep (by omega)]; exact HLN.out, hord, HRN.out⟩⟩
        · have hi12 : I = 12 := by omega
          have HJN := Aside0.mk (show j = N by have := HI.out; have := HNN.out; omega)
          have e3 : decide (I < 12) = false := decide_eq_false hlt2
          go_wp2
          go_meet
          case rel => exact ⟨va, by rw [← HJN.out]; exact HK⟩
      · have HJN := Aside0.mk (show j = N by have := HI.out; have := HNN.out; omega)
        go_wp2
        go_meet
        case rel => exact ⟨va, by rw [← HJN.out]; exact HK⟩
  obtain ⟨va, HK⟩ := hcut
  clear HK0 HMS
  have hord := HK.out.ord
  have hr1 := Kd.R_far HK.out.row (p := ⟨E, 0, none⟩) (fun k hk => hk.2.1) (.int .i64 50)
  obtain ⟨A, c, e, hcap, hC⟩ := Kd.R_reads hr1
  subst e
  have HV1 := Aside0.mk (HK.out.v.far (l := E) (k := 0) (fun _ hk => hk.elim) (by omega) (by omega) (.int .i64 50))
  have HE1 := Aside0.mk ((blk_set HK.out.e 0 (.int .i64 50)).trans rfl)
  have HS1 := Aside0.mk (show TBlk (wc.setCell ⟨E, 0, none⟩ (.int .i64 50)) 49 S (sumsP ms N) from blk_far (p := ⟨E, 0, none⟩) HK.out.s (by show S ≠ E; omega) _)
  have HL1 := Aside0.mk (show TBlk (wc.setCell ⟨E, 0, none⟩ (.int .i64 50)) 50 L (leastsP N) from blk_far (p := ⟨E, 0, none⟩) HK.out.l (by show L ≠ E; omega) _)
  have he0 := blk_cell HK.out.e 0
  have hef := blk_frozen HK.out.e 0
  go_upto_region 21 with (fail)
  obtain ⟨W1, hW1⟩ : ∃ W1, wc.setCell ⟨E, 0, none⟩ (.int .i64 50) = W1 := ⟨_, rfl⟩
  simp only [hW1] at hr1 hC HV1 HE1 HS1 HL1 ⊢
  clear hW1 he0 hef
  have HC := Aside0.mk hC
  have hn50 : (tabsP ms N).length ≤ 9223372036854775807 := Kd.C_max hC
  have y0 := (blk_cell HE1.out 0).trans rfl
  have y1 := (blk_cell HE1.out 1).trans rfl
  have y2 := (blk_cell HE1.out 2).trans rfl
  have y3 := (blk_cell HE1.out 3).trans rfl
  have y4 := (blk_cell HE1.out 4).trans rfl
  clear hC hr1
  have hLl := blk_lt HL1.out
  go_upto_if 77 with (
    go_at_call 22
    refine (Apply.calls w g ⟨[], 1, 0, 0⟩ 50 0 0 A none c 0 (tabsP ms N) [] _ (HV1.out.wide (fun _ hk => hk.elim)) (by simp) HC.out hcap (Kd.C_nil _ _) (Nat.le_refl _) (by simp)).mono ?_
    rintro e w4 h
    rw [levels_ap hN12] at h
    rcases h with ⟨h, _⟩ | ⟨v', h, rfl, hI4, hk4⟩
    · cases h
    cases h
    have HI4 := Aside0.mk hI4
    have HS4 := Aside0.mk (show TBlk w4 49 S (sumsP ms N) from (hk4.2 _ (blk_lt HS1.out) (fun e => by omega)).trans HS1.out)
    have HL4 := Aside0.mk (show TBlk w4 50 L (leastsP N) from (hk4.2 _ (blk_lt HL1.out) (fun e => by omega)).trans HL1.out)
    clear hI4 hk4)
  go_upto_region 24 with (
    go_at_call 27
    refine (Next.calls w (fun k => k ≠ g) g ⟨tabsP ms N, 50, 0, 0⟩ _ HI4.out (levels_good hN12)).mono ?_
    rintro e w5 ⟨vi, vb, rfl, hRi, hRb, hb5⟩
    obtain ⟨Ai, ci, ei⟩ := Kd.R_slice hRi
    subst ei
    obtain ⟨Ab, cb, eb⟩ := Kd.R_slice hRb
    subst eb
    have HRI := Aside0.mk hRi
    have HRB := Aside0.mk hRb
    have HB5 := Aside0.mk hb5
    clear hRi hRb hb5)
  clear y0 y1 y2 y3 y4 HC HE1 HV1 HS1 HL1 hn50 hLl HK
  obtain ⟨J, hJ⟩ : ∃ J, jobR (tabsP ms N) = J := ⟨_, rfl⟩
  have HJ := Aside0.mk hJ
  rw [hJ] at HRI HRB ⊢
  clear hJ
  have HKE := Aside0.mk (show KE w ms N S L w5.heap.size (w5.heap.size + 1) J Ai Ab ci cb ((w5.alloc (.cells #[.int .i64 J.lv, .slice Ai J.ins.length ci, .slice Ab J.bel.length cb, .bool J.bot] 52)).alloc (.cells #[.int .i64 0, .int .i64 2000, .int .i64 8000, .int .i64 32000] 3)) from by
    have hb1 := below_alloc (below_alloc (Below.refl w5.heap.size w5) (.cells #[.int .i64 J.lv, .slice Ai J.ins.length ci, .slice Ab J.bel.length cb, .bool J.bot] 52)) (.cells #[.int .i64 0, .int .i64 2000, .int .i64 8000, .int .i64 32000] 3)
    have hb2 := below_then HB5.out HB5.out.size hb1
    obtain ⟨A2, c2, e2, _, hc2⟩ := Kd.R_reads HRI.out
    cases e2
    have hx := blk_new (w5.alloc (.cells #[.int .i64 J.lv, .slice Ai J.ins.length ci, .slice Ab J.bel.length cb, .bool J.bot] 52)) (.cells #[.int .i64 0, .int .i64 2000, .int .i64 8000, .int .i64 32000] 3)
    rw [show (w5.alloc (.cells #[.int .i64 J.lv, .slice Ai J.ins.length ci, .slice Ab J.bel.length cb, .bool J.bot] 52)).heap.size = w5.heap.size + 1 by simp] at hx
    exact ⟨below_then HI4.out.below HI4.out.below.size hb2, (hb2.block _ (blk_lt HS4.out)).trans HS4.out, (hb2.block _ (blk_lt HL4.out)).trans HL4.out, blk_alloc (blk_new _ _) _, hx, Kd.C_below hc2 hb1⟩)
  go_wp2
  obtain ⟨W6, hW6⟩ : ∃ W6, ((w5.alloc (.cells #[.int .i64 J.lv, .slice Ai J.ins.length ci, .slice Ab J.bel.length cb, .bool J.bot] 52)).alloc (.cells #[.int .i64 0, .int .i64 2000, .int .i64 8000, .int .i64 32000] 3)) = W6 := ⟨_, rfl⟩
  simp only [hW6] at HKE ⊢
  obtain ⟨B, hB⟩ : ∃ B, w5.heap.size + 1 = B := ⟨_, rfl⟩
  simp only [hB] at HKE ⊢
  obtain ⟨T, hT⟩ : ∃ T, w5.heap.size = T := ⟨_, rfl⟩
  simp only [hT] at HKE ⊢
  clear hW6 hB hT HRI HRB HB5 HI4 HS4 HL4
  go_loopw [15] (fun i wr => ∃ k : Nat, 1 ≤ k ∧ k ≤ 4 ∧ i = .int .i64 k ∧ Aside0 (scanR (tabsP ms N) 3 1 = scanR (tabsP ms N) (4 - k) k) ∧ Aside0 (KE w ms N S L T B J Ai Ab ci cb wr)) (fun i _ => 4 - (intOf i).toNat)
  case atStart => exact ⟨1, Nat.le_refl _, by omega, rfl, ⟨rfl⟩, HKE⟩
  case round =>
    clear HKE
    obtain ⟨k, hk1, hk4, rfl, HSC, HKE⟩ := hrel
    by_cases hlt : (k : Int) ≤ 3
    · have hk3 : k ≤ 3 := by omega
      have hs1 := (HKE.out.s.at_ (k := k) (by simp [sumsP]; omega)).1
      rw [sums_at ms N k (by omega)] at hs1
      have hr1 := (HKE.out.r.at_ (k := k) (by show k < 4; omega)).1
      rw [bnd_at hk1 hk3] at hr1
      by_cases hgt : sumP ms (k : Int) N > bnd k
      · have hkN : k ≤ N := by
          rcases Nat.lt_or_ge N k with h | h
          · have := sumP_small ms k N (by omega)
            have := bnd_in k
            omega
          · exact h
        have hJ := HJ.out
        rw [job_at hN12 hk1 hk3 hgt (by rw [in_scan, HSC.out, show 4 - k = (3 - k) + 1 by omega, scanR, sum_lev, if_pos hgt])] at hJ
        subst hJ
        have y0 : wr.cell? ⟨T, 0, none⟩ = some (.int .i64 (k : Int)) := (blk_cell HKE.out.t 0).trans rfl
        have y1 : wr.cell? ⟨T, 1, none⟩ = some (.slice Ai 1 ci) := (blk_cell HKE.out.t 1).trans rfl
        have y2 : wr.cell? ⟨T, 2, none⟩ = some (.slice Ab 0 cb) := (blk_cell HKE.out.t 2).trans rfl
        have y3 : wr.cell? ⟨T, 3, none⟩ = some (.bool true) := (blk_cell HKE.out.t 3).trans rfl
        have hl1 := (HKE.out.l.at_ (k := k) (by simp [leastsP]; omega)).1
        rw [leasts_at N k (by omega), show leastP N k = (k : Int) by unfold leastP; rw [if_pos (by omega)]] at hl1
        obtain ⟨ad, ea, x0, _⟩ := at_T41 HKE.out.c 0 (by omega) (by show (0 : Int) < 1; omega)
        cases ea
        have ex : (rd_T41 [tabP ms (k - 1)] 0).f0 = (k : Int) := by
          show ((k - 1 : Nat) : Int) + 1 = k
          omega
        rw [ex] at x0
        have x1 : wr.cell? (ad.add 0) = some (.int .i64 (k : Int)) := x0
        have x2 : wr.cell? ad = some (.int .i64 (k : Int)) := x0
        obtain ⟨su, hsu⟩ : ∃ su, sumP ms (k : Int) N = su := ⟨_, rfl⟩
        obtain ⟨bu, hbu⟩ : ∃ bu, bnd k = bu := ⟨_, rfl⟩
        rw [hsu] at hs1 hgt
        rw [hbu] at hr1 hgt
        clear hsu hbu
        have d1 : decide (su > bu) = true := decide_eq_true hgt
        have d2 : decide (bu < su) = true := decide_eq_true hgt
        go_wp2
        go_quiet (fail)
        go_wp2
        go_quiet (fail)
        go_wp2
        go_ret
        exact ⟨rfl, below_then HKE.out.b HKE.out.b.size (pw_below_drewN (pw_below_drewN (Below.refl _ _) _) _)⟩
      · obtain ⟨su, hsu⟩ : ∃ su, sumP ms (k : Int) N = su := ⟨_, rfl⟩
        obtain ⟨bu, hbu⟩ : ∃ bu, bnd k = bu := ⟨_, rfl⟩
        have HS2 := Aside0.mk (show scanR (tabsP ms N) 3 1 = scanR (tabsP ms N) (4 - (k + 1)) (k + 1) by
          rw [HSC.out, show 4 - k = (3 - k) + 1 by omega, scanR, sum_lev, if_neg hgt, show 4 - (k + 1) = 3 - k by omega])
        rw [hsu] at hs1 hgt
        rw [hbu] at hr1 hgt
        clear hsu hbu
        have d1 : decide (su > bu) = false := decide_eq_false hgt
        have d2 : decide (bu < su) = false := decide_eq_false hgt
        have hw6 : IntKind.i64.wrap ((k : Int) + 1) = (k : Int) + 1 := IntWalk.i64_in _ (by omega)
        go_wp2
        go_quiet (fail)
        go_wp2
        refine ⟨⟨k + 1, by omega, by omega, by go_num, HS2, ⟨HKE.out.step (pw_below_drewN (Below.refl _ _) _)⟩⟩, ?_⟩
        show 4 - ((k : Int) + 1).toNat < 4 - ((k : Int)).toNat
        omega
    · have hk : k = 4 := by omega
      subst hk
      have hJ := HJ.out
      rw [job_none (by rw [in_scan, HSC.out]; rfl)] at hJ
      subst hJ
      have y0 : wr.cell? ⟨T, 0, none⟩ = some (.int .i64 0) := (blk_cell HKE.out.t 0).trans rfl
      have y1 : wr.cell? ⟨T, 1, none⟩ = some (.slice Ai 0 ci) := (blk_cell HKE.out.t 1).trans rfl
      go_wp2
      go_ret
      exact ⟨rfl, HKE.out.b⟩
end Go.Proofs.Ytjhijcehcklipaa.MVe
