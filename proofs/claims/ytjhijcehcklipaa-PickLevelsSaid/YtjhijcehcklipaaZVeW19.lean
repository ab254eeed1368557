/-
  Versions, plainly: tables that go from level to level.
-/
import Derived.Test.YtjhijcehcklipaaZVeW16
import Derived.Test.YtjhijcehcklipaaZVeW18
namespace Go.Proofs.Ytjhijcehcklipaa.MVe
open Go.RowKit Go.Proofs.YtjhijcehcklipaaW.PrintWords Go.Proofs.YtjhijcehcklipaaW.PrintLast Go.Proofs.YtjhijcehcklipaaW.PrintMore
set_option linter.unusedVariables false
set_option linter.unusedSimpArgs false

def tabM (lv : List Int) (k : Nat) : S41 := ⟨(k : Int) + 1, lv.getD k 0, 0, s1 (97 + k), s1 (97 + k)⟩
def tabsM (lv : List Int) (n : Nat) : List S41 := (List.range n).map (tabM lv)
theorem tabsM_len (lv : List Int) (n : Nat) : (tabsM lv n).length = n := by unfold tabsM; rw [List.length_map, List.length_range]
theorem tabsM_mem {lv : List Int} {n : Nat} {x : S41} (h : x ∈ tabsM lv n) : ∃ i, i < n ∧ x = tabM lv i := by
  obtain ⟨i, hi, rfl⟩ := List.mem_map.1 h
  exact ⟨i, List.mem_range.1 hi, rfl⟩
theorem tabsM_pair {lv : List Int} {n : Nat} {R : S41 → S41 → Prop} (h : ∀ i j, i < j → j < n → R (tabM lv i) (tabM lv j)) : (tabsM lv n).Pairwise R := by
  rw [List.pairwise_iff_getElem]
  intro i j hi hj hij
  have hj' : j < n := by rw [tabsM_len] at hj; exact hj
  have e : ∀ k (hk : k < (tabsM lv n).length), (tabsM lv n)[k] = tabM lv k := fun k hk => by simp [tabsM]
  rw [e i hi, e j hj]
  exact h i j hij hj'
theorem tabsM_set (lv : List Int) {n k : Nat} (a : Int) (hk : k < n) : ∃ R, (tabsM lv n).Perm (tabM lv k :: R) ∧ (tabsM (lv.set k a) n).Perm (tabM (lv.set k a) k :: R) := by
  have hp : (List.range n).Perm (k :: (List.range n).erase k) := List.perm_cons_erase (List.mem_range.2 hk)
  refine ⟨((List.range n).erase k).map (tabM lv), (hp.map (tabM lv)), ?_⟩
  have h := hp.map (tabM (lv.set k a))
  have e : ((List.range n).erase k).map (tabM (lv.set k a)) = ((List.range n).erase k).map (tabM lv) := by
    refine List.map_congr_left fun i hi => ?_
    have hne : i ≠ k := fun e => by
      subst e
      exact (List.Nodup.not_mem_erase List.nodup_range) hi
    unfold tabM
    congr 1
    rw [List.getD_eq_getElem?_getD, List.getD_eq_getElem?_getD, List.getElem?_set_ne (Ne.symm hne)]
  rw [List.map_cons, e] at h
  exact h
theorem idx_at {p : S41 → Bool} {xs : List S41} {i : Nat} (h : idx p xs = (i : Int)) : ∃ hi : i < xs.length, p xs[i] = true := by
  unfold idx at h
  cases hf : xs.findIdx? p with
  | none => rw [hf] at h; simp at h
  | some k =>
    rw [hf] at h
    have hk : k = i := by simp at h; omega
    subst hk
    obtain ⟨h0, h1, _⟩ := List.findIdx?_eq_some_iff_getElem.1 hf
    exact ⟨h0, h1⟩
theorem idx_no {p : S41 → Bool} {xs : List S41} (h : idx p xs = -1) : ∀ x ∈ xs, p x = false := by
  unfold idx at h
  cases hf : xs.findIdx? p with
  | none => intro x hx; exact List.findIdx?_eq_none_iff.1 hf x hx
  | some k => rw [hf] at h; simp at h
theorem erase_perm {xs : List S41} {i : Nat} (h : i < xs.length) : (xs[i] :: xs.eraseIdx i).Perm xs := by
  have e : xs = xs.take i ++ xs[i] :: xs.drop (i + 1) := by rw [List.getElem_cons_drop, List.take_append_drop]
  rw [List.eraseIdx_eq_take_drop_succ]
  exact (List.perm_middle.symm).trans (List.Perm.of_eq e.symm)
theorem fileM {lv : List Int} {k : Nat} (hk : k < 20) (h0 : 0 ≤ lv.getD k 0 ∧ lv.getD k 0 ≤ 4) : fileOk (tabM lv k) = true := by
  unfold fileOk tabM inB
  have h1 := leS_s1 (x := 97 + (k : Int)) (y := 97 + k) (by omega) (by omega)
  unfold leS at h1
  generalize lv.getD k 0 = z at h0 ⊢
  simp only [h1, s1_size]
  simp
  omega
theorem hitM {lv : List Int} {i j : Nat} (hi : i < 20) (hj : j < 20) (hne : i ≠ j) : hit (tabM lv i) (tabM lv j) = false := by
  unfold hit
  rw [meet_s1 (x := 97 + (i : Int)) (y := 97 + i) (z := 97 + (j : Int)) (u := 97 + j) (by omega) (by omega) (by omega) (by omega) rfl rfl rfl rfl]
  rw [decide_eq_false (show ¬ (max (97 + (i : Int)) (97 + j) ≤ min (97 + (i : Int)) (97 + j)) by omega), Bool.and_false]
theorem pairM {lv : List Int} {n : Nat} {F : List S41} (hF : F.Perm (tabsM lv n)) : F.Pairwise fun a b => a.f0 ≠ b.f0 :=
  (hF.pairwise_iff (fun h => Ne.symm h)).2 (tabsM_pair fun i j hij hj => by show (i : Int) + 1 ≠ (j : Int) + 1; omega)
theorem apartM {lv : List Int} {n : Nat} {F : List S41} (hF : F.Perm (tabsM lv n)) (hn : n ≤ 20) : apartB F = true := by
  have h : F.Pairwise fun a b => hit a b = false ∧ hit b a = false :=
    (hF.pairwise_iff (fun h => ⟨h.2, h.1⟩)).2 (tabsM_pair fun i j hij hj => ⟨hitM (by omega) (by omega) (by omega), hitM (by omega) (by omega) (by omega)⟩)
  exact apartB_ok (h.imp fun h => h.2) (by rw [hF.length_eq, tabsM_len]; omega)
theorem start_ap {n : Nat} (hn : n ≤ 20) : apV ⟨[], 1, 0, 0⟩ ((n : Int) + 1) 0 0 (tabsM (List.replicate n 0) n) [] = some ⟨tabsM (List.replicate n 0) n, (n : Int) + 1, 0, 0⟩ := by
  refine apV_adds (by omega) (pairM (List.Perm.refl _)) (fun x hx => ?_) ?_ (by rw [tabsM_len]; omega)
  · obtain ⟨i, hi, rfl⟩ := tabsM_mem hx
    refine ⟨fileM (by omega) ?_, by show (i : Int) + 1 < (n : Int) + 1; omega⟩
    rw [List.getD_eq_getElem?_getD, List.getElem?_replicate]
    split <;> simp
  · exact tabsM_pair fun i j hij hj => hitM (by omega) (by omega) (by omega)
/-- A table goes one level down. -/
theorem moves_ap {lv : List Int} {F : List S41} {n k : Nat} (hF : F.Perm (tabsM lv n)) (hn : n ≤ 20) (hk : k < n) (hlv : lv.length = n) (h0 : 0 ≤ lv.getD k 0) (h4 : lv.getD k 0 < 4) :
    ∃ F', apV ⟨F, (n : Int) + 1, 0, 0⟩ 0 0 0 [tabM (lv.set k (lv.getD k 0 + 1)) k] [(k : Int) + 1] = some ⟨F', (n : Int) + 1, 0, 0⟩ ∧ F'.Perm (tabsM (lv.set k (lv.getD k 0 + 1)) n) := by
  obtain ⟨R, h1, h2⟩ := tabsM_set lv (lv.getD k 0 + 1) hk
  have hg : (lv.set k (lv.getD k 0 + 1)).getD k 0 = lv.getD k 0 + 1 := by
    rw [List.getD_eq_getElem?_getD, List.getElem?_set_self (by omega)]; rfl
  have hfo : fileOk (tabM (lv.set k (lv.getD k 0 + 1)) k) = true := fileM (by omega) (by rw [hg]; omega)
  generalize lv.set k (lv.getD k 0 + 1) = lv' at h2 hfo ⊢
  rcases idx_cases (fun x => x.f0 == (k : Int) + 1) F with hi | ⟨i, hil, hi⟩
  · have := idx_no hi (tabM lv k) (hF.mem_iff.2 (h1.mem_iff.2 List.mem_cons_self))
    simp [tabM] at this
  · obtain ⟨hil', hq⟩ := idx_at hi
    have hFi : F[i] = tabM lv k := by
      obtain ⟨m, hm, e⟩ := tabsM_mem (hF.mem_iff.1 (List.getElem_mem hil))
      rw [e] at hq ⊢
      have : (m : Int) + 1 = (k : Int) + 1 := by simpa [tabM] using hq
      obtain rfl : m = k := by omega
      rfl
    have hp : (F.eraseIdx i).Perm R := by
      have h3 := erase_perm hil
      rw [hFi] at h3
      exact ((h3.trans hF).trans h1).cons_inv
    have hF' : (F.eraseIdx i ++ [tabM lv' k]).Perm (tabsM lv' n) := ((List.perm_append_singleton _ _).trans (hp.cons _)).trans h2.symm
    refine ⟨F.eraseIdx i ++ [tabM lv' k], ?_, hF'⟩
    have he : editOk 0 0 0 [tabM lv' k] [(k : Int) + 1] = true := by
      unfold editOk chainOk inB
      simp only [List.all_cons, List.all_nil, hfo]
      simp
      omega
    unfold apV
    rw [if_pos he, delV_cons, hi, if_neg (by omega), Int.toNat_natCast, delV_nil]
    unfold addV
    rw [addF_ok [tabM lv' k] (F.eraseIdx i) (pairM hF')]
    show endV ⟨F, (n : Int) + 1, 0, 0⟩ 0 0 0 (F.eraseIdx i ++ [tabM lv' k]) = _
    unfold endV
    have e1 : ltr ((n : Int) + 1) 0 = ((n : Int) + 1, true) := rfl
    have e2 : ltr 0 0 = (0, true) := rfl
    rw [e1, e2]
    have e3 : idx (fun x => decide (x.f0 ≥ (n : Int) + 1)) (F.eraseIdx i ++ [tabM lv' k]) = -1 := idx_none fun x hx => by
      obtain ⟨m, hm, rfl⟩ := tabsM_mem (hF'.mem_iff.1 hx)
      exact decide_eq_false (by show ¬ ((m : Int) + 1 ≥ (n : Int) + 1); omega)
    rw [if_pos]
    unfold finOk
    rw [apartM hF' hn, e3, decide_eq_false (show ¬ ((0 : Int) ≥ (n : Int) + 1) by omega)]
    rfl
/-- How many tables stand at a level. -/
def cntM (lv : List Int) (a : Int) : Nat → Nat
  | 0 => 0
  | i + 1 => cntM lv a i + (if lv.getD i 0 = a then 1 else 0)
theorem cntM_le (lv : List Int) (a : Int) : ∀ n, cntM lv a n ≤ n
  | 0 => Nat.le_refl _
  | n + 1 => by have := cntM_le lv a n; unfold cntM; split <;> omega
theorem cntM_len (lv : List Int) (a : Int) (n : Nat) : ((tabsM lv n).filter fun x => x.f1 == a).length = cntM lv a n := by
  induction n with
  | zero => rfl
  | succ n ih =>
    have e : tabsM lv (n + 1) = tabsM lv n ++ [tabM lv n] := by unfold tabsM; rw [List.range_succ, List.map_append]; rfl
    rw [e, filter_snoc, List.length_append, ih, cntM]
    congr 1
    by_cases h : lv.getD n 0 = a
    · rw [if_pos (show ((tabM lv n).f1 == a) = true from beq_iff_eq.2 h), if_pos h]; rfl
    · rw [if_neg (show ¬ ((tabM lv n).f1 == a) = true from fun q => h (beq_iff_eq.1 q)), if_neg h]; rfl
theorem lev_len {lv : List Int} {F ys : List S41} {n : Nat} {a : Int} (hF : F.Perm (tabsM lv n)) (h : LevOf a F ys) : ys.length = cntM lv a n := by
  rw [h.1.length_eq, (hF.filter _).length_eq, cntM_len]
theorem lev_ord {lv : List Int} {F ys : List S41} {n : Nat} {a : Int} (hn : n ≤ 20) (hF : F.Perm (tabsM lv n)) (h : LevOf a F ys) {i : Nat} (hi : i + 1 < ys.length) :
    (a = 0 → ys[i + 1].f0 < ys[i].f0) ∧ (a ≠ 0 → leS ys[i + 1].f3 ys[i].f3 = false) := by
  have hp : ys.Pairwise fun a b => a.f0 ≠ b.f0 := (h.1.pairwise_iff (fun h => Ne.symm h)).2 ((pairM hF).filter _)
  have h1 := List.pairwise_iff_getElem.1 h.2 i (i + 1) (by omega) hi (by omega)
  have h2 := List.pairwise_iff_getElem.1 hp i (i + 1) (by omega) hi (by omega)
  rw [ltOf_cfL] at h1
  have hm : ∀ j (hj : j < ys.length), ∃ m, m < n ∧ ys[j] = tabM lv m := fun j hj => tabsM_mem (hF.mem_iff.1 ((List.mem_filter.1 (h.1.mem_iff.1 (List.getElem_mem hj))).1))
  refine ⟨fun ha => ?_, fun ha => ?_⟩
  · rw [if_pos ha] at h1
    have := of_decide_eq_false h1
    omega
  · rw [if_neg ha] at h1
    obtain ⟨p, hp1, ep⟩ := hm (i + 1) hi
    obtain ⟨q, hq1, eq⟩ := hm i (by omega)
    rw [ep, eq] at h1 h2 ⊢
    have h3 := less_s1 (x := 97 + (p : Int)) (y := 97 + q) (by omega) (by omega)
    rw [Go.Proofs.bytesLess_eq, bytes_list, bytes_list] at h3
    have h4 : decide ((97 : Int) + p < 97 + q) = false := h3.symm.trans h1
    have h5 := of_decide_eq_false h4
    have h6 : (q : Int) + 1 ≠ (p : Int) + 1 := h2
    show leS (s1 (97 + (p : Int))) (s1 (97 + (q : Int))) = false
    rw [leS_s1 (by omega) (by omega)]
    exact decide_eq_false (by omega)
theorem all_len {lv : List Int} {F zs : List S41} {n : Nat} (hF : F.Perm (tabsM lv n)) (hb : ∀ i, i < n → 0 ≤ lv.getD i 0 ∧ lv.getD i 0 ≤ 4) (h : AllOf F 5 zs) : zs.length = n := by
  rw [h.len, List.filter_eq_self.2, hF.length_eq, tabsM_len]
  intro x hx
  obtain ⟨i, hi, rfl⟩ := tabsM_mem (hF.mem_iff.1 hx)
  have := hb i hi
  show (decide (0 ≤ lv.getD i 0) && decide (lv.getD i 0 < ((5 : Nat) : Int))) = true
  rw [decide_eq_true this.1, decide_eq_true (by omega)]; rfl
end Go.Proofs.Ytjhijcehcklipaa.MVe
