/-
  Versions, plainly: what is true of every version; the document's Apply is the program's.
-/
import Derived.Test.YtjhijcehcklipaaZVeW19
import Derived.Test.YtjhijcehcklipaaZVeW18
namespace Go.Proofs.Ytjhijcehcklipaa.MVe
open Go.RowKit Go.Proofs.YtjhijcehcklipaaW.PrintWords Go.Proofs.YtjhijcehcklipaaW.PrintLast Go.Proofs.YtjhijcehcklipaaW.PrintMore
set_option linter.unusedVariables false
set_option linter.unusedSimpArgs false

theorem leS_iff (x y : ByteArray) : leS x y = true ↔ ¬ y.toList < x.toList := by
  unfold leS
  rw [Go.Proofs.bytesLess_eq, Bool.or_eq_true, decide_eq_true_eq, beq_iff_eq]
  have h := List.le_iff_lt_or_eq (l₁ := x.toList) (l₂ := y.toList)
  exact h.symm
theorem leS_trans {x y z : ByteArray} (h1 : leS x y = true) (h2 : leS y z = true) : leS x z = true := by
  rw [leS_iff] at *
  exact List.not_lt.2 (List.le_trans (List.not_lt.1 h1) (List.not_lt.1 h2))
theorem leS_total (x y : ByteArray) : leS x y = true ∨ leS y x = true := by
  rw [leS_iff, leS_iff]
  by_cases h : y.toList < x.toList
  · right
    intro h2
    exact List.lt_irrefl _ (List.lt_trans h h2)
  · exact .inl h
theorem leS_refl (x : ByteArray) : leS x x = true := (leS_total x x).elim id id
theorem maxS_le {x y z : ByteArray} : leS (maxS x y) z = true ↔ leS x z = true ∧ leS y z = true := by
  unfold maxS
  rw [Go.Proofs.bytesLess_eq]
  by_cases h : x.toList < y.toList
  · rw [decide_eq_true h, if_pos rfl]
    refine ⟨fun h2 => ⟨leS_trans ?_ h2, h2⟩, fun h2 => h2.2⟩
    rw [leS_iff]
    exact fun h3 => List.lt_irrefl _ (List.lt_trans h h3)
  · rw [decide_eq_false h, if_neg (by decide)]
    refine ⟨fun h2 => ⟨h2, leS_trans ?_ h2⟩, fun h2 => h2.1⟩
    rw [leS_iff]; exact h
theorem le_minS {x y z : ByteArray} : leS z (minS x y) = true ↔ leS z x = true ∧ leS z y = true := by
  unfold minS
  by_cases h : leS x y = true
  · rw [if_pos h]; exact ⟨fun h2 => ⟨h2, leS_trans h2 h⟩, fun h2 => h2.1⟩
  · rw [if_neg h]
    have h3 := (leS_total x y).resolve_left h
    exact ⟨fun h2 => ⟨leS_trans h2 h3, h2⟩, fun h2 => h2.2⟩
theorem meet_iff (a b : S41) : meetB a b = true ↔ (leS a.f3 a.f4 = true ∧ leS a.f3 b.f4 = true) ∧ (leS b.f3 a.f4 = true ∧ leS b.f3 b.f4 = true) := by
  unfold meetB
  rw [maxS_le, le_minS, le_minS]
theorem fileOk_span {x : S41} (h : fileOk x = true) : leS x.f3 x.f4 = true := by
  unfold fileOk at h
  unfold leS
  simp only [Bool.and_eq_true] at h
  first | exact h.2.2.2.1 | exact h.2.2.2.1.1 | (simp_all)
theorem fileOk_level {x : S41} (h : fileOk x = true) : 0 ≤ x.f1 ∧ x.f1 ≤ 4 := by
  unfold fileOk inB at h
  simp only [Bool.and_eq_true, List.all_cons, List.all_nil, decide_eq_true_eq] at h
  omega
/-- The document's word: may two tables not stand together? -/
def hitR (a b : S41) : Bool := (a.f1 == b.f1) && (decide (a.f1 > 0) && (leS a.f3 b.f4 && leS b.f3 a.f4))
theorem hit_hitR {a b : S41} (ha : fileOk a = true) (hb : fileOk b = true) : hit a b = hitR a b := by
  unfold hit hitR
  have h : meetB a b = (leS a.f3 b.f4 && leS b.f3 a.f4) := by
    rw [Bool.eq_iff_iff, meet_iff, Bool.and_eq_true]
    have h1 := fileOk_span ha
    have h2 := fileOk_span hb
    constructor
    · intro h; exact ⟨h.1.2, h.2.1⟩
    · intro h; exact ⟨⟨h1, h.1⟩, h.2, h2⟩
  rw [h]
  cases decide (a.f1 > 0) <;> cases (a.f1 == b.f1) <;> rfl
/-- What is true of every version that edits made. -/
structure VGood (v : Ver) : Prop where
  ok : ∀ x ∈ v.files, fileOk x = true
  num : v.files.Pairwise fun a b => a.f0 ≠ b.f0
  apart : v.files.Pairwise fun b a => hit a b = false
  len : v.files.length ≤ 200
  next : 1 ≤ v.next
  nmax : v.next ≤ 1125899906842624
  log : 0 ≤ v.log ∧ v.log < v.next
  last : 0 ≤ v.last ∧ v.last ≤ 1125899906842624
  below : ∀ x ∈ v.files, x.f0 < v.next
theorem VGood.start : VGood ⟨[], 1, 0, 0⟩ := ⟨fun x h => (by cases h), List.Pairwise.nil, List.Pairwise.nil, Nat.zero_le _, Int.le_refl _, by decide, by decide, by decide, fun x h => (by cases h)⟩
theorem delF_sub : ∀ (dels : List Int) (xs ys : List S41), delF xs dels = some ys → ys.Sublist xs
  | [], xs, ys, h => by rw [delF] at h; cases h; exact List.Sublist.refl _
  | d :: r, xs, ys, h => by
    rw [delF] at h
    split at h
    · cases h
    · exact (delF_sub r _ ys h).trans (List.eraseIdx_sublist _ _)
theorem addF_num : ∀ (adds xs ys : List S41), xs.Pairwise (fun a b => a.f0 ≠ b.f0) → addF xs adds = some ys → ys.Pairwise (fun a b => a.f0 ≠ b.f0) ∧ ys = xs ++ adds
  | [], xs, ys, hp, h => by rw [addF] at h; cases h; exact ⟨hp, (List.append_nil _).symm⟩
  | a :: r, xs, ys, hp, h => by
    rw [addF] at h
    split at h
    · cases h
    · rename_i hn
      have hno := idx_no (p := fun x => x.f0 == a.f0) (xs := xs) (by rcases idx_cases (fun x => x.f0 == a.f0) xs with h1 | ⟨i, _, h1⟩ <;> omega)
      have := addF_num r (xs ++ [a]) ys ?_ h
      · rw [List.append_assoc] at this; exact this
      · refine List.pairwise_append.2 ⟨hp, List.pairwise_singleton _ _, fun x hx y hy => ?_⟩
        rw [List.mem_singleton.1 hy]
        have := hno x hx
        simpa using this
theorem VGood.ap {v v' : Ver} {n l m : Int} {adds : List S41} {dels : List Int} (h : VGood v) (he : apV v n l m adds dels = some v') : VGood v' := by
  unfold apV at he
  split at he
  · rename_i hok
    unfold delV at he
    split at he
    · cases he
    · rename_i xs hd
      unfold addV at he
      split at he
      · cases he
      · rename_i ys ha
        unfold endV at he
        split at he
        · rename_i hf
          cases he
          have hs := delF_sub _ _ _ hd
          obtain ⟨h1, h2⟩ := addF_num _ _ _ (List.Pairwise.sublist hs h.num) ha
          unfold editOk at hok
          unfold finOk apartB at hf
          simp only [Bool.and_eq_true, decide_eq_true_eq] at hf hok
          have hb : (0 ≤ n ∧ n ≤ 1125899906842624) ∧ (0 ≤ l ∧ l ≤ 1125899906842624) ∧ (0 ≤ m ∧ m ≤ 1125899906842624) := by
            have h9 := hok.1
            unfold chainOk at h9
            generalize inB 1 1125899906842624 dels = I at h9
            unfold inB at h9
            simp only [List.all_cons, List.all_nil, Bool.and_true, Bool.and_eq_true, decide_eq_true_eq] at h9
            omega
          have hge : ¬ (ltr v.log l).1 ≥ (ltr v.next n).1 := of_decide_eq_false (by have := hf.2.2.2.2.1; simpa using this)
          have hno : ∀ x ∈ ys, decide (x.f0 ≥ (ltr v.next n).1) = false := idx_no (by
            have h5 := hf.2.2.2.2.2
            have h6 : ¬ idx (fun x => decide (x.f0 ≥ (ltr v.next n).1)) ys ≥ 0 := of_decide_eq_false (by simpa using h5)
            rcases idx_cases (fun x => decide (x.f0 ≥ (ltr v.next n).1)) ys with h7 | ⟨i, _, h7⟩ <;> omega)
          have e1 : ∀ a b : Int, (ltr a b).1 = a ∨ (ltr a b).1 = b := fun a b => by unfold ltr; split <;> simp
          have h10 := e1 v.next n
          have h11 := e1 v.log l
          have h12 := e1 v.last m
          have hnx : 1 ≤ (ltr v.next n).1 := by
            have h3 := hf.1
            have h4 := h.next
            unfold ltr at h3 ⊢
            split at h3
            · rename_i hn; simp only [hn, if_true]; exact h4
            · rename_i hn
              simp only [hn, if_false, decide_eq_true_eq] at h3 ⊢
              omega
          have h13 := h.nmax
          have h14 := h.log
          have h15 := h.last
          refine ⟨fun x hx => ?_, h1, hf.2.2.2.1.1, hf.2.2.2.1.2, hnx, ?_, ?_, ?_, fun x hx => ?_⟩
          · rw [h2] at hx
            rcases List.mem_append.1 hx with q | q
            · exact h.ok x (hs.subset q)
            · exact List.all_eq_true.1 hok.2 x q
          · show (ltr v.next n).1 ≤ _; omega
          · show 0 ≤ (ltr v.log l).1 ∧ (ltr v.log l).1 < (ltr v.next n).1; omega
          · show 0 ≤ (ltr v.last m).1 ∧ (ltr v.last m).1 ≤ _; omega
          · have := of_decide_eq_false (hno x hx)
            show x.f0 < (ltr v.next n).1; omega
        · cases he
  · cases he
/-- The document's end of an edit. -/
def newR (old n : Int) : Int := if n ≠ 0 then n else old
def badR (v : Ver) (N L M : Int) (ys : List S41) : Bool := decide (200 < ys.length) || (decide (N < v.next) || (decide (L < v.log) || (decide (M < v.last) || (decide (L ≥ N) && decide (L > 0)))))
def apartR (ys : List S41) : Bool := decide (ys.Pairwise fun b a => hitR a b = false)
def anyGe (N : Int) (ys : List S41) : Bool := ys.any fun x => decide (x.f0 ≥ N)
def finR (v : Ver) (N L M : Int) (ys : List S41) : Bool := apartR ys && !(badR v N L M ys || anyGe N ys)
def endR (v : Ver) (n l m : Int) (ys : List S41) : Option Ver :=
  if finR v (newR v.next n) (newR v.log l) (newR v.last m) ys = true then some ⟨ys, newR v.next n, newR v.log l, newR v.last m⟩ else none
def apR (v : Ver) (n l m : Int) (adds : List S41) (dels : List Int) : Option Ver := if editOk n l m adds dels = true then (match delF v.files dels with
  | none => none
  | some xs => match addF xs adds with
    | none => none
    | some ys => endR v n l m ys) else none
theorem ltr_new (old n : Int) : ltr old n = (newR old n, decide (newR old n ≥ old)) := by
  unfold ltr newR
  by_cases h : n = 0
  · rw [if_pos h, if_neg (fun h2 => h2 h), decide_eq_true (Int.le_refl _)]
  · rw [if_neg h, if_pos h]
theorem apart_eq {ys : List S41} (h : ∀ x ∈ ys, fileOk x = true) : decide (ys.Pairwise fun b a => hit a b = false) = apartR ys := by
  unfold apartR
  refine decide_eq_decide.2 ⟨fun hp => ?_, fun hp => ?_⟩
  · refine hp.imp_of_mem fun {a b} ha hb hh => ?_
    rw [← hit_hitR (h b hb) (h a ha)]; exact hh
  · refine hp.imp_of_mem fun {a b} ha hb hh => ?_
    rw [hit_hitR (h b hb) (h a ha)]; exact hh
theorem any_eq (N : Int) (ys : List S41) : decide (idx (fun x => decide (x.f0 ≥ N)) ys ≥ 0) = anyGe N ys := by
  unfold anyGe
  rw [Bool.eq_iff_iff, decide_eq_true_eq, List.any_eq_true]
  constructor
  · intro h
    rcases idx_cases (fun x => decide (x.f0 ≥ N)) ys with h1 | ⟨i, hi, h1⟩
    · omega
    · obtain ⟨h2, h3⟩ := idx_at h1
      exact ⟨ys[i], List.getElem_mem h2, h3⟩
  · rintro ⟨x, hx, hp⟩
    rcases idx_cases (fun x => decide (x.f0 ≥ N)) ys with h1 | ⟨i, hi, h1⟩
    · have := idx_no h1 x hx
      rw [hp] at this; cases this
    · omega
theorem end_eq {v : Ver} {n l m : Int} {ys : List S41} (h : ∀ x ∈ ys, fileOk x = true) (hn : 1 ≤ v.next) : endV v n l m ys = endR v n l m ys := by
  unfold endV endR
  rw [ltr_new, ltr_new, ltr_new]
  have e : finOk (newR v.next n, decide (newR v.next n ≥ v.next)) (newR v.log l, decide (newR v.log l ≥ v.log)) (newR v.last m, decide (newR v.last m ≥ v.last)) ys = finR v (newR v.next n) (newR v.log l) (newR v.last m) ys := by
    unfold finOk finR apartB badR
    show (decide (newR v.next n ≥ v.next) && (decide (newR v.log l ≥ v.log) && (decide (newR v.last m ≥ v.last) && ((decide (ys.Pairwise fun b a => hit a b = false) && decide (ys.length ≤ 200)) && (!decide (newR v.log l ≥ newR v.next n) && !decide (idx (fun x => decide (x.f0 ≥ newR v.next n)) ys ≥ 0)))))) = _
    rw [apart_eq h, any_eq]
    generalize newR v.next n = N
    generalize newR v.log l = L
    generalize newR v.last m = M
    cases apartR ys <;> cases anyGe N ys <;> simp
    rw [Bool.eq_iff_iff]
    simp only [Bool.and_eq_true, Bool.or_eq_true, Bool.not_eq_true', decide_eq_true_eq, decide_eq_false_iff_not, Bool.or_eq_false_iff, Bool.and_eq_false_iff]
    omega
  rw [e]
theorem apR_eq {v : Ver} {n l m : Int} {adds : List S41} {dels : List Int} (h : VGood v) : apV v n l m adds dels = apR v n l m adds dels := by
  unfold apV apR delV addV
  by_cases hok : editOk n l m adds dels = true
  · rw [if_pos hok, if_pos hok]
    cases hd : delF v.files dels with
    | none => rfl
    | some xs =>
      show (match addF xs adds with | none => none | some ys => endV v n l m ys) = (match addF xs adds with | none => none | some ys => endR v n l m ys)
      cases ha : addF xs adds with
      | none => rfl
      | some ys =>
        refine end_eq (fun x hx => ?_) h.next
        have hs := delF_sub _ _ _ hd
        have h2 := (addF_num _ _ _ (List.Pairwise.sublist hs h.num) ha).2
        unfold editOk at hok
        rw [Bool.and_eq_true] at hok
        rw [h2] at hx
        rcases List.mem_append.1 hx with q | q
        · exact h.ok x (hs.subset q)
        · exact List.all_eq_true.1 hok.2 x q
  · rw [if_neg hok, if_neg hok]
end Go.Proofs.Ytjhijcehcklipaa.MVe
