/-
  norm.Order puts a list in order; norm.Chars does so with what its characters come to.
-/
import Derived.Test.YtiplbhjllkfemaaZNSort4
import Derived.Test.YtiplbhjllkfemaaZNTab
namespace Go.Proofs.Ytiplbhjllkfemaa.NChars
open Go.RowKit Go.Proofs.YtiplbhjllkfemaaW.PrintWords Go.Proofs.Ytiplbhjllkfemaa.MSt Go.Proofs.Ytiplbhjllkfemaa.NOrd Go.Proofs.Ytiplbhjllkfemaa.NTab
open Go.Proofs.Ytiplbhjllkfemaa.NSort (M c1 sort_f Small)

theorem w64 {x : Int} (h0 : -9223372036854775808 ≤ x) (h1 : x < 9223372036854775808) : wrap64 x = x := by
  unfold wrap64; omega
theorem cls_range : ∀ (rows : List (List UInt8 × Int × Int × Int)), (rows.all fun r => decide (0 ≤ r.2.2.2) && decide (r.2.2.2 < 1000)) = true → ∀ c, 0 ≤ cls rows c ∧ cls rows c < 1000
  | [], _, c => by simp [cls]
  | (b, f, t, v) :: r, h, c => by
    simp only [List.all_cons, Bool.and_eq_true, decide_eq_true_eq] at h
    have ih := cls_range r h.2 c
    rw [cls]
    split
    · omega
    · split
      · exact h.1
      · exact ih
theorem clf_range (c : Int) : 0 ≤ clf c ∧ clf c < 1000 := by
  unfold clf
  split
  · omega
  · exact cls_range crow (by decide +kernel) c
theorem look_len : ∀ (rows : List (List UInt8 × Int × List Int)), (rows.all fun r => decide (r.2.2.length ≤ 5)) = true → ∀ c, (lookm rows c).length ≤ 5
  | [], _, c => by simp [lookm]
  | (b, f, l) :: r, h, c => by
    simp only [List.all_cons, Bool.and_eq_true, decide_eq_true_eq] at h
    have ih := look_len r h.2 c
    rw [lookm]
    split
    · exact ih
    · split
      · exact h.1
      · simp
theorem apt_len (c : Int) : (apt c).length ≤ 5 := by
  unfold apt
  split
  · split
    · simp
    · unfold mapf
      split
      · simp
      · exact look_len mrow (by decide +kernel) c
  · unfold letters
    split
    · simp
    · split <;> simp
theorem apt_ne (c : Int) : apt c ≠ [] := by
  unfold apt
  split
  · split
    · simp
    · assumption
  · assumption

theorem Rel.map {α β : Type} {cl : α → Int} {cl' : β → Int} (f : α → β) {l m : List α} (h : Rel cl l m) : (∀ x ∈ l, cl x = cl' (f x)) → Rel cl' (l.map f) (m.map f) := by
  induction h with
  | refl => intro _; exact .refl _
  | step s _ ih =>
    intro hf
    refine .step ?_ (ih (fun x hx => hf x (s.perm.mem_iff.2 hx)))
    cases s with
    | mk u a b v h =>
      have h1 := hf a (by simp)
      have h2 := hf b (by simp)
      have := Sw.mk (cl := cl') (u.map f) (f a) (f b) (v.map f) (by omega)
      simpa using this

def mkm (c : Int) : M := ⟨c, clf c⟩
theorem ord1 (m out : List Int) (hm : ∀ x ∈ m, 0 < clf x) (ho : ∀ x, out.reverse.head? = some x → clf x = 0) (hl : out.length + m.length ≤ 1000000000000) :
    Evr (fun k => norm_Order_1.f k (m.map mkm) out) ((ordr clf out.reverse m).reverse) := by
  have hsm : Small (m.map mkm) := by
    intro y hy
    obtain ⟨c, _, rfl⟩ := List.mem_map.1 hy
    exact clf_range c
  obtain ⟨z, z1, z2, z3⟩ := sort_f (m.map mkm) hsm (by rw [List.length_map]; omega)
  have hz : ∀ x ∈ m.map mkm, c1 x = clf x.f0 := by
    intro y hy
    obtain ⟨c, _, rfl⟩ := List.mem_map.1 hy
    rfl
  have hz2 : ∀ x ∈ z, c1 x = clf x.f0 := fun x hx => hz x (z1.perm.mem_iff.2 hx)
  have r1 := Rel.map (cl' := clf) (fun x : M => x.f0) z1 hz
  have e1 : (m.map mkm).map (fun x : M => x.f0) = m := by rw [List.map_map]; exact List.map_id m
  rw [e1] at r1
  have so : Sorted clf (z.map fun x : M => x.f0) := by
    refine List.pairwise_map.2 (List.Pairwise.imp_of_mem ?_ z2)
    intro a b ha hb hab
    have h1 := hz2 a ha
    have h2 := hz2 b hb
    show clf a.f0 ≤ clf b.f0
    rw [← h1, ← h2]; exact hab
  have hpos : ∀ x ∈ z.map (fun x : M => x.f0), 0 ≤ clf x := fun x _ => (clf_range x).1
  have e2 : ordr clf out.reverse m = (z.map fun x : M => x.f0).reverse ++ out.reverse := by
    rw [ordr_rel r1 hm, ordr_sorted _ so _ (fun x hx => .inl (ho x hx)) hpos]
  have lz : z.length = m.length := by have := z1.length; rw [List.length_map] at this; omega
  unfold norm_Order_1.f
  refine Evr.bind z3 (Evr.of fun _ => ?_)
  rw [if_pos (by omega), e2]
  simp

theorem go_f : ∀ (l m out : List Int), (∀ x ∈ m, 0 < clf x) → (∀ x, out.reverse.head? = some x → clf x = 0) → out.length + m.length + l.length ≤ 1000000000000 →
    Evr (fun k => norm_Order.go k l (m.map mkm) out) ((ordr clf (ordr clf out.reverse m) l).reverse)
  | [], m, out, hm, ho, hl => by
    have := ord1 m out hm ho (by simpa using hl)
    exact Evr.congr (fun k => by rw [norm_Order.go]) this
  | c :: cs, m, out, hm, ho, hl => by
    rw [List.length_cons] at hl
    refine Evr.congr (fun k => by rw [norm_Order.go]) (Evr.bind (class_f c) ?_)
    try dsimp only
    by_cases hc : clf c > 0
    · refine Evr.congr (fun k => by rw [if_pos hc, if_pos (show (m.map mkm).length < 8796093022208 by rw [List.length_map]; omega)]) ?_
      have := go_f cs (m ++ [c]) out (by
        intro x hx
        rcases List.mem_append.1 hx with h | h
        · exact hm x h
        · rw [List.mem_singleton.1 h]; exact hc) ho (by rw [List.length_append, List.length_singleton]; omega)
      rw [ordr_append, List.map_append] at this
      exact this
    · have h0 : clf c = 0 := by have := (clf_range c).1; omega
      refine Evr.congr (fun k => by rw [if_neg hc]) (Evr.bind (ord1 m out hm ho (by omega)) ?_)
      try dsimp only
      have hlen : ((ordr clf out.reverse m).reverse).length = m.length + out.length := by
        rw [List.length_reverse, (ordr_perm clf m out.reverse).length_eq, List.length_append, List.length_reverse]
      refine Evr.congr (fun k => by rw [if_pos (show ((ordr clf out.reverse m).reverse).length < 17592186044416 by omega)]) ?_
      have := go_f cs [] ((ordr clf out.reverse m).reverse ++ [c]) (by simp) (by simp [h0]) (by rw [List.length_append, hlen]; simp; omega)
      rw [List.reverse_append, List.reverse_reverse, ordr_nil] at this
      have e : insr clf c (ordr clf out.reverse m) = c :: ordr clf out.reverse m := by
        cases ordr clf out.reverse m with
        | nil => rfl
        | cons x xs => rw [insr, if_neg (by omega)]
      rw [ordr_cons, e]
      exact this
theorem order_f (l : List Int) (hl : l.length ≤ 1000000000000) : Evr (fun k => norm_Order.f k l) (order clf l) :=
  go_f l [] [] (by simp) (by simp) (by simpa using hl)

/-- What characters come to, not in order yet. -/
def expand (l : List Int) : List Int := l.flatMap apt
theorem expand_append (l m : List Int) : expand (l ++ m) = expand l ++ expand m := List.flatMap_append
theorem expand_len : ∀ l : List Int, (expand l).length ≤ 5 * l.length
  | [] => by simp [expand]
  | c :: l => by
    have := expand_len l
    have h := apt_len c
    show (apt c ++ expand l).length ≤ _
    rw [List.length_append, List.length_cons]; omega
/-- The canonical form of characters. -/
def canon (l : List Int) : List Int := order clf (expand l)
end Go.Proofs.Ytiplbhjllkfemaa.NChars
