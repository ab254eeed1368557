/-
  Plain facts on putting marks in order; no program in sight. 'cl' tells a character's class; 'insr' puts one more behind a list that is written from its end; 'ordr', 'order' do so for many; 'Sw' is one change of two neighbours of which the first has the greater class, 'Rel' many of these.
-/
import Derived.RowKit
namespace Go.Proofs.Ytiplbhjllkfemaa.NOrd

/-- For all greater numbers of rounds the answer is r. -/
def Evr {α : Type} (g : Nat → Option α) (r : α) : Prop := ∃ k0, ∀ k, k0 ≤ k → g k = some r
theorem Evr.of {α : Type} {g : Nat → Option α} {r : α} (h : ∀ k, g k = some r) : Evr g r := ⟨0, fun k _ => h k⟩
theorem Evr.succ {α : Type} {g h : Nat → Option α} {r : α} (e : ∀ k, g (k + 1) = h k) (hr : Evr h r) : Evr g r := by
  obtain ⟨k0, h0⟩ := hr
  refine ⟨k0 + 1, fun k hk => ?_⟩
  obtain ⟨k, rfl⟩ : ∃ m, k = m + 1 := ⟨k - 1, by omega⟩
  rw [e]; exact h0 k (by omega)
theorem Evr.bind {α β : Type} {A : Nat → Option α} {B : Nat → α → Option β} {a : α} {b : β} (ha : Evr A a) (hb : Evr (fun k => B k a) b) : Evr (fun k => (A k).bind (B k)) b := by
  obtain ⟨k1, h1⟩ := ha
  obtain ⟨k2, h2⟩ := hb
  refine ⟨max k1 k2, fun k hk => ?_⟩
  show (A k).bind (B k) = some b
  rw [h1 k (by omega), Option.bind_some]
  exact h2 k (by omega)
theorem Evr.congr {α : Type} {g h : Nat → Option α} {r : α} (e : ∀ k, g k = h k) (hr : Evr h r) : Evr g r := by
  obtain ⟨k0, h0⟩ := hr
  exact ⟨k0, fun k hk => (e k).trans (h0 k hk)⟩

theorem Evr.up {α : Type} {g : Nat → Option α} (h : ∀ k, ∀ r, g k = some r → g (k + 1) = some r) {K : Nat} {r : α} (e : g K = some r) : Evr g r := by
  refine ⟨K, fun k hk => ?_⟩
  obtain ⟨d, rfl⟩ : ∃ d, k = K + d := ⟨k - K, by omega⟩
  clear hk
  induction d with
  | zero => exact e
  | succ d ih => exact h _ _ ih
theorem Evr.uniq {α : Type} {g : Nat → Option α} {r s : α} (h : Evr g r) (h2 : Evr g s) : r = s := by
  obtain ⟨k1, h1⟩ := h
  obtain ⟨k2, h2⟩ := h2
  have a := h1 (max k1 k2) (by omega)
  rw [h2 (max k1 k2) (by omega)] at a
  exact (Option.some.inj a).symm

section
variable {α : Type} (cl : α → Int)
def insr (c : α) : List α → List α
  | [] => [c]
  | x :: xs => if 0 < cl c ∧ cl c < cl x then x :: insr c xs else c :: x :: xs
def ordr (o : List α) (l : List α) : List α := l.foldl (fun o c => insr cl c o) o
def order (l : List α) : List α := (ordr cl [] l).reverse

theorem ordr_append (o l m : List α) : ordr cl o (l ++ m) = ordr cl (ordr cl o l) m := List.foldl_append ..
theorem ordr_cons (o : List α) (c : α) (l : List α) : ordr cl o (c :: l) = ordr cl (insr cl c o) l := rfl
theorem ordr_nil (o : List α) : ordr cl o [] = o := rfl
theorem order_snoc (l : List α) (c : α) : order cl (l ++ [c]) = (insr cl c (ordr cl [] l)).reverse := by rw [order, ordr_append]; rfl

theorem insr_swap {a b : α} (ha : 0 < cl a) (hb : 0 < cl b) (hne : cl a ≠ cl b) : ∀ o, insr cl b (insr cl a o) = insr cl a (insr cl b o)
  | [] => by
    simp only [insr]
    by_cases h : cl a < cl b
    · rw [if_neg (by omega), if_pos (by omega)]
    · rw [if_pos (by omega), if_neg (by omega)]
  | x :: xs => by
    have ih := insr_swap ha hb hne xs
    by_cases h1 : cl a < cl x <;> by_cases h2 : cl b < cl x
    · simp only [insr, ha, hb, h1, h2, and_self, if_true, ih]
    · have e1 : insr cl a (x :: xs) = x :: insr cl a xs := by rw [insr, if_pos ⟨ha, h1⟩]
      have e2 : insr cl b (x :: xs) = b :: x :: xs := by rw [insr, if_neg (by omega)]
      rw [e1, e2, insr, if_neg (by omega), insr, if_pos ⟨ha, by omega⟩, e1]
    · have e1 : insr cl a (x :: xs) = a :: x :: xs := by rw [insr, if_neg (by omega)]
      have e2 : insr cl b (x :: xs) = x :: insr cl b xs := by rw [insr, if_pos ⟨hb, h2⟩]
      rw [e1, e2, insr, if_pos ⟨hb, by omega⟩, e2, insr, if_neg (by omega)]
    · have e1 : insr cl a (x :: xs) = a :: x :: xs := by rw [insr, if_neg (by omega)]
      have e2 : insr cl b (x :: xs) = b :: x :: xs := by rw [insr, if_neg (by omega)]
      rw [e1, e2]
      by_cases h : cl a < cl b
      · have e3 : insr cl b (a :: x :: xs) = b :: a :: x :: xs := by rw [insr, if_neg (by omega)]
        rw [e3, insr, if_pos ⟨ha, h⟩, e1]
      · have e3 : insr cl a (b :: x :: xs) = a :: b :: x :: xs := by rw [insr, if_neg (by omega)]
        rw [e3, insr, if_pos ⟨hb, by omega⟩, e2]

theorem insr_perm (c : α) : ∀ o, (insr cl c o).Perm (c :: o)
  | [] => List.Perm.refl _
  | x :: xs => by
    rw [insr]
    split
    · exact ((insr_perm c xs).cons x).trans (List.Perm.swap c x xs)
    · exact List.Perm.refl _
theorem ordr_perm (l : List α) : ∀ o, (ordr cl o l).Perm (l ++ o) := by
  induction l with
  | nil => intro o; exact List.Perm.refl _
  | cons c l ih =>
    intro o
    rw [ordr_cons]
    exact (ih _).trans (((insr_perm cl c o).append_left l).trans List.perm_middle)
theorem order_perm (l : List α) : (order cl l).Perm l := by
  have h := ordr_perm cl l []
  rw [List.append_nil] at h
  exact (List.reverse_perm _).trans h

/-- Putting what is in order behind something is putting it as it was. -/
theorem ordr_insr (c : α) (z : List α) : ∀ o, ordr cl o (insr cl c z).reverse = insr cl c (ordr cl o z.reverse) := by
  induction z with
  | nil => intro o; rfl
  | cons x xs ih =>
    intro o
    rw [insr]
    by_cases h : 0 < cl c ∧ cl c < cl x
    · rw [if_pos h, List.reverse_cons, ordr_append, ih, ordr_cons, ordr_nil, insr_swap cl (a := c) (b := x) h.1 (by omega) (by omega), List.reverse_cons, ordr_append]; rfl
    · rw [if_neg h, List.reverse_cons, ordr_append]; rfl
theorem ordr_order (l : List α) (o : List α) : ordr cl o (order cl l) = ordr cl o l := by
  have : ∀ (l m : List α), (∀ o, ordr cl o m.reverse = ordr cl o l) → ∀ c, ∀ o, ordr cl o (insr cl c m).reverse = ordr cl o (l ++ [c]) := by
    intro l m h c o
    rw [ordr_insr, h, ordr_append]; rfl
  have key : ∀ (l : List α), ∀ o, ordr cl o (ordr cl [] l).reverse = ordr cl o l := by
    intro l
    rw [← List.reverse_reverse l]
    induction l.reverse with
    | nil => intro o; rfl
    | cons c r ih =>
      intro o
      rw [List.reverse_cons, ordr_append]
      exact this _ _ ih c o
  exact key l o
theorem order_order (l : List α) : order cl (order cl l) = order cl l := by rw [order, ordr_order]; rfl
theorem order_join (l m : List α) : order cl (order cl l ++ order cl m) = order cl (l ++ m) := by
  rw [order, ordr_append, ordr_order, ordr_order, ← ordr_append]; rfl

/-- Of one class the order stays. -/
theorem filter_insr (p : Int) (c : α) : ∀ o, (insr cl c o).filter (fun x => cl x == p) = (c :: o).filter (fun x => cl x == p)
  | [] => rfl
  | x :: xs => by
    rw [insr]
    split
    · rename_i h
      rw [List.filter_cons, filter_insr p c xs]
      simp only [List.filter_cons]
      by_cases h1 : cl c = p <;> by_cases h2 : cl x = p
      · exfalso; omega
      all_goals simp [h1, h2]
    · rfl
theorem filter_ordr (p : Int) (l : List α) : ∀ o, (ordr cl o l).filter (fun x => cl x == p) = (l.reverse ++ o).filter (fun x => cl x == p) := by
  induction l with
  | nil => intro o; rfl
  | cons c l ih => intro o; rw [ordr_cons, ih, List.filter_append, filter_insr, List.reverse_cons, List.append_assoc, List.filter_append]; rfl
theorem filter_order (p : Int) (l : List α) : (order cl l).filter (fun x => cl x == p) = l.filter (fun x => cl x == p) := by
  rw [order, List.filter_reverse, filter_ordr, List.append_nil, List.filter_reverse, List.reverse_reverse]

/-! ### neighbours changed -/
inductive Sw : List α → List α → Prop
  | mk (u : List α) (a b : α) (v : List α) (h : cl b < cl a) : Sw (u ++ a :: b :: v) (u ++ b :: a :: v)
inductive Rel : List α → List α → Prop
  | refl (l) : Rel l l
  | step {l m n} : Sw cl l m → Rel m n → Rel l n
variable {cl}
theorem Rel.trans {l m n : List α} (h : Rel cl l m) (h2 : Rel cl m n) : Rel cl l n := by
  induction h with
  | refl => exact h2
  | step s _ ih => exact .step s (ih h2)
theorem Rel.one {l m : List α} (h : Sw cl l m) : Rel cl l m := .step h (.refl _)
theorem Sw.around {l m : List α} (h : Sw cl l m) (u v : List α) : Sw cl (u ++ l ++ v) (u ++ m ++ v) := by
  cases h with
  | mk u' a b v' h =>
    have := Sw.mk (cl := cl) (u ++ u') a b (v' ++ v) h
    simpa [List.append_assoc] using this
theorem Rel.around {l m : List α} (h : Rel cl l m) (u v : List α) : Rel cl (u ++ l ++ v) (u ++ m ++ v) := by
  induction h with
  | refl => exact .refl _
  | step s _ ih => exact .step (s.around u v) ih
theorem Rel.join {l l' m m' : List α} (h : Rel cl l l') (h2 : Rel cl m m') : Rel cl (l ++ m) (l' ++ m') := by
  have h3 := h.around [] m
  have h4 := h2.around l' []
  simp only [List.nil_append, List.append_nil] at h3 h4
  exact h3.trans h4
theorem Sw.perm {l m : List α} (h : Sw cl l m) : l.Perm m := by
  cases h with
  | mk u a b v h => exact (List.Perm.swap b a v).append_left u
theorem Rel.perm {l m : List α} (h : Rel cl l m) : l.Perm m := by
  induction h with
  | refl => exact .refl _
  | step s _ ih => exact s.perm.trans ih
theorem Rel.length {l m : List α} (h : Rel cl l m) : l.length = m.length := h.perm.length_eq
/-- One goes behind all that have lower classes. -/
theorem Rel.over (a : α) : ∀ (q : List α), (∀ y ∈ q, cl y < cl a) → Rel cl (a :: q) (q ++ [a])
  | [], _ => .refl _
  | y :: q, h => .step (Sw.mk [] a y q (h y (by simp))) (by
      have := (Rel.over a q (fun z hz => h z (by simp [hz]))).around [y] []
      simpa using this)
theorem Rel.past (p q : List α) (h : ∀ x ∈ p, ∀ y ∈ q, cl y < cl x) : Rel cl (p ++ q) (q ++ p) := by
  induction p with
  | nil => simpa using Rel.refl q
  | cons a p ih =>
    have h1 := (ih (fun x hx y hy => h x (by simp [hx]) y hy)).around [a] []
    have h2 := (Rel.over a q (fun y hy => h a (by simp) y hy)).around [] p
    simp only [List.append_nil, List.nil_append, List.append_assoc, List.cons_append] at h1 h2 ⊢
    exact h1.trans h2

def Sorted (cl : α → Int) (l : List α) : Prop := l.Pairwise (fun a b => cl a ≤ cl b)
theorem Sorted.append {l m : List α} (h : Sorted cl l) (h2 : Sorted cl m) (h3 : ∀ x ∈ l, ∀ y ∈ m, cl x ≤ cl y) : Sorted cl (l ++ m) := List.pairwise_append.2 ⟨h, h2, h3⟩

/-- Marks whose neighbours were changed are put alike. -/
theorem ordr_sw {l m : List α} (h : Sw cl l m) (hp : ∀ x ∈ l, 0 < cl x) (o : List α) : ordr cl o l = ordr cl o m := by
  cases h with
  | mk u a b v h =>
    have ha := hp a (by simp)
    have hb := hp b (by simp)
    rw [ordr_append, ordr_append, ordr_cons, ordr_cons, ordr_cons, ordr_cons, insr_swap cl ha hb (by omega)]
theorem ordr_rel {l m : List α} (h : Rel cl l m) (hp : ∀ x ∈ l, 0 < cl x) (o : List α) : ordr cl o l = ordr cl o m := by
  induction h with
  | refl => rfl
  | step s _ ih => rw [ordr_sw s hp o]; exact ih (fun x hx => hp x (s.perm.mem_iff.2 hx))
/-- What is in order already is put behind as it is, if nothing greater stands at the end. -/
theorem ordr_sorted (m : List α) (hs : Sorted cl m) : ∀ (o : List α), (∀ x, o.head? = some x → cl x = 0 ∨ ∀ y ∈ m, cl x ≤ cl y) → (∀ x ∈ m, 0 ≤ cl x) → ordr cl o m = m.reverse ++ o := by
  induction m with
  | nil => intro o _ _; rfl
  | cons c m ih =>
    intro o ho hp
    have e : insr cl c o = c :: o := by
      cases o with
      | nil => rfl
      | cons x xs =>
        rw [insr, if_neg]
        have := ho x rfl
        have hc := hp c (by simp)
        rcases this with h | h
        · omega
        · have := h c (by simp); omega
    rw [ordr_cons, e, ih (List.Pairwise.of_cons hs) (c :: o) ?_ (fun x hx => hp x (by simp [hx]))]
    · simp
    · intro x hx
      obtain rfl := Option.some.inj hx
      exact .inr (fun y hy => List.rel_of_pairwise_cons hs hy)
end
end Go.Proofs.Ytiplbhjllkfemaa.NOrd
