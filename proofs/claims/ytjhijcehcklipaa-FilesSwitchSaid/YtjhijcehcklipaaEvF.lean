/-
  A swift form of the second reading: what it tells the second reading tells. Operands are ways through the frame, and what a text does next is handed on.
-/
import Derived.Test.YtjhijcehcklipaaEvCall
set_option linter.unusedVariables false
set_option linter.unusedSimpArgs false
namespace Go.Proofs.Ytjhijcehcklipaa.Ev

/-- A way through a trie. -/
inductive Pa where
  | o
  | l (p : Pa)
  | r (p : Pa)
def pathOf : Nat → Nat → Pa
  | 0, _ => .o
  | _ + 1, 0 => .o
  | f + 1, i + 1 => match i % 2 with
    | 0 => .l (pathOf f (i / 2))
    | _ => .r (pathOf f (i / 2))
noncomputable def Tr.gp {α : Type} (p : Pa) : Tr α → Option α :=
  Pa.rec (motive := fun _ => Tr α → Option α) (fun t => Tr.rec (motive := fun _ => Option α) none (fun v _ _ _ _ => v) t)
    (fun _ ih t => Tr.rec (motive := fun _ => Option α) none (fun _ l _ _ _ => ih l) t)
    (fun _ ih t => Tr.rec (motive := fun _ => Option α) none (fun _ _ r _ _ => ih r) t) p
noncomputable def onL {α : Type} (v : Option α) (r t : Tr α) : Tr α := Tr.rec (motive := fun _ => Tr α) .nil (fun v' l' r' _ _ => .node v (.node v' l' r') r) t
noncomputable def onR {α : Type} (v : Option α) (l t : Tr α) : Tr α := Tr.rec (motive := fun _ => Tr α) .nil (fun v' l' r' _ _ => .node v l (.node v' l' r')) t
noncomputable def Tr.sp {α : Type} (x : α) (p : Pa) : Tr α → Tr α :=
  Pa.rec (motive := fun _ => Tr α → Tr α) (fun t => Tr.rec (motive := fun _ => Tr α) (.node (some x) .nil .nil) (fun _ l r _ _ => .node (some x) l r) t)
    (fun _ ih t => Tr.rec (motive := fun _ => Tr α) (onL none .nil (ih .nil)) (fun v l r _ _ => onL v r (ih l)) t)
    (fun _ ih t => Tr.rec (motive := fun _ => Tr α) (onR none .nil (ih .nil)) (fun v l r _ _ => onR v l (ih r)) t) p
/-- By a number that is not known ahead. -/
noncomputable def Tr.gn {α : Type} (t : Tr α) : Nat → Option α :=
  Tr.rec (motive := fun _ => Nat → Option α) (fun _ => none)
    (fun v _ _ il ir i => Bool.rec (motive := fun _ => Option α) (Bool.rec (motive := fun _ => Option α) (ir ((i - 1) / 2)) (il ((i - 1) / 2)) (Nat.beq ((i - 1) % 2) 0)) v (Nat.beq i 0)) t
noncomputable def Tr.sn {α : Type} (x : α) (f : Nat) : Tr α → Nat → Tr α :=
  Nat.rec (motive := fun _ => Tr α → Nat → Tr α) (fun t _ => t)
    (fun _ ih t i => Tr.rec (motive := fun _ => Tr α)
      (Bool.rec (motive := fun _ => Tr α) (Bool.rec (motive := fun _ => Tr α) (.node none .nil (ih .nil ((i - 1) / 2))) (.node none (ih .nil ((i - 1) / 2)) .nil) (Nat.beq ((i - 1) % 2) 0)) (.node (some x) .nil .nil) (Nat.beq i 0))
      (fun v l r _ _ => Bool.rec (motive := fun _ => Tr α) (Bool.rec (motive := fun _ => Tr α) (.node v l (ih r ((i - 1) / 2))) (.node v (ih l ((i - 1) / 2)) r) (Nat.beq ((i - 1) % 2) 0)) (.node (some x) l r) (Nat.beq i 0)) t) f

theorem gp_eq {α : Type} : ∀ (f i : Nat) (t : Tr α), i < 2 ^ f → t.gp (pathOf f i) = t.get i
  | 0, i, t, h => by
    obtain rfl : i = 0 := by simpa using h
    cases t <;> rfl
  | f + 1, 0, t, _ => by cases t <;> rfl
  | f + 1, i + 1, .nil, h => by
    rw [Tr.get_nil]
    unfold pathOf
    split <;> rfl
  | f + 1, i + 1, .node v l r, h => by
    have h' : i / 2 < 2 ^ f := by rw [Nat.pow_succ] at h; omega
    rcases (show i % 2 = 0 ∨ i % 2 = 1 by omega) with hi | hi <;> simp only [Tr.get, pathOf, hi]
    · exact gp_eq f (i / 2) l h'
    · exact gp_eq f (i / 2) r h'
theorem sp_node {α : Type} (x : α) (p : Pa) (t : Tr α) : ∃ v l r, t.sp x p = .node v l r := by
  induction p generalizing t with
  | o => cases t <;> exact ⟨_, _, _, rfl⟩
  | l p ih =>
    cases t with
    | nil => obtain ⟨v, l, r, h⟩ := ih .nil; refine ⟨none, .node v l r, .nil, ?_⟩; show onL none .nil (Tr.sp x p .nil) = _; rw [h]; rfl
    | node v l r => obtain ⟨v', l', r', h⟩ := ih l; refine ⟨v, .node v' l' r', r, ?_⟩; show onL v r (Tr.sp x p l) = _; rw [h]; rfl
  | r p ih =>
    cases t with
    | nil => obtain ⟨v, l, r, h⟩ := ih .nil; refine ⟨none, .nil, .node v l r, ?_⟩; show onR none .nil (Tr.sp x p .nil) = _; rw [h]; rfl
    | node v l r => obtain ⟨v', l', r', h⟩ := ih r; refine ⟨v, l, .node v' l' r', ?_⟩; show onR v l (Tr.sp x p r) = _; rw [h]; rfl
theorem sp_l {α : Type} (x : α) (p : Pa) (v : Option α) (l r : Tr α) : Tr.sp x (.l p) (.node v l r) = .node v (Tr.sp x p l) r := by
  obtain ⟨v', l', r', h⟩ := sp_node x p l
  show onL v r (Tr.sp x p l) = _
  rw [h]; rfl
theorem sp_r {α : Type} (x : α) (p : Pa) (v : Option α) (l r : Tr α) : Tr.sp x (.r p) (.node v l r) = .node v l (Tr.sp x p r) := by
  obtain ⟨v', l', r', h⟩ := sp_node x p r
  show onR v l (Tr.sp x p r) = _
  rw [h]; rfl
theorem sp_ln {α : Type} (x : α) (p : Pa) : Tr.sp x (.l p) .nil = .node none (Tr.sp x p .nil) .nil := by
  obtain ⟨v', l', r', h⟩ := sp_node x p .nil
  show onL none .nil (Tr.sp x p .nil) = _
  rw [h]; rfl
theorem sp_rn {α : Type} (x : α) (p : Pa) : Tr.sp x (.r p) .nil = .node none .nil (Tr.sp x p .nil) := by
  obtain ⟨v', l', r', h⟩ := sp_node x p .nil
  show onR none .nil (Tr.sp x p .nil) = _
  rw [h]; rfl
theorem sp_eq {α : Type} (x : α) : ∀ (f i : Nat) (t : Tr α), i + 1 < 2 ^ f → t.sp x (pathOf f i) = Tr.set f t i x
  | 0, i, t, h => by simp at h
  | f + 1, 0, t, _ => by cases t <;> rfl
  | f + 1, i + 1, t, h => by
    have h' : i / 2 + 1 < 2 ^ f := by rw [Nat.pow_succ] at h; omega
    rcases (show i % 2 = 0 ∨ i % 2 = 1 by omega) with hi | hi <;> cases t <;> simp only [Tr.set, pathOf, hi, sp_l, sp_r, sp_ln, sp_rn]
    · rw [sp_eq x f (i / 2) _ h']
    · rw [sp_eq x f (i / 2) _ h']
    · rw [sp_eq x f (i / 2) _ h']
    · rw [sp_eq x f (i / 2) _ h']
theorem gn_eq {α : Type} : ∀ (t : Tr α) (i : Nat), t.gn i = t.get i
  | .nil, i => by rw [Tr.get_nil]; rfl
  | .node v l r, 0 => rfl
  | .node v l r, i + 1 => by
    have hl := gn_eq l (i / 2)
    have hr := gn_eq r (i / 2)
    rcases (show i % 2 = 0 ∨ i % 2 = 1 by omega) with hi | hi <;> simp only [Tr.get, hi]
    · rw [← hl]
      show Bool.rec (motive := fun _ => Option α) (r.gn (i / 2)) (l.gn (i / 2)) (Nat.beq (i % 2) 0) = _
      rw [hi]; rfl
    · rw [← hr]
      show Bool.rec (motive := fun _ => Option α) (r.gn (i / 2)) (l.gn (i / 2)) (Nat.beq (i % 2) 0) = _
      rw [hi]; rfl
theorem sn_eq {α : Type} (x : α) : ∀ (f : Nat) (t : Tr α) (i : Nat), Tr.sn x f t i = Tr.set f t i x
  | 0, t, i => rfl
  | f + 1, t, 0 => by cases t <;> rfl
  | f + 1, .nil, i + 1 => by
    have h := sn_eq x f .nil (i / 2)
    rcases (show i % 2 = 0 ∨ i % 2 = 1 by omega) with hi | hi <;> simp only [Tr.set, hi]
    · rw [← h]
      show Bool.rec (motive := fun _ => Tr α) (.node none .nil (Tr.sn x f .nil (i / 2))) (.node none (Tr.sn x f .nil (i / 2)) .nil) (Nat.beq (i % 2) 0) = _
      rw [hi]; rfl
    · rw [← h]
      show Bool.rec (motive := fun _ => Tr α) (.node none .nil (Tr.sn x f .nil (i / 2))) (.node none (Tr.sn x f .nil (i / 2)) .nil) (Nat.beq (i % 2) 0) = _
      rw [hi]; rfl
  | f + 1, .node v l r, i + 1 => by
    have hl := sn_eq x f l (i / 2)
    have hr := sn_eq x f r (i / 2)
    rcases (show i % 2 = 0 ∨ i % 2 = 1 by omega) with hi | hi <;> simp only [Tr.set, hi]
    · rw [← hl]
      show Bool.rec (motive := fun _ => Tr α) (.node v l (Tr.sn x f r (i / 2))) (.node v (Tr.sn x f l (i / 2)) r) (Nat.beq (i % 2) 0) = _
      rw [hi]; rfl
    · rw [← hr]
      show Bool.rec (motive := fun _ => Tr α) (.node v l (Tr.sn x f r (i / 2))) (.node v (Tr.sn x f l (i / 2)) r) (Nat.beq (i % 2) 0) = _
      rw [hi]; rfl
end Go.Proofs.Ytjhijcehcklipaa.Ev
