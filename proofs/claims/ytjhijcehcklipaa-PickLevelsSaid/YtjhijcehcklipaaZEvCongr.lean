/-
  An operation looks at its own slots alone.
-/
import Derived.Test.YtjhijcehcklipaaZEvStep
set_option linter.unusedVariables false
set_option linter.unusedSimpArgs false
namespace Go.Proofs.Ytjhijcehcklipaa.Ev

section
variable {P : Program} {T T' : Fr}
theorem evs_congr : ∀ {xs : List Operand}, (∀ x ∈ xs, ev T x = ev T' x) → evs T xs = evs T' xs
  | [], _ => rfl
  | x :: xs, h => by rw [evs, evs, h x (List.mem_cons_self ..), evs_congr fun y hy => h y (List.mem_cons_of_mem _ hy)]
theorem evp_congr : ∀ {xs : List (Nat × Operand)}, (∀ x ∈ xs, ev T x.2 = ev T' x.2) → evp T xs = evp T' xs
  | [], _ => rfl
  | (i, x) :: xs, h => by rw [evp, evp, h (i, x) (List.mem_cons_self ..), evp_congr fun y hy => h y (List.mem_cons_of_mem _ hy)]
theorem evo_congr {x : Option Operand} (h : ∀ y ∈ x, ev T y = ev T' y) : evo T x = evo T' x := by
  cases x with
  | none => rfl
  | some x => rw [evo, evo, h x rfl]
theorem op_congr {op : Op} (h : ∀ x ∈ op.operands, ev T x = ev T' x) :
    opP P T op = opP P T' op ∧ (∀ H, opR P T H op = opR P T' H op) ∧ opA P T op = opA P T' op ∧ (∀ H, opW P T H op = opW P T' H op) ∧ (∀ H, opC P T H op = opC P T' H op) := by
  cases op with
  | move x => have := h x (by simp [Op.operands]); simp only [opP, opR, opA, opW, opC, this, implies_true, and_self]
  | assign x => have := h x (by simp [Op.operands]); simp only [opP, opR, opA, opW, opC, this, implies_true, and_self]
  | pick c a b =>
    have h1 := h c (by simp [Op.operands]); have h2 := h a (by simp [Op.operands]); have h3 := h b (by simp [Op.operands])
    simp only [opP, opR, opA, opW, opC, h1, h2, h3, implies_true, and_self]
  | box e x => have := h x (by simp [Op.operands]); simp only [opP, opR, opA, opW, opC, this, implies_true, and_self]
  | build t ps =>
    have := evp_congr (T := T) (T' := T') (xs := ps.toList) fun x hx => h x.2 (by simp [Op.operands]; exact ⟨x.1, by simpa using hx⟩)
    simp only [opP, opR, opA, opW, opC, this, implies_true, and_self]
  | buildSlice t n ps =>
    have := evp_congr (T := T) (T' := T') (xs := ps.toList) fun x hx => h x.2 (by simp [Op.operands]; exact ⟨x.1, by simpa using hx⟩)
    simp only [opP, opR, opA, opW, opC, this, implies_true, and_self]
  | load t x => have := h x (by simp [Op.operands]); simp only [opP, opR, opA, opW, opC, this, implies_true, and_self]
  | store t x y =>
    have h1 := h x (by simp [Op.operands]); have h2 := h y (by simp [Op.operands])
    simp only [opP, opR, opA, opW, opC, h1, h2, implies_true, and_self]
  | nilCheck x => have := h x (by simp [Op.operands]); simp only [opP, opR, opA, opW, opC, this, implies_true, and_self]
  | binOp o t x y u =>
    have h1 := h x (by simp [Op.operands]); have h2 := h y (by simp [Op.operands])
    simp only [opP, opR, opA, opW, opC, h1, h2, implies_true, and_self]
  | makeInterface t x => have := h x (by simp [Op.operands]); simp only [opP, opR, opA, opW, opC, this, implies_true, and_self]
  | unOp o t x => have := h x (by simp [Op.operands]); simp only [opP, opR, opA, opW, opC, this, implies_true, and_self]
  | convert s d x => have := h x (by simp [Op.operands]); simp only [opP, opR, opA, opW, opC, this, implies_true, and_self]
  | makeFunc fn f c =>
    have h1 := evs_congr (T := T) (T' := T') (xs := c.toList) fun x hx => h x (by simp [Op.operands]; exact .inr (by simpa using hx))
    have h2 := evs_congr (T := T) (T' := T') (xs := f.toList) fun x hx => h x (by simp [Op.operands]; exact .inl (by simpa using hx))
    cases fn <;> simp only [opP, opR, opA, opW, opC, h1, h2, implies_true, and_self]
  | makeSlice t x y =>
    have h1 := h x (by simp [Op.operands]); have h2 := h y (by simp [Op.operands])
    simp only [opP, opR, opA, opW, opC, h1, h2, implies_true, and_self]
  | slice t x l hh m =>
    have h1 := h x (by simp [Op.operands])
    have h2 := evo_congr (T := T) (T' := T') (x := l) fun y hy => h y (by simp [Op.operands]; simp at hy; simp [hy])
    have h3 := evo_congr (T := T) (T' := T') (x := hh) fun y hy => h y (by simp [Op.operands]; simp at hy; simp [hy])
    have h4 := evo_congr (T := T) (T' := T') (x := m) fun y hy => h y (by simp [Op.operands]; simp at hy; simp [hy])
    simp only [opP, opR, opA, opW, opC, h1, h2, h3, h4, implies_true, and_self]
  | fieldAddr t x f => have := h x (by simp [Op.operands]); simp only [opP, opR, opA, opW, opC, this, implies_true, and_self]
  | field t x f => have := h x (by simp [Op.operands]); simp only [opP, opR, opA, opW, opC, this, implies_true, and_self]
  | indexAddr t x y =>
    have h1 := h x (by simp [Op.operands]); have h2 := h y (by simp [Op.operands])
    simp only [opP, opR, opA, opW, opC, h1, h2, implies_true, and_self]
  | index t x y =>
    have h1 := h x (by simp [Op.operands]); have h2 := h y (by simp [Op.operands])
    simp only [opP, opR, opA, opW, opC, h1, h2, implies_true, and_self]
  | lookup t x y ok =>
    have h1 := h x (by simp [Op.operands]); have h2 := h y (by simp [Op.operands])
    simp only [opP, opR, opA, opW, opC, h1, h2, implies_true, and_self]
  | mapUpdate t x y z =>
    have h1 := h x (by simp [Op.operands]); have h2 := h y (by simp [Op.operands]); have h3 := h z (by simp [Op.operands])
    simp only [opP, opR, opA, opW, opC, h1, h2, h3, implies_true, and_self]
  | makeMap t r => cases r <;> simp only [opP, opR, opA, opW, opC, implies_true, and_self]
  | extract x i => have := h x (by simp [Op.operands]); simp only [opP, opR, opA, opW, opC, this, implies_true, and_self]
  | call c =>
    have h1 := evs_congr (T := T) (T' := T') (xs := c.args.toList) fun x hx => h x (by simp [Op.operands, Call.operands]; exact .inr (by simpa using hx))
    have h2 : ∀ x, c.callee = .value x → ev T x = ev T' x := fun x hx => h x (by simp [Op.operands, Call.operands, hx])
    have h3 : ∀ x nm, c.callee = .invoke x nm → ev T x = ev T' x := fun x nm hx => h x (by simp [Op.operands, Call.operands, hx])
    refine ⟨by simp only [opP, h1], fun H => by simp only [opR, h1], rfl, fun H => by simp only [opW, h1], fun H => ?_⟩
    simp only [opC, h1]
    cases hc : c.callee with
    | invoke x nm => cases evs T' c.args.toList with
      | none => rfl
      | some as => simp only [h3 x nm hc]
    | value x => cases evs T' c.args.toList with
      | none => rfl
      | some as => simp only [h2 x hc]
    | _ => cases evs T' c.args.toList <;> rfl
  | _ => simp only [opP, opR, opA, opW, opC, implies_true, and_self]
theorem wants_congr {ops : Array Oper} {o : Oper} (h : ∀ t ∈ guardTmp ops o, T.at t = T'.at t) : wants ops T o = wants ops T' o := by
  unfold wants
  unfold guardTmp at h
  split
  · rfl
  · rename_i j want hg
    rw [hg] at h
    simp only at h
    split
    · rename_i t ht
      rw [ht] at h
      rw [h t (by simp)]
    · rfl
theorem ev_congr {ops : Array Oper} {o : Oper} (h : ∀ t ∈ looks ops o, T.at t = T'.at t) : (∀ x ∈ o.op.operands, ev T x = ev T' x) ∧ ∀ t ∈ guardTmp ops o, T.at t = T'.at t := by
  refine ⟨fun x hx => ?_, fun t ht => h t (List.mem_append_right _ ht)⟩
  cases x with
  | tmp t =>
    rw [ev, ev, h t (List.mem_append_left _ ?_)]
    rw [List.mem_filterMap]
    exact ⟨.tmp t, by simpa using hx, rfl⟩
  | _ => rfl
theorem samePl_eq {a c : Pl} (h : samePl a c = true) : a = c := by
  obtain ⟨o, v, i⟩ := a
  obtain ⟨o', v', i'⟩ := c
  simp [samePl] at h
  rw [h.1.1, h.1.2, h.2]
theorem same0_eq {a c : AV} (h : same0 a c = true) : a = c := by
  unfold same0 at h
  split at h
  · simp at h; rw [h]
  · simp at h; rw [h.1, h.2]
  · rw [eqN_eq] at h; rw [of_decide_eq_true h]
  · rfl
  · rw [samePl_eq h]
  · simp at h; rw [h.1, h.2]
  · rw [Bool.and_eq_true, Bool.and_eq_true] at h; rw [samePl_eq h.1.1, Nat.eq_of_beq_eq_true h.1.2, Nat.eq_of_beq_eq_true h.2]
  · rfl
  · rw [Nat.eq_of_beq_eq_true h]
  · rw [Nat.eq_of_beq_eq_true h]
  · rw [Bool.and_eq_true] at h; rw [Nat.eq_of_beq_eq_true h.1, samePl_eq h.2]
  · rfl
  · rfl
  · simp at h; rw [h.1, h.2]
  · cases h
theorem sames_eq : ∀ {as cs : List AV}, sames as cs = true → as = cs
  | [], [], _ => rfl
  | a :: as, c :: cs, h => by rw [sames, Bool.and_eq_true] at h; rw [same0_eq h.1, sames_eq h.2]
  | [], _ :: _, h => by simp [sames] at h
  | _ :: _, [], h => by simp [sames] at h
theorem same_eq {a c : AV} (h : same a c = true) : a = c := by
  unfold same at h
  split at h
  · rw [sames_eq h]
  · exact same0_eq h
end
end Go.Proofs.Ytjhijcehcklipaa.Ev
