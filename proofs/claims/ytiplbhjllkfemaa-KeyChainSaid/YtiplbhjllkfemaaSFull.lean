/-
  A cut with a capacity, s[:k:k], and an append to it: always a row of its own.
-/
import Derived.Test.YtiplbhjllkfemaaV0
import Derived.Laws.AppendOwn
namespace Go.Proofs.YtiplbhjllkfemaaW.PrintWords
open Go.RowKit
section
variable {P : Program} {a : Act} {Q : Exit → Act → World → Prop} {ops : Array Oper} {rest : List Oper} {o : Oper}
theorem cut_cap (t e : TypeId) (kh : IntKind) {i : TypeInfo} (ht : P.underlying t = some (.slice e)) (hi : P.info? e = some i) (A : Option Addr) (n c : Nat) (j : Int) (h0 : 0 ≤ j) (hm : j ≤ n) (hc : n ≤ c) :
    ∀ W : World, (Instr.slice t (.slice A n c) none (some (.int kh j)) (some (.int kh j))).run P W = .ok (.slice A j.toNat j.toNat) W := by
  intro W
  have hel : P.elem t = e := by simp [Program.elem, ht]
  have hu : P.underlying t = some (.slice (P.elem t)) := by rw [hel]; exact ht
  have ha : (A.map fun x => x.add 0) = A := by cases A <;> simp [Addr.add]
  rw [run_slice_hm W t A n c hu kh kh j j h0 (by omega) (by omega), hel]
  simp [sizeOf, typeInfo, hi, sliced, Result.andThen, ha]
theorem S_full_run {W : World} (base : Nat) (t ty e : TypeId) (z : Value) (bytes : Nat)
    (ht : P.underlying t = some (.slice e)) (hinfo : (P.info? e).map (fun i => (i.zero, i.size, i.bytes)) = some (some z, 1, bytes)) (hz : z.cells.size = 1) (hb0 : 0 < bytes)
    (B : Option Addr) (n : Nat) (xs ys : List ByteArray) (A : Option Addr) (m c : Nat) (ok : Nat → Prop)
    (HO : Kd.string.C W B n xs) (HR : Kd.string.C W A m ys) (hy : 0 < ys.length) (hfresh : ∀ k, W.heap.size ≤ k → ok k)
    (hbase : base ≤ W.heap.size) (hl : (xs.length + m) * bytes ≤ 140737488355328) :
    ∃ v1 w1, (Builtin.append_ #[t, t] ty #[.slice B n n, .slice A m c]).run P W = .ok v1 w1 ∧ Kd.string.R e w1 base ok v1 (xs ++ ys) ∧ W.grownBy w1 (Value.slice none 0 0).ownBlock ∧ (v1.ownBlock = (Value.slice none 0 0).ownBlock ∨ ∃ b, v1.ownBlock = some b ∧ W.heap.size ≤ b) := by
  obtain ⟨i0, hi, hzz⟩ := Option.map_eq_some_iff.1 hinfo
  simp only [Prod.mk.injEq] at hzz
  obtain ⟨hz0, hz1, hz2⟩ := hzz
  have RO := Kd.reads_of_C (enc := Value.string) (d := ByteArray.empty) (h1 := fun _ => rfl) HO
  have RR := Kd.reads_of_C (enc := Value.string) (d := ByteArray.empty) (h1 := fun _ => rfl) HR
  obtain rfl : ys.length = m := RR.1
  obtain rfl : xs.length = n := RO.1
  have hlen : xs.length + ys.length ≤ 140737488355328 := Nat.le_trans (Nat.le_mul_of_pos_right _ hb0) hl
  obtain ⟨ad, rfl, hcy⟩ := RR.2.2 hy
  have cells : ∀ (l : List ByteArray) (b : Addr), (∀ j, j < l.length → W.cell? (b.add j) = some (.string (l.getD j ByteArray.empty))) → ∀ j v, (encs Value.string l)[j]? = some v → W.cell? (b.add j) = some v := by
    intro l b hc j v hv
    unfold encs at hv
    rw [List.getElem?_map] at hv
    obtain ⟨q, hq, rfl⟩ := Option.map_eq_some_iff.1 hv
    have hj : j < l.length := (List.getElem?_eq_some_iff.1 hq).1
    rw [hc j hj, List.getD_eq_getElem?_getD, hq]; rfl
  have hnews := cells ys ad hcy
  have hn : (encs Value.string ys).length = ys.length * i0.size := by rw [encs_length, hz1, Nat.mul_one]
  have key : ∃ old, old < xs.length + ys.length ∧ (Builtin.append_ #[t, t] ty #[.slice B xs.length xs.length, .slice (some ad) ys.length c]).run P W =
      .ok (.slice (some ⟨W.heap.size, 0, none⟩) (xs.length + ys.length) (grownCap W (xs.length + ys.length) old e)) (W.drew.alloc (.cells ((encs Value.string xs).toArray ++ (encs Value.string ys).toArray ++ Builtin.zeroCells z.cells (grownCap W (xs.length + ys.length) old e - (xs.length + ys.length))) e)) := by
    rcases B with _ | b
    · have hx0 : xs = [] := by
        rcases Nat.eq_zero_or_pos xs.length with q | q
        · exact List.eq_nil_of_length_eq_zero q
        · obtain ⟨_, hq, _⟩ := RO.2.2 q
          cases hq
      subst hx0
      have hr := run_append_nil (P := P) W t ty e i0 z ht hi hz0 ad ys.length c (encs Value.string ys) hn hnews hy (by omega) (by rw [hz2]; simp only [List.length_nil, Nat.zero_add] at hl; omega)
      refine ⟨0, by omega, ?_⟩
      simp only [List.length_nil, Nat.zero_add, encs, List.map_nil, Array.empty_append] at hr ⊢
      exact hr
    · have holds : ∀ j v, (encs Value.string xs)[j]? = some v → W.cell? (b.add j) = some v := by
        rcases Nat.eq_zero_or_pos xs.length with q | q
        · intro j v hv
          rw [List.eq_nil_of_length_eq_zero q] at hv
          simp [encs] at hv
        · obtain ⟨b', hb', hc⟩ := RO.2.2 q
          obtain rfl := Option.some.inj hb'
          exact cells xs b hc
      exact ⟨xs.length, by omega, run_append_grow (P := P) W t ty e i0 z ht hi hz0 b xs.length xs.length (encs Value.string xs) (by rw [encs_length, hz1, Nat.mul_one]) holds ad ys.length c (encs Value.string ys) hn hnews (by omega) (by omega) (growslice_fits (by omega) (by rw [hz2]; exact hl))⟩
  obtain ⟨old, hold, hr1⟩ := key
  have hge := grownCap_ge W (xs.length + ys.length) old e
  have hcm : grownCap W (xs.length + ys.length) old e ≤ maxLen := grownCap_le_maxLen W (xs.length + ys.length) old e (by unfold maxLen; omega)
  have hg : W.grownBy (W.drew.alloc (.cells ((encs Value.string xs).toArray ++ (encs Value.string ys).toArray ++ Builtin.zeroCells z.cells (grownCap W (xs.length + ys.length) old e - (xs.length + ys.length))) e)) (Value.slice none 0 0).ownBlock :=
    ⟨rfl, rfl, rfl, by simp, fun k hk _ => heap_alloc_old W.drew _ (by simpa using hk)⟩
  refine ⟨_, _, hr1, Kd.R_of_own (h1 := fun _ => rfl) ⟨?_, .inr ⟨W.heap.size, _, _, ?_, hbase, heap_alloc_new W.drew _, ?_, hcm, ?_, ?_⟩⟩ ?_, hg, .inr ⟨W.heap.size, rfl, Nat.le_refl _⟩⟩
  · rw [encs_length, Nat.mul_one]
  · rw [List.length_append]
  · rw [List.length_append]; exact hge
  · simp only [Array.size_append, List.size_toArray, size_zeroCells, hz, encs_length]
    omega
  · simp only [Array.toList_append, encs_append, List.length_append, Nat.mul_one]
    rw [List.take_append_of_le_length (by simp [encs_length]), List.take_of_length_le (by simp [encs_length])]
  · intro k hk
    simp only [Value.ownBlock, Option.some.injEq] at hk
    exact hfresh k (by omega)
theorem S_append_full {w0 W : World} (base : Nat) (hgd : o.guard = none) (s x : Operand) (t e : TypeId) (z : Value) (bytes : Nat)
    (ho : o.op = .call { callee := .builtin .append, args := #[s, x], argTypes := #[t, t] })
    (ht : P.underlying t = some (.slice e)) (hinfo : (P.info? e).map (fun i => (i.zero, i.size, i.bytes)) = some (some z, 1, bytes)) (hz : z.cells.size = 1) (hb0 : 0 < bytes)
    (B : Option Addr) (n : Nat) (xs ys : List ByteArray) (A : Option Addr) (m c : Nat) (ok : Nat → Prop) (hs : a.eval s = .slice B n n) (hx : a.eval x = .slice A m c)
    (HO : Kd.string.C W B n xs) (HR : Kd.string.C W A m ys) (hy : 0 < ys.length) (hfresh : ∀ k, W.heap.size ≤ k → ok k)
    (HB : Below base w0 W) (hbase : base ≤ W.heap.size) (hl : (xs.length + m) * bytes ≤ 140737488355328)
    (h : ∀ v1 w1, Kd.string.R e w1 base ok v1 (xs ++ ys) → Below base w0 w1 → W.grownBy w1 (Value.slice none 0 0).ownBlock → (v1.ownBlock = (Value.slice none 0 0).ownBlock ∨ ∃ b, v1.ownBlock = some b ∧ W.heap.size ≤ b) → wpList P ops Q rest (a.put o.dst v1) w1) :
    wpList P ops Q (o :: rest) a W := by
  obtain ⟨v1, w1, hr1, h1, hg, hat⟩ := S_full_run (P := P) base t o.type e z bytes ht hinfo hz hb0 B n xs ys A m c ok HO HR hy hfresh hbase hl
  refine wpList_plain hgd fun K hK => ?_
  unfold Oper.wp execOp
  simp only [ho, resolve, invoke, builtin, Sem.run_bind, Sem.run_pure, Result.andThen_ok, List.map_toArray, List.map_cons, List.map_nil, hs, hx, hr1]
  exact hK _ _ (h v1 w1 h1 (HB.grown hg hbase (fun k hk => by simp [Value.ownBlock] at hk)) hg hat)
theorem S_append_full_step {Kc : Act → World → Prop} {w0 W : World} (base : Nat) (hw : Region.wanted o (yielded ops a.tmps) = true) (s x : Operand) (t e : TypeId) (z : Value) (bytes : Nat)
    (ho : o.op = .call { callee := .builtin .append, args := #[s, x], argTypes := #[t, t] })
    (ht : P.underlying t = some (.slice e)) (hinfo : (P.info? e).map (fun i => (i.zero, i.size, i.bytes)) = some (some z, 1, bytes)) (hz : z.cells.size = 1) (hb0 : 0 < bytes)
    (B : Option Addr) (n : Nat) (xs ys : List ByteArray) (A : Option Addr) (m c : Nat) (ok : Nat → Prop) (hs : a.eval s = .slice B n n) (hx : a.eval x = .slice A m c)
    (HO : Kd.string.C W B n xs) (HR : Kd.string.C W A m ys) (hy : 0 < ys.length) (hfresh : ∀ k, W.heap.size ≤ k → ok k)
    (HB : Below base w0 W) (hbase : base ≤ W.heap.size) (hl : (xs.length + m) * bytes ≤ 140737488355328)
    (h : ∀ v1 w1, Kd.string.R e w1 base ok v1 (xs ++ ys) → Below base w0 w1 → W.grownBy w1 (Value.slice none 0 0).ownBlock → (v1.ownBlock = (Value.slice none 0 0).ownBlock ∨ ∃ b, v1.ownBlock = some b ∧ W.heap.size ≤ b) → Kc (a.put o.dst v1) w1) :
    if Region.wanted o (yielded ops a.tmps) = true then Oper.wp P o a W Kc Q else Kc (a.put o.dst undef) W := by
  obtain ⟨v1, w1, hr1, h1, hg, hat⟩ := S_full_run (P := P) base t o.type e z bytes ht hinfo hz hb0 B n xs ys A m c ok HO HR hy hfresh hbase hl
  rw [if_pos hw]
  unfold Oper.wp execOp
  simp only [ho, resolve, invoke, builtin, Sem.run_bind, Sem.run_pure, Result.andThen_ok, List.map_toArray, List.map_cons, List.map_nil, hs, hx, hr1]
  exact h v1 w1 h1 (HB.grown hg hbase (fun k hk => by simp [Value.ownBlock] at hk)) hg hat
end
end Go.Proofs.YtiplbhjllkfemaaW.PrintWords
