/-
  The document's versions: their blocks; an append to a cut whose capacity is its length.
-/
import Derived.Test.YtjhijcehcklipaaZVeR2
import Derived.Laws.AppendOwn
import Derived.IntWalk
import Derived.StillTailTactics
namespace Go.Proofs.Ytjhijcehcklipaa.MVe
open Go.RowKit Go.Proofs.YtjhijcehcklipaaW.PrintWords Go.Proofs.YtjhijcehcklipaaW.PrintLast Go.Proofs.YtjhijcehcklipaaW.PrintMore
set_option linter.unusedVariables false
set_option linter.unusedSimpArgs false

def RBlk (w : World) (g : Nat) (vf : Value) (v : Ver) : Prop := w.heap[g]? = some (.cells #[vf, .int .i64 v.next, .int .i64 v.log, .int .i64 v.last] 113 (0, 0))
theorem RBlk.cells {w : World} {g : Nat} {vf : Value} {v : Ver} (h : RBlk w g vf v) : w.cell? ⟨g, 0, none⟩ = some vf ∧ w.cell? ⟨g, 1, none⟩ = some (.int .i64 v.next) ∧ w.cell? ⟨g, 2, none⟩ = some (.int .i64 v.log) ∧ w.cell? ⟨g, 3, none⟩ = some (.int .i64 v.last) :=
  ⟨(blk_cell h 0).trans rfl, (blk_cell h 1).trans rfl, (blk_cell h 2).trans rfl, (blk_cell h 3).trans rfl⟩
theorem RBlk.free {w : World} {g : Nat} {vf : Value} {v : Ver} (h : RBlk w g vf v) : w.frozen? ⟨g, 0, none⟩ = false ∧ w.frozen? ⟨g, 1, none⟩ = false ∧ w.frozen? ⟨g, 2, none⟩ = false ∧ w.frozen? ⟨g, 3, none⟩ = false :=
  ⟨blk_frozen h 0, blk_frozen h 1, blk_frozen h 2, blk_frozen h 3⟩
theorem RBlk.set0 {w : World} {g : Nat} {vf : Value} {v : Ver} (h : RBlk w g vf v) (u : Value) (l : List S41) : RBlk (w.setCell ⟨g, 0, none⟩ u) g u { v with files := l } := (blk_set h 0 _).trans rfl
theorem RBlk.set1 {w : World} {g : Nat} {vf : Value} {v : Ver} (h : RBlk w g vf v) (n : Int) : RBlk (w.setCell ⟨g, 1, none⟩ (.int .i64 n)) g vf { v with next := n } := (blk_set h 1 _).trans rfl
theorem RBlk.set2 {w : World} {g : Nat} {vf : Value} {v : Ver} (h : RBlk w g vf v) (n : Int) : RBlk (w.setCell ⟨g, 2, none⟩ (.int .i64 n)) g vf { v with log := n } := (blk_set h 2 _).trans rfl
theorem RBlk.set3 {w : World} {g : Nat} {vf : Value} {v : Ver} (h : RBlk w g vf v) (n : Int) : RBlk (w.setCell ⟨g, 3, none⟩ (.int .i64 n)) g vf { v with last := n } := (blk_set h 3 _).trans rfl
/-- The document's version in memory. -/
structure RInv (w0 : World) (P : Nat → Prop) (g : Nat) (v : Ver) (w : World) : Prop where
  below : Below w0.heap.size w0 w
  base : w0.heap.size ≤ g
  blk : ∃ vf, RBlk w g vf v ∧ Kd.R k41 41 w w0.heap.size P vf v.files
theorem RInv.step {w0 w w1 : World} {P : Nat → Prop} {g : Nat} {v : Ver} (h : RInv w0 P g v w) (hb : Below w.heap.size w w1) : RInv w0 P g v w1 := by
  obtain ⟨h1, h2, vh, h3, h4⟩ := h
  exact ⟨below_then h1 h1.size hb, h2, vh, (hb.block g (blk_lt h3)).trans h3, Kd.R_below h4 hb⟩
theorem RInv.lt {w0 w : World} {P : Nat → Prop} {g : Nat} {v : Ver} (h : RInv w0 P g v w) : g < w.heap.size := by
  obtain ⟨h1, h2, vh, h3, h4⟩ := h
  exact blk_lt h3
theorem RInv.wide {w0 w : World} {P Q : Nat → Prop} {g : Nat} {v : Ver} (h : RInv w0 P g v w) (hp : ∀ k, P k → Q k) : RInv w0 Q g v w := by
  obtain ⟨h1, h2, vf, h3, h4⟩ := h
  exact ⟨h1, h2, vf, h3, Kd.R_mono h4 hp⟩
theorem RInv.row {w0 w : World} {P : Nat → Prop} {g : Nat} {v : Ver} (h : RInv w0 P g v w) : ∃ A k, RBlk w g (.slice A v.files.length k) v ∧ Kd.C k41 w A v.files.length v.files ∧ v.files.length ≤ k := by
  obtain ⟨h1, h2, vf, h5, h6⟩ := h
  obtain ⟨A, k, ef, hc, hC⟩ := Kd.R_reads h6
  subst ef
  exact ⟨A, k, h5, hC, hc⟩
/-- A row of tables is not a version's block. -/
theorem row_ne {w : World} {b g t : Nat} {P : Nat → Prop} {v : Value} {xs : List S41} {cs : Array Value} {o : Nat × Nat} (h : Kd.R k41 41 w b P v xs) (hg : w.heap[g]? = some (.cells cs t o)) (ht : t ≠ 41) : Kd.R k41 41 w b (fun k => P k ∧ k ≠ g) v xs := by
  obtain ⟨hok, inner, ⟨hl, ho⟩, hr⟩ := h
  have hr' : Reps (k41.M w b fun k => (P k ∧ k ≠ g) ∧ some k ≠ v.ownBlock) k41.sz xs inner := hr.imp_ fun x cs h => by rw [k41_openM h]; exact k41_mkM _ _ _ x
  refine ⟨fun k hk => ⟨hok k hk, fun e => ?_⟩, inner, ⟨hl, ho⟩, hr'⟩
  rcases ho with ⟨rfl, _⟩ | ⟨g', cap, cur, rfl, _, hb, _⟩
  · simp [Value.ownBlock] at hk
  · simp only [Value.ownBlock, Option.some.injEq] at hk
    subst hk
    subst e
    rw [hb] at hg
    simp only [Option.some.injEq, Obj.cells.injEq] at hg
    exact ht hg.2.1.symm
theorem VInv.apart {w0 w : World} {P : Nat → Prop} {g h : Nat} {v : Ver} {cs : Array Value} {t : Nat} {o : Nat × Nat} (hI : VInv w0 P g v w) (hh : w.heap[h]? = some (.cells cs t o)) (ht : t ≠ 41) : VInv w0 (fun k => P k ∧ k ≠ h) g v w := by
  obtain ⟨h1, h2, vf, h3, h4⟩ := hI
  exact ⟨h1, h2, vf, h3, row_ne h4 hh ht⟩
theorem RInv.apart {w0 w : World} {P : Nat → Prop} {g h : Nat} {v : Ver} {cs : Array Value} {t : Nat} {o : Nat × Nat} (hI : RInv w0 P g v w) (hh : w.heap[h]? = some (.cells cs t o)) (ht : t ≠ 41) : RInv w0 (fun k => P k ∧ k ≠ h) g v w := by
  obtain ⟨h1, h2, vf, h3, h4⟩ := hI
  exact ⟨h1, h2, vf, h3, row_ne h4 hh ht⟩
theorem VInv.kept {w0 w w1 : World} {P S : Nat → Prop} {g : Nat} {v : Ver} (h : VInv w0 P g v w) (hb : Below w0.heap.size w0 w1) (hk : Kept w w1 S) (hg : ¬ S g) (hP : ∀ k, P k → ¬ S k) : VInv w0 P g v w1 := by
  obtain ⟨h1, h2, vf, h3, h4⟩ := h
  exact ⟨hb, h2, vf, blk_kept h3 hk hg, Kd.R_kept h4 hk hP⟩
theorem RInv.kept {w0 w w1 : World} {P S : Nat → Prop} {g : Nat} {v : Ver} (h : RInv w0 P g v w) (hb : Below w0.heap.size w0 w1) (hk : Kept w w1 S) (hg : ¬ S g) (hP : ∀ k, P k → ¬ S k) : RInv w0 P g v w1 := by
  obtain ⟨h1, h2, vf, h3, h4⟩ := h
  exact ⟨hb, h2, vf, blk_kept h3 hk hg, Kd.R_kept h4 hk hP⟩

theorem full_run {W : World} (base : Nat) (ty : TypeId) (B : Option Addr) (n : Nat) (xs ys : List S41) (A : Option Addr) (m c : Nat) (ok : Nat → Prop)
    (HO : Kd.C k41 W B n xs) (HR : Kd.C k41 W A m ys) (hy : 0 < ys.length) (hfresh : ∀ k, W.heap.size ≤ k → ok k)
    (hbase : base ≤ W.heap.size) (hl : xs.length + m ≤ 1000000) :
    ∃ v1 w1, (Builtin.append_ #[39, 39] ty #[.slice B n n, .slice A m c]).run Try.prog W = .ok v1 w1 ∧ Kd.R k41 41 w1 base ok v1 (xs ++ ys) ∧ W.grownBy w1 (Value.slice none 0 0).ownBlock ∧ (v1.ownBlock = (Value.slice none 0 0).ownBlock ∨ ∃ b, v1.ownBlock = some b ∧ W.heap.size ≤ b) := by
  obtain ⟨i0, hi, hzz⟩ := Option.map_eq_some_iff.1 info41
  simp only [Prod.mk.injEq] at hzz
  obtain ⟨hz0, hz1, hz2⟩ := hzz
  obtain ⟨z, hz⟩ : ∃ z : Value, z = .agg #[.int .i64 0, .int .i64 0, .int .i64 0, .string ⟨#[]⟩, .string ⟨#[]⟩] := ⟨_, rfl⟩
  rw [← hz] at hz0
  have hzs : z.cells.size = 5 := by rw [hz]; rfl
  have hm : ys.length = m := HR.1
  have hn : xs.length = n := HO.1
  subst hm
  subst hn
  have ht := Try.underlying39
  obtain ⟨ad, rfl⟩ : ∃ ad, A = some ad := by obtain ⟨ad, h, _⟩ := HR.2.2 hy; exact ⟨ad, h⟩
  obtain ⟨iy, hry, hcy⟩ := ReadsRow.inner_ HR
  have hry' : ∀ w1 b ok, Reps (k41.M w1 b ok) 5 ys iy := fun w1 b ok => hry.imp_ fun x cs h => by rw [k41_open h]; exact k41_mkM _ _ _ x
  have hly : iy.length = ys.length * 5 := hry.1
  obtain ⟨ix, hrx, hlx, old, hold, hr1⟩ : ∃ ix, (∀ w1 b ok, Reps (k41.M w1 b ok) 5 xs ix) ∧ ix.length = xs.length * 5 ∧ ∃ old, old < xs.length + ys.length ∧ (Builtin.append_ #[39, 39] ty #[.slice B xs.length xs.length, .slice (some ad) ys.length c]).run Try.prog W =
      .ok (.slice (some ⟨W.heap.size, 0, none⟩) (xs.length + ys.length) (grownCap W (xs.length + ys.length) old 41)) (W.drew.alloc (.cells (ix.toArray ++ iy.toArray ++ Builtin.zeroCells z.cells (grownCap W (xs.length + ys.length) old 41 - (xs.length + ys.length))) 41)) := by
    rcases B with _ | b
    · have hx0 : xs = [] := by
        rcases Nat.eq_zero_or_pos xs.length with q | q
        · exact List.eq_nil_of_length_eq_zero q
        · obtain ⟨_, hq, _⟩ := HO.2.2 q
          cases hq
      subst hx0
      have hr := run_append_nil (P := Try.prog) W 39 ty 41 i0 z ht hi hz0 ad ys.length c iy (by rw [hz1]; exact hly) hcy hy (by omega) (by rw [hz2]; omega)
      refine ⟨[], fun _ _ _ => Reps.none _ _, rfl, 0, by omega, ?_⟩
      simp only [List.length_nil, Nat.zero_add, Array.empty_append] at hr ⊢
      exact hr
    · obtain ⟨ix, hrx, hcx⟩ := ReadsRow.inner_ HO
      have hlx : ix.length = xs.length * 5 := hrx.1
      refine ⟨ix, fun w1 b ok => hrx.imp_ fun x cs h => by rw [k41_open h]; exact k41_mkM _ _ _ x, hlx, xs.length, by omega, ?_⟩
      exact run_append_grow (P := Try.prog) W 39 ty 41 i0 z ht hi hz0 b xs.length xs.length ix (by rw [hz1]; exact hlx) hcx ad ys.length c iy (by rw [hz1]; exact hly) hcy (by omega) (by omega) (growslice_fits (by omega) (by rw [hz2]; omega))
  have hge := grownCap_ge W (xs.length + ys.length) old 41
  have hcm : grownCap W (xs.length + ys.length) old 41 ≤ maxLen := grownCap_le_maxLen W (xs.length + ys.length) old 41 (by unfold maxLen; omega)
  have hg : W.grownBy (W.drew.alloc (.cells (ix.toArray ++ iy.toArray ++ Builtin.zeroCells z.cells (grownCap W (xs.length + ys.length) old 41 - (xs.length + ys.length))) 41)) (Value.slice none 0 0).ownBlock :=
    ⟨rfl, rfl, rfl, by simp, fun k hk _ => heap_alloc_old W.drew _ (by simpa using hk)⟩
  refine ⟨_, _, hr1, ⟨?_, ix ++ iy, ⟨?_, .inr ⟨W.heap.size, _, _, ?_, hbase, heap_alloc_new W.drew _, ?_, hcm, ?_, ?_⟩⟩, Kd.reps_append (hrx _ _ _) (hry' _ _ _)⟩, hg, .inr ⟨W.heap.size, rfl, Nat.le_refl _⟩⟩
  · intro k hk
    simp only [Value.ownBlock, Option.some.injEq] at hk
    exact hfresh k (by omega)
  · rw [List.length_append, List.length_append, hlx, hly]; show xs.length * 5 + ys.length * 5 = (xs.length + ys.length) * 5; omega
  · rw [List.length_append]
  · rw [List.length_append]; exact hge
  · simp only [Array.size_append, List.size_toArray, size_zeroCells, hzs, hlx, hly]
    show _ = _ * 5
    omega
  · simp only [Array.toList_append, List.length_append]
    show List.take ((xs.length + ys.length) * 5) _ = _
    rw [List.take_append_of_le_length (by simp [hlx, hly]; omega), List.take_of_length_le (by simp [hlx, hly]; omega)]
section
variable {a : Act} {Q : Exit → Act → World → Prop} {ops : Array Oper} {rest : List Oper} {o : Oper} {Kc : Act → World → Prop}
theorem append_full_step {w0 W : World} (base : Nat) (hw : Region.wanted o (yielded ops a.tmps) = true) (s x : Operand)
    (ho : o.op = .call { callee := .builtin .append, args := #[s, x], argTypes := #[39, 39] })
    (B : Option Addr) (n : Nat) (xs ys : List S41) (A : Option Addr) (m c : Nat) (ok : Nat → Prop) (hs : a.eval s = .slice B n n) (hx : a.eval x = .slice A m c)
    (HO : Kd.C k41 W B n xs) (HR : Kd.C k41 W A m ys) (hy : 0 < ys.length) (hfresh : ∀ k, W.heap.size ≤ k → ok k)
    (HB : Below base w0 W) (hbase : base ≤ W.heap.size) (hl : xs.length + m ≤ 1000000)
    (h : ∀ v1 w1, Kd.R k41 41 w1 base ok v1 (xs ++ ys) → Below base w0 w1 → W.grownBy w1 (Value.slice none 0 0).ownBlock → (v1.ownBlock = (Value.slice none 0 0).ownBlock ∨ ∃ b, v1.ownBlock = some b ∧ W.heap.size ≤ b) → Kc (a.put o.dst v1) w1) :
    if Region.wanted o (yielded ops a.tmps) = true then Oper.wp Try.prog o a W Kc Q else Kc (a.put o.dst undef) W := by
  obtain ⟨v1, w1, hr1, h1, hg, hat⟩ := full_run base o.type B n xs ys A m c ok HO HR hy hfresh hbase hl
  rw [if_pos hw]
  unfold Oper.wp execOp
  simp only [ho, resolve, invoke, builtin, Sem.run_bind, Sem.run_pure, Result.andThen_ok, List.map_toArray, List.map_cons, List.map_nil, hs, hx, hr1]
  exact h v1 w1 h1 (HB.grown hg hbase (fun k hk => by simp [Value.ownBlock] at hk)) hg hat
end
end Go.Proofs.Ytjhijcehcklipaa.MVe
