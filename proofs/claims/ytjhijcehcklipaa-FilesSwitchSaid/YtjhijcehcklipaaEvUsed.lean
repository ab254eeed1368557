/-
  The sum of all files' sizes: what the program's loop over the directory tells, whatever its order.
-/
import Derived.Test.YtjhijcehcklipaaProg
import Derived.Below
import Derived.OwnWalk
import Derived.Tactics
import Derived.WalkKit
import Derived.KernelRfl
import Derived.RowKit
import Derived.Maps.RangeWalk
set_option linter.unusedVariables false
set_option linter.unusedSimpArgs false
namespace Go.Proofs.Ytjhijcehcklipaa.Ev
open Go.RowKit
open Go.ChangeMaps (setBlock)
section
variable {P : Program} {ops : Array Oper} {rest : List Oper} {o : Oper} {a : Act} {Q : Exit → Act → World → Prop}
/-- 'range' over a map. -/
theorem range_op (w : World) (hg : o.guard = none) (m : Operand) (t : TypeId) (hop : o.op = Op.range t m) {k e : TypeId} (ht : P.underlying t = some (.map k e)) {b clock : Nat} {es : Array MapEntry} (hm : a.eval m = .map (some b)) (hb : w.heap[b]? = some (.map es clock))
    (hK : wpList P ops Q rest (a.put o.dst (.pointer (some ⟨w.heap.size, 0, none⟩))) (w.alloc (.mapIter (some b) clock #[] clock))) : wpList P ops Q (o :: rest) a w := by
  refine wpList_plain hg fun K' hK' => ?_
  have hrun : (Instr.range t (.map (some b))).run P w = .ok (.pointer (some ⟨w.heap.size, 0, none⟩)) (w.alloc (.mapIter (some b) clock #[] clock)) := by
    unfold Instr.range
    have hgo : (getObj b).run P w = .ok (.map es clock) w := by simp [getObj, Sem.run, hb]
    simp [run_underlying ht, hgo]
  unfold Oper.wp
  simp [execOp, hop, hm, hrun, Result.andThen]
  exact hK' _ _ hK
/-- The iterator went on; nothing else has turned. -/
structure Stepped (w w2 : World) (r : Nat) (o : Obj) : Prop where
  there : w2.heap[r]? = some o
  size : w2.heap.size = w.heap.size
  rest : ∀ k, k ≠ r → w2.heap[k]? = w.heap[k]?
  os : w2.os = w.os
  tape : w2.tape = w.tape
  output : w2.output = w.output
/-- A step of it. -/
theorem next_op (w : World) (hg : o.guard = none) (it : Operand) (hop : o.op = Op.next it false) {r b clock : Nat} {seen : Array Nat} {es : Array MapEntry} (hit : a.eval it = .pointer (some ⟨r, 0, none⟩))
    (hr : w.heap[r]? = some (.mapIter (some b) clock seen clock)) (hb : w.heap[b]? = some (.map es clock)) (hold : ∀ x ∈ es.toList, x.born < clock) (hnd : (es.toList.map (·.born)).Nodup)
    (hDone : (leftOf es seen).size = 0 → wpList P ops Q rest (a.put o.dst (.tuple #[.bool false])) w)
    (hMore : ∀ e ∈ (leftOf es seen).toList, ∀ w2 : World, Stepped w w2 r (.mapIter (some b) clock (seen.push e.born) clock) → (Instr.entry (.pointer (some ⟨r, 0, none⟩))).run P w2 = .ok (.tuple #[e.key, e.val]) w2 → wpList P ops Q rest (a.put o.dst (.tuple #[.bool true, e.key, e.val])) w2) : wpList P ops Q (o :: rest) a w := by
  refine wpList_plain hg fun K' hK' => ?_
  unfold Oper.wp
  rcases run_next_at (P := P) w o.type r b clock clock seen es clock hr hb hold (Nat.le_refl _) with ⟨h0, hrun⟩ | ⟨e, he, w1, hw1, hrun⟩
  · simp [execOp, hop, hit, hrun, Result.andThen]
    exact hK' _ _ (hDone h0)
  · simp [execOp, hop, hit, hrun, Result.andThen]
    have hrw : r < w.heap.size := (Array.getElem?_eq_some_iff.1 hr).1
    have hbr : b ≠ r := fun q => by rw [q, hr] at hb; cases hb
    have hst : Stepped w (setBlock w1 r (.mapIter (some b) clock (seen.push e.born) clock)) r (.mapIter (some b) clock (seen.push e.born) clock) := by
      have hh : (setBlock w1 r (.mapIter (some b) clock (seen.push e.born) clock)).heap = w.heap.setIfInBounds r (.mapIter (some b) clock (seen.push e.born) clock) := by
        rcases hw1 with rfl | rfl <;> rfl
      refine ⟨?_, ?_, fun k hk => ?_, ?_, ?_, ?_⟩
      · rw [hh, Array.getElem?_setIfInBounds, if_pos rfl, if_pos hrw]
      · rw [hh, Array.size_setIfInBounds]
      · rw [hh, Array.getElem?_setIfInBounds, if_neg (fun q => hk q.symm)]
      · rcases hw1 with rfl | rfl <;> rfl
      · rcases hw1 with rfl | rfl <;> rfl
      · rcases hw1 with rfl | rfl <;> rfl
    have he' : e ∈ es.toList := by
      unfold leftOf at he
      simp at he
      simpa using he.1
    exact hK' _ _ (hMore e he _ hst (run_entry_at (P := P) _ r b clock seen es clock e hst.there ((hst.rest b hbr).trans hb) he' hnd))
end
/-- What the entries that were met hold. -/
def met (es : Array MapEntry) (f : MapEntry → Int) (seen : Array Nat) : Int := ((es.toList.filter fun e => seen.contains e.born).map f).sum
def lefts (es : Array MapEntry) (r : Nat) (w : World) : Nat := match w.heap[r]? with
  | some (.mapIter _ _ seen _) => (leftOf es seen).size
  | _ => 0
theorem met_one (f : MapEntry → Int) (e : MapEntry) (p p' : MapEntry → Bool) (hc : ∀ x, p' x = (p x || decide (x.born = e.born))) : ∀ l : List MapEntry, (l.map (·.born)).Nodup → e ∈ l → p e = false →
    ((l.filter p').map f).sum = ((l.filter p).map f).sum + f e ∧ (l.filter fun x => !p' x).length + 1 = (l.filter fun x => !p x).length := by
  have off : ∀ l : List MapEntry, (∀ x ∈ l, x.born ≠ e.born) → l.filter p' = l.filter p ∧ (l.filter fun x => !p' x) = (l.filter fun x => !p x) := fun l hl =>
    ⟨List.filter_congr fun x hx => by rw [hc, decide_eq_false (hl x hx), Bool.or_false], List.filter_congr fun x hx => by rw [hc, decide_eq_false (hl x hx), Bool.or_false]⟩
  intro l
  induction l with
  | nil => intro _ h; cases h
  | cons a l ih =>
    intro hn hm hs
    rw [List.map_cons, List.nodup_cons] at hn
    by_cases q : a = e
    · subst q
      obtain ⟨o1, o2⟩ := off l fun x hx hxe => hn.1 (List.mem_map.2 ⟨x, hx, hxe⟩)
      have ht : p' a = true := by rw [hc, decide_eq_true rfl, Bool.or_true]
      rw [List.filter_cons_of_pos ht, List.filter_cons_of_neg (by rw [hs]; simp), List.filter_cons_of_neg (by rw [ht]; simp), List.filter_cons_of_pos (by rw [hs]; rfl), o1, o2, List.map_cons, List.sum_cons, List.length_cons]
      exact ⟨Int.add_comm _ _, rfl⟩
    · have hm' : e ∈ l := by rcases List.mem_cons.1 hm with rfl | h; exact absurd rfl q; exact h
      obtain ⟨i1, i2⟩ := ih hn.2 hm' hs
      have hb : a.born ≠ e.born := fun hbe => hn.1 (List.mem_map.2 ⟨e, hm', hbe.symm⟩)
      have ht : p' a = p a := by rw [hc, decide_eq_false hb, Bool.or_false]
      cases hp : p a with
      | true =>
        rw [List.filter_cons_of_pos (by rw [ht, hp]), List.filter_cons_of_pos hp, List.filter_cons_of_neg (by rw [ht, hp]; simp), List.filter_cons_of_neg (by rw [hp]; simp), List.map_cons, List.sum_cons, List.map_cons, List.sum_cons, i1]
        exact ⟨by omega, i2⟩
      | false =>
        rw [List.filter_cons_of_neg (by rw [ht, hp]; simp), List.filter_cons_of_neg (by rw [hp]; simp), List.filter_cons_of_pos (by rw [ht, hp]; rfl), List.filter_cons_of_pos (by rw [hp]; rfl), List.length_cons, List.length_cons]
        exact ⟨i1, by omega⟩
theorem left_list (es : Array MapEntry) (seen : Array Nat) : (leftOf es seen).toList = es.toList.filter fun e => !seen.contains e.born := by
  unfold leftOf; exact Array.toList_filter
theorem met_push {es : Array MapEntry} {f : MapEntry → Int} {seen : Array Nat} (hnd : (es.toList.map (·.born)).Nodup) {e : MapEntry} (he : e ∈ (leftOf es seen).toList) : met es f (seen.push e.born) = met es f seen + f e ∧ (leftOf es (seen.push e.born)).size < (leftOf es seen).size := by
  have hc : ∀ x : MapEntry, (seen.push e.born).contains x.born = (seen.contains x.born || decide (x.born = e.born)) := fun x => by
    rw [Bool.eq_iff_iff]
    simp
  rw [left_list, List.mem_filter] at he
  obtain ⟨h1, h2⟩ := met_one f e (fun x => seen.contains x.born) (fun x => (seen.push e.born).contains x.born) hc es.toList hnd he.1 (by simpa using he.2)
  refine ⟨h1, ?_⟩
  rw [← Array.length_toList, ← Array.length_toList, left_list, left_list]
  omega
theorem met_all {es : Array MapEntry} {f : MapEntry → Int} {seen : Array Nat} (h : (leftOf es seen).size = 0) : met es f seen = (es.toList.map f).sum := by
  unfold met
  congr 2
  rw [List.filter_eq_self]
  intro x hx
  rw [← Array.length_toList, left_list, List.length_eq_zero_iff, List.filter_eq_nil_iff] at h
  simpa using h x hx
theorem met_nil (es : Array MapEntry) (f : MapEntry → Int) : met es f #[] = 0 := by
  unfold met
  have : (es.toList.filter fun e => (#[] : Array Nat).contains e.born) = [] := by simp
  rw [this]; rfl
theorem wrap_i64 (n : Int) : IntKind.i64.wrap n = if n % 18446744073709551616 ≥ 9223372036854775808 then n % 18446744073709551616 - 18446744073709551616 else n % 18446744073709551616 := by
  unfold IntKind.wrap
  simp [IntKind.bits, IntKind.signed]
theorem wrap_add (a b : Int) : IntKind.i64.wrap (IntKind.i64.wrap a + b) = IntKind.i64.wrap (a + b) := by
  rw [wrap_i64, wrap_i64, wrap_i64]
  (repeat' split) <;> omega
theorem heap_push_at (w : World) (o : Obj) : (w.alloc o).heap[w.heap.size]? = some o := by
  show (w.heap.push o)[w.heap.size]? = _
  simp
theorem below_push (w : World) (o : Obj) : Below w.heap.size w (w.alloc o) := ⟨rfl, rfl, rfl, by show w.heap.size ≤ (w.heap.push o).size; simp, fun k hk => by
  show (w.heap.push o)[k]? = _
  rw [Array.getElem?_push, if_neg (by omega)]⟩
set_option maxHeartbeats 1000000 in
set_option maxRecDepth 100000 in
theorem used_calls (w : World) (ab ao b clock : Nat) (es : Array MapEntry) (f : MapEntry → Int) (hA : w.cell? ⟨ab, ao + 1, none⟩ = some (.map (some b))) (hb : w.heap[b]? = some (.map es clock)) (hold : ∀ x ∈ es.toList, x.born < clock) (hnd : (es.toList.map (·.born)).Nodup)
    (hf : ∀ e ∈ es.toList, ∃ (xb xo : Nat) (s : Option Addr) (n c : Nat), e.val = .pointer (some ⟨xb, xo, none⟩) ∧ w.cell? ⟨xb, xo, none⟩ = some (.slice s n c) ∧ f e = n) :
    Calls Try.prog 37 #[.pointer (some ⟨ab, ao, none⟩)] w fun e w' => e = .returned (.int .i64 (IntKind.i64.wrap ((es.toList.map f).sum))) ∧ Below w.heap.size w w' := by
  have hlt : b < w.heap.size := (Array.getElem?_eq_some_iff.1 hb).1
  go_enter Try.func37, Try.ntmps37
  go_wp2_with (first
    | (at_range; refine range_op _ rfl _ _ rfl Try.underlying72 rfl hb ?_))
  go_frame
  go_loopw [3] (fun v wr => ∃ seen : Array Nat, v = .int .i64 (IntKind.i64.wrap (met es f seen)) ∧ wr.heap[w.heap.size]? = some (.mapIter (some b) clock seen clock) ∧ Below w.heap.size w wr) (fun _ wr => lefts es w.heap.size wr)
  case atStart => exact ⟨#[], by rw [met_nil]; rfl, heap_push_at _ _, below_push _ _⟩
  case round =>
    obtain ⟨seen, rfl, hr, hbw⟩ := hrel
    have hb' : wr.heap[b]? = some (.map es clock) := (hbw.block b hlt).trans hb
    go_wp2_with (first
      | (at_next; refine next_op _ rfl _ rfl rfl hr hb' hold hnd ?_ ?_))
    · intro h0
      go_wp2
      go_ret
      exact ⟨congrArg (fun z => Ending.returned (.int .i64 (IntKind.i64.wrap z))) (met_all (by rw [h0]; rfl)), hbw⟩
    · intro e he w2 hst hen
      have he := Array.mem_toList_iff.2 he
      obtain ⟨hm1, hm2⟩ := met_push (f := f) hnd he
      have he' : e ∈ es.toList := by rw [left_list, List.mem_filter] at he; exact he.1
      obtain ⟨xb, xo, s, n, c, hval, hcell, hfe⟩ := hf e he'
      have hxb : xb < w.heap.size := by
        by_cases q : xb < w.heap.size
        · exact q
        · unfold World.cell? at hcell
          dsimp only at hcell
          rw [Array.getElem?_eq_none (by omega)] at hcell
          cases hcell
      have hcell2 : w2.cell? ⟨xb, xo, none⟩ = some (.slice s n c) := by
        unfold World.cell? at hcell ⊢
        dsimp only at hcell ⊢
        rw [hst.rest xb (by omega), hbw.block xb hxb]
        exact hcell
      rw [hval] at hen ⊢
      have hsum : IntKind.i64.wrap (IntKind.i64.wrap (met es f seen) + (n : Int)) = IntKind.i64.wrap (met es f (seen.push e.born)) := by rw [wrap_add, hm1, hfe]
      have hbel : Below w.heap.size w w2 := ⟨hst.os.trans hbw.os, hst.tape.trans hbw.tape, hst.output.trans hbw.output, by rw [hst.size]; exact hbw.size, fun k hk => (hst.rest k (by omega)).trans (hbw.block k hk)⟩
      have hmeas : lefts es w.heap.size w2 < lefts es w.heap.size wr := by
        unfold lefts
        rw [hst.there, hr]
        exact hm2
      have hthere := hst.there
      clear hst he hm1 hm2 hval hfe hf hold hnd hr
      go_wp2
      exact ⟨⟨seen.push e.born, by rw [IntKind.wrap_i64]; simp only [wrap64], hthere, hbel⟩, hmeas⟩
end Go.Proofs.Ytjhijcehcklipaa.Ev
