/-
  Versions: their blocks; a search by a function.
-/

import Derived.Test.YtjhijcehcklipaaZMVex3
namespace Go.Proofs.Ytjhijcehcklipaa.MVe
open Go.RowKit Go.Proofs.YtjhijcehcklipaaW.PrintWords Go.Proofs.YtjhijcehcklipaaW.PrintLast Go.Proofs.YtjhijcehcklipaaW.PrintMore
attribute [local go_sem] max2_int min2_int max_two min_two max_three min_three max_four min_four
set_option linter.unusedVariables false
set_option linter.unusedSimpArgs false

/-- A table's value. -/
def fv (x : S41) : Value := .agg #[.int .i64 x.f0, .int .i64 x.f1, .int .i64 x.f2, .string x.f3, .string x.f4]
/-- A version, plainly. -/
structure Ver where
  files : List S41
  next : Int
  log : Int
  last : Int
def VBlk (w : World) (g : Nat) (vf : Value) (v : Ver) : Prop := w.heap[g]? = some (.cells #[vf, .int .i64 v.next, .int .i64 v.log, .int .i64 v.last] 93 (0, 0))
theorem VBlk.cells {w : World} {g : Nat} {vf : Value} {v : Ver} (h : VBlk w g vf v) : w.cell? ⟨g, 0, none⟩ = some vf ∧ w.cell? ⟨g, 1, none⟩ = some (.int .i64 v.next) ∧ w.cell? ⟨g, 2, none⟩ = some (.int .i64 v.log) ∧ w.cell? ⟨g, 3, none⟩ = some (.int .i64 v.last) :=
  ⟨(blk_cell h 0).trans rfl, (blk_cell h 1).trans rfl, (blk_cell h 2).trans rfl, (blk_cell h 3).trans rfl⟩
theorem VBlk.free {w : World} {g : Nat} {vf : Value} {v : Ver} (h : VBlk w g vf v) : w.frozen? ⟨g, 0, none⟩ = false ∧ w.frozen? ⟨g, 1, none⟩ = false ∧ w.frozen? ⟨g, 2, none⟩ = false ∧ w.frozen? ⟨g, 3, none⟩ = false :=
  ⟨blk_frozen h 0, blk_frozen h 1, blk_frozen h 2, blk_frozen h 3⟩
theorem VBlk.set0 {w : World} {g : Nat} {vf : Value} {v : Ver} (h : VBlk w g vf v) (u : Value) (l : List S41) : VBlk (w.setCell ⟨g, 0, none⟩ u) g u { v with files := l } := (blk_set h 0 _).trans rfl
theorem VBlk.set1 {w : World} {g : Nat} {vf : Value} {v : Ver} (h : VBlk w g vf v) (n : Int) : VBlk (w.setCell ⟨g, 1, none⟩ (.int .i64 n)) g vf { v with next := n } := (blk_set h 1 _).trans rfl
theorem VBlk.set2 {w : World} {g : Nat} {vf : Value} {v : Ver} (h : VBlk w g vf v) (n : Int) : VBlk (w.setCell ⟨g, 2, none⟩ (.int .i64 n)) g vf { v with log := n } := (blk_set h 2 _).trans rfl
theorem VBlk.set3 {w : World} {g : Nat} {vf : Value} {v : Ver} (h : VBlk w g vf v) (n : Int) : VBlk (w.setCell ⟨g, 3, none⟩ (.int .i64 n)) g vf { v with last := n } := (blk_set h 3 _).trans rfl

/-- What a function of a table tells, in all worlds that come from this one. -/
def Tells (g : Nat) (cs : Array Value) (p : S41 → Bool) (w : World) : Prop := (∀ args w', (callFunc g args).run Try.prog w' = .ok (.enter g args) w') ∧ ∀ (x : S41) (w' : World), Below w.heap.size w w' → Calls Try.prog g (#[fv x] ++ cs) w' fun e w2 => e = .returned (.bool (p x)) ∧ Below w'.heap.size w' w2
/-- Where the first one stands; -1: there is none. -/
def idx (p : S41 → Bool) (xs : List S41) : Int := match xs.findIdx? p with
  | some i => (i : Int)
  | none => -1

set_option maxHeartbeats 1000000 in
set_option maxRecDepth 100000 in
theorem IndexFunc.calls (g : Nat) (cs : Array Value) (p : S41 → Bool) (A0 : Option Addr) (c0 : Nat) (xs : List S41) (w : World) (hr : Kd.C k41 w A0 xs.length xs) (ht : Tells g cs p w) :
    Calls Try.prog 79 #[.slice A0 xs.length c0, .func (.func g) #[] cs] w fun e w' => e = .returned (.int .i64 (idx p xs)) ∧ Below w.heap.size w w' := by
  have hxl : xs.length ≤ 9223372036854775807 := Kd.C_max hr
  have HR := Aside0.mk hr
  have HT := Aside0.mk ht
  have eg := ht.1
  have hu41 := Try.underlying41
  clear hr ht
  go_enter Try.func79, Try.ntmps79
  go_wp2
  go_loopw [8] (fun i wr => ∃ j : Nat, j ≤ xs.length ∧ i = .int .i64 j ∧ Aside0 (∀ x ∈ xs.take j, p x = false) ∧ Aside0 (Below w.heap.size w wr)) (fun i _ => xs.length - (intOf i).toNat)
  case atStart => exact ⟨0, Nat.zero_le _, rfl, ⟨by simp⟩, ⟨Below.refl _ _⟩⟩
  case round =>
    obtain ⟨j, hj, rfl, HN, HB⟩ := hrel
    by_cases hlt : j < xs.length
    · obtain ⟨ad, ea, hx0, hx1, hx2, hx3, hx4⟩ := at_T41 (Kd.C_below HR.out HB.out) (j : Int) (by omega) (by omega)
      cases ea
      have e : rd_T41 xs (j : Int) = xs[j] := by unfold rd_T41; rw [Int.toNat_natCast, List.getD_eq_getElem?_getD, List.getElem?_eq_getElem hlt, Option.getD_some]
      rw [e, Int.toNat_natCast] at hx0 hx1 hx2 hx3 hx4
      have hd : xs.take (j + 1) = xs.take j ++ [xs[j]] := List.take_succ_eq_append_getElem hlt
      have HD := Aside0.mk hd
      clear e hd
      obtain ⟨x, hxx⟩ : ∃ x, xs[j] = x := ⟨_, rfl⟩
      rw [hxx] at hx0 hx1 hx2 hx3 hx4 HD
      have HX := Aside0.mk hxx
      clear hxx
      cases hp : p x with
      | true =>
        have HPX := Aside0.mk hp
        clear hp
        go_wp2_with (fail)
        refine (HT.out.2 x wr HB.out).mono ?_
        rintro e w1 ⟨he, hb⟩
        rw [HPX.out] at he
        subst he
        have HB1 := Aside0.mk (below_step HB.out hb)
        have HI := Aside0.mk (show idx p xs = (j : Int) by
          unfold idx
          have : xs.findIdx? p = some j := by
            rw [List.findIdx?_eq_some_iff_getElem]
            refine ⟨hlt, ?_, fun k hk => ?_⟩
            · rw [HX.out]; exact HPX.out
            · have := HN.out xs[k] (List.mem_take_iff_getElem.2 ⟨k, by omega, rfl⟩)
              rw [this]; decide
          rw [this])
        clear hb
        go_wp2
        go_ret
        rw [HI.out]
        exact ⟨rfl, HB1.out⟩
      | false =>
        have HPX := Aside0.mk hp
        clear hp
        go_wp2_with (fail)
        refine (HT.out.2 x wr HB.out).mono ?_
        rintro e w1 ⟨he, hb⟩
        rw [HPX.out] at he
        subst he
        have HB1 := Aside0.mk (below_step HB.out hb)
        clear hb
        go_wp2
        go_roundw
        case rel =>
          refine ⟨j + 1, by omega, by go_num, ⟨fun y hy => ?_⟩, HB1⟩
          rw [HD.out] at hy
          rcases List.mem_append.1 hy with q | q
          · exact HN.out y q
          · rw [List.mem_singleton.1 q]; exact HPX.out
        case measure => simp [intOf]; omega
    · have e : j = xs.length := by omega
      subst e
      have HI := Aside0.mk (show idx p xs = -1 by
        unfold idx
        have : xs.findIdx? p = none := by
          rw [List.findIdx?_eq_none_iff]
          intro y hy
          exact HN.out y (by rw [List.take_of_length_le (Nat.le_refl _)]; exact hy)
        rw [this])
      go_wp2
      go_ret
      rw [HI.out]
      exact ⟨rfl, HB.out⟩
end Go.Proofs.Ytjhijcehcklipaa.MVe
