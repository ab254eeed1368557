/-
  The law's begin: walked.
-/
import Derived.Test.YtiplbhjllkfemaaZStW5
import Derived.Lib.SlBytesConst
namespace Go.Proofs.Ytiplbhjllkfemaa.MSt
open Go.RowKit Go.Proofs.YtiplbhjllkfemaaW.PrintWords Go.Proofs.YtiplbhjllkfemaaW.PrintLast Go.Proofs.YtiplbhjllkfemaaW.PrintMore
attribute [local go_sem] max2_int min2_int max_two min_two max_three min_three max_four min_four
open Go.Proofs.Ytiplbhjllkfemaa.Stm (S S0 Fits put_keeps close_keeps)
open Go.Proofs.Ytiplbhjllkfemaa.Utf (valid bnums)
set_option linter.unusedVariables false
set_option linter.unusedSimpArgs false

theorem lit_C (W : World) (p : List Int) (h : p.length ≤ 1000) : Kd.C (Kd.int .u8) (W.alloc (.cells (nums .u8 p).toArray 5)) (some ⟨W.heap.size, 0, none⟩) p.length p := by
  have h1 := own_lit W 0 5 .u8 p (Nat.zero_le _) (by omega)
  have h2 : Kd.R (Kd.int .u8) 5 (W.alloc (.cells (nums .u8 p).toArray 5)) 0 (fun _ => True) (.slice (some ⟨W.heap.size, 0, none⟩) p.length p.length) p := Kd.R_of_own h1 (fun _ _ => trivial)
  exact (Kd.R_reads' h2).2.2
theorem lit_CM (W : World) (p : List Int) (fr : Nat × Nat) (h : p.length ≤ 1000) : Kd.C (Kd.int .u8) (W.alloc (.cells (nums .u8 p).toArray 5 fr)) (some ⟨W.heap.size, 0, none⟩) p.length p := by
  refine Kd.C_of_reads (enc := Value.int .u8) (d := (0 : Int)) (h1 := fun _ => rfl) ⟨rfl, by omega, fun _ => ⟨_, rfl, fun j hj => ?_⟩⟩
  rw [add_plain, World.cell?_alloc_mark]
  simp [nums, List.getD_eq_getElem?_getD, List.getElem?_eq_getElem hj]
theorem lives_new {w0 w w1 : World} {g : Nat} (h : ∀ P, SInv w0 P g S0 w1) : Lives w0 (fun k => w1.heap.size ≤ k) g 0 S0 w1 :=
  ⟨h _, fun e => Nat.lt_irrefl _ (Nat.lt_of_lt_of_le (h (fun _ => True)).lt e), fun _ h => h, Fits.start⟩

set_option maxHeartbeats 2000000 in
set_option maxRecDepth 100000 in
theorem begun.calls (w : World) : Calls Try.prog 12 #[] w fun e w' => e = .returned (.bool true) ∧ Below w.heap.size w w' := by
  have kc := fun (w : World) (C : Array Value) (n c : Nat) => Lib.run_convert_bytes_const (P := Try.prog) w 35 5 C n c Try.underlying35 Try.underlying5
  go_enter Try.func12, Try.ntmps12
  go_wp2_with (fail)
  refine (New.calls w w (Below.refl _ _)).mono ?_
  rintro e w1 ⟨g, rfl, hg, hs, hb1⟩
  have L1 := Aside0.mk (lives_new (w := w) hs)
  clear hg hs hb1
  go_wp2_with (fail)
  have hb2 : Below w1.heap.size w1 (w1.alloc (.cells #[.int .u8 120, .int .u8 97] 5 (2, 3))) := below_alloc (Below.refl _ _) _
  refine (put_calls (L1.out.step hb2) (some ⟨w1.heap.size, 0, none⟩) 2 [120, 97] ⟨#[120, 97]⟩ (lit_CM w1 [120, 97] (2, 3) (by decide)) rfl (by decide)).mono ?_
  rintro e w3 ⟨vx, he, hl, hx, -⟩
  rw [b1] at he hl hx
  subst he
  obtain ⟨P3, hl3, hkeep3⟩ := hl.anew
  have HX := Aside0.mk ((hkeep3 rfl (by decide) hx).resolve_right (by decide))
  have L3 := Aside0.mk hl3
  clear hb2 hl hx hl3 hkeep3 L1
  go_wp2_with (fail)
  refine (Held.calls w P3 g _ _ L3.out.inv).mono ?_
  rintro e w' ⟨rfl, rfl⟩
  go_wp2_with (fail)
  have hb4 : Below w'.heap.size w' (w'.alloc (.cells #[.int .u8 204, .int .u8 129] 5 (2, 3))) := below_alloc (Below.refl _ _) _
  refine (put_calls (L3.out.step hb4) (some ⟨w'.heap.size, 0, none⟩) 2 [204, 129] ⟨#[204, 129]⟩ (lit_CM w' [204, 129] (2, 3) (by decide)) rfl (by decide)).mono ?_
  rintro e w5 ⟨vb, he, hl, hb, hk⟩
  rw [b2] at he hl hb
  subst he
  have HX5 := Aside0.mk (Kd.R_kept (Kd.R_below HX.out hb4) hk (fun _ h => h))
  obtain ⟨Ab, cb, eb⟩ := Kd.R_slice hb
  have eb' : vb = .slice Ab 0 cb := eb
  subst eb'
  have L5 := Aside0.mk hl
  clear hb4 hl hb hk eb HX L3
  go_wp2_with (fail)
  refine (close_calls L5.out (by decide)).mono ?_
  rintro e w6 ⟨vc, he, hl, hc, hk⟩
  rw [b3] at he hl hc
  subst he
  have hx6 := Kd.R_kept HX5.out hk (fun k h e => h (.inl e))
  obtain ⟨P6, hl6, hkeep6⟩ := hl.anew
  have HX6 := Aside0.mk ((hkeep6 rfl (by decide) hx6).resolve_right (by decide))
  have HC6 := Aside0.mk ((hkeep6 rfl (by decide) hc).resolve_right (by decide))
  have L6 := Aside0.mk hl6
  clear hl hc hk hx6 hkeep6 hl6 HX5 L5
  go_wp2_with (fail)
  refine (put_calls L6.out none 0 [] ⟨#[]⟩ (Kd.C_nil _ _) rfl (by decide)).mono ?_
  rintro e w7 ⟨vn, he, hl, hn, hk⟩
  rw [b4] at he hl hn
  subst he
  have hx7 := Kd.R_kept HX6.out hk (fun _ h => h)
  have hc7 := Kd.R_kept HC6.out hk (fun _ h => h)
  have L7 := Aside0.mk hl
  obtain ⟨Ax, cx, ex, hcx, hCx⟩ := Kd.R_reads hx7
  obtain ⟨Ac, cc, ec, hcc, hCc⟩ := Kd.R_reads hc7
  have ex' : vx = .slice Ax 1 cx := ex
  have ec' : vc = .slice Ac 3 cc := ec
  subst ex'
  subst ec'
  have hvx : (convert 35 9 (.slice Ax 1 cx)).run Try.prog w7 = .ok (.string ⟨#[120]⟩) w7 := Kd.C_string Try.underlying35 Try.underlying5 Try.underlying9 hCx
  have hvc : (convert 35 9 (.slice Ac 3 cc)).run Try.prog w7 = .ok (.string ⟨#[97, 204, 129]⟩) w7 := Kd.C_string Try.underlying35 Try.underlying5 Try.underlying9 hCc
  clear hl hn hk hx7 hc7 ex ec hcx hcc hCx hCc HX6 HC6 L6
  go_wp2
  go_ret
  exact ⟨rfl, L7.out.inv.below⟩
end Go.Proofs.Ytiplbhjllkfemaa.MSt
