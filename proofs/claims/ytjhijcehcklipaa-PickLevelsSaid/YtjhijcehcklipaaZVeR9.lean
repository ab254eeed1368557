/-
  The law's Made, walked.
-/
import Derived.Test.YtjhijcehcklipaaZVeR8
import Derived.Test.YtjhijcehcklipaaZVeR4
import Derived.Test.YtjhijcehcklipaaZVeW17
namespace Go.Proofs.Ytjhijcehcklipaa.MVe
open Go.RowKit Go.Proofs.YtjhijcehcklipaaW.PrintWords Go.Proofs.YtjhijcehcklipaaW.PrintLast Go.Proofs.YtjhijcehcklipaaW.PrintMore
attribute [local go_sem] max2_int min2_int max_two min_two max_three min_three max_four min_four
set_option linter.unusedVariables false
set_option linter.unusedSimpArgs false

/-- An edit that came in. -/
structure Ed where
  n : Int
  l : Int
  m : Int
  Aa : Option Addr
  ca : Nat
  adds : List S41
  Ad : Option Addr
  cd : Nat
  dels : List Int
def EdIn (w : World) (e : Ed) : Prop := Kd.C k41 w e.Aa e.adds.length e.adds ∧ e.adds.length ≤ e.ca ∧ Kd.C (Kd.int .i64) w e.Ad e.dels.length e.dels ∧ e.dels.length ≤ e.cd
/-- A row of edits that came in. -/
def EdAt (w : World) (A : Option Addr) (es : List Ed) : Prop := es.length ≤ 9223372036854775807 ∧ ∀ j (h : j < es.length), ∃ ad, A = some ad ∧ w.cell? (ad.add (j * 5)) = some (.int .i64 es[j].n) ∧ w.cell? ⟨(ad.add (j * 5)).block, (ad.add (j * 5)).off + 1, none⟩ = some (.int .i64 es[j].l) ∧ w.cell? ⟨(ad.add (j * 5)).block, (ad.add (j * 5)).off + 2, none⟩ = some (.int .i64 es[j].m) ∧
  w.cell? ⟨(ad.add (j * 5)).block, (ad.add (j * 5)).off + 3, none⟩ = some (.slice es[j].Aa es[j].adds.length es[j].ca) ∧ w.cell? ⟨(ad.add (j * 5)).block, (ad.add (j * 5)).off + 4, none⟩ = some (.slice es[j].Ad es[j].dels.length es[j].cd) ∧ EdIn w es[j]
theorem EdAt.step {w w1 : World} {A : Option Addr} {es : List Ed} (h : EdAt w A es) (hb : Below w.heap.size w w1) : EdAt w1 A es := by
  refine ⟨h.1, fun j hj => ?_⟩
  obtain ⟨ad, e, h0, h1, h2, h3, h4, h5, h6, h7, h8⟩ := h.2 j hj
  have mv : ∀ {p : Addr} {u : Value}, w.cell? p = some u → w1.cell? p = some u := fun hp => (hb.cell (World.block_lt_of_cell? w _ hp)).trans hp
  exact ⟨ad, e, mv h0, mv h1, mv h2, mv h3, mv h4, Kd.C_below h5 hb, h6, Kd.C_below h7 hb, h8⟩

theorem R_above {w : World} {b : Nat} {P : Nat → Prop} {v : Value} {xs : List S41} (h : Kd.R k41 41 w b P v xs) : Kd.R k41 41 w b (fun k => P k ∧ b ≤ k) v xs := by
  obtain ⟨hok, inner, ⟨hl, ho⟩, hr⟩ := h
  have hr' : Reps (k41.M w b fun k => (P k ∧ b ≤ k) ∧ some k ≠ v.ownBlock) k41.sz xs inner := hr.imp_ fun x cs h => by rw [k41_openM h]; exact k41_mkM _ _ _ x
  refine ⟨fun k hk => ⟨hok k hk, ?_⟩, inner, ⟨hl, ho⟩, hr'⟩
  rcases ho with ⟨rfl, _⟩ | ⟨g', cap, cur, rfl, hg, _⟩
  · simp [Value.ownBlock] at hk
  · simp only [Value.ownBlock, Option.some.injEq] at hk
    omega
theorem RInv.start {w0 w : World} {P : Nat → Prop} (hb : Below w0.heap.size w0 w) : RInv w0 P w.heap.size ⟨[], 1, 0, 0⟩ (w.alloc (.cells #[.slice none 0 0, .int .i64 1, .int .i64 0, .int .i64 0] 113)) :=
  ⟨below_alloc hb _, hb.size, _, blk_new _ _, Kd.R_nil _ _ _ _ _⟩
set_option maxHeartbeats 8000000 in
set_option maxRecDepth 100000 in
theorem Made.calls (Ae : Option Addr) (ce : Nat) (es : List Ed) (N : Int) (w0 w : World) (hb0 : Below w0.heap.size w0 w) (he : EdAt w0 Ae es) :
    Calls Try.prog 28 #[.slice Ae es.length ce, .int .i64 N] w fun e w' => ∃ g h v, e = .returned (.tuple #[.pointer (some ⟨g, 0, none⟩), .pointer (some ⟨h, 0, none⟩), .bool true]) ∧ VGood v ∧ VInv w0 (fun k => k ≠ g ∧ k ≠ h) g v w' ∧ RInv w0 (fun k => k ≠ h ∧ k ≠ g) h v w' ∧ g ≠ h := by
  have hu41 := Try.underlying41
  have hu45 := Try.underlying45
  have hu93 := Try.underlying93
  have hu113 := Try.underlying113
  have HE := Aside0.mk he
  have HB0 := Aside0.mk hb0
  have hmx := he.1
  clear he hb0
  go_enter Try.func28, Try.ntmps28
  go_wp2_with (
    go_at_call 21
    refine (vNew.calls w0 _ HB0.out).mono ?_
    rintro e w2 ⟨g, rfl, hg, hI, hb⟩
    have HI2 := Aside0.mk (hI (fun _ => False))
    have hgl := (hI (fun _ => False)).lt
    clear hg hI hb)
  have HR2 := Aside0.mk (RInv.start (P := fun _ => False) HI2.out.below)
  have HV2 := Aside0.mk (HI2.out.step (below_alloc (Below.refl w2.heap.size w2) (.cells #[.slice none 0 0, .int .i64 1, .int .i64 0, .int .i64 0] 113)))
  obtain ⟨h, hh⟩ : ∃ h, w2.heap.size = h := ⟨_, rfl⟩
  simp only [hh] at HR2 ⊢
  have HGH := Aside0.mk (show g ≠ h by omega)
  clear hgl hh HI2
  go_loopw [9] (fun i wr => ∃ (j : Nat) (v : Ver), j ≤ es.length ∧ i = .int .i64 j ∧ Aside0 (VGood v) ∧ Aside0 (VInv w0 (fun k => k ≠ g ∧ k ≠ h) g v wr) ∧ Aside0 (RInv w0 (fun k => k ≠ h ∧ k ≠ g) h v wr)) (fun i _ => es.length - (intOf i).toNat)
  case atStart => exact ⟨0, ⟨[], 1, 0, 0⟩, Nat.zero_le _, rfl, ⟨VGood.start⟩, ⟨HV2.out.wide (fun _ hk => hk.elim)⟩, ⟨HR2.out.wide (fun _ hk => hk.elim)⟩⟩
  case round =>
    clear HV2 HR2
    obtain ⟨j, v, hj, rfl, HG, HV, HR⟩ := hrel
    by_cases hlt : j < es.length
    · by_cases hn : (j : Int) < N
      · obtain ⟨ad, ea, hx0, hx1, hx2, hx3, hx4, hin⟩ := (HE.out.step HV.out.below).2 j hlt
        have hin0 := (HE.out.2 j hlt).choose_spec.2.2.2.2.2.2
        cases ea
        obtain ⟨e, hee⟩ : ∃ e, es[j] = e := ⟨_, rfl⟩
        rw [hee] at hx0 hx1 hx2 hx3 hx4 hin hin0
        clear hee
        obtain ⟨n, l, m, Aa, ca, adds, Ad, cd, dels⟩ := e
        obtain ⟨i1, i2, i3, i4⟩ := hin
        obtain ⟨-, -, i5, -⟩ := hin0
        dsimp only at hx0 hx1 hx2 hx3 hx4 i1 i2 i3 i4 i5
        have hcut := fun W c1 c2 => Cut.calls n l m Aa Ad ca cd adds dels W c1 i2 c2 i4
        have HCD0 := Aside0.mk (show Kd.C (Kd.int .i64) w0 Ad (dels.take 12).length (dels.take 12) by
          by_cases c : 12 ≤ dels.length
          · exact Kd.C_take i5 c
          · rw [List.take_of_length_le (by omega)]; exact i5)
        have hAl : ((adds.take 12).map cutF).length ≤ 12 := by rw [List.length_map, List.length_take]; omega
        have hDl : (dels.take 12).length ≤ 12 := by rw [List.length_take]; omega
        have hcd2 : (dels.take 12).length ≤ cd := by rw [List.length_take]; omega
        obtain ⟨A', hA'⟩ : ∃ A', (adds.take 12).map cutF = A' := ⟨_, rfl⟩
        obtain ⟨D', hD'⟩ : ∃ D', dels.take 12 = D' := ⟨_, rfl⟩
        rw [hA'] at hAl
        rw [hD'] at HCD0 hDl hcd2
        simp only [hA', hD'] at hcut
        have HCUT := Aside0.mk hcut
        have I1 := Aside0.mk i1
        have I3 := Aside0.mk i3
        have hgl := HV.out.lt
        have hhl := HR.out.lt
        clear hA' hD' hcut i1 i3 i5
        go_upto_region 6 with (
          go_at_call 66
          refine (HCUT.out _ I1.out I3.out).mono ?_
          rintro e w3 ⟨Al, cl, rfl, hR3, hb3⟩
          obtain ⟨hcl0, -⟩ : A'.length ≤ cl ∧ True := by
            obtain ⟨A9, c9, e9, hc9, -⟩ := Kd.R_reads hR3
            injection e9 with _ _ e10
            subst e10
            exact ⟨hc9, trivial⟩
          have hcl := hcl0
          have HB3 := Aside0.mk hb3
          have HRC := Aside0.mk hR3
          clear hR3 hb3 hcl0)
        have HBW := Aside0.mk (below_alloc HB3.out (.cells #[.int .i64 n, .int .i64 l, .int .i64 m, .slice Al A'.length cl, .slice Ad D'.length cd] 45))
        have HV3 := Aside0.mk (HV.out.step HBW.out)
        have HR3 := Aside0.mk (HR.out.step HBW.out)
        have HEb := Aside0.mk (blk_new w3 (.cells #[.int .i64 n, .int .i64 l, .int .i64 m, .slice Al A'.length cl, .slice Ad D'.length cd] 45))
        have HRow := Aside0.mk (R_above (Kd.R_below HRC.out (below_alloc (Below.refl w3.heap.size w3) (.cells #[.int .i64 n, .int .i64 l, .int .i64 m, .slice Al A'.length cl, .slice Ad D'.length cd] 45))))
        have HABV := Aside0.mk (show ∀ k, wr.heap.size ≤ k → ¬ k = g ∧ ¬ k = h from fun k hk => by omega)
        obtain ⟨W, hW⟩ : ∃ W, W = w3.alloc (.cells #[.int .i64 n, .int .i64 l, .int .i64 m, .slice Al A'.length cl, .slice Ad D'.length cd] 45) := ⟨_, rfl⟩
        rw [← hW] at HV3 HR3 HEb HRow
        rw [← hW]
        have HEG := Aside0.mk (HABV.out w3.heap.size HB3.out.size)
        obtain ⟨E, hE⟩ : ∃ E, w3.heap.size = E := ⟨_, rfl⟩
        simp only [hE] at HEb HEG ⊢
        have HC := Aside0.mk (Kd.R_reads' HRow.out).2.2
        have HCD := Aside0.mk (Kd.C_below HCD0.out HV3.out.below)
        have x0 : W.cell? ⟨E, 0, none⟩ = some (.int .i64 n) := (blk_cell HEb.out 0).trans rfl
        have x1 : W.cell? ⟨E, 1, none⟩ = some (.int .i64 l) := (blk_cell HEb.out 1).trans rfl
        have x2 : W.cell? ⟨E, 2, none⟩ = some (.int .i64 m) := (blk_cell HEb.out 2).trans rfl
        have x3 : W.cell? ⟨E, 3, none⟩ = some (.slice Al A'.length cl) := (blk_cell HEb.out 3).trans rfl
        have x4 : W.cell? ⟨E, 4, none⟩ = some (.slice Ad D'.length cd) := (blk_cell HEb.out 4).trans rfl
        clear hx0 hx1 hx2 hx3 hx4 hW hE HBW HRC HV HR hgl hhl HCUT
        cases hap : apV v n l m A' D' with
        | none =>
          have HAP := Aside0.mk hap
          clear hap
          go_region_with (first
        | (go_at_call 22
           refine (Apply.calls w0 g v n l m Al Ad cl cd A' D' _ ((HV3.out.step (below_drew (Below.refl _ _))).wide (fun k hk => hk.1)) HG.out.len (Kd.C_drew HC.out) hcl (Kd.C_drew HCD.out) hcd2 (by omega)).mono ?_
           rintro e w4 hpost
           have hpost2 : e = .returned (.int .i64 12) ∧ Below W.heap.size W w4 := by
             rw [HAP.out] at hpost
             rcases hpost with ⟨_, h1, h2⟩ | ⟨_, h1, _⟩
             · exact ⟨h1, below_then (below_drew (Below.refl W.heap.size W)) (Nat.le_refl _) h2⟩
             · cases h1
           obtain ⟨rfl, hw4⟩ := hpost2
           have HV4 := Aside0.mk (HV3.out.step hw4)
           have HR4 := Aside0.mk (HR3.out.step hw4)
           have HEb4 := Aside0.mk ((hw4.block E (blk_lt HEb.out)).trans HEb.out)
           have HRow4 := Aside0.mk (Kd.R_below HRow.out hw4)
           have HC4 := Aside0.mk (Kd.R_reads' HRow4.out).2.2
           have HCD4 := Aside0.mk (Kd.C_below HCD0.out HV4.out.below)
           have y0 : w4.cell? ⟨E, 0, none⟩ = some (.int .i64 n) := (blk_cell HEb4.out 0).trans rfl
           have y1 : w4.cell? ⟨E, 1, none⟩ = some (.int .i64 l) := (blk_cell HEb4.out 1).trans rfl
           have y2 : w4.cell? ⟨E, 2, none⟩ = some (.int .i64 m) := (blk_cell HEb4.out 2).trans rfl
           have y3 : w4.cell? ⟨E, 3, none⟩ = some (.slice Al A'.length cl) := (blk_cell HEb4.out 3).trans rfl
           have y4 : w4.cell? ⟨E, 4, none⟩ = some (.slice Ad D'.length cd) := (blk_cell HEb4.out 4).trans rfl
           clear hpost)
        | (go_at_call 67
           refine (RApply.calls w0 h v n l m Al Ad cl cd A' D' _ (HR4.out.wide (fun k hk => hk.1)) HG.out.len HC4.out hcl HCD4.out hcd2 (by omega) (by omega)).mono ?_
           rintro e w5 hpost
           have hpost2 : e = .returned (.int .i64 12) ∧ Below w4.heap.size w4 w5 := by
             rw [← apR_eq HG.out, HAP.out] at hpost
             rcases hpost with ⟨_, h1, h2⟩ | ⟨_, h1, _⟩
             · exact ⟨h1, h2⟩
             · cases h1
           obtain ⟨rfl, hw5⟩ := hpost2
           have HV5 := Aside0.mk (HV4.out.step hw5)
           have HR5 := Aside0.mk (HR4.out.step hw5)
           clear hpost)
        | (go_at_call 32
           refine (Same.calls w0 _ _ g h v v _ HV5.out HR5.out HG.out HG.out (List.Perm.refl _) rfl rfl rfl).mono ?_
           rintro e w6 ⟨rfl, hb6⟩
           have HV6 := Aside0.mk (HV5.out.step hb6)
           have HR6 := Aside0.mk (HR5.out.step hb6)
           clear hb6))
          all_goals
            go_wp2
            go_roundw
            (case rel => first
              | exact ⟨j + 1, v, by omega, by go_num, HG, HV6, HR6⟩
              | (trace_state; fail))
            (case measure => simp [intOf]; omega)
        | some v' =>
          have HAP := Aside0.mk hap
          have HG2 := Aside0.mk (HG.out.ap hap)
          clear hap
          go_region_with (first
        | (go_at_call 22
           refine (Apply.calls w0 g v n l m Al Ad cl cd A' D' _ ((HV3.out.step (below_drew (Below.refl _ _))).wide (fun k hk => hk.1)) HG.out.len (Kd.C_drew HC.out) hcl (Kd.C_drew HCD.out) hcd2 (by omega)).mono ?_
           rintro e w4 hpost
           have hpost2 : e = .returned (.int .i64 0) ∧ VInv w0 (fun k => k ≠ g) g v' w4 ∧ Kept W w4 (fun k => k = g) := by
             rw [HAP.out] at hpost
             rcases hpost with ⟨h1, _⟩ | ⟨v2, h1, h2, h3, h4⟩
             · cases h1
             · cases h1; exact ⟨h2, h3, h4⟩
           obtain ⟨rfl, hv4, hk4⟩ := hpost2
           have hr4 := HR3.out.kept hv4.below hk4 (fun e => HGH.out e.symm) (fun k hk => hk.2)
           obtain ⟨Ar, kr, hrb, -, -⟩ := hr4.row
           have HV4 := Aside0.mk (hv4.apart hrb (by decide))
           have HR4 := Aside0.mk hr4
           have HEb4 := Aside0.mk (blk_kept HEb.out hk4 HEG.out.1)
           have HRow4 := Aside0.mk (Kd.R_kept HRow.out hk4 (fun k hk => HABV.out k hk.2 |>.1))
           clear hv4 hk4 hr4 hrb
           have HC4 := Aside0.mk (Kd.R_reads' HRow4.out).2.2
           have HCD4 := Aside0.mk (Kd.C_below HCD0.out HV4.out.below)
           have y0 : w4.cell? ⟨E, 0, none⟩ = some (.int .i64 n) := (blk_cell HEb4.out 0).trans rfl
           have y1 : w4.cell? ⟨E, 1, none⟩ = some (.int .i64 l) := (blk_cell HEb4.out 1).trans rfl
           have y2 : w4.cell? ⟨E, 2, none⟩ = some (.int .i64 m) := (blk_cell HEb4.out 2).trans rfl
           have y3 : w4.cell? ⟨E, 3, none⟩ = some (.slice Al A'.length cl) := (blk_cell HEb4.out 3).trans rfl
           have y4 : w4.cell? ⟨E, 4, none⟩ = some (.slice Ad D'.length cd) := (blk_cell HEb4.out 4).trans rfl
           clear hpost)
        | (go_at_call 67
           refine (RApply.calls w0 h v n l m Al Ad cl cd A' D' _ (HR4.out.wide (fun k hk => hk.1)) HG.out.len HC4.out hcl HCD4.out hcd2 (by omega) (by omega)).mono ?_
           rintro e w5 hpost
           have hpost2 : e = .returned (.int .i64 0) ∧ RInv w0 (fun k => k ≠ h) h v' w5 ∧ Kept w4 w5 (fun k => k = h) := by
             rw [← apR_eq HG.out, HAP.out] at hpost
             rcases hpost with ⟨h1, _⟩ | ⟨v2, h1, h2, h3, h4⟩
             · cases h1
             · cases h1; exact ⟨h2, h3, h4⟩
           obtain ⟨rfl, hr5, hk5⟩ := hpost2
           have hv5 := HV4.out.kept hr5.below hk5 (fun e => HGH.out e) (fun k hk => hk.2)
           obtain ⟨-, -, vf5, hvb, -⟩ := hv5
           have HV5 := Aside0.mk (HV4.out.kept hr5.below hk5 (fun e => HGH.out e) (fun k hk => hk.2))
           have HR5 := Aside0.mk (hr5.apart hvb (by decide))
           clear hr5 hk5 hvb
           clear hpost)
        | (go_at_call 32
           refine (Same.calls w0 _ _ g h v' v' _ HV5.out HR5.out HG2.out HG2.out (List.Perm.refl _) rfl rfl rfl).mono ?_
           rintro e w6 ⟨rfl, hb6⟩
           have HV6 := Aside0.mk (HV5.out.step hb6)
           have HR6 := Aside0.mk (HR5.out.step hb6)
           clear hb6))
          all_goals
            go_wp2
            go_roundw
            (case rel => first
              | exact ⟨j + 1, v', by omega, by go_num, HG2, HV6, HR6⟩
              | (trace_state; fail))
            (case measure => simp [intOf]; omega)
      · go_wp2
        go_ret3
        first | exact ⟨g, h, v, rfl, HG.out, HV.out, HR.out, HGH.out⟩ | exact ⟨g, h, rfl, v, HG.out, HV.out, HR.out, HGH.out⟩
    · obtain rfl : j = es.length := by omega
      go_wp2
      go_ret3
      first | exact ⟨g, h, v, rfl, HG.out, HV.out, HR.out, HGH.out⟩ | exact ⟨g, h, rfl, v, HG.out, HV.out, HR.out, HGH.out⟩
end Go.Proofs.Ytjhijcehcklipaa.MVe
