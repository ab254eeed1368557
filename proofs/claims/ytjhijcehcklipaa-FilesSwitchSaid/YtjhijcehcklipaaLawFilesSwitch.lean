/-
  FilesSwitch: for every number and every slice of numbers the law comes back true.
-/
import Derived.Test.YtjhijcehcklipaaRows
import Derived.Test.YtjhijcehcklipaaSwAll
import Derived.Test.YtjhijcehcklipaaWSized
import Derived.WalkKit
import Derived.ProofKit
import Derived.OpenShut
import Derived.ShutString
import Derived.ChangeOld
import Derived.Below
import Derived.SizedLaws
import Derived.ChangeSlices
namespace Go.Proofs.Ytjhijcehcklipaa.filesSwitch
open Go.ChangeShapes Go.WideShapes Go.ChangeAt Go.RowKit
set_option linter.unusedVariables false
theorem own : ownKnob Try.prog.godebug = none := by kernel_rfl
theorem mixed : Try.prog.follows .mixedOrders = true := by kernel_rfl
theorem laidOut : laidOutB Try.prog = true := by kernel_rfl
/-- What is told of a start holds of the run. -/
theorem told_run {n : Int} {v : Ev.AV} {H : Ev.AH} {φ : Ev.Ph} {u : Value} {W : World} (h : Ev.tellsX (Ev.callX Try.prog Ev.fsO 100000 100 4 [.n .i64 n, v] H) = true) (hH : Ev.HR φ H W W.heap.size) (hv : Ev.VR φ v u) :
    Calls Try.prog 4 #[.int .i64 n, u] W fun e w' => e = .returned (.bool true) ∧ Below W.heap.size W w' := by
  have h := Ev.told_of Try.prog mixed Ev.sims_fs 100000 100 4 _ _ h
  unfold Ev.told at h
  split at h
  · rename_i H' e
    refine ((Ev.sims_callO Try.prog mixed 100000 Ev.sims_fs 100).ok 4 _ _ (.b true) H' e φ W.heap.size [.int .i64 n, u] W hH ⟨rfl, hv, trivial⟩).mono fun e w' hr => ?_
    obtain ⟨u, φ', rfl, h1, _, _, h2⟩ := hr
    rw [Ev.VR] at h1
    subst h1
    exact ⟨rfl, h2⟩
  · cases h
theorem firm (W : World) (B : Nat) : Ev.Firm B W := ⟨W, trivial, fun _ _ => rfl⟩
theorem start {W : World} {x : Addr} {cap v size minv : Nat} {cells : Ev.Tr Ev.AV} {H : Ev.AH} (hx : x.block < W.heap.size) (hH : ∀ o, H.objs.get o = if o = 0 then some (.row cells size minv 1) else none) (hn : H.next = 1) (hv : v < size) (hs : size < 1000)
    (hh : minv ≤ v → Ev.Held (Ev.upd (fun _ _ => none) 0 v ⟨x.block, 0, cap, 1, x.off + 1⟩) cells ⟨x.block, 0, cap, 1, x.off + 1⟩ v W) :
    Ev.HR (Ev.upd (fun _ _ => none) 0 v ⟨x.block, 0, cap, 1, x.off + 1⟩) H W W.heap.size := by
  have key : ∀ o u L, Ev.upd (fun _ _ => none) 0 v ⟨x.block, 0, cap, 1, x.off + 1⟩ o u = some L → o = 0 ∧ u = v ∧ L = ⟨x.block, 0, cap, 1, x.off + 1⟩ := by
    intro o u L e
    unfold Ev.upd at e
    by_cases q : o = 0 ∧ u = v
    · rw [if_pos q] at e; exact ⟨q.1, q.2, (Option.some.inj e).symm⟩
    · rw [if_neg q] at e; cases e
  have hg : H.objs.get 0 = some (.row cells size minv 1) := by rw [hH, if_pos rfl]
  refine ⟨firm _ _, Nat.le_refl _, fun o u L e => ?_, fun o1 u1 L1 o2 u2 L2 e1 e2 _ => ?_, by omega, fun o u L e => ?_⟩
  · obtain ⟨rfl, rfl, rfl⟩ := key _ _ _ e
    exact ⟨.inr ⟨_, _, _, _, hg, hv⟩, hx⟩
  · obtain ⟨rfl, rfl, rfl⟩ := key _ _ _ e1
    obtain ⟨rfl, rfl, rfl⟩ := key _ _ _ e2
    exact ⟨rfl, rfl⟩
  · obtain ⟨rfl, rfl, rfl⟩ := key _ _ _ e
    exact ⟨_, hg, by omega, Ev.OB.mkRow ⟨by omega, Nat.zero_le _, rfl, by omega, hh⟩⟩
theorem sg_of (z : Int) : ∃ a, Sw.Sg a ∧ ∀ φ, Ev.VR φ a (.int .i64 z) := by
  rcases Int.lt_trichotomy z 0 with h | rfl | h
  · exact ⟨_, .inl rfl, fun _ => ⟨z, rfl, h⟩⟩
  · exact ⟨_, .inr (.inl rfl), fun _ => rfl⟩
  · exact ⟨_, .inr (.inr rfl), fun _ => ⟨z, rfl, h⟩⟩
theorem walk (n : Int) (x : Addr) (len cap : Nat) (zs : List Int) (W : World) (hs : x.spot = none) (hl : len ≤ cap) (hinf : len < Ev.inf) (hz : zs.length = cap) (hc : ∀ i, i < zs.length → W.cell? (x.add i) = some (.int .i64 (zs.getD i 0))) (hx : ∃ arr e fr, W.heap[x.block]? = some (.cells arr e fr)) :
    Calls Try.prog 4 #[.int .i64 n, .slice (some x) len cap] W fun e w' => e = .returned (.bool true) ∧ Below W.heap.size W w' := by
  obtain ⟨arr, elem, ⟨lo, hi⟩, hb⟩ := hx
  have hlt : x.block < W.heap.size := (Array.getElem?_eq_some_iff.1 hb).1
  obtain ⟨blk, off, spot⟩ := x
  dsimp only at hs hlt hb
  subst hs
  have hcell : ∀ i, i < cap → arr[off + i]? = some (.int .i64 (zs.getD i 0)) := fun i hi => by
    have := hc i (by omega)
    have e : W.cell? (Addr.add ⟨blk, off, none⟩ i) = arr[off + i]? := by
      unfold Addr.add
      by_cases q : i = 0
      · subst q; rw [if_pos (Eq.refl 0)]; exact Ev.cell_at hb
      · rw [if_neg q]; exact Ev.cell_at hb
    rw [← e]; exact this
  have slice : ∀ (v C : Nat), off + cap ≤ C → Ev.VR (Ev.upd (fun _ _ => none) 0 v ⟨blk, 0, C, 1, off + 1⟩) (.l (some ⟨0, v, 0⟩) len (Ev.inf + 1)) (.slice (some ⟨blk, off, none⟩) len cap) := fun v C hC => by
    refine ⟨_, off, cap, Ev.upd_same _ _ _ _, rfl, hl, by omega, fun q => absurd q (by omega), fun _ => ⟨rfl, ?_⟩, .inl ⟨Nat.le_refl _, ?_⟩⟩
    · show off + cap * 1 ≤ C; omega
    · show off = 0 - 0 + (off + 1 - 1); omega
  have rows : ∀ ts : List Ev.AV, ts.length < 900 → ∀ o, (Sw.st ts).objs.get o = if o = 0 then some (.row (Ev.setFrom .nil 0 ts) (ts.length + 1) 0 1) else none := fun ts _ o =>
    (Ev.Tr.at_set _ _ _ _ (by decide)).trans (by rw [Ev.Tr.get_nil])
  by_cases h0 : len = 0
  · subst h0
    refine told_run (φ := Ev.upd (fun _ _ => none) 0 0 ⟨blk, 0, off + cap, 1, off + 1⟩) (Sw.all0 n) (start (x := ⟨blk, off, none⟩) (cells := .nil) (size := 1) (minv := 1) hlt (fun o => (Ev.Tr.at_set _ _ _ _ (by decide)).trans (by rw [Ev.Tr.get_nil])) rfl (by omega) (by omega) (fun q => absurd q (by omega))) (slice 0 _ (Nat.le_refl _))
  · have hsz : off + cap ≤ arr.size := by
      have := hcell (cap - 1) (by omega)
      have := (Array.getElem?_eq_some_iff.1 this).1
      omega
    have go : ∀ ts : List Ev.AV, ts.length ≤ cap → ts.length < 900 → (∀ (φ : Ev.Ph) (i : Nat) a, ts[i]? = some a → Ev.VR φ a (.int .i64 (zs.getD i 0))) → Sw.run n ts len = true →
        Calls Try.prog 4 #[.int .i64 n, .slice (some ⟨blk, off, none⟩) len cap] W fun e w' => e = .returned (.bool true) ∧ Below W.heap.size W w' := fun ts hts htl hr hrun => by
      refine told_run (φ := Ev.upd (fun _ _ => none) 0 ts.length ⟨blk, 0, arr.size, 1, off + 1⟩) hrun (start (x := ⟨blk, off, none⟩) (size := ts.length + 1) (minv := 0) (cells := Ev.setFrom .nil 0 ts) hlt (rows ts htl) rfl (by omega) (by omega) (fun _ => ?_)) (slice ts.length _ hsz)
      refine ⟨arr, elem, lo, hi, hb, rfl, fun q => absurd q (Nat.succ_ne_zero _), fun i _ hi => ?_⟩
      have hi' : ts[i]? = some ts[i] := List.getElem?_eq_getElem hi
      refine ⟨ts[i], _, ?_, ?_, hr _ i _ hi'⟩
      · rw [Ev.setFrom_get ts .nil 0 i (by omega), if_pos (by omega)]; exact hi'
      · show arr[i - 0 + (off + 1 - 1)]? = _
        rw [show i - 0 + (off + 1 - 1) = off + i by omega]
        exact hcell i (by omega)
    obtain ⟨a, ha, hra⟩ : ∃ a, Sw.Sg a ∧ ∀ φ, Ev.VR φ a (.int .i64 (zs.getD 0 0)) := sg_of _
    obtain ⟨b, hb2, hrb⟩ : ∃ a, Sw.Sg a ∧ ∀ φ, Ev.VR φ a (.int .i64 (zs.getD 1 0)) := sg_of _
    have r1 : ∀ (φ : Ev.Ph) (i : Nat) c, [a][i]? = some c → Ev.VR φ c (.int .i64 (zs.getD i 0)) := fun φ i c e => by
      match i, e with
      | 0, e => obtain rfl := Option.some.inj e; exact hra φ
    by_cases h1 : n = .ofNat 1
    · subst h1
      by_cases h2 : len = 1
      · subst h2
        exact go [a] (by show 1 ≤ cap; omega) (by show 1 < 900; omega) r1 (Sw.all2 a ha)
      · refine go [a, b] (by show 2 ≤ cap; omega) (by show 2 < 900; omega) (fun φ i c e => ?_) (Sw.all3 len a b (by omega) ha hb2)
        match i, e with
        | 0, e => obtain rfl := Option.some.inj e; exact hra φ
        | 1, e => obtain rfl := Option.some.inj e; exact hrb φ
    · exact go [a] (by show 1 ≤ cap; omega) (by show 1 < 900; omega) r1 (Sw.all1 n len a h1 (by omega) ha)
set_option maxRecDepth 100000 in
theorem lifted (os : Os) (started : os.Started) (H : Type) (enc : TypeId × Value → H) :
    ReturnsInHanded {} Try.checked os 4 .any (Rows.filesSwitchSpec.pre6 enc Try.prog Try.f4 Rows.filesSwitchRow.domain false) (Rows.filesSwitchSpec.post enc Try.prog Try.f4 false true false false) := by
  refine returnsInHanded_of_change_sized (C := Try.checked) own started (by kernel_rfl) Try.func4
    (ChangeSpec.witness6 (enc := enc) (C := Try.checked) false ⟨#[], #[.int .i64 0, .slice none 0 0], []⟩ 8 (by kernel_rfl) (by kernel_rfl) (by kernel_rfl) (by kernel_rfl)) ?_
  intro W base args ds gs before hval0 hW hcnd hsz0 _
  have hsz : (DataW.weightsEach Try.prog (Try.f4.params.toList ++ Rows.filesSwitchSpec.plain.varTypes Try.prog) (ds ++ gs)).all (· ≤ reachBytes) = true := hsz0
  have hval : ∀ (j : Nat) t v, Try.f4.params[j]? = some t → args[j]? = some v → Value.okWide Try.prog W .any base t v := hval0
  have hW' := hW
  obtain ⟨p, q, hA0, hV, rfl, hfz, hnd⟩ := hW
  have hA : DataW.TrodAll enc Try.prog W 0 (fun _ => true) true Try.f4.params.toList args.toList ds p := hA0
  rw [Try.params4] at hA hval hsz
  obtain ⟨v0, vs0, d0, ds0, p0, q0, hargs, rfl, rfl, h0, r0⟩ := trodAll_cons hA
  obtain ⟨v1, vs1, d1, ds1, p1, q1, rfl, rfl, rfl, h1, r1⟩ := trodAll_cons r0
  obtain ⟨rfl, rfl, rfl⟩ := trodAll_nil r1
  obtain rfl : args = #[v0, v1] := by cases args; simp_all
  obtain ⟨rfl, rfl⟩ := trodVars_none hV
  obtain ⟨a0, rfl, rfl, rfl, w0⟩ := open_int Try.underlying3 (hval 0 3 v0 rfl rfl) h0
  have k1 := h1
  have lt1 : ∀ x ∈ p1, x.block < W.heap.size := by obtain ⟨m, hm⟩ := k1; exact DataW.trod_lt m _ _ _ hm
  have hv1 := hval 1 32 v1 rfl rfl
  have hw : Calls Try.prog 4 #[.int .i64 a0, v1] W fun e w' => e = .returned (.bool true) ∧ Below W.heap.size W w' := by
    obtain ⟨a1, len1, cap1, rfl⟩ := okWide_slice Try.underlying32 hv1
    have y1 : len1 * 8 ≤ 140737488351232 := Go.Proofs.YtjhijcehcklipaaW.PrintWords.sized_ints hsz (j := 1) (t := 32) rfl rfl Try.underlying32 Try.underlying3 (by kernel_rfl) (by kernel_rfl) h1
    obtain ⟨fuel, hf⟩ := h1
    rcases open_ints Try.underlying32 Try.underlying3 (by kernel_rfl) hf with ⟨hcs, _⟩ | ⟨x, l, c, zs, hcs, _, hl, hm, hz, _, hcell, hwz⟩
    · simp [Value.cells] at hcs
      obtain ⟨rfl, rfl, rfl⟩ := hcs
      exact told_run (φ := fun _ _ => none) (Sw.allN a0) ⟨firm _ _, Nat.le_refl _, (fun _ _ _ e => by cases e), (fun _ _ _ _ _ _ e => by cases e), by decide, (fun _ _ _ e => by cases e)⟩ ⟨rfl, rfl, rfl⟩
    · simp [Value.cells] at hcs
      obtain ⟨rfl, rfl, rfl⟩ := hcs
      have hh : W.has Try.prog .any base x 3 cap1 ∧ True := by
        simp only [Value.okWide, Try.underlying32, Cell.okWide, Cell.ok] at hv1
        exact ⟨hv1.2.2, trivial⟩
      obtain ⟨⟨_, hsp, row, cells, hsh, _⟩, _⟩ := hh
      refine walk a0 x len1 cap1 zs W hsp hl (by unfold Ev.inf; omega) (by simpa using hz) hcell ?_
      unfold World.shape? at hsh
      split at hsh
      · rename_i arr e fr hb; exact ⟨_, _, _, hb⟩
      · cases hsh
  clear hA0 hval0 hsz0 hsz
  refine hw.mono fun e W' ⟨he, bel⟩ => ?_
  subst he
  exact ⟨_, rfl, _, _, _, [], _, [], hW', trodAll_mk1 (shut_bool Try.underlying4 _), (trodAll_cons_mk (shut_int Try.underlying3 w0) (trodAll_cons_mk (Below.trod laidOut (by kernel_rfl) (of_decide_eq_true (by kernel_rfl)) k1 bel lt1) trodAll_mk0)), rfl, bel.frame _, fun h => by cases h⟩
theorem over : Rows.filesSwitchRow.holds Try.pinned (OpenSpec.ofChange Rows.filesSwitchSpec) :=
  OpenClaim.holds_of_wide 4 Try.f4 rfl rfl rfl rfl rfl rfl rfl ⟨rfl, rfl, rfl, rfl, rfl⟩ rfl rfl rfl rfl rfl (by kernel_rfl) Try.func4 (by kernel_rfl)
    (of_decide_eq_true (by kernel_rfl)) (by unfold Func.isWrapper; first | (rw [if_pos (by decide +kernel)]; kernel_rfl) | (rw [if_neg (by decide +kernel)]; exact ⟨rfl, rfl⟩))
    (fun os started H enc _ => lifted os started H enc)
theorem proved : Rows.FilesSwitchSaid := over
#print axioms proved
end Go.Proofs.Ytjhijcehcklipaa.filesSwitch
namespace Go.Proofs.Ytjhijcehcklipaa
/-- The row, under a short name, for the claim. -/
theorem filesSwitch_holds : Rows.FilesSwitchSaid := filesSwitch.proved
end Go.Proofs.Ytjhijcehcklipaa
