/-
  What three calls of the files' code tell, by contracts of the model's run: the sum of all sizes; a copy of a directory; its names, sorted.
-/
import Derived.Test.YtjhijcehcklipaaEvClone
import Derived.Test.YtjhijcehcklipaaEvX
import Derived.Test.YtjhijcehcklipaaIter
import Derived.Sort.KeysCollected
import Derived.StringKeys
set_option linter.unusedVariables false
set_option linter.unusedSimpArgs false
namespace Go.Proofs.Ytjhijcehcklipaa.Ev
open Go.RowKit Go.Maps Go.Sort

theorem HR.later {φ : Ph} {H : AH} {w w' : World} {B : Nat} (h : HR φ H w B) (hb : Below w.heap.size w w') : HR φ H w' B :=
  ⟨h.inv.of fun k hk => hb.block k (by have := h.base; omega), Nat.le_trans h.base hb.size, fun o v L e => ⟨(h.low o v L e).1, Nat.lt_of_lt_of_le (h.low o v L e).2 hb.size⟩, h.inj, h.nx, fun o v L e => by
    obtain ⟨ao, h1, h2, h3⟩ := h.ob o v L e
    exact ⟨ao, h1, h2, h3.mono (Le.refl _) (hb.block _ (h.low o v L e).2)⟩⟩
theorem below_low {w w' : World} {B : Nat} (hb : Below w.heap.size w w') (h : B ≤ w.heap.size) : Below B w w' :=
  ⟨hb.os, hb.tape, hb.output, hb.size, fun k hk => hb.block k (by omega)⟩
/-- An object that lies in a block that nothing else lies in. -/
theorem HR.bindAt {φ : Ph} {H H' : AH} {w : World} {B : Nat} (h : HR φ H w B) {ao : AO} {v g z cap : Nat} (hn : H.next < 1000000000) (hH : H' = { objs := H.objs.set deep H.next ao, next := H.next + 1 }) (hg : B ≤ g ∧ g < w.heap.size) (hfree : ∀ o v L, φ o v = some L → L.blk ≠ g)
    (hob : OB (upd φ H.next v ⟨g, 0, cap, z, 0⟩) ao v ⟨g, 0, cap, z, 0⟩ w) : HR (upd φ H.next v ⟨g, 0, cap, z, 0⟩) H' w B ∧ Ext φ (upd φ H.next v ⟨g, 0, cap, z, 0⟩) H H' := by
  subst hH
  have hget : ∀ o, (H.objs.set deep H.next ao).get o = if o = H.next then some ao else H.objs.get o := fun o => Tr.at_set _ _ _ _ (by omega)
  have hle : Le φ (upd φ H.next v ⟨g, 0, cap, z, 0⟩) := upd_le (h.free _)
  refine ⟨⟨h.inv, h.base, fun o u L e => ?_, fun o1 v1 L1 o2 v2 L2 e1 e2 e => ?_, by show H.next + 1 < _; omega, fun o u L e => ?_⟩, hle, fun o u L e => ?_, Nat.le_succ _⟩
  · unfold upd at e
    by_cases q : o = H.next ∧ u = v
    · rw [if_pos q] at e; obtain rfl := Option.some.inj e; exact ⟨.inl ⟨hg.1, rfl⟩, hg.2⟩
    · rw [if_neg q] at e; exact ⟨(h.low _ _ _ e).1.imp id fun f => f.get ((hget _).trans (if_neg (by obtain ⟨_, _, k2, _⟩ := h.ob _ _ _ e; omega))), (h.low _ _ _ e).2⟩
  · unfold upd at e1 e2
    by_cases q1 : o1 = H.next ∧ v1 = v <;> by_cases q2 : o2 = H.next ∧ v2 = v
    · rw [if_pos q1] at e1; rw [if_pos q2] at e2; obtain rfl := Option.some.inj e1; obtain rfl := Option.some.inj e2; exact ⟨by rw [q1.1, q2.1], rfl⟩
    · rw [if_pos q1] at e1; rw [if_neg q2] at e2; obtain rfl := Option.some.inj e1; exact absurd e.symm (hfree _ _ _ e2)
    · rw [if_neg q1] at e1; rw [if_pos q2] at e2; obtain rfl := Option.some.inj e2; exact absurd e (hfree _ _ _ e1)
    · rw [if_neg q1] at e1; rw [if_neg q2] at e2; exact h.inj _ _ _ _ _ _ e1 e2 e
  · unfold upd at e
    by_cases q : o = H.next ∧ u = v
    · rw [if_pos q] at e; obtain rfl := Option.some.inj e
      obtain ⟨rfl, rfl⟩ := q
      exact ⟨ao, (hget _).trans (if_pos rfl), Nat.lt_succ_self _, hob⟩
    · rw [if_neg q] at e
      obtain ⟨a2, k1, k2, k3⟩ := h.ob _ _ _ e
      exact ⟨a2, (hget _).trans ((if_neg (by omega)).trans k1), by show o < H.next + 1; omega, k3.mono hle rfl⟩
  · unfold upd at e
    by_cases q : o = H.next ∧ u = v
    · exact .inr ⟨by omega, by rw [q.1]; exact Nat.lt_succ_self _⟩
    · rw [if_neg q] at e; exact .inl ⟨u, L, e⟩

/-! The sum. -/
def sumLen (H : AH) : List (AV × AV) → Option Nat
  | [] => some 0
  | e :: es => match e.2 with
    | .p (some b) => match H.read b 0, sumLen H es with
      | some (.l _ len _), some n => some (len + n)
      | _, _ => none
    | _ => none
def usedO (g : Nat) (xs : List AV) (H : AH) : Option (AV × AH) := if g = 37 then match xs with
  | [.p (some a)] => match H.read a 1 with
    | some (.m (some o)) => match H.entries (some o) with
      | some es => match sumLen H es with
        | some n => if n < 4611686018427387904 then some (.n .i64 n, H) else none
        | none => none
      | none => none
    | _ => none
  | _ => none
  else none
theorem usedO_some {g : Nat} {xs : List AV} {H : AH} {r : AV × AH} (e : usedO g xs H = some r) : ∃ a o es n, g = 37 ∧ xs = [.p (some a)] ∧ H.read a 1 = some (.m (some o)) ∧ H.entries (some o) = some es ∧ sumLen H es = some n ∧ n < 4611686018427387904 ∧ r = (.n .i64 n, H) := by
  unfold usedO at e
  split at e
  · rename_i hg
    (repeat' split at e) <;> first
      | (cases e; done)
      | exact ⟨_, _, _, _, hg, rfl, by assumption, by assumption, by assumption, by assumption, (Option.some.inj e).symm⟩
  · cases e
def lenAt (w : World) (e : MapEntry) : Int := match e.val with
  | .pointer (some x) => match w.cell? x with
    | some (.slice _ n _) => n
    | _ => 0
  | _ => 0
theorem sum_rel {φ : Ph} {H : AH} {w : World} {B : Nat} (hH : HR φ H w B) : ∀ (es : List (AV × AV)) (l : List MapEntry) (n : Nat), VRs φ (es.map (·.2)) (l.map (·.val)) → sumLen H es = some n →
    (∀ e ∈ l, ∃ (xb xo : Nat) (s : Option Addr) (n c : Nat), e.val = .pointer (some ⟨xb, xo, none⟩) ∧ w.cell? ⟨xb, xo, none⟩ = some (.slice s n c) ∧ lenAt w e = n) ∧ (l.map (lenAt w)).sum = n
  | [], [], n, _, h => by rw [sumLen] at h; obtain rfl := Option.some.inj h; exact ⟨fun e he => (List.not_mem_nil he).elim, rfl⟩
  | e :: es, e' :: l, n, ⟨h1, h2⟩, h => by
    rw [sumLen] at h
    split at h
    · rename_i b hb
      split at h
      · rename_i q len c m hr hs
        obtain rfl := Option.some.inj h
        obtain ⟨i1, i2⟩ := sum_rel hH es l m h2 hs
        have h1 : VR φ e.2 e'.val := h1
        rw [hb] at h1
        obtain ⟨L, x1, x2, hv⟩ := h1
        obtain ⟨cv, c1, c2⟩ := hH.cell x1 x2 hr
        rw [Nat.add_zero] at c1
        obtain ⟨s, c', rfl⟩ : ∃ s c', cv = .slice s len c' := by
          cases q with
          | none => obtain ⟨rfl, _, rfl⟩ := c2; exact ⟨_, _, rfl⟩
          | some q => obtain ⟨L', off, c', _, rfl, _⟩ := c2; exact ⟨_, _, rfl⟩
        have hl : lenAt w e' = len := by unfold lenAt; rw [hv]; dsimp only; rw [c1]
        refine ⟨fun x hx => ?_, by rw [List.map_cons, List.sum_cons, i2, hl]; exact (Int.natCast_add _ _).symm⟩
        rcases List.mem_cons.1 hx with rfl | hx
        · exact ⟨_, _, _, _, _, hv, c1, hl⟩
        · exact i1 x hx
      · cases h
    · cases h
  | [], _ :: _, _, h, _ => h.elim
  | _ :: _, [], _, h, _ => h.elim
theorem sims_used : Sims Try.prog usedO := by
  refine ⟨fun g xs H v H' e => ?_, fun g xs H r e => ?_, fun g xs H v H' e φ B vs w hH hr => ?_⟩
  · obtain ⟨_, _, _, _, _, _, _, _, _, _, h⟩ := usedO_some e
    obtain ⟨_, rfl⟩ := Prod.mk.inj h; exact Nat.le_refl _
  · obtain ⟨_, _, _, _, rfl, _⟩ := usedO_some e
    exact ⟨Try.f37, Try.func37, by kernel_rfl, by kernel_rfl⟩
  · obtain ⟨a, o, es, n, rfl, rfl, h1, h2, h3, h4, h⟩ := usedO_some e
    obtain ⟨rfl, rfl⟩ := Prod.mk.inj h
    match vs, hr with
    | [v1], hr =>
      obtain ⟨⟨L, x1, x2, rfl⟩, _⟩ := hr
      obtain ⟨cv, c1, c2⟩ := hH.cell x1 x2 h1
      obtain ⟨L', y1, rfl⟩ := c2
      obtain ⟨_, arr, clock, g1, g2, g3, g4, g5⟩ := hH.map y1 h2
      obtain ⟨s1, s2⟩ := sum_rel hH es arr.toList n g3 h3
      refine (used_calls w L.blk (a.i - L.d + (L.s - 1)) L'.blk clock arr (lenAt w) c1 g1 g4 g5 s1).mono fun e w' ⟨e1, e2⟩ => ?_
      subst e1
      refine ⟨_, φ, rfl, ?_, hH.later e2, Ext.refl _ _, below_low e2 hH.base⟩
      rw [VR, s2, wrap_i64]
      rw [if_neg (by omega)]
      congr 1; omega

/-! The copy. -/
def cloneO (g : Nat) (xs : List AV) (H : AH) : Option (AV × AH) := if g = 42 then match xs with
  | [.m (some o)] => match H.entries (some o) with
    | some es => if Nat.blt H.next 1000000000 = true then some (.m (some H.next), { objs := H.objs.set deep H.next (.mp es), next := H.next + 1 }) else none
    | none => none
  | _ => none
  else none
theorem cloneO_some {g : Nat} {xs : List AV} {H : AH} {r : AV × AH} (e : cloneO g xs H = some r) : ∃ o es, g = 42 ∧ xs = [.m (some o)] ∧ H.entries (some o) = some es ∧ Nat.blt H.next 1000000000 = true ∧ r = (.m (some H.next), { objs := H.objs.set deep H.next (.mp es), next := H.next + 1 }) := by
  unfold cloneO at e
  split at e
  · rename_i hg
    (repeat' split at e) <;> first
      | (cases e; done)
      | exact ⟨_, _, hg, rfl, by assumption, by assumption, (Option.some.inj e).symm⟩
  · cases e
theorem sims_clone : Sims Try.prog cloneO := by
  refine ⟨fun g xs H v H' e => ?_, fun g xs H r e => ?_, fun g xs H v H' e φ B vs w hH hr => ?_⟩
  · obtain ⟨_, _, _, _, _, _, h⟩ := cloneO_some e
    obtain ⟨_, rfl⟩ := Prod.mk.inj h; exact Nat.le_succ _
  · obtain ⟨_, _, rfl, _⟩ := cloneO_some e
    exact ⟨Try.f42, Try.func42, by kernel_rfl, by kernel_rfl⟩
  · obtain ⟨o, es, rfl, rfl, h2, h3, h⟩ := cloneO_some e
    obtain ⟨rfl, rfl⟩ := Prod.mk.inj h
    rw [Nat.blt_eq] at h3
    match vs, hr with
    | [v1], hr =>
      obtain ⟨⟨L', y1, rfl⟩, _⟩ := hr
      obtain ⟨_, arr, clock, g1, g2, g3, g4, g5⟩ := hH.map y1 h2
      refine (clone_calls w L'.blk clock arr g1).mono fun e w' ⟨e1, e2⟩ => ?_
      subst e1 e2
      have hb := below_push w (.map arr clock)
      have hle : Le φ (upd φ H.next 0 ⟨w.heap.size, 0, 0, 0, 0⟩) := upd_le (hH.free _)
      obtain ⟨k1, k2⟩ := (hH.later hb).bindAt (ao := .mp es) (v := 0) (g := w.heap.size) (z := 0) (cap := 0) h3 rfl ⟨hH.base, by show w.heap.size < (w.heap.push _).size; rw [Array.size_push]; omega⟩ (fun o v L e q => by have := (hH.low o v L e).2; omega)
        (show OB _ (.mp es) 0 _ _ from ⟨rfl, arr, clock, heap_push_at _ _, g2.mono hle, g3.mono hle, g4, g5⟩)
      exact ⟨_, _, rfl, ⟨_, upd_same _ _ _ _, rfl⟩, k1, k2, below_low hb hH.base⟩

/-! The names, sorted. -/
def insN (x : List Nat) : List (List Nat) → List (List Nat)
  | [] => [x]
  | y :: l => if lessN y x = true then y :: insN x l else x :: y :: l
def isortN : List (List Nat) → List (List Nat)
  | [] => []
  | x :: l => insN x (isortN l)
def strsOf : List (AV × AV) → Option (List (List Nat))
  | [] => some []
  | e :: es => match e.1, strsOf es with
    | .s x, some l => some (x :: l)
    | _, _ => none
def apartN : List (List Nat) → Bool
  | [] => true
  | x :: l => l.all (fun y => !eqN x y) && apartN l
def shortN (l : List (List Nat)) : Bool := l.all fun x => Nat.ble x.length 1000
def sortedO (g : Nat) (xs : List AV) (H : AH) : Option (AV × AH) := if g = 44 then match xs with
  | [.f g1 [.p (some c)]] => if g1 = 76 ∧ c.i = 0 ∧ H.last c = true then match H.read c 0 with
    | some (.m (some o)) => match H.entries (some o) with
      | some es => match strsOf es with
        | some ks => if apartN ks = true ∧ shortN ks = true ∧ ks.length < 1000000 ∧ Nat.blt H.next 1000000000 = true then
            (match isortN ks with
              | [] => some (.l none 0 0, H)
              | k :: l => some (.l (some ⟨H.next, (k :: l).length, 0⟩) (k :: l).length (inf + 1), H.new ((k :: l).map .s) 1)) else none
        | none => none
      | none => none
    | _ => none
    else none
  | _ => none
  else none
theorem sortedO_some {g : Nat} {xs : List AV} {H : AH} {r : AV × AH} (e : sortedO g xs H = some r) : ∃ c o es ks, g = 44 ∧ xs = [.f 76 [.p (some c)]] ∧ (c.i = 0 ∧ H.last c = true) ∧ H.read c 0 = some (.m (some o)) ∧ H.entries (some o) = some es ∧ strsOf es = some ks ∧
    apartN ks = true ∧ shortN ks = true ∧ ks.length < 1000000 ∧ H.next < 1000000000 ∧ (isortN ks = [] ∧ r = (.l none 0 0, H) ∨ ∃ k l, isortN ks = k :: l ∧ r = (.l (some ⟨H.next, (k :: l).length, 0⟩) (k :: l).length (inf + 1), H.new ((k :: l).map .s) 1)) := by
  unfold sortedO at e
  split at e
  · rename_i hg
    split at e
    · rename_i g1 c
      split at e
      · rename_i hc
        obtain ⟨rfl, hc⟩ := hc
        split at e
        · rename_i o h1
          split at e
          · rename_i es h2
            split at e
            · rename_i ks h3
              split at e
              · rename_i h4
                obtain ⟨a1, a2, a3, a4⟩ := h4
                rw [Nat.blt_eq] at a4
                refine ⟨c, o, es, ks, hg, rfl, hc, h1, h2, h3, a1, a2, a3, a4, ?_⟩
                split at e
                · rename_i hs; exact .inl ⟨hs, (Option.some.inj e).symm⟩
                · rename_i k l hs; exact .inr ⟨k, l, hs, (Option.some.inj e).symm⟩
              · cases e
            · cases e
          · cases e
        · cases e
      · cases e
    · cases e
  · cases e
def u8s (x : List Nat) : List UInt8 := x.map UInt8.ofNat
theorem insN_perm (x : List Nat) : ∀ l, (insN x l).Perm (x :: l)
  | [] => List.Perm.refl _
  | y :: l => by
    unfold insN
    split
    · exact ((insN_perm x l).cons y).trans (List.Perm.swap x y l)
    · exact List.Perm.refl _
theorem isortN_perm : ∀ l, (isortN l).Perm l
  | [] => List.Perm.refl _
  | x :: l => (insN_perm x _).trans ((isortN_perm l).cons x)
def okN (x : List Nat) : Prop := (u8s x).map UInt8.toNat = x
theorem less_le {x y : List Nat} (hx : okN x) (hy : okN y) : lessN y x = false ↔ u8s x ≤ u8s y := by
  have : lessN y x = Op.bytesLess (u8s y) (u8s x) := by rw [← lessN_eq, hx, hy]
  rw [this, bytesLess_eq]
  simp
theorem insN_sorted {x : List Nat} (hx : okN x) : ∀ l, (∀ y ∈ l, okN y) → l.Pairwise (fun a b => u8s a ≤ u8s b) → (insN x l).Pairwise (fun a b => u8s a ≤ u8s b)
  | [], _, _ => List.pairwise_singleton _ _
  | y :: l, hl, h => by
    rw [List.pairwise_cons] at h
    unfold insN
    split
    · rename_i hlt
      refine List.pairwise_cons.2 ⟨fun z hz => ?_, insN_sorted hx l (fun z hz => hl z (List.mem_cons_of_mem _ hz)) h.2⟩
      rcases List.mem_cons.1 ((insN_perm x l).mem_iff.1 hz) with rfl | hz
      · rcases List.le_total (u8s y) (u8s z) with q | q
        · exact q
        · have := (less_le hx (hl y (List.mem_cons_self ..))).2 q
          rw [hlt] at this; cases this
      · exact h.1 z hz
    · rename_i hlt
      have hle := (less_le hx (hl y (List.mem_cons_self ..))).1 (by simpa using hlt)
      refine List.pairwise_cons.2 ⟨fun z hz => ?_, List.pairwise_cons.2 h⟩
      rcases List.mem_cons.1 hz with rfl | hz
      · exact hle
      · exact List.le_trans hle (h.1 z hz)
theorem isortN_sorted : ∀ l, (∀ y ∈ l, okN y) → (isortN l).Pairwise (fun a b => u8s a ≤ u8s b)
  | [], _ => List.Pairwise.nil
  | x :: l, h => insN_sorted (h x (List.mem_cons_self ..)) _ (fun y hy => h y (List.mem_cons_of_mem _ ((isortN_perm l).mem_iff.1 hy))) (isortN_sorted l fun y hy => h y (List.mem_cons_of_mem _ hy))
theorem isort_merge {ks : List (List Nat)} (h : ∀ y ∈ ks, okN y) : (isortN ks).map u8s = (ks.map u8s).mergeSort leB := by
  have tr : ∀ a b c : List UInt8, leB a b = true → leB b c = true → leB a c = true := fun a b c h1 h2 => by simp only [leB, decide_eq_true_eq] at *; exact List.le_trans h1 h2
  have to : ∀ a b : List UInt8, (leB a b || leB b a) = true := fun a b => by simp only [leB, Bool.or_eq_true, decide_eq_true_eq]; exact List.le_total a b
  refine List.Perm.eq_of_pairwise (le := fun a b => leB a b = true) (fun a b _ _ h1 h2 => ?_) ?_ (List.pairwise_mergeSort tr to _) (((isortN_perm ks).map u8s).trans (List.mergeSort_perm _ leB).symm)
  · simp only [leB, decide_eq_true_eq] at h1 h2
    exact List.le_antisymm h1 h2
  · rw [List.pairwise_map]
    exact (isortN_sorted ks h).imp fun {a b} hab => by simp only [leB, decide_eq_true_eq]; exact hab
theorem strs_rel {φ : Ph} : ∀ (es : List (AV × AV)) (l : List MapEntry) (ks : List (List Nat)), VRs φ (es.map (·.1)) (l.map (·.key)) → strsOf es = some ks → ∃ ss : List ByteArray, l.map (·.key) = ss.map Value.string ∧ ss.map (fun s => s.data.toList.map UInt8.toNat) = ks
  | [], [], ks, _, h => by rw [strsOf] at h; obtain rfl := Option.some.inj h; exact ⟨[], rfl, rfl⟩
  | e :: es, e' :: l, ks, ⟨h1, h2⟩, h => by
    rw [strsOf] at h
    split at h
    · rename_i x m hx hm
      obtain rfl := Option.some.inj h
      obtain ⟨ss, s1, s2⟩ := strs_rel es l m h2 hm
      have h1 : VR φ e.1 e'.key := h1
      rw [hx] at h1
      obtain ⟨s, hs, rfl⟩ := h1
      exact ⟨s :: ss, by rw [List.map_cons, List.map_cons, s1, hs], by rw [List.map_cons, s2]⟩
    · cases h
  | [], _ :: _, _, h, _ => h.elim
  | _ :: _, [], _, h, _ => h.elim
theorem apart_nodup : ∀ l, apartN l = true → l.Nodup
  | [], _ => List.nodup_nil
  | x :: l, h => by
    rw [apartN, Bool.and_eq_true, List.all_eq_true] at h
    rw [List.nodup_cons]
    refine ⟨fun hx => ?_, apart_nodup l h.2⟩
    have := h.1 x hx
    rw [eqN_eq] at this
    simp at this
theorem back8 (s : ByteArray) : u8s (s.data.toList.map UInt8.toNat) = s.data.toList := by
  unfold u8s
  rw [List.map_map]
  have : (UInt8.ofNat ∘ UInt8.toNat) = id := by funext x; simp
  rw [this, List.map_id]
def anyR (v : Value) : Option (DataW Unit × List MemPlace) := some (.nil, [])
set_option maxRecDepth 100000 in
open Go.WideElems in
theorem sims_sorted : Sims Try.prog sortedO := by
  refine ⟨fun g xs H v H' e => ?_, fun g xs H r e => ?_, fun g xs H v H' e φ B vs w hH hr => ?_⟩
  · obtain ⟨_, _, _, _, _, _, _, _, _, _, _, _, _, _, h⟩ := sortedO_some e
    rcases h with ⟨_, h⟩ | ⟨_, _, _, h⟩
    · obtain ⟨_, rfl⟩ := Prod.mk.inj h; exact Nat.le_refl _
    · obtain ⟨_, rfl⟩ := Prod.mk.inj h; exact Nat.le_succ _
  · obtain ⟨_, _, _, _, rfl, _⟩ := sortedO_some e
    exact ⟨Try.f44, Try.func44, by kernel_rfl, by kernel_rfl⟩
  · obtain ⟨c, o, es, ks, rfl, rfl, hc, h1, h2, h3, h4, h5, h6, h7, h⟩ := sortedO_some e
    match vs, hr with
    | [v1], hr =>
      obtain ⟨⟨us, rfl, hus⟩, _⟩ := hr
      match us, hus with
      | [u1], hus =>
        obtain ⟨⟨L, x1, x2, rfl⟩, _⟩ := hus
        obtain ⟨cv, c1, c2⟩ := hH.cell x1 x2 h1
        obtain ⟨L', y1, rfl⟩ := c2
        obtain ⟨_, arr, clock, g1, g2, g3, g4, g5⟩ := hH.map y1 h2
        obtain ⟨ss0, s1, s2⟩ := strs_rel es arr.toList ks g2 h3
        obtain ⟨hc, hla⟩ := hc
        have hs : L.s = 0 := by obtain ⟨_, _, _, _, l1, l2⟩ := last_spec hla; exact hH.own x1 l1 l2
        have hoff : c.i - L.d + (L.s - 1) = 0 := by omega
        rw [hoff] at c1 ⊢
        rw [Nat.add_zero] at c1
        have hk9 : Try.prog.underlying 9 = some .string := Try.underlying9
        have hlen : arr.size = ks.length := by
          have e1 := congrArg List.length s1
          have e2 := congrArg List.length s2
          rw [List.length_map, List.length_map, Array.length_toList] at e1
          rw [List.length_map] at e2
          omega
        have hml : (1000000 : Nat) ≤ maxLen := by decide +kernel
        have hsh : ∀ s ∈ ss0, s.size ≤ maxLen := fun s hs => by
          unfold shortN at h5
          rw [List.all_eq_true] at h5
          have := h5 (s.data.toList.map UInt8.toNat) (by rw [← s2]; exact List.mem_map.2 ⟨s, hs, rfl⟩)
          have := ble_iff.1 this
          rw [List.length_map, Array.length_toList] at this
          have e : s.size = s.data.size := rfl
          omega
        have hkeys : ∀ x ∈ arr.toList, ∃ s ∈ ss0, x.key = .string s := fun x hx => by
          have : x.key ∈ arr.toList.map (·.key) := List.mem_map.2 ⟨x, hx, rfl⟩
          rw [s1] at this
          obtain ⟨s, hs, he⟩ := List.mem_map.1 this
          exact ⟨s, hs, he.symm⟩
        have hrd : ∀ x ∈ arr.toList, ∀ s, x.key = .string s → s.size ≤ maxLen → rd Try.prog 9 anyR x = some (.string s.data.toList, .nil) := fun x hx s hs hz => by
          unfold Go.WideElems.rd
          rw [hs, Go.WideMaps.keyOf_string_mk hk9 hz]; rfl
        have hnd0 : ss0.Nodup := by
          have := apart_nodup ks h4
          rw [← s2] at this
          exact List.Pairwise.of_map (fun s : ByteArray => s.data.toList.map UInt8.toNat) (fun a b hab e => hab (by rw [e])) this
        have hF : Fit Try.prog 9 anyR arr clock := by
          refine ⟨by omega, ⟨g4, g5, ?_⟩, fun x hx => ?_⟩
          · rw [s1]
            exact List.pairwise_map.2 (hnd0.imp fun {a b} hab e => hab (Value.string.inj e))
          · obtain ⟨s, hs, he⟩ := hkeys x hx
            exact ⟨_, hrd x hx s he (hsh s hs)⟩
        have hown : w.ownsMap Try.prog 9 anyR L'.blk arr.size (.map ((arr.toList.map (rg Try.prog 9 anyR)).foldr DataW.insert [])) := ⟨arr, clock, g1, hF, Nat.le_refl _, rfl⟩
        have hsz : Maps.size (.map ((arr.toList.map (rg Try.prog 9 anyR)).foldr DataW.insert []) : DataW Unit) = arr.size := by
          show ((arr.toList.map (rg Try.prog 9 anyR)).foldr DataW.insert []).length = _
          rw [length_sorted, List.length_map, Array.length_toList]
        have hstr : (strKeys (.map ((arr.toList.map (rg Try.prog 9 anyR)).foldr DataW.insert []) : DataW Unit)).Perm (ks.map u8s) := by
          show (((arr.toList.map (rg Try.prog 9 anyR)).foldr DataW.insert []).map fun p => strOf p.1).Perm _
          refine ((Go.WideShapes.sorted_perm _).map _).trans ?_
          rw [List.map_map]
          have e1 : arr.toList.map ((fun p : Lit × DataW Unit => strOf p.1) ∘ rg Try.prog 9 anyR) = ss0.map (fun s => s.data.toList) := by
            have : ∀ (l : List MapEntry) (t : List ByteArray), (∀ x ∈ l, x ∈ arr.toList) → (∀ s ∈ t, s ∈ ss0) → l.map (·.key) = t.map Value.string → l.map ((fun p : Lit × DataW Unit => strOf p.1) ∘ rg Try.prog 9 anyR) = t.map (fun s => s.data.toList) := by
              intro l
              induction l with
              | nil => intro t _ _ h; cases t with
                | nil => rfl
                | cons _ _ => cases h
              | cons x l ih =>
                intro t hl ht h
                cases t with
                | nil => cases h
                | cons s t =>
                  rw [List.map_cons, List.map_cons, List.cons.injEq] at h
                  rw [List.map_cons, List.map_cons, ih t (fun y hy => hl y (List.mem_cons_of_mem _ hy)) (fun y hy => ht y (List.mem_cons_of_mem _ hy)) h.2]
                  have := rg_of (hrd x (hl x (List.mem_cons_self ..)) s h.1 (hsh s (ht s (List.mem_cons_self ..))))
                  show strOf (rg Try.prog 9 anyR x).1 :: _ = _
                  rw [this]; rfl
            exact this _ _ (fun _ h => h) (fun _ h => h) s1
          rw [e1, ← s2, List.map_map]
          have e2 : (u8s ∘ fun s : ByteArray => s.data.toList.map UInt8.toNat) = fun s => s.data.toList := by funext s; exact back8 s
          rw [e2]
        have hok : ∀ y ∈ ks, okN y := fun y hy => by
          rw [← s2] at hy
          obtain ⟨s, _, rfl⟩ := List.mem_map.1 hy
          unfold okN
          rw [back8]
        have hxb : L.blk < w.heap.size := (hH.low _ _ _ x1).2
        have hseq := AnyZ.keys_gives (ρ := Try.keys45_ren) { Try.keys45 with } Fence.wide (5 - 1 - 1 - 1) trivial rfl (by omega) L.blk L'.blk arr.size _ w hxb c1 hown
        have hcall := AnyZ.sorted_in Try.sorted44 Fence.wide 5 trivial trivial trivial trivial rfl (by omega) (Try.sorts44 _) (enters_of Try.func75 (by kernel_rfl) rfl) 76 #[.pointer (some ⟨L.blk, 0, none⟩)] trivial (enters_of Try.func76 (by kernel_rfl) rfl) _ _ (by rw [hsz]; omega) (by rw [hsz]; omega) w hseq
        refine (callsIn_wide.1 hcall).mono fun e w' ⟨v', ss, e1, e2, e3, e4, e5⟩ => ?_
        subst e1
        have hperm := e2.trans hstr
        have hms : ss.mergeSort leB = (isortN ks).map u8s := by rw [mergeSort_of_perm hperm, isort_merge hok]
        rcases h with ⟨q1, q2⟩ | ⟨k, l, q1, q2⟩
        · obtain ⟨rfl, rfl⟩ := Prod.mk.inj q2
          have hks : ks = [] := by
            have := (isortN_perm ks).length_eq
            rw [q1] at this
            exact List.length_eq_zero_iff.1 this.symm
          have hss : ss = [] := by
            have := hperm.length_eq
            rw [hks] at this
            exact List.length_eq_zero_iff.1 this
          refine ⟨_, φ, rfl, ?_, hH.later e5, Ext.refl _ _, below_low e5 hH.base⟩
          exact ⟨rfl, rfl, e4.2 hss⟩
        · obtain ⟨rfl, rfl⟩ := Prod.mk.inj q2
          have hsl : ss.length = (k :: l).length := by
            rw [hperm.length_eq, List.length_map, ← q1]; exact (isortN_perm ks).length_eq.symm
          obtain ⟨r1, r2⟩ := e3
          rcases r2 with ⟨_, r2⟩ | ⟨gb, cap, cur, r2, r3, r4, r5, r6, r7, r8⟩
          · rw [hsl] at r2; cases r2
          · subst r2
            have hB := hH.base
            rw [Nat.mul_one] at r7 r8
            have hfree : ∀ o v L, φ o v = some L → L.blk ≠ gb := fun o v L e q => by have := (hH.low o v L e).2; omega
            have hcs : ((k :: l).map AV.s).length = (k :: l).length := List.length_map ..
            have hlt : gb < w'.heap.size := (Array.getElem?_eq_some_iff.1 r4).1
            have hkl : (k :: l).length < 1000000 := by rw [← q1, (isortN_perm ks).length_eq]; exact h6
            have hob : OB (upd φ H.next (k :: l).length ⟨gb, 0, cap, 1, 0⟩) (.row (setFrom .nil 0 ((k :: l).map AV.s)) ((k :: l).map AV.s).length 0 1) (k :: l).length ⟨gb, 0, cap, 1, 0⟩ w' := by
              refine OB.mkRow ⟨by omega, Nat.zero_le _, rfl, by omega, fun _ => ⟨cur, 9, 0, 0, r4, r7, fun _ => .inl rfl, fun i _ hi => ?_⟩⟩
              have hci : ((k :: l).map AV.s)[i]? = some (.s (k :: l)[i]) := by rw [List.getElem?_map, List.getElem?_eq_getElem hi]; rfl
              refine ⟨.s (k :: l)[i], encStr (u8s (k :: l)[i]), ?_, ?_, ?_⟩
              · rw [setFrom_get _ _ _ _ (by omega), if_pos (by omega), Nat.sub_zero]; exact hci
              · rw [Nat.sub_zero, ← Array.getElem?_toList]
                have : (cur.toList.take ss.length)[i]? = some (encStr (u8s (k :: l)[i])) := by
                  rw [r8, hms, q1, List.map_map, List.getElem?_map, List.getElem?_eq_getElem hi]; rfl
                rw [List.getElem?_take] at this
                split at this
                · exact this
                · cases this
              · have hmem : (k :: l)[i] ∈ ks := (isortN_perm ks).mem_iff.1 (by rw [q1]; exact List.getElem_mem _)
                have := hok _ hmem
                unfold okN at this
                exact ⟨_, rfl, by simpa using this⟩
            obtain ⟨k1, k2⟩ := (hH.later e5).bindAt h7 (H' := H.new ((k :: l).map AV.s) 1) rfl ⟨by omega, hlt⟩ hfree hob
            refine ⟨_, _, rfl, ?_, k1, k2, below_low e5 hH.base⟩
            refine ⟨_, 0, cap, upd_same _ _ _ _, by rw [hsl], by omega, by unfold inf; omega, fun q => by unfold inf at q; omega, fun _ => ⟨rfl, by show 0 + cap * 1 ≤ cap; omega⟩, .inl ⟨Nat.le_refl _, rfl⟩⟩
/-- All three. -/
def fsO : Nat → List AV → AH → Option (AV × AH) := over usedO (over cloneO sortedO)
theorem sims_fs : Sims Try.prog fsO := sims_over sims_used (sims_over sims_clone sims_sorted)
end Go.Proofs.Ytjhijcehcklipaa.Ev
