/-
  Plain operations: what the second reading tells the model's own run tells.
-/
import Derived.Test.YtjhijcehcklipaaZEvWrite
import Derived.Laws.Tables
import Derived.Calls
set_option linter.unusedVariables false
set_option linter.unusedSimpArgs false
namespace Go.Proofs.Ytjhijcehcklipaa.Ev

/-- A frame of the second reading and the model's. -/
def Evals (φ : Ph) (T : Fr) (a : Act) : Prop := T.n = a.tmps.size ∧ ∀ t, VR φ (T.at t) (a.tmps.getD t undef)
theorem ev_rel {φ : Ph} {T : Fr} {a : Act} (h : Evals φ T a) : ∀ {x : Operand} {v : AV}, ev T x = some v → VR φ v (a.eval x)
  | .tmp t, v, e => by rw [ev] at e; obtain rfl := Option.some.inj e; exact h.2 t
  | .const c, v, e => toAV_rel φ e
  | .global _, v, e => by cases e
  | .func g, v, e => by rw [ev] at e; obtain rfl := Option.some.inj e; exact ⟨[], rfl, trivial⟩
theorem evs_rel {φ : Ph} {T : Fr} {a : Act} (h : Evals φ T a) : ∀ {xs : List Operand} {vs : List AV}, evs T xs = some vs → VRs φ vs (xs.map a.eval)
  | [], vs, e => by rw [evs] at e; obtain rfl := Option.some.inj e; trivial
  | x :: xs, vs, e => by
    rw [evs] at e
    split at e
    · rename_i u us h1 h2
      obtain rfl := Option.some.inj e
      exact ⟨ev_rel h h1, evs_rel h h2⟩
    · cases e
def VRp (φ : Ph) : List (Nat × AV) → List (Nat × Value) → Prop
  | [], [] => True
  | (i, a) :: as, (j, v) :: vs => i = j ∧ VR φ a v ∧ VRp φ as vs
  | _, _ => False
theorem evp_rel {φ : Ph} {T : Fr} {a : Act} (h : Evals φ T a) : ∀ {xs : List (Nat × Operand)} {vs : List (Nat × AV)}, evp T xs = some vs → VRp φ vs (xs.map fun p => (p.1, a.eval p.2))
  | [], vs, e => by rw [evp] at e; obtain rfl := Option.some.inj e; trivial
  | (i, x) :: xs, vs, e => by
    rw [evp] at e
    split at e
    · rename_i u us h1 h2
      obtain rfl := Option.some.inj e
      exact ⟨rfl, ev_rel h h1, evp_rel h h2⟩
    · cases e
def VRo (φ : Ph) : Option AV → Option Value → Prop
  | none, none => True
  | some a, some v => VR φ a v
  | _, _ => False
theorem evo_rel {φ : Ph} {T : Fr} {a : Act} (h : Evals φ T a) {x : Option Operand} {v : Option AV} (e : evo T x = some v) : VRo φ v (x.map a.eval) := by
  cases x with
  | none => rw [evo] at e; obtain rfl := Option.some.inj e; trivial
  | some x =>
    rw [evo] at e
    obtain ⟨u, h1, rfl⟩ := Option.map_eq_some_iff.1 e
    exact ev_rel h h1

theorem toAV_cells (φ : Ph) {v : Value} {a : AV} (h : toAV v = some a) : VRs φ a.cells v.cells.toList := by
  have hr := toAV_rel φ h
  cases a with
  | agg cs => obtain ⟨vs, rfl, r⟩ := hr; exact r
  | _ =>
    have e : v.cells = #[v] := by
      cases v with
      | agg cs =>
        obtain ⟨cs⟩ := cs
        simp only [toAV, Option.map_eq_some_iff] at h
        obtain ⟨_, _, h⟩ := h
        cases h
      | _ => rfl
    rw [e]
    exact ⟨hr, trivial⟩

theorem sets (off : Nat) : ∀ (l : List Value) (k : Nat) (cells : Array Value), off + k + l.length ≤ cells.size →
    (l.zipIdx k).foldl (fun (cs : Array Value) (x : Value × Nat) => cs.setIfInBounds (off + x.2) x.1) cells = (cells.toList.take (off + k) ++ l ++ cells.toList.drop (off + k + l.length)).toArray
  | [], k, cells, h => by simp
  | v :: l, k, cells, h => by
    rw [List.length_cons] at h
    rw [List.zipIdx_cons, List.foldl_cons, sets off l (k + 1) _ (by rw [Array.size_setIfInBounds]; omega)]
    apply Array.ext'
    simp only [Array.toList_setIfInBounds, List.length_cons]
    apply List.ext_getElem?
    intro j
    have hs : cells.toList.length = cells.size := Array.length_toList
    simp only [List.getElem?_append, List.getElem?_take, List.getElem?_set, List.length_append, List.length_take, List.length_set, List.getElem?_drop, List.length_cons, hs]
    rw [Nat.min_eq_left (by omega), Nat.min_eq_left (by omega)]
    by_cases h1 : j < off + k
    · rw [if_pos (by omega), if_pos (by omega), if_pos (by omega), if_neg (by omega), if_pos (by omega), if_pos (by omega), if_pos (by omega)]
    · by_cases h2 : j = off + k
      · subst h2
        rw [if_pos (by omega), if_pos (by omega), if_pos (by omega), if_pos rfl, if_pos (by omega), if_pos (by omega), if_neg (by omega), Nat.sub_self]; rfl
      · by_cases h3 : j < off + (k + 1) + l.length
        · rw [if_pos (by omega), if_neg (by omega), if_pos (by omega), if_neg (by omega)]
          obtain ⟨d, rfl⟩ : ∃ d, j = off + k + (d + 1) := ⟨j - (off + k) - 1, by omega⟩
          rw [show off + k + (d + 1) - (off + (k + 1)) = d by omega, show off + k + (d + 1) - (off + k) = d + 1 by omega, List.getElem?_cons_succ]
        · rw [if_neg (by omega), if_neg (by omega), if_neg (by omega)]
          congr 1; omega
theorem fill_rel {φ : Ph} (place : Nat → Option (Nat × Nat)) : ∀ {as : List (Nat × AV)} {ps : List (Nat × Value)}, VRp φ as ps → ∀ {cells : List AV} {vc : Array Value} {cs : List AV}, VRs φ cells vc.toList → fillA place cells as = some cs →
    ∃ us, Instr.fill place vc ps = some us ∧ VRs φ cs us.toList
  | [], [], _, cells, vc, cs, h, e => by rw [fillA] at e; obtain rfl := Option.some.inj e; exact ⟨vc, rfl, h⟩
  | (i, a) :: as, (j, v) :: ps, ⟨hij, hav, hr⟩, cells, vc, cs, h, e => by
    subst hij
    rw [fillA] at e
    split at e
    · cases e
    · rename_i off size hp
      split at e
      · cases e
      · rename_i hn
        simp only [not_or] at hn
        obtain ⟨n1, n2, n3⟩ := hn
        have hc := hav.cells (by simpa using n3)
        have hl : a.cells.length = v.cells.size := hc.length.trans Array.length_toList
        have hl2 : cells.length = vc.size := h.length.trans Array.length_toList
        obtain ⟨us, u1, u2⟩ := fill_rel place hr (vc := (vc.toList.take off ++ v.cells.toList ++ vc.toList.drop (off + v.cells.size)).toArray) (((h.take off).append hc).append (by rw [hl]; exact h.drop _)) e
        refine ⟨us, ?_, u2⟩
        rw [Instr.fill, hp]
        simp only
        rw [if_neg (by simp; omega)]
        have e2 : Array.foldl (fun (cs : Array Value) (x : Value × Nat) => cs.setIfInBounds (off + x.2) x.1) vc v.cells.zipIdx = (vc.toList.take off ++ v.cells.toList ++ vc.toList.drop (off + v.cells.size)).toArray := by
          rw [← Array.foldl_toList, Array.toList_zipIdx]
          have := sets off v.cells.toList 0 vc (by rw [Array.length_toList]; omega)
          rw [Array.length_toList] at this
          exact this
        exact (congrArg (fun z => Instr.fill place z ps) e2).trans u1
  | [], _ :: _, e, _, _, _, _, _ => e.elim
  | _ :: _, [], e, _, _, _, _, _ => e.elim
theorem zero_parts {P : Program} {t : TypeId} {z : AV} (h : zero P t = some z) : ∃ i v, P.info? t = some i ∧ i.zero = some v ∧ toAV v = some z := by
  unfold zero at h
  split at h
  · rename_i i hi
    obtain ⟨v, h1, h2⟩ := Option.bind_eq_some_iff.1 h
    exact ⟨i, v, hi, h1, h2⟩
  · cases h
theorem sz_parts {P : Program} {t : TypeId} {n : Nat} (h : sz P t = some n) : ∃ i, P.info? t = some i ∧ i.size = n := by
  unfold sz at h
  obtain ⟨i, h1, h2⟩ := Option.map_eq_some_iff.1 h
  exact ⟨i, h1, h2⟩
theorem build_rel {P : Program} {φ : Ph} {t : TypeId} {as : List (Nat × AV)} {ps : List (Nat × Value)} (h : VRp φ as ps) {v : AV} (e : buildA P t as = some v) : ∃ us, P.built t ps = some us ∧ VR φ v (.agg us) := by
  unfold buildA at e
  unfold Program.built
  split at e
  · rename_i fs z hu hz
    obtain ⟨i, zv, i1, i2, i3⟩ := zero_parts hz
    split at e
    · rename_i pl hpl
      obtain ⟨cs, h1, rfl⟩ := Option.map_eq_some_iff.1 e
      obtain ⟨us, u1, u2⟩ := fill_rel _ h (toAV_cells φ i3) h1
      have e2 : fs.toList.mapM (fun f => (P.info? f.type).map fun i => (f.offset, i.size)) = some pl := by
        rw [← hpl]; unfold places
        congr 1; funext f
        unfold sz
        rw [Option.map_map]; rfl
      simp only [i1, hu, i2, e2]
      refine ⟨us, ?_, us.toList, rfl, u2⟩
      rw [← u1]
      simp
    · cases e
  · rename_i n el z hu hz
    obtain ⟨i, zv, i1, i2, i3⟩ := zero_parts hz
    split at e
    · rename_i m hm
      obtain ⟨ie, j1, rfl⟩ := sz_parts hm
      obtain ⟨cs, h1, rfl⟩ := Option.map_eq_some_iff.1 e
      obtain ⟨us, u1, u2⟩ := fill_rel _ h (toAV_cells φ i3) h1
      simp only [i1, hu, i2, j1]
      exact ⟨us, u1, us.toList, rfl, u2⟩
    · cases e
  · cases e
theorem pureOf_spec {φ : Ph} {s : Sem Value} {v : AV} (h : pureOf s = some v) : ∃ u, s = .pure u ∧ VR φ v u := by
  unfold pureOf at h
  split at h
  · obtain rfl := Option.some.inj h; exact ⟨_, rfl, rfl⟩
  · obtain rfl := Option.some.inj h; exact ⟨_, rfl, rfl⟩
  · cases h
theorem eqN_eq : ∀ a b : List Nat, eqN a b = decide (a = b)
  | [], [] => rfl
  | [], _ :: _ => rfl
  | _ :: _, [] => rfl
  | x :: a, y :: b => by
    rw [eqN, eqN_eq a b]
    have : Nat.beq x y = decide (x = y) := by rw [Bool.eq_iff_iff]; simp
    rw [this]
    by_cases h1 : x = y <;> by_cases h2 : a = b <;> simp [h1, h2]
theorem lessN_eq : ∀ a b : List UInt8, lessN (a.map UInt8.toNat) (b.map UInt8.toNat) = Op.bytesLess a b
  | [], [] => rfl
  | [], _ :: _ => rfl
  | _ :: _, [] => rfl
  | x :: a, y :: b => by
    rw [List.map_cons, List.map_cons, lessN, lessN_eq a b, Op.bytesLess]
    have e1 : Nat.blt x.toNat y.toNat = decide (x < y) := by rw [Bool.eq_iff_iff]; simp [UInt8.lt_iff_toNat_lt]
    have e2 : Nat.beq x.toNat y.toNat = (x == y) := by rw [Bool.eq_iff_iff]; simp [UInt8.toNat_inj]
    rw [e1, e2]
theorem bytes_inj {s t : ByteArray} (h : s.data.toList.map UInt8.toNat = t.data.toList.map UInt8.toNat) : s.data.toList = t.data.toList :=
  (List.map_inj_right (f := UInt8.toNat) fun a b e => UInt8.toNat_inj.1 e).1 h
theorem eqN_bytes (s t : ByteArray) : eqN (s.data.toList.map UInt8.toNat) (t.data.toList.map UInt8.toNat) = (s.toList == t.toList) := by
  rw [eqN_eq, _root_.Go.ByteArray.toList_eq, _root_.Go.ByteArray.toList_eq, Bool.eq_iff_iff]
  simp only [decide_eq_true_eq, beq_iff_eq]
  exact ⟨bytes_inj, fun h => by rw [h]⟩
theorem lessN_bytes (s t : ByteArray) : lessN (s.data.toList.map UInt8.toNat) (t.data.toList.map UInt8.toNat) = Op.bytesLess s.toList t.toList := by
  rw [lessN_eq, _root_.Go.ByteArray.toList_eq, _root_.Go.ByteArray.toList_eq]
theorem size_bytes (s : ByteArray) : (s.data.toList.map UInt8.toNat).length = s.size := by rw [List.length_map, Array.length_toList]; rfl
theorem strOp_rel {φ : Ph} {op : BinOp} {s t : ByteArray} {v : AV} (h : strOp op (s.data.toList.map UInt8.toNat) (t.data.toList.map UInt8.toNat) = some v) : ∃ u, Op.stringOp op s t = .pure u ∧ VR φ v u := by
  unfold strOp at h
  unfold Op.stringOp
  split at h
  · split at h
    · rename_i hl
      obtain rfl := Option.some.inj h
      rw [size_bytes, size_bytes] at hl
      have : ¬ (((s.size + t.size : Nat) : Int) > IntKind.i64.max) := by rw [show IntKind.i64.max = 9223372036854775807 from rfl]; omega
      simp only [this, if_false]
      exact ⟨_, rfl, _, rfl, by simp⟩
    · cases h
  all_goals first
    | (obtain rfl := Option.some.inj h; exact ⟨_, rfl, by simp [VR, eqN_bytes, lessN_bytes]⟩)
    | cases h
end Go.Proofs.Ytjhijcehcklipaa.Ev
