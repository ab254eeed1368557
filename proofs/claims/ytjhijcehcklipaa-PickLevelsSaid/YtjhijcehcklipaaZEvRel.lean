/-
  What a value, a frame and a heap of the second reading have to do with those of the model.
-/
import Derived.Test.YtjhijcehcklipaaZEv
import Derived.Below
set_option linter.unusedVariables false
namespace Go.Proofs.Ytjhijcehcklipaa.Ev
open Go.RowKit (Below)

theorem Tr.get_set {α : Type} (x : α) : ∀ (f : Nat) (t : Tr α) (i j : Nat), i + 1 < 2 ^ f → (Tr.set f t i x).get j = if j = i then some x else t.get j
  | 0, t, i, j, h => by simp at h
  | f + 1, .nil, 0, 0, h => rfl
  | f + 1, .nil, 0, j + 1, h => by
    show Tr.get (.node (some x) .nil .nil) (j + 1) = _
    rw [if_neg (by omega)]
    unfold Tr.get
    split <;> rfl
  | f + 1, .nil, i + 1, 0, h => by
    rw [if_neg (by omega)]
    unfold Tr.set
    split <;> rfl
  | f + 1, .nil, i + 1, j + 1, h => by
    have h' : i / 2 + 1 < 2 ^ f := by rw [Nat.pow_succ] at h; omega
    have ih := Tr.get_set x f .nil (i / 2) (j / 2) h'
    have e : ∀ k, (Tr.nil : Tr α).get k = none := fun k => by cases k <;> rfl
    rw [e] at ih ⊢
    have hj := Nat.mod_lt j (y := 2) (by omega)
    have hi := Nat.mod_lt i (y := 2) (by omega)
    rcases (show i % 2 = 0 ∨ i % 2 = 1 by omega) with hi | hi <;> rcases (show j % 2 = 0 ∨ j % 2 = 1 by omega) with hj | hj <;> simp only [Tr.set, Tr.get, hi, hj]
    · rw [ih]; by_cases q : j / 2 = i / 2
      · rw [if_pos q, if_pos (by omega)]
      · rw [if_neg q, if_neg (by omega)]
    · rw [if_neg (by omega)]
    · rw [if_neg (by omega)]
    · rw [ih]; by_cases q : j / 2 = i / 2
      · rw [if_pos q, if_pos (by omega)]
      · rw [if_neg q, if_neg (by omega)]
  | f + 1, .node v l r, 0, 0, h => rfl
  | f + 1, .node v l r, 0, j + 1, h => by rw [if_neg (by omega)]; rfl
  | f + 1, .node v l r, i + 1, 0, h => by
    rw [if_neg (by omega)]
    unfold Tr.set
    split <;> rfl
  | f + 1, .node v l r, i + 1, j + 1, h => by
    have h' : i / 2 + 1 < 2 ^ f := by rw [Nat.pow_succ] at h; omega
    have il := Tr.get_set x f l (i / 2) (j / 2) h'
    have ir := Tr.get_set x f r (i / 2) (j / 2) h'
    rcases (show i % 2 = 0 ∨ i % 2 = 1 by omega) with hi | hi <;> rcases (show j % 2 = 0 ∨ j % 2 = 1 by omega) with hj | hj <;> simp only [Tr.set, Tr.get, hi, hj]
    · rw [il]; by_cases q : j / 2 = i / 2
      · rw [if_pos q, if_pos (by omega)]
      · rw [if_neg q, if_neg (by omega)]
    · rw [if_neg (by omega)]
    · rw [if_neg (by omega)]
    · rw [ir]; by_cases q : j / 2 = i / 2
      · rw [if_pos q, if_pos (by omega)]
      · rw [if_neg q, if_neg (by omega)]
theorem Tr.get_nil {α : Type} (k : Nat) : (Tr.nil : Tr α).get k = none := by cases k <;> rfl
theorem Tr.at_set {α : Type} (x : α) (t : Tr α) (i j : Nat) (h : i < 4000000000) : (t.set deep i x).get j = if j = i then some x else t.get j :=
  Tr.get_set x deep t i j (by unfold deep; omega)
theorem setFrom_get {α : Type} : ∀ (cs : List α) (t : Tr α) (i j : Nat), i + cs.length < 4000000000 →
    (setFrom t i cs).get j = if i ≤ j ∧ j < i + cs.length then cs[j - i]? else t.get j
  | [], t, i, j, _ => by rw [if_neg (by rw [List.length_nil]; omega)]; rfl
  | c :: cs, t, i, j, h => by
    rw [List.length_cons] at h
    rw [setFrom, setFrom_get cs _ (i + 1) j (by omega), Tr.at_set c t i j (by omega), List.length_cons]
    by_cases h1 : j = i
    · subst h1; rw [if_neg (by omega), if_pos rfl, if_pos (by omega), Nat.sub_self, List.getElem?_cons_zero]
    · by_cases h2 : i + 1 ≤ j ∧ j < i + 1 + cs.length
      · rw [if_pos h2, if_pos (by omega)]
        obtain ⟨d, rfl⟩ : ∃ d, j = i + 1 + d := ⟨j - (i + 1), by omega⟩
        rw [Nat.add_sub_cancel_left, show i + 1 + d - i = d + 1 by omega]; rfl
      · rw [if_neg h2, if_neg h1, if_neg (by omega)]

/-- Where an object's state lies: the block, the first of its cells that is there, how many cells the block has, an element's size, how far behind its front the row stands (0 where it was made). -/
structure Lo where
  blk : Nat
  d : Nat
  cap : Nat
  z : Nat
  s : Nat
abbrev Ph := Nat → Nat → Option Lo
def FbV (g : Nat) (us : List Value) (v : Value) : Prop := v = .func (.func g) ⟨us⟩ #[] ∨ ∃ t name u, us = [u] ∧ methT t name = some (g, none) ∧ v = .func (.method name) #[.iface t u] #[]
mutual
def VR (φ : Ph) : AV → Value → Prop
  | .undef, _ => True
  | .b x, v => v = .bool x
  | .n k x, v => v = .int k x
  | .s l, v => ∃ s : ByteArray, v = .string s ∧ s.data.toList.map UInt8.toNat = l
  | .p none, v => v = .pointer none
  | .p (some a), v => ∃ L, φ a.o a.v = some L ∧ L.d ≤ a.i ∧ v = .pointer (some ⟨L.blk, a.i - L.d + (L.s - 1), none⟩)
  | .l none len cap, v => len = 0 ∧ cap = 0 ∧ v = .slice none 0 0
  | .l (some a) len cap, v => ∃ L off c, φ a.o a.v = some L ∧ v = .slice (some ⟨L.blk, off, none⟩) len c ∧ len ≤ c ∧ len < inf ∧ (cap < inf → c = cap) ∧ (inf ≤ cap → cap = inf + L.z ∧ off + c * L.z ≤ L.cap) ∧ ((L.d ≤ a.i ∧ off = a.i - L.d + (L.s - 1)) ∨ (len = 0 ∧ c = 0))
  | .m none, v => v = .map none
  | .m (some o), v => ∃ L, φ o 0 = some L ∧ v = .map (some L.blk)
  | .f g cs, v => ∃ vs, v = .func (.func g) #[] ⟨vs⟩ ∧ VRs φ cs vs
  | .nf, v => v = .nilFunc
  | .ni, v => v = .nilIface
  | .agg cs, v => ∃ vs, v = .agg ⟨vs⟩ ∧ VRs φ cs vs
  | .tup cs, v => ∃ vs, v = .tuple ⟨vs⟩ ∧ VRs φ cs vs
  | .i t a, v => ∃ u, v = .iface t u ∧ VR φ a u
  | .fb g fs, v => ∃ us, FbV g us v ∧ VRs φ fs us
  | .sg k pos, v => ∃ x : Int, v = .int k x ∧ (if pos then 0 < x else x < 0)
def VRs (φ : Ph) : List AV → List Value → Prop
  | [], [] => True
  | a :: as, v :: vs => VR φ a v ∧ VRs φ as vs
  | _, _ => False
end
def Le (φ φ' : Ph) : Prop := ∀ o v L, φ o v = some L → φ' o v = some L
theorem Le.refl (φ : Ph) : Le φ φ := fun _ _ _ h => h
theorem Le.trans {φ ψ χ : Ph} (h : Le φ ψ) (k : Le ψ χ) : Le φ χ := fun o v L e => k o v L (h o v L e)
mutual
theorem VR.mono {φ φ' : Ph} (h : Le φ φ') : ∀ {a : AV} {v : Value}, VR φ a v → VR φ' a v
  | .undef, _, _ => trivial
  | .b _, _, e => e
  | .n _ _, _, e => e
  | .s _, _, e => e
  | .p none, _, e => e
  | .p (some a), _, ⟨L, e, r⟩ => ⟨L, h _ _ _ e, r⟩
  | .l none _ _, _, e => e
  | .l (some a) _ _, _, ⟨L, off, c, e, r⟩ => ⟨L, off, c, h _ _ _ e, r⟩
  | .m none, _, e => e
  | .m (some _), _, ⟨L, e, r⟩ => ⟨L, h _ _ _ e, r⟩
  | .f _ cs, _, ⟨vs, e, r⟩ => ⟨vs, e, VRs.mono h r⟩
  | .nf, _, e => e
  | .ni, _, e => e
  | .agg cs, _, ⟨vs, e, r⟩ => ⟨vs, e, VRs.mono h r⟩
  | .tup cs, _, ⟨vs, e, r⟩ => ⟨vs, e, VRs.mono h r⟩
  | .i _ _, _, ⟨u, e, r⟩ => ⟨u, e, VR.mono h r⟩
  | .fb _ _, _, ⟨u, e, r⟩ => ⟨u, e, VRs.mono h r⟩
  | .sg _ _, _, e => e
theorem VRs.mono {φ φ' : Ph} (h : Le φ φ') : ∀ {as : List AV} {vs : List Value}, VRs φ as vs → VRs φ' as vs
  | [], [], _ => trivial
  | _ :: _, _ :: _, ⟨p, q⟩ => ⟨VR.mono h p, VRs.mono h q⟩
  | [], _ :: _, e => e.elim
  | _ :: _, [], e => e.elim
end
theorem VRs.length {φ : Ph} : ∀ {as : List AV} {vs : List Value}, VRs φ as vs → as.length = vs.length
  | [], [], _ => rfl
  | _ :: _, _ :: _, ⟨_, q⟩ => by simp [VRs.length q]
  | [], _ :: _, e => e.elim
  | _ :: _, [], e => e.elim
theorem VRs.get {φ : Ph} : ∀ {as : List AV} {vs : List Value} (_ : VRs φ as vs) {i : Nat} {a : AV}, as[i]? = some a → ∃ v, vs[i]? = some v ∧ VR φ a v
  | [], _, _, i, a, h => by simp at h
  | a :: as, v :: vs, ⟨p, q⟩, 0, x, h => by simp at h; subst h; exact ⟨v, rfl, p⟩
  | a :: as, v :: vs, ⟨p, q⟩, i + 1, x, h => by
    obtain ⟨u, h1, h2⟩ := VRs.get q (i := i) (a := x) (by simpa using h)
    exact ⟨u, by simpa using h1, h2⟩
  | _ :: _, [], e, _, _, _ => e.elim
theorem VRs.mk {φ : Ph} : ∀ {as : List AV} {vs : List Value}, as.length = vs.length → (∀ (i : Nat) a v, as[i]? = some a → vs[i]? = some v → VR φ a v) → VRs φ as vs
  | [], [], _, _ => trivial
  | a :: as, v :: vs, h, k => ⟨k 0 a v rfl rfl, VRs.mk (by simpa using h) fun i x y hx hy => k (i + 1) x y (by simpa using hx) (by simpa using hy)⟩
  | [], _ :: _, h, _ => by simp at h
  | _ :: _, [], h, _ => by simp at h
theorem VRs.append {φ : Ph} : ∀ {as : List AV} {vs : List Value} {bs : List AV} {us : List Value}, VRs φ as vs → VRs φ bs us → VRs φ (as ++ bs) (vs ++ us)
  | [], [], _, _, _, h => h
  | _ :: _, _ :: _, _, _, ⟨p, q⟩, h => ⟨p, VRs.append q h⟩
  | [], _ :: _, _, _, e, _ => e.elim
  | _ :: _, [], _, _, e, _ => e.elim
theorem VRs.take {φ : Ph} : ∀ (n : Nat) {as : List AV} {vs : List Value}, VRs φ as vs → VRs φ (as.take n) (vs.take n)
  | 0, _, _, _ => by simp [VRs]
  | n + 1, [], [], _ => by simp [VRs]
  | n + 1, _ :: _, _ :: _, ⟨p, q⟩ => ⟨p, VRs.take n q⟩
  | _ + 1, [], _ :: _, e => e.elim
  | _ + 1, _ :: _, [], e => e.elim
theorem VRs.drop {φ : Ph} : ∀ (n : Nat) {as : List AV} {vs : List Value}, VRs φ as vs → VRs φ (as.drop n) (vs.drop n)
  | 0, _, _, h => h
  | n + 1, [], [], _ => by simp [VRs]
  | n + 1, _ :: _, _ :: _, ⟨_, q⟩ => VRs.drop n q
  | _ + 1, [], _ :: _, e => e.elim
  | _ + 1, _ :: _, [], e => e.elim
mutual
theorem toAV_rel (φ : Ph) : ∀ {v : Value} {a : AV}, toAV v = some a → VR φ a v
  | .bool b, a, h => by simp only [toAV, Option.some.injEq] at h; subst h; rfl
  | .int k n, a, h => by simp only [toAV, Option.some.injEq] at h; subst h; rfl
  | .string s, a, h => by simp only [toAV, Option.some.injEq] at h; subst h; exact ⟨s, rfl, rfl⟩
  | .pointer none, a, h => by simp only [toAV, Option.some.injEq] at h; subst h; rfl
  | .pointer (some _), a, h => by simp [toAV] at h
  | .slice none 0 0, a, h => by simp only [toAV, Option.some.injEq] at h; subst h; exact ⟨rfl, rfl, rfl⟩
  | .slice none (_ + 1) _, a, h => by simp [toAV] at h
  | .slice none 0 (_ + 1), a, h => by simp [toAV] at h
  | .slice (some _) _ _, a, h => by simp [toAV] at h
  | .map none, a, h => by simp only [toAV, Option.some.injEq] at h; subst h; rfl
  | .map (some _), a, h => by simp [toAV] at h
  | .nilFunc, a, h => by simp only [toAV, Option.some.injEq] at h; subst h; rfl
  | .nilIface, a, h => by simp only [toAV, Option.some.injEq] at h; subst h; rfl
  | .func (.func g) ⟨[]⟩ ⟨cs⟩, a, h => by
    simp only [toAV, Option.map_eq_some_iff] at h
    obtain ⟨as, h1, rfl⟩ := h
    exact ⟨cs, rfl, toAVs_rel φ h1⟩
  | .func (.func g) ⟨_ :: _⟩ _, a, h => by simp [toAV] at h
  | .func (.method _) _ _, a, h => by simp [toAV] at h
  | .func (.methodOf _ _) _ _, a, h => by simp [toAV] at h
  | .func (.via _ _ _ _) _ _, a, h => by simp [toAV] at h
  | .func (.yield _) _ _, a, h => by simp [toAV] at h
  | .agg ⟨cs⟩, a, h => by
    simp only [toAV, Option.map_eq_some_iff] at h
    obtain ⟨as, h1, rfl⟩ := h
    exact ⟨cs, rfl, toAVs_rel φ h1⟩
  | .tuple ⟨cs⟩, a, h => by
    simp only [toAV, Option.map_eq_some_iff] at h
    obtain ⟨as, h1, rfl⟩ := h
    exact ⟨cs, rfl, toAVs_rel φ h1⟩
  | .float _ _, a, h => by simp [toAV] at h
  | .complex _ _ _, a, h => by simp [toAV] at h
  | .chan _, a, h => by simp [toAV] at h
  | .iface _ _, a, h => by simp [toAV] at h
theorem toAVs_rel (φ : Ph) : ∀ {vs : List Value} {as : List AV}, toAVs vs = some as → VRs φ as vs
  | [], as, h => by simp only [toAVs, Option.some.injEq] at h; subst h; trivial
  | v :: vs, as, h => by
    rw [toAVs] at h
    split at h
    · rename_i a as' h1 h2
      obtain rfl := Option.some.inj h
      exact ⟨toAV_rel φ h1, toAVs_rel φ h2⟩
    · exact absurd h (by simp)
end
/-- The cells of a value. -/
theorem VR.cells {φ : Ph} {a : AV} {v : Value} (h : VR φ a v) (hu : a.cells.all oneCell = true) : VRs φ a.cells v.cells.toList := by
  cases a with
  | agg cs => obtain ⟨vs, rfl, h⟩ := h; exact h
  | undef => simp [AV.cells, oneCell] at hu
  | tup cs => simp [AV.cells, oneCell] at hu
  | p a => cases a with
    | none => rw [VR] at h; subst h; exact ⟨rfl, trivial⟩
    | some a => have h' := h; obtain ⟨L, _, _, rfl⟩ := h; exact ⟨h', trivial⟩
  | l a n c => cases a with
    | none => have h' := h; obtain ⟨_, _, rfl⟩ := h; exact ⟨h', trivial⟩
    | some a => have h' := h; obtain ⟨L, off, c, _, rfl, _⟩ := h; exact ⟨h', trivial⟩
  | b x => rw [VR] at h; subst h; exact ⟨rfl, trivial⟩
  | n k x => rw [VR] at h; subst h; exact ⟨rfl, trivial⟩
  | s l => have h' := h; obtain ⟨s, rfl, _⟩ := h; exact ⟨h', trivial⟩
  | m r => cases r with
    | none => rw [VR] at h; subst h; exact ⟨rfl, trivial⟩
    | some r => have h' := h; obtain ⟨L, _, rfl⟩ := h; exact ⟨h', trivial⟩
  | f g cs => have h' := h; obtain ⟨vs, rfl, _⟩ := h; exact ⟨h', trivial⟩
  | nf => rw [VR] at h; subst h; exact ⟨rfl, trivial⟩
  | i t a => have h' := h; obtain ⟨u, rfl, _⟩ := h; exact ⟨h', trivial⟩
  | fb g fs => have h' := h; obtain ⟨u, hq, _⟩ := h; rcases hq with rfl | ⟨t, nm, x, _, _, rfl⟩ <;> exact ⟨h', trivial⟩
  | sg k p => have h' := h; obtain ⟨x, rfl, _⟩ := h; exact ⟨h', trivial⟩
  | ni => rw [VR] at h; subst h; exact ⟨rfl, trivial⟩
def oneV : Value → Bool
  | .agg _ | .tuple _ => false
  | _ => true
theorem VR.oneCell {φ : Ph} {a : AV} {v : Value} (h : VR φ a v) (hu : oneCell a = true) : oneV v = true := by
  cases a with
  | agg cs => simp [Ev.oneCell] at hu
  | undef => simp [Ev.oneCell] at hu
  | tup cs => simp [Ev.oneCell] at hu
  | p a => cases a with
    | none => rw [VR] at h; subst h; rfl
    | some a => obtain ⟨L, _, _, rfl⟩ := h; rfl
  | l a n c => cases a with
    | none => obtain ⟨_, _, rfl⟩ := h; rfl
    | some a => obtain ⟨L, off, c, _, rfl, _⟩ := h; rfl
  | b x => rw [VR] at h; subst h; rfl
  | n k x => rw [VR] at h; subst h; rfl
  | s l => obtain ⟨s, rfl, _⟩ := h; rfl
  | m r => cases r with
    | none => rw [VR] at h; subst h; rfl
    | some r => obtain ⟨L, _, rfl⟩ := h; rfl
  | f g cs => obtain ⟨vs, rfl, _⟩ := h; rfl
  | nf => rw [VR] at h; subst h; rfl
  | i t a => obtain ⟨u, rfl, _⟩ := h; rfl
  | fb g fs => obtain ⟨u, hq, _⟩ := h; rcases hq with rfl | ⟨t, nm, x, _, _, rfl⟩ <;> rfl
  | sg k p => obtain ⟨x, rfl, _⟩ := h; rfl
  | ni => rw [VR] at h; subst h; rfl
theorem VRs.oneCell {φ : Ph} : ∀ {as : List AV} {vs : List Value}, VRs φ as vs → as.all Ev.oneCell = true → ∀ v ∈ vs, oneV v = true
  | [], [], _, _, v, hv => by simp at hv
  | a :: as, u :: vs, ⟨p, q⟩, h, v, hv => by
    simp only [List.all_cons, Bool.and_eq_true] at h
    rcases List.mem_cons.1 hv with rfl | hv
    · exact p.oneCell h.1
    · exact VRs.oneCell q h.2 v hv
  | [], _ :: _, e, _, _, _ => e.elim
  | _ :: _, [], e, _, _, _ => e.elim

/-- An object's state, as the block holds it. -/
def Held (φ : Ph) (cells : Tr AV) (L : Lo) (v : Nat) (w : World) : Prop :=
  ∃ arr elem lo hi, w.heap[L.blk]? = some (.cells arr elem (lo, hi)) ∧ arr.size = L.cap ∧ (L.s = 0 → lo = hi ∨ L.cap ≤ lo) ∧
    ∀ i, L.d ≤ i → i < v → ∃ a c, cells.get i = some a ∧ arr[i - L.d + (L.s - 1)]? = some c ∧ VR φ a c
/-- A map's entries, as the block holds them. -/
def MHeld (φ : Ph) (es : List (AV × AV)) (L : Lo) (w : World) : Prop :=
  ∃ arr clock, w.heap[L.blk]? = some (.map arr clock) ∧ VRs φ (es.map (·.1)) (arr.toList.map (·.key)) ∧ VRs φ (es.map (·.2)) (arr.toList.map (·.val)) ∧
    (∀ e ∈ arr.toList, e.born < clock) ∧ (arr.toList.map (·.born)).Nodup
/-- What lies for an object's state. -/
def OB (φ : Ph) (ao : AO) (v : Nat) (L : Lo) (w : World) : Prop := match ao with
  | .row cells size minv z => v ≤ size ∧ L.d ≤ v ∧ L.z = z ∧ size < 2000000000 ∧ (minv ≤ v → Held φ cells L v w)
  | .mp es => v = 0 ∧ MHeld φ es L w
theorem OB.mkRow {φ : Ph} {cells : Tr AV} {size minv z v : Nat} {L : Lo} {w : World} (h : v ≤ size ∧ L.d ≤ v ∧ L.z = z ∧ size < 2000000000 ∧ (minv ≤ v → Held φ cells L v w)) : OB φ (.row cells size minv z) v L w := h
/-- A state that is not its row's last: nothing is written there. -/
def Frz (H : AH) (o v : Nat) : Prop := ∃ cells size minv z, H.objs.get o = some (.row cells size minv z) ∧ v < size
theorem Frz.get {H H' : AH} {o v : Nat} (h : Frz H o v) (e : H'.objs.get o = H.objs.get o) : Frz H' o v := by
  obtain ⟨c, s, m, z, h1, h2⟩ := h
  exact ⟨c, s, m, z, e.trans h1, h2⟩
theorem Frz.grown {H H' : AH} {o v : Nat} (h : Frz H o v) {a s m z a' s' m' z'} {oa : Nat} (e : H.objs.get oa = some (.row a s m z)) (hs : s ≤ s')
    (hg : ∀ o, H'.objs.get o = if o = oa then some (.row a' s' m' z') else H.objs.get o) : Frz H' o v := by
  by_cases q : o = oa
  · subst q
    obtain ⟨c, s1, m1, z1, h1, h2⟩ := h
    rw [e] at h1
    obtain ⟨rfl, rfl, rfl, rfl⟩ := AO.row.inj (Option.some.inj h1)
    exact ⟨_, _, _, _, (hg _).trans (if_pos rfl), Nat.lt_of_lt_of_le h2 hs⟩
  · exact h.get ((hg _).trans (if_neg q))
theorem Frz.last {H : AH} {o v : Nat} {c s m z} (h : Frz H o v) (e : H.objs.get o = some (.row c s m z)) : v < s := by
  obtain ⟨c1, s1, m1, z1, h1, h2⟩ := h
  rw [e] at h1
  obtain ⟨rfl, rfl, rfl, rfl⟩ := AO.row.inj (Option.some.inj h1)
  exact h2
/-- What an oracle asks of the blocks that were there at the start. -/
def GoodW (B : Nat) (w : World) : Prop := True
def Firm (B : Nat) (w : World) : Prop := ∃ W0 : World, GoodW B W0 ∧ ∀ k, k < B → w.heap[k]? = W0.heap[k]?
theorem Firm.of {B : Nat} {w w' : World} (h : Firm B w) (e : ∀ k, k < B → w'.heap[k]? = w.heap[k]?) : Firm B w' := by
  obtain ⟨W0, g, k⟩ := h
  exact ⟨W0, g, fun i hi => (e i hi).trans (k i hi)⟩
structure HR (φ : Ph) (H : AH) (w : World) (B : Nat) : Prop where
  inv : Firm B w
  base : B ≤ w.heap.size
  low : ∀ o v L, φ o v = some L → ((B ≤ L.blk ∧ L.s = 0) ∨ Frz H o v) ∧ L.blk < w.heap.size
  inj : ∀ o v L o' v' L', φ o v = some L → φ o' v' = some L' → L.blk = L'.blk → o = o' ∧ L = L'
  nx : H.next < 2000000000
  ob : ∀ o v L, φ o v = some L → ∃ ao, H.objs.get o = some ao ∧ o < H.next ∧ OB φ ao v L w
structure Ext (φ φ' : Ph) (H H' : AH) : Prop where
  le : Le φ φ'
  dom : ∀ o v L, φ' o v = some L → (∃ v0 L0, φ o v0 = some L0) ∨ (H.next ≤ o ∧ o < H'.next)
  nx : H.next ≤ H'.next
theorem Ext.refl (φ : Ph) (H : AH) : Ext φ φ H H := ⟨Le.refl φ, fun _ v L h => .inl ⟨v, L, h⟩, Nat.le_refl _⟩
theorem Ext.trans {φ ψ χ : Ph} {H I J : AH} (h : Ext φ ψ H I) (k : Ext ψ χ I J) : Ext φ χ H J :=
  ⟨h.le.trans k.le, fun o v L e => by
    rcases k.dom o v L e with ⟨v0, L0, e0⟩ | ⟨p, q⟩
    · rcases h.dom o v0 L0 e0 with z | ⟨p, q⟩
      · exact .inl z
      · exact .inr ⟨p, Nat.lt_of_lt_of_le q k.nx⟩
    · exact .inr ⟨Nat.le_trans h.nx p, q⟩, Nat.le_trans h.nx k.nx⟩
theorem Held.mono {φ φ' : Ph} {cells : Tr AV} {L : Lo} {v : Nat} {w w' : World} (h : Held φ cells L v w) (hl : Le φ φ') (hw : w'.heap[L.blk]? = w.heap[L.blk]?) : Held φ' cells L v w' := by
  obtain ⟨arr, elem, lo, hi, h1, h2, h3, h4⟩ := h
  refine ⟨arr, elem, lo, hi, hw.trans h1, h2, h3, fun i hi hv => ?_⟩
  obtain ⟨a, c, p, q, r⟩ := h4 i hi hv
  exact ⟨a, c, p, q, r.mono hl⟩
theorem OB.mono {φ φ' : Ph} {ao : AO} {v : Nat} {L : Lo} {w w' : World} (h : OB φ ao v L w) (hl : Le φ φ') (hw : w'.heap[L.blk]? = w.heap[L.blk]?) : OB φ' ao v L w' := by
  cases ao with
  | row cells size minv z =>
    obtain ⟨h1, h2, h3, h4, h5⟩ := h
    exact ⟨h1, h2, h3, h4, fun hm => (h5 hm).mono hl hw⟩
  | mp es =>
    obtain ⟨h1, arr, clock, g1, g2, g3, g4, g5⟩ := h
    exact ⟨h1, arr, clock, hw.trans g1, g2.mono hl, g3.mono hl, g4, g5⟩
/-- The heap grows by an object that nothing lies for yet. -/
theorem HR.more {φ : Ph} {H H' : AH} {w : World} {B : Nat} (h : HR φ H w B) (hn : H.next ≤ H'.next) (hx : H'.next < 2000000000) (hg : ∀ o, o < H.next → H'.objs.get o = H.objs.get o) : HR φ H' w B :=
  ⟨h.inv, h.base, fun o v L e => ⟨(h.low o v L e).1.imp id fun f => f.get (hg o (by obtain ⟨_, _, h2, _⟩ := h.ob o v L e; exact h2)), (h.low o v L e).2⟩, h.inj, hx, fun o v L e => by
    obtain ⟨ao, h1, h2, r⟩ := h.ob o v L e
    exact ⟨ao, (hg o h2).trans h1, Nat.lt_of_lt_of_le h2 hn, r⟩⟩
def upd (φ : Ph) (o v : Nat) (L : Lo) : Ph := fun o' v' => if o' = o ∧ v' = v then some L else φ o' v'
theorem upd_same (φ : Ph) (o v : Nat) (L : Lo) : upd φ o v L o v = some L := if_pos ⟨rfl, rfl⟩
theorem upd_le {φ : Ph} {o v : Nat} {L : Lo} (h : φ o v = none) : Le φ (upd φ o v L) := fun o' v' L' e => by
  unfold upd
  by_cases q : o' = o ∧ v' = v
  · obtain ⟨rfl, rfl⟩ := q; rw [h] at e; cases e
  · rw [if_neg q]; exact e
/-- A block is made for an object that is there. -/
theorem HR.bind {φ : Ph} {H : AH} {w w' : World} {B o : Nat} {cs : List AV} {z elem lo hi : Nat} {arr : Array Value} (h : HR φ H w B)
    (hg : H.objs.get o = some (.row (setFrom .nil 0 cs) cs.length 0 z)) (ho : o < H.next) (hfree : ∀ v, φ o v = none) (hl : cs.length < 1000000000)
    (hw : w'.heap = w.heap.push (.cells arr elem (lo, hi))) (hfr : lo = hi ∨ arr.size ≤ lo)
    (hcs : ∀ (i : Nat) a, cs[i]? = some a → ∃ c, arr[i]? = some c ∧ VR φ a c) : HR (upd φ o cs.length ⟨w.heap.size, 0, arr.size, z, 0⟩) H w' B := by
  have hle : Le φ (upd φ o cs.length ⟨w.heap.size, 0, arr.size, z, 0⟩) := upd_le (hfree _)
  have hsz : w'.heap.size = w.heap.size + 1 := by rw [hw, Array.size_push]
  have hold : ∀ k, k < w.heap.size → w'.heap[k]? = w.heap[k]? := fun k hk => by rw [hw, Array.getElem?_push, if_neg (by omega)]
  refine ⟨h.inv.of fun k hk => hold k (by have := h.base; omega), by have := h.base; omega, ?_, ?_, h.nx, ?_⟩
  · intro o' v' L' e
    unfold upd at e
    by_cases q : o' = o ∧ v' = cs.length
    · rw [if_pos q] at e; obtain rfl := Option.some.inj e
      exact ⟨.inl ⟨h.base, rfl⟩, by show w.heap.size < _; omega⟩
    · rw [if_neg q] at e
      have := h.low _ _ _ e; exact ⟨this.1, by omega⟩
  · intro o1 v1 L1 o2 v2 L2 e1 e2 e
    unfold upd at e1 e2
    by_cases q1 : o1 = o ∧ v1 = cs.length <;> by_cases q2 : o2 = o ∧ v2 = cs.length
    · rw [if_pos q1] at e1; rw [if_pos q2] at e2; obtain rfl := Option.some.inj e1; obtain rfl := Option.some.inj e2; exact ⟨by rw [q1.1, q2.1], rfl⟩
    · rw [if_pos q1] at e1; rw [if_neg q2] at e2; obtain rfl := Option.some.inj e1
      have := (h.low _ _ _ e2).2; change w.heap.size = _ at e; omega
    · rw [if_neg q1] at e1; rw [if_pos q2] at e2; obtain rfl := Option.some.inj e2
      have := (h.low _ _ _ e1).2; change _ = w.heap.size at e; omega
    · rw [if_neg q1] at e1; rw [if_neg q2] at e2; exact h.inj _ _ _ _ _ _ e1 e2 e
  · intro o' v' L' e
    unfold upd at e
    by_cases q : o' = o ∧ v' = cs.length
    · rw [if_pos q] at e; obtain rfl := Option.some.inj e
      obtain ⟨rfl, rfl⟩ := q
      refine ⟨_, hg, ho, OB.mkRow ⟨Nat.le_refl _, Nat.zero_le _, rfl, by omega, fun _ => ⟨arr, elem, lo, hi, ?_, rfl, fun _ => hfr, fun i _ hi2 => ?_⟩⟩⟩
      · rw [hw, Array.getElem?_push, if_pos rfl]
      · have : cs[i]? = some cs[i] := List.getElem?_eq_getElem hi2
        obtain ⟨c, hc, hv⟩ := hcs i _ this
        refine ⟨cs[i], c, ?_, hc, hv.mono hle⟩
        rw [setFrom_get cs .nil 0 i (by omega), if_pos (by omega)]; exact this
    · rw [if_neg q] at e
      obtain ⟨ao, h1, h2, r⟩ := h.ob _ _ _ e
      exact ⟨ao, h1, h2, r.mono hle (hold _ (h.low _ _ _ e).2)⟩
/-- What is made has no place yet. -/
theorem HR.free {φ : Ph} {H : AH} {w : World} {B : Nat} (h : HR φ H w B) (v : Nat) : φ H.next v = none := by
  cases e : φ H.next v with
  | none => rfl
  | some L => obtain ⟨_, _, h2, _⟩ := h.ob _ _ _ e; omega
theorem new_get {H : AH} {cs : List AV} {z : Nat} (hn : H.next < 1000000000) (o : Nat) : (H.new cs z).objs.get o = if o = H.next then some (.row (setFrom .nil 0 cs) cs.length 0 z) else H.objs.get o :=
  Tr.at_set _ _ _ _ (by omega)
theorem okNew_spec {H : AH} {cs : List AV} (h : okNew H cs = true) : H.next < 1000000000 ∧ cs.length < 1000000000 := by
  unfold okNew at h
  rw [Bool.and_eq_true, Nat.blt_eq, Nat.blt_eq] at h
  exact h
/-- An object is made and a block for it. -/
theorem HR.make {φ : Ph} {H : AH} {w w' : World} {B : Nat} {cs : List AV} {z elem lo hi : Nat} {arr : Array Value} (h : HR φ H w B) (hn : okNew H cs = true)
    (hw : w'.heap = w.heap.push (.cells arr elem (lo, hi))) (hfr : lo = hi ∨ arr.size ≤ lo)
    (hcs : ∀ (i : Nat) a, cs[i]? = some a → ∃ c, arr[i]? = some c ∧ VR φ a c) :
    HR (upd φ H.next cs.length ⟨w.heap.size, 0, arr.size, z, 0⟩) (H.new cs z) w' B ∧ Ext φ (upd φ H.next cs.length ⟨w.heap.size, 0, arr.size, z, 0⟩) H (H.new cs z) := by
  obtain ⟨h1, h2⟩ := okNew_spec hn
  have hm : HR φ (H.new cs z) w B := h.more (Nat.le_succ _) (by show H.next + 1 < _; omega) fun o ho => by rw [new_get h1, if_neg (by omega)]
  refine ⟨hm.bind (by rw [new_get h1, if_pos rfl]) (Nat.lt_succ_self _) (fun v => h.free v) h2 hw hfr hcs, upd_le (h.free _), fun o v L e => ?_, Nat.le_succ _⟩
  unfold upd at e
  by_cases q : o = H.next ∧ v = cs.length
  · exact .inr ⟨by omega, by rw [q.1]; exact Nat.lt_succ_self _⟩
  · rw [if_neg q] at e; exact .inl ⟨v, L, e⟩
end Go.Proofs.Ytjhijcehcklipaa.Ev
