/-
  Plain operations, one by one.
-/
import Derived.Test.YtjhijcehcklipaaZEvPure
set_option linter.unusedVariables false
set_option linter.unusedSimpArgs false
namespace Go.Proofs.Ytjhijcehcklipaa.Ev

section
variable {P : Program} {φ : Ph}
/-- It tells u, and the world is as it was. -/
def Tells (P : Program) (s : Sem Value) (u : Value) : Prop := ∀ w, s.run P w = .ok u w
/-- An equality that is decided at its first look. -/
def EqAt (P : Program) (t : TypeId) (vx vy : Value) (b : Bool) : Prop := ∀ w, (Op.equalIn (9999 + 1) t vx vy).run P w = .ok b w
theorem eq_bool {t : TypeId} (hu : P.underlying t = some .bool) (a c : Bool) : EqAt P t (.bool a) (.bool c) (a == c) := fun w => by
  unfold Op.equalIn; rw [Sem.run_bind, run_underlying hu, Result.andThen_ok]; rfl
theorem eq_nilp {t e : TypeId} (hu : P.underlying t = some (.pointer e)) (c : Option Addr) : EqAt P t (.pointer none) (.pointer c) c.isNone := fun w => by
  unfold Op.equalIn; rw [Sem.run_bind, run_underlying hu, Result.andThen_ok]; rfl
theorem eq_pnil {t e : TypeId} (hu : P.underlying t = some (.pointer e)) (c : Addr) : EqAt P t (.pointer (some c)) (.pointer none) false := fun w => by
  unfold Op.equalIn; rw [Sem.run_bind, run_underlying hu, Result.andThen_ok]; rfl
theorem eq_nils {t e : TypeId} (hu : P.underlying t = some (.slice e)) (m n : Nat) (c : Option Addr) (m' n' : Nat) : EqAt P t (.slice none m n) (.slice c m' n') c.isNone := fun w => by
  unfold Op.equalIn; rw [Sem.run_bind, run_underlying hu, Result.andThen_ok]; rfl
theorem eq_snil {t e : TypeId} (hu : P.underlying t = some (.slice e)) (m n : Nat) (c : Addr) (m' n' : Nat) : EqAt P t (.slice (some c) m n) (.slice none m' n') false := fun w => by
  unfold Op.equalIn; rw [Sem.run_bind, run_underlying hu, Result.andThen_ok]; rfl
theorem eq_nilm {t k e : TypeId} (hu : P.underlying t = some (.map k e)) (c : Option Nat) : EqAt P t (.map none) (.map c) c.isNone := fun w => by
  unfold Op.equalIn; rw [Sem.run_bind, run_underlying hu, Result.andThen_ok]; rfl
theorem eq_mnil {t k e : TypeId} (hu : P.underlying t = some (.map k e)) (c : Nat) : EqAt P t (.map (some c)) (.map none) false := fun w => by
  unfold Op.equalIn; rw [Sem.run_bind, run_underlying hu, Result.andThen_ok]; rfl
theorem eq_nilf {t : TypeId} {p r : Array TypeId} {b : Bool} (hu : P.underlying t = some (.func p r b)) : EqAt P t .nilFunc .nilFunc true := fun w => by
  unfold Op.equalIn; rw [Sem.run_bind, run_underlying hu, Result.andThen_ok]; rfl
theorem eq_nff {t : TypeId} {p r : Array TypeId} {b : Bool} (hu : P.underlying t = some (.func p r b)) (f : Fn) (x y : Array Value) : EqAt P t .nilFunc (.func f x y) false := fun w => by
  unfold Op.equalIn; rw [Sem.run_bind, run_underlying hu, Result.andThen_ok]; rfl
theorem eq_fnf {t : TypeId} {p r : Array TypeId} {b : Bool} (hu : P.underlying t = some (.func p r b)) (f : Fn) (x y : Array Value) : EqAt P t (.func f x y) .nilFunc false := fun w => by
  unfold Op.equalIn; rw [Sem.run_bind, run_underlying hu, Result.andThen_ok]; rfl
theorem eq_nii {t : TypeId} {ms : Array (String × TypeId)} (hu : P.underlying t = some (.interface ms)) (t' : TypeId) (u : Value) : EqAt P t .nilIface (.iface t' u) false := fun w => by
  unfold Op.equalIn; rw [Sem.run_bind, run_underlying hu, Result.andThen_ok]; rfl
theorem eq_ini {t : TypeId} {ms : Array (String × TypeId)} (hu : P.underlying t = some (.interface ms)) (t' : TypeId) (u : Value) : EqAt P t (.iface t' u) .nilIface false := fun w => by
  unfold Op.equalIn; rw [Sem.run_bind, run_underlying hu, Result.andThen_ok]; rfl
theorem eq_nini {t : TypeId} {ms : Array (String × TypeId)} (hu : P.underlying t = some (.interface ms)) : EqAt P t .nilIface .nilIface true := fun w => by
  unfold Op.equalIn; rw [Sem.run_bind, run_underlying hu, Result.andThen_ok]; rfl
/-- Values that the tests look at alone. -/
def plainV : Value → Bool
  | .bool _ | .pointer _ | .slice _ _ _ | .map _ | .func _ _ _ | .nilFunc => true
  | _ => false
def plain2 : Value → Value → Bool
  | .nilIface, .iface _ _ | .iface _ _, .nilIface => true
  | x, _ => plainV x
theorem plain2_of {vx vy : Value} (h : plainV vx = true) : plain2 vx vy = true := by
  cases vx <;> first | (simp [plainV] at h; done) | rfl
theorem guard_plain {vx vy : Value} (h : plain2 vx vy = true) (op : BinOp) (t : TypeId) (ox oy : Operand) (w : World) : (eqGuard op t ox oy vx vy).run P w = .ok () w := by
  cases vx <;> first | (simp [plain2, plainV] at h; done) | (cases op <;> first | rfl | (cases vy <;> first | rfl | (simp [plain2, plainV] at h; done))) | (cases vy <;> first | (simp [plain2, plainV] at h; done) | (cases op <;> rfl))
theorem bin_plain {vx vy : Value} (hx : plain2 vx vy = true) (t : TypeId) : binOp .eql t vx vy = (do pure (.bool (← Op.equal t vx vy))) ∧ binOp .neq t vx vy = (do pure (.bool (!(← Op.equal t vx vy)))) := by
  cases vx <;> first | (simp [plain2, plainV] at hx; done) | (cases vy <;> first | exact ⟨rfl, rfl⟩ | (simp [plain2, plainV] at hx; done))
theorem eqPlain_rel {t : TypeId} {x y : AV} {vx vy : Value} {b : Bool} (h : eqPlain P t x y = some b) (hx : VR φ x vx) (hy : VR φ y vy) : EqAt P t vx vy b ∧ plain2 vx vy = true := by
  unfold eqPlain at h
  split at h
  · rename_i hu
    obtain rfl := Option.some.inj h
    rw [VR] at hx hy; subst hx hy
    exact ⟨eq_bool hu _ _, plain2_of rfl⟩
  · rename_i c hu
    rw [VR] at hx; subst hx; obtain rfl := Option.some.inj h
    cases c with
    | none => rw [VR] at hy; subst hy; exact ⟨eq_nilp hu _, plain2_of rfl⟩
    | some c => obtain ⟨L, _, _, rfl⟩ := hy; exact ⟨eq_nilp hu _, plain2_of rfl⟩
  · rename_i c hn hu
    rw [VR] at hy; subst hy; obtain rfl := Option.some.inj h
    cases c with
    | none => exact (hn rfl).elim
    | some c => obtain ⟨L, _, _, rfl⟩ := hx; exact ⟨eq_pnil hu _, plain2_of rfl⟩
  · rename_i c _ _ hu
    obtain ⟨_, _, rfl⟩ := hx; obtain rfl := Option.some.inj h
    cases c with
    | none => obtain ⟨_, _, rfl⟩ := hy; exact ⟨eq_nils hu _ _ _ _ _, plain2_of rfl⟩
    | some c => obtain ⟨L, _, _, _, rfl, _⟩ := hy; exact ⟨eq_nils hu _ _ _ _ _, plain2_of rfl⟩
  · rename_i c _ _ _ _ hn hu
    obtain ⟨_, _, rfl⟩ := hy; obtain rfl := Option.some.inj h
    cases c with
    | none => exact (hn rfl).elim
    | some c => obtain ⟨L, _, _, _, rfl, _⟩ := hx; exact ⟨eq_snil hu _ _ _ _ _, plain2_of rfl⟩
  · rename_i c hu
    rw [VR] at hx; subst hx; obtain rfl := Option.some.inj h
    cases c with
    | none => rw [VR] at hy; subst hy; exact ⟨eq_nilm hu _, plain2_of rfl⟩
    | some c => obtain ⟨L, _, rfl⟩ := hy; exact ⟨eq_nilm hu _, plain2_of rfl⟩
  · rename_i c hn hu
    rw [VR] at hy; subst hy; obtain rfl := Option.some.inj h
    cases c with
    | none => exact (hn rfl).elim
    | some c => obtain ⟨L, _, rfl⟩ := hx; exact ⟨eq_mnil hu _, plain2_of rfl⟩
  · rename_i hu
    rw [VR] at hx hy; subst hx hy; obtain rfl := Option.some.inj h
    exact ⟨eq_nilf hu, plain2_of rfl⟩
  · rename_i hu
    rw [VR] at hx; subst hx; obtain ⟨_, rfl, _⟩ := hy; obtain rfl := Option.some.inj h
    exact ⟨eq_nff hu _ _ _, plain2_of rfl⟩
  · rename_i hu
    rw [VR] at hy; subst hy; obtain ⟨_, rfl, _⟩ := hx; obtain rfl := Option.some.inj h
    exact ⟨eq_fnf hu _ _ _, plain2_of rfl⟩
  · rename_i hu
    rw [VR] at hx; subst hx; obtain ⟨_, rfl, _⟩ := hy; obtain rfl := Option.some.inj h
    exact ⟨eq_nii hu _ _, rfl⟩
  · rename_i hu
    rw [VR] at hy; subst hy; obtain ⟨_, rfl, _⟩ := hx; obtain rfl := Option.some.inj h
    exact ⟨eq_ini hu _ _, rfl⟩
  · cases h
theorem bin_int {op : BinOp} {t : TypeId} {k k' : IntKind} {a c : Int} {v : AV} (h : bin P op t (.n k a) (.n k' c) = some v) : ∃ u, binOp op t (.int k a) (.int k' c) = .pure u ∧ VR φ v u := by
  cases op <;> simp only [bin] at h <;> first
    | (simp only [binOp]; exact pureOf_spec h)
    | (split at h
       · rename_i hk; subst hk; simp only [binOp, ne_eq, not_true_eq_false, if_false]; exact pureOf_spec h
       · cases h)
theorem bin_rel {op : BinOp} {t : TypeId} {x y : AV} {vx vy : Value} {v : AV} (h : bin P op t x y = some v) (hx : VR φ x vx) (hy : VR φ y vy) (ox oy : Operand) :
    ∃ u, (∀ w, ((do eqGuard op t ox oy vx vy; binOp op t vx vy : Sem Value)).run P w = .ok u w) ∧ VR φ v u := by
  have hint : ∀ k a k' c, x = .n k a → y = .n k' c → ∃ u, (∀ w, ((do eqGuard op t ox oy vx vy; binOp op t vx vy : Sem Value)).run P w = .ok u w) ∧ VR φ v u := by
    intro k a k' c e1 e2
    subst e1 e2
    rw [VR] at hx hy; subst hx hy
    obtain ⟨u, u1, u2⟩ := bin_int (φ := φ) h
    refine ⟨u, fun w => ?_, u2⟩
    have g : (eqGuard op t ox oy (.int k a) (.int k' c)).run P w = .ok () w := by cases op <;> simp [eqGuard]
    rw [Sem.run_bind, g, Result.andThen_ok, u1]; rfl
  have h0 := h
  unfold bin at h
  split at h
  · exact hint _ _ _ _ rfl rfl
  · exact hint _ _ _ _ rfl rfl
  · exact hint _ _ _ _ rfl rfl
  · rename_i a c
    obtain ⟨s, rfl, rfl⟩ := hx
    obtain ⟨s', rfl, rfl⟩ := hy
    obtain ⟨u, u1, u2⟩ := strOp_rel (φ := φ) h
    refine ⟨u, fun w => ?_, u2⟩
    have g : (eqGuard op t ox oy (.string s) (.string s')).run P w = .ok () w := by cases op <;> simp [eqGuard]
    have b : binOp op t (.string s) (.string s') = Op.stringOp op s s' := by cases op <;> simp [binOp]
    rw [Sem.run_bind, g, Result.andThen_ok, b, u1]; rfl
  · obtain ⟨z, h1, rfl⟩ := Option.map_eq_some_iff.1 h
    obtain ⟨p, q⟩ := eqPlain_rel h1 hx hy
    refine ⟨.bool z, fun w => ?_, rfl⟩
    have p' : (Op.equal t vx vy).run P w = .ok z w := p w
    rw [Sem.run_bind, guard_plain q, Result.andThen_ok, (bin_plain q t).1, Sem.run_bind, p', Result.andThen_ok]; rfl
  · obtain ⟨z, h1, rfl⟩ := Option.map_eq_some_iff.1 h
    obtain ⟨p, q⟩ := eqPlain_rel h1 hx hy
    refine ⟨.bool !z, fun w => ?_, rfl⟩
    have p' : (Op.equal t vx vy).run P w = .ok z w := p w
    rw [Sem.run_bind, guard_plain q, Result.andThen_ok, (bin_plain q t).2, Sem.run_bind, p', Result.andThen_ok]; rfl
  · cases h

theorem binE_rel {lit : Bool} {op : BinOp} {t : TypeId} {x y : AV} {vx vy : Value} {v : AV} (h : binE P lit op t x y = some v) (hx : VR φ x vx) (hy : VR φ y vy) (ox oy : Operand) (hl : lit = (isK ox || isK oy)) :
    ∃ u, (∀ w, ((do eqGuard op t ox oy vx vy; binOp op t vx vy : Sem Value)).run P w = .ok u w) ∧ VR φ v u := by
  unfold binE at h
  split at h
  · rw [VR] at hx hy; subst hx hy
    have hk : lit = true → ∀ w, op = .eql ∨ op = .neq → (eqGuard op t ox oy .nilIface .nilIface).run P w = .ok () w := by
      intro h1 w h2
      rw [h1] at hl
      cases ox <;> cases oy <;> first | (simp [isK] at hl; done) | (rcases h2 with rfl | rfl <;> rfl)
    split at h
    · rename_i ms h1 h2 hu
      obtain rfl := Option.some.inj h
      refine ⟨.bool true, fun w => ?_, rfl⟩
      have p : (Op.equal t .nilIface .nilIface).run P w = .ok true w := eq_nini hu w
      rw [Sem.run_bind, hk rfl w (.inl rfl), Result.andThen_ok, show binOp .eql t .nilIface .nilIface = (do pure (.bool (← Op.equal t .nilIface .nilIface))) from rfl, Sem.run_bind, p, Result.andThen_ok]; rfl
    · rename_i ms h1 h2 hu
      obtain rfl := Option.some.inj h
      refine ⟨.bool false, fun w => ?_, rfl⟩
      have p : (Op.equal t .nilIface .nilIface).run P w = .ok true w := eq_nini hu w
      rw [Sem.run_bind, hk rfl w (.inr rfl), Result.andThen_ok, show binOp .neq t .nilIface .nilIface = (do pure (.bool (!(← Op.equal t .nilIface .nilIface)))) from rfl, Sem.run_bind, p, Result.andThen_ok]; rfl
    · cases h
  · exact bin_rel h hx hy ox oy
theorem mkIf_rel {t : TypeId} {x : AV} {vx : Value} {v : AV} (h : mkIf P t x = some v) (hx : VR φ x vx) : ∃ u, (∀ w, (Instr.makeInterface t vx).run P w = .ok u w) ∧ VR φ v u := by
  unfold mkIf at h
  split at h
  · cases h
  · rename_i d hn hu
    obtain rfl := Option.some.inj h
    refine ⟨.iface t vx, fun w => ?_, vx, rfl, hx⟩
    unfold Instr.makeInterface
    rw [Sem.run_bind, run_underlying hu, Result.andThen_ok]
    cases d <;> first | rfl | exact absurd rfl (hn _)
  · cases h
theorem bound_rel {x : Option AV} {vx : Option Value} {d top r : Nat} (h : bound x d top = some r) (hx : VRo φ x vx) : (x = none ∧ vx = none ∧ r = d) ∨ ∃ v, vx = some v ∧ x.isSome = true ∧ r ≤ top ∧ ∀ code w (top' : Nat), r ≤ top' → (Instr.sliceBound v top' code).run P w = .ok r w := by
  rw [bound_old] at h
  split at h
  · cases vx with
    | none => exact .inl ⟨rfl, rfl, (Option.some.inj h).symm⟩
    | some v => exact hx.elim
  · rename_i k i
    split at h
    · rename_i hi
      obtain rfl := Option.some.inj h
      cases vx with
      | none => exact hx.elim
      | some v =>
        have hv : VR φ (.n k i) v := hx
        rw [VR] at hv; subst hv
        refine .inr ⟨_, rfl, rfl, by omega, fun code w top' ht => ?_⟩
        have : 0 ≤ i ∧ i ≤ (top' : Int) := by omega
        simp [Instr.sliceBound, asIntOf, this]
    · cases h
  · cases h
theorem str_cut {s : ByteArray} {z h : Nat} : ((s.data.toList.map UInt8.toNat).take h).drop z = (s.extract z h).data.toList.map UInt8.toNat := by
  simp only [ByteArray.data_extract, Array.toList_extract, List.extract_eq_take_drop, List.map_take, List.map_drop]
  rw [List.drop_take]
theorem slice_rel {t : TypeId} {x : AV} {vx : Value} {lo hi mx : Option AV} {vl vh vm : Option Value} {v : AV} (h : sliceA P t x lo hi mx = some v) (hx : VR φ x vx) (hl : VRo φ lo vl) (hh : VRo φ hi vh) (hm : VRo φ mx vm) :
    ∃ u, (∀ w, (Instr.sliceAt t vx vl vh vm).run P w = .ok u w) ∧ VR φ v u := by
  unfold sliceA at h
  split at h
  · rename_i l hu
    obtain ⟨s, rfl, rfl⟩ := hx
    rw [size_bytes] at h
    split at h
    · rename_i hd e2
      obtain ⟨z, h1, rfl⟩ := Option.map_eq_some_iff.1 h
      cases vm with
      | some _ => exact hm.elim
      | none =>
        refine ⟨.string (s.extract z hd), fun w => ?_, _, rfl, str_cut.symm⟩
        have r1 := bound_rel (P := P) e2 hh
        have r2 := bound_rel (P := P) h1 hl
        rcases r1 with ⟨_, rfl, rfl⟩ | ⟨v1, rfl, _, q1, q2⟩ <;> rcases r2 with ⟨_, rfl, rfl⟩ | ⟨v2, rfl, _, p1, p2⟩
        · simp [Instr.sliceAt, run_underlying hu, Instr.slice, Instr.sliceBounds]
        · simp [Instr.sliceAt, run_underlying hu, Instr.slice, Instr.sliceBounds, p2 _ _ _ p1]
        · simp [Instr.sliceAt, run_underlying hu, Instr.slice, Instr.sliceBounds, q2 _ _ _ q1]
        · simp [Instr.sliceAt, run_underlying hu, Instr.slice, Instr.sliceBounds, p2 _ _ _ p1, q2 _ _ _ q1]
    · cases h
  · rename_i e a len cap hu
    split at h
    · rename_i n hn
      split at h
      · cases h
      rename_i hn0
      -- the run, given the bounds
      have run : ∀ (base : Option Addr) (c z hd m : Nat) , vx = .slice base len c → (Instr.sliceBounds true len c vl vh vm).run P = (fun w => .ok (z, hd, m) w) →
          ∀ w, (Instr.sliceAt t vx vl vh vm).run P w = .ok (.slice (if m = z then base else base.map (·.add (z * n))) (hd - z) (m - z)) w := by
        intro base c z hd m e1 e2 w
        subst e1
        have e3 := fun w => congrFun e2 w
        simp [Instr.sliceAt, run_underlying hu, Instr.slice, e3, run_sz hn]
      split at h
      · rename_i hcap
        split at h
        · rename_i m hm1
          split at h
          · rename_i hd hh1
            obtain ⟨z, hl1, rfl⟩ := Option.map_eq_some_iff.1 h
            have hh2 : bound hi len m = some hd := by
              split at hh1
              · cases hh1
              · exact hh1
            have hno : ¬ (mx.isSome && hi.isNone) = true := by
              intro q; rw [if_pos q] at hh1; cases hh1
            have r1 := bound_rel (P := P) hm1 hm
            have r2 := bound_rel (P := P) hh2 hh
            have r3 := bound_rel (P := P) hl1 hl
            have hz : z ≤ hd := by rcases r3 with ⟨_, _, rfl⟩ | ⟨_, _, _, q, _⟩ <;> omega
            have key : ∀ c, c = cap → len ≤ c → hd ≤ m ∧ (Instr.sliceBounds true len c vl vh vm).run P = (fun w => .ok (z, hd, m) w) := by
              intro c hc hlc
              subst hc
              rcases r1 with ⟨rfl, rfl, rfl⟩ | ⟨v1, rfl, s1, q1, q2⟩ <;> rcases r2 with ⟨rfl, rfl, rfl⟩ | ⟨v2, rfl, s2, p1, p2⟩ <;> rcases r3 with ⟨rfl, rfl, rfl⟩ | ⟨v3, rfl, s3, t1, t2⟩
              · exact ⟨hlc, by funext w; simp [Instr.sliceBounds]⟩
              · exact ⟨hlc, by funext w; simp [Instr.sliceBounds, t2 _ _ _ t1]⟩
              · exact ⟨p1, by funext w; simp [Instr.sliceBounds, p2 _ _ _ p1]⟩
              · exact ⟨p1, by funext w; simp [Instr.sliceBounds, p2 _ _ _ p1, t2 _ _ _ t1]⟩
              · exact absurd (by simp [s1]) hno
              · exact absurd (by simp [s1]) hno
              · exact ⟨p1, by funext w; simp [Instr.sliceBounds, p2 _ _ _ p1, q2 _ _ _ q1]⟩
              · exact ⟨p1, by funext w; simp [Instr.sliceBounds, p2 _ _ _ p1, q2 _ _ _ q1, t2 _ _ _ t1]⟩
            cases a with
            | none =>
              obtain ⟨rfl, rfl, rfl⟩ := hx
              obtain ⟨k1, k2⟩ := key 0 rfl (Nat.le_refl _)
              have hm0 : m = 0 := by rcases r1 with ⟨_, _, rfl⟩ | ⟨_, _, _, q, _⟩ <;> omega
              refine ⟨_, run none 0 z hd m rfl k2, ?_⟩
              subst hm0
              obtain rfl : hd = 0 := by omega
              obtain rfl : z = 0 := by omega
              exact ⟨rfl, rfl, by simp⟩
            | some a =>
              obtain ⟨L, off, c, x1, rfl, x2, x3, x4, x5, x6⟩ := hx
              have hc := x4 hcap
              obtain ⟨k1, k2⟩ := key c hc x2
              refine ⟨_, run _ c z hd m rfl k2, ?_⟩
              by_cases q : m = z
              · rw [if_pos q, if_pos q]
                refine ⟨L, off, m - z, x1, rfl, by omega, by omega, fun _ => rfl, fun w => by unfold inf at w; omega, .inr ⟨by omega, by omega⟩⟩
              · rw [if_neg q, if_neg q]
                have hmc : m ≤ c := by rcases r1 with ⟨_, _, rfl⟩ | ⟨_, _, _, q, _⟩ <;> omega
                rcases x6 with ⟨y1, y2⟩ | ⟨y1, y2⟩
                · refine ⟨L, off + z * n, m - z, x1, by simp [add_at], by omega, by omega, fun _ => rfl, fun w => by omega, .inl ⟨?_, ?_⟩⟩
                  · show L.d ≤ a.i + z * n; omega
                  · show off + z * n = a.i + z * n - L.d + (L.s - 1); omega
                · omega
          · cases h
        · cases h
      · rename_i hcap
        cases a with
        | none => obtain ⟨rfl, rfl, rfl⟩ := hx; exact absurd (by unfold inf; omega) hcap
        | some a =>
          obtain ⟨L, off, c, x1, rfl, x2, x3, x4, x5, x6⟩ := hx
          obtain ⟨x5a, x5b⟩ := x5 (by omega)
          split at h
          · split at h
            · rename_i hcz
              split at h
              · rename_i hd hh1
                obtain ⟨z, hl1, rfl⟩ := Option.map_eq_some_iff.1 h
                cases vm with
                | some _ => exact hm.elim
                | none =>
                  have r2 := bound_rel (P := P) hh1 hh
                  have r3 := bound_rel (P := P) hl1 hl
                  have hz : z ≤ hd := by rcases r3 with ⟨_, _, rfl⟩ | ⟨_, _, _, q, _⟩ <;> omega
                  have hdl : hd ≤ len := by rcases r2 with ⟨_, _, rfl⟩ | ⟨_, _, _, q, _⟩ <;> omega
                  have k2 : (Instr.sliceBounds true len c vl vh none).run P = (fun w => .ok (z, hd, c) w) := by
                    rcases r2 with ⟨rfl, rfl, rfl⟩ | ⟨v2, rfl, s2, p1, p2⟩ <;> rcases r3 with ⟨rfl, rfl, rfl⟩ | ⟨v3, rfl, s3, t1, t2⟩
                    · funext w; simp [Instr.sliceBounds]
                    · funext w; simp [Instr.sliceBounds, t2 _ _ _ t1]
                    · funext w; simp [Instr.sliceBounds, p2 _ _ c (by omega)]
                    · funext w; simp [Instr.sliceBounds, p2 _ _ c (by omega), t2 _ _ _ t1]
                  refine ⟨_, run _ c z hd c rfl k2, ?_⟩
                  have hLz : L.z = n := by omega
                  have hmul : z * n + (c - z) * n = c * n := by rw [← Nat.add_mul]; congr 1; omega
                  rw [hLz] at x5b
                  by_cases q : c = z
                  · rw [if_pos q]
                    refine ⟨L, off, c - z, x1, rfl, by omega, by omega, fun w => absurd w hcap, fun _ => ⟨by omega, ?_⟩, .inr ⟨by omega, by omega⟩⟩
                    have : (c - z) * L.z = 0 := by rw [show c - z = 0 by omega, Nat.zero_mul]
                    omega
                  · rw [if_neg q]
                    rcases x6 with ⟨y1, y2⟩ | ⟨y1, y2⟩
                    · refine ⟨L, off + z * n, c - z, x1, by simp [add_at], by omega, by omega, fun w => absurd w hcap, fun _ => ⟨by omega, by rw [hLz]; omega⟩, .inl ⟨?_, ?_⟩⟩
                      · show L.d ≤ a.i + z * n; omega
                      · show off + z * n = a.i + z * n - L.d + (L.s - 1); omega
                    · omega
              · cases h
            · cases h
          · rename_i mxv
            split at h
            · rename_i m hm1
              split at h
              · rename_i hd hh1
                obtain ⟨z, hl1, rfl⟩ := Option.map_eq_some_iff.1 h
                have hno : ¬ hi.isNone = true := by intro q; rw [if_pos q] at hh1; cases hh1
                rw [if_neg hno] at hh1
                have r1 := bound_rel (P := P) hm1 hm
                have r2 := bound_rel (P := P) hh1 hh
                have r3 := bound_rel (P := P) hl1 hl
                rcases r1 with ⟨q, _⟩ | ⟨v1, rfl, s1, q1, q2⟩
                · cases q
                rcases r2 with ⟨rfl, _⟩ | ⟨v2, rfl, s2, p1, p2⟩
                · exact absurd rfl hno
                have hz : z ≤ hd := by rcases r3 with ⟨_, _, rfl⟩ | ⟨_, _, _, q, _⟩ <;> omega
                have k2 : (Instr.sliceBounds true len c vl (some v2) (some v1)).run P = (fun w => .ok (z, hd, m) w) := by
                  rcases r3 with ⟨rfl, rfl, rfl⟩ | ⟨v3, rfl, s3, t1, t2⟩
                  · funext w; simp [Instr.sliceBounds, q2 _ _ c (by omega), p2 _ _ _ p1]
                  · funext w; simp [Instr.sliceBounds, q2 _ _ c (by omega), p2 _ _ _ p1, t2 _ _ _ t1]
                refine ⟨_, run _ c z hd m rfl k2, ?_⟩
                by_cases q : m = z
                · rw [if_pos q, if_pos q]
                  exact ⟨L, off, m - z, x1, rfl, by omega, by omega, fun _ => rfl, fun w => by unfold inf at w; omega, .inr ⟨by omega, by omega⟩⟩
                · rw [if_neg q, if_neg q]
                  rcases x6 with ⟨y1, y2⟩ | ⟨y1, y2⟩
                  · refine ⟨L, off + z * n, m - z, x1, by simp [add_at], by omega, by omega, fun _ => rfl, fun w => by omega, .inl ⟨?_, ?_⟩⟩
                    · show L.d ≤ a.i + z * n; omega
                    · show off + z * n = a.i + z * n - L.d + (L.s - 1); omega
                  · omega
              · cases h
            · cases h
    · cases h
  · cases h
end
end Go.Proofs.Ytjhijcehcklipaa.Ev
