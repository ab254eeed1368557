/-
  The swift form, its operations: each tells what the second reading's tells.
-/
import Derived.Test.YtjhijcehcklipaaEvF
set_option linter.unusedVariables false
set_option linter.unusedSimpArgs false
namespace Go.Proofs.Ytjhijcehcklipaa.Ev

theorem ble_iff {a b : Nat} : Nat.ble a b = true ↔ a ≤ b := iff_of_eq Nat.ble_eq

/-- Operands. -/
inductive Xo where
  | t (p : Pa)
  | c (v : Option AV)
def xo : Operand → Xo
  | .tmp t => .t (pathOf (t + 1) t)
  | .const v => .c (toAV v)
  | .global _ => .c none
  | .func g => .c (some (.f g []))
noncomputable def slot (T : Tr AV) (p : Pa) : AV := Option.rec (motive := fun _ => AV) .undef (fun v => v) (T.gp p)
noncomputable def Xo.ev (x : Xo) (T : Tr AV) : Option AV := Xo.rec (motive := fun _ => Option AV) (fun p => some (slot T p)) (fun v => v) x
theorem lt_two_pow (i : Nat) : i < 2 ^ (i + 1) := by
  have := Nat.lt_two_pow_self (n := i)
  have : (2 : Nat) ^ (i + 1) = 2 ^ i * 2 := Nat.pow_succ 2 i
  omega
theorem slot_eq (T : Fr) (t : Nat) : slot T.t (pathOf (t + 1) t) = T.at t := by
  unfold slot Fr.at
  rw [gp_eq _ _ _ (lt_two_pow t)]
  cases T.t.get t <;> rfl
theorem xo_ev (T : Fr) (x : Operand) : (xo x).ev T.t = ev T x := by
  cases x with
  | tmp t => show some (slot T.t (pathOf (t + 1) t)) = _; rw [slot_eq]; rfl
  | const v => rfl
  | global g => rfl
  | func g => rfl
noncomputable def evXs (T : Tr AV) (xs : List Xo) : Option (List AV) :=
  List.rec (motive := fun _ => Option (List AV)) (some []) (fun x _ ih => Option.rec (motive := fun _ => Option (List AV)) none (fun a => Option.rec (motive := fun _ => Option (List AV)) none (fun as => some (a :: as)) ih) (x.ev T)) xs
theorem xos_ev (T : Fr) : ∀ (xs : List Operand), evXs T.t (xs.map xo) = evs T xs
  | [] => rfl
  | x :: xs => by
    have ih := xos_ev T xs
    have hx := xo_ev T x
    show Option.rec (motive := fun _ => Option (List AV)) none (fun a => Option.rec (motive := fun _ => Option (List AV)) none (fun as => some (a :: as)) (evXs T.t (xs.map xo))) ((xo x).ev T.t) = _
    rw [ih, hx, evs]
    cases ev T x with
    | none => rfl
    | some a => cases evs T xs <;> rfl

/-- The greatest number of a kind. -/
noncomputable def maxK (k : IntKind) : Nat := IntKind.rec (motive := fun _ => Nat) 127 32767 2147483647 9223372036854775807 255 65535 4294967295 18446744073709551615 k
theorem wrap_small (k : IntKind) (m : Nat) (h : m ≤ maxK k) : k.wrap (Int.ofNat m) = Int.ofNat m := by
  cases k <;> simp only [maxK] at h <;> simp only [IntKind.wrap, IntKind.bits, IntKind.signed] <;> simp <;> omega
noncomputable def isS (k : IntKind) : Bool := IntKind.rec (motive := fun _ => Bool) true true true true false false false false k
theorem wrap_uns (k : IntKind) (m : Nat) (h : isS k = false) : k.wrap (Int.ofNat m) = Int.ofNat (m % (maxK k + 1)) := by
  cases k <;> simp [isS] at h <;> simp [maxK, IntKind.wrap, IntKind.bits, IntKind.signed]
noncomputable def tagK (k : IntKind) : Nat := IntKind.rec (motive := fun _ => Nat) 0 1 2 3 4 5 6 7 k
theorem tagK_inj {k k' : IntKind} : Nat.beq (tagK k) (tagK k') = decide (k = k') := by cases k <;> cases k' <;> rfl
/-- A number of a kind that is not below nought: as it is, if it is not too great. -/
noncomputable def fitN (k : IntKind) (m : Nat) : Option AV :=
  Bool.rec (motive := fun _ => Option AV) (some (.n k (k.wrap (Int.ofNat m)))) (some (.n k (Int.ofNat m))) (Nat.ble m (maxK k))
theorem fitN_eq (k : IntKind) (m : Nat) : fitN k m = some (.n k (k.wrap (Int.ofNat m))) := by
  unfold fitN
  cases h : Nat.ble m (maxK k) with
  | false => rfl
  | true => show some (AV.n k (Int.ofNat m)) = _; rw [wrap_small k m (ble_iff.1 h)]
noncomputable def fitU (k : IntKind) (m : Nat) : Option AV :=
  Bool.rec (motive := fun _ => Option AV) (Bool.rec (motive := fun _ => Option AV) (some (.n k (Int.ofNat (m % (maxK k + 1))))) (some (.n k (k.wrap (Int.ofNat m)))) (isS k)) (some (.n k (Int.ofNat m))) (Nat.ble m (maxK k))
theorem fitU_eq (k : IntKind) (m : Nat) : fitU k m = some (.n k (k.wrap (Int.ofNat m))) := by
  unfold fitU
  cases h : Nat.ble m (maxK k) with
  | false =>
    cases hs : isS k with
    | false => show some (AV.n k (Int.ofNat (m % (maxK k + 1)))) = _; rw [wrap_uns k m hs]
    | true => rfl
  | true => show some (AV.n k (Int.ofNat m)) = _; rw [wrap_small k m (ble_iff.1 h)]
/-- Two numbers of one kind. -/
noncomputable def numOp (op : BinOp) (k : IntKind) (a c : Nat) (slow : Option AV) : Option AV :=
  BinOp.rec (motive := fun _ => Option AV)
    (fitU k (a + c))
    (Bool.rec (motive := fun _ => Option AV) slow (fitN k (a - c)) (Nat.ble c a))
    (fitU k (a * c))
    slow slow
    (Bool.rec (motive := fun _ => Option AV) slow (Bool.rec (motive := fun _ => Option AV) slow (some (.n k (Int.ofNat (Nat.land a c)))) (Nat.ble c (maxK k))) (Nat.ble a (maxK k)))
    (Bool.rec (motive := fun _ => Option AV) slow (Bool.rec (motive := fun _ => Option AV) slow (some (.n k (Int.ofNat (Nat.lor a c)))) (Nat.ble c (maxK k))) (Nat.ble a (maxK k)))
    (Bool.rec (motive := fun _ => Option AV) slow (Bool.rec (motive := fun _ => Option AV) slow (some (.n k (Int.ofNat (Nat.xor a c)))) (Nat.ble c (maxK k))) (Nat.ble a (maxK k)))
    slow slow slow
    (some (.b (Nat.beq a c)))
    (some (.b (not (Nat.beq a c))))
    (some (.b (Nat.ble (a + 1) c)))
    (some (.b (Nat.ble a c)))
    (some (.b (Nat.ble (c + 1) a)))
    (some (.b (Nat.ble c a))) op
theorem maxK_lt (k : IntKind) : maxK k < 2 ^ k.bits := by cases k <;> decide
theorem land_le (k : IntKind) {a c : Nat} (ha : a ≤ maxK k) : Nat.land a c ≤ maxK k := Nat.le_trans Nat.and_le_left ha
theorem maxK_pow (k : IntKind) : ∃ n, maxK k + 1 = 2 ^ n := by
  cases k
  · exact ⟨7, rfl⟩
  · exact ⟨15, rfl⟩
  · exact ⟨31, rfl⟩
  · exact ⟨63, rfl⟩
  · exact ⟨8, rfl⟩
  · exact ⟨16, rfl⟩
  · exact ⟨32, rfl⟩
  · exact ⟨64, rfl⟩
theorem lor_le (k : IntKind) {a c : Nat} (ha : a ≤ maxK k) (hc : c ≤ maxK k) : Nat.lor a c ≤ maxK k := by
  obtain ⟨n, h⟩ := maxK_pow k
  have := Nat.or_lt_two_pow (x := a) (y := c) (n := n) (by omega) (by omega)
  have e : Nat.lor a c = a ||| c := rfl
  omega
theorem xor_le (k : IntKind) {a c : Nat} (ha : a ≤ maxK k) (hc : c ≤ maxK k) : Nat.xor a c ≤ maxK k := by
  obtain ⟨n, h⟩ := maxK_pow k
  have := Nat.xor_lt_two_pow (x := a) (y := c) (n := n) (by omega) (by omega)
  have e : Nat.xor a c = a ^^^ c := rfl
  omega
theorem bv_small (k : IntKind) {a : Nat} (ha : a ≤ maxK k) : (BitVec.ofInt k.bits (Int.ofNat a)).toNat = a := by
  have := maxK_lt k
  rw [show Int.ofNat a = (a : Int) from rfl, BitVec.ofInt_natCast, BitVec.toNat_ofNat, Nat.mod_eq_of_lt (by omega)]
theorem numOp_eq (op : BinOp) (k : IntKind) (a c : Nat) (slow : Option AV) (t : TypeId) (P : Program) (hs : slow = bin P op t (.n k (Int.ofNat a)) (.n k (Int.ofNat c))) : numOp op k a c slow = bin P op t (.n k (Int.ofNat a)) (.n k (Int.ofNat c)) := by
  cases op
  case add => show fitU k (a + c) = _; rw [fitU_eq]; simp [bin, pureOf, Op.intArith]; rfl
  case sub =>
    show Bool.rec (motive := fun _ => Option AV) slow (fitN k (a - c)) (Nat.ble c a) = _
    cases h : Nat.ble c a with
    | false => exact hs
    | true =>
      show fitN k (a - c) = _
      have := ble_iff.1 h
      rw [fitN_eq]; simp [bin, pureOf, Op.intArith]; exact congrArg (fun z => some (AV.n k (k.wrap z))) (show ((a - c : Nat) : Int) = (a : Int) - (c : Int) by omega)
  case mul => show fitU k (a * c) = _; rw [fitU_eq]; simp [bin, pureOf, Op.intArith]; rfl
  case quo => exact hs
  case rem => exact hs
  case and =>
    show Bool.rec (motive := fun _ => Option AV) slow (Bool.rec (motive := fun _ => Option AV) slow (some (.n k (Int.ofNat (Nat.land a c)))) (Nat.ble c (maxK k))) (Nat.ble a (maxK k)) = _
    cases ha : Nat.ble a (maxK k) with
    | false => exact hs
    | true =>
      cases hc : Nat.ble c (maxK k) with
      | false => exact hs
      | true =>
        have ha := ble_iff.1 ha; have hc := ble_iff.1 hc
        have e : ((BitVec.ofInt k.bits (Int.ofNat a)) &&& (BitVec.ofInt k.bits (Int.ofNat c))).toNat = Nat.land a c := by rw [BitVec.toNat_and, bv_small k ha, bv_small k hc]; rfl
        have := wrap_small k _ (land_le k (c := c) ha)
        show some (AV.n k (Int.ofNat (Nat.land a c))) = _
        simp only [bin, pureOf, Op.intBits, if_true, e, pure]
        exact congrArg (fun z => some (AV.n k z)) this.symm
  case or =>
    show Bool.rec (motive := fun _ => Option AV) slow (Bool.rec (motive := fun _ => Option AV) slow (some (.n k (Int.ofNat (Nat.lor a c)))) (Nat.ble c (maxK k))) (Nat.ble a (maxK k)) = _
    cases ha : Nat.ble a (maxK k) with
    | false => exact hs
    | true =>
      cases hc : Nat.ble c (maxK k) with
      | false => exact hs
      | true =>
        have ha := ble_iff.1 ha; have hc := ble_iff.1 hc
        have e : ((BitVec.ofInt k.bits (Int.ofNat a)) ||| (BitVec.ofInt k.bits (Int.ofNat c))).toNat = Nat.lor a c := by rw [BitVec.toNat_or, bv_small k ha, bv_small k hc]; rfl
        have := wrap_small k _ (lor_le k ha hc)
        show some (AV.n k (Int.ofNat (Nat.lor a c))) = _
        simp only [bin, pureOf, Op.intBits, if_true, e, pure]
        exact congrArg (fun z => some (AV.n k z)) this.symm
  case xor =>
    show Bool.rec (motive := fun _ => Option AV) slow (Bool.rec (motive := fun _ => Option AV) slow (some (.n k (Int.ofNat (Nat.xor a c)))) (Nat.ble c (maxK k))) (Nat.ble a (maxK k)) = _
    cases ha : Nat.ble a (maxK k) with
    | false => exact hs
    | true =>
      cases hc : Nat.ble c (maxK k) with
      | false => exact hs
      | true =>
        have ha := ble_iff.1 ha; have hc := ble_iff.1 hc
        have e : ((BitVec.ofInt k.bits (Int.ofNat a)) ^^^ (BitVec.ofInt k.bits (Int.ofNat c))).toNat = Nat.xor a c := by rw [BitVec.toNat_xor, bv_small k ha, bv_small k hc]; rfl
        have := wrap_small k _ (xor_le k ha hc)
        show some (AV.n k (Int.ofNat (Nat.xor a c))) = _
        simp only [bin, pureOf, Op.intBits, if_true, e, pure]
        exact congrArg (fun z => some (AV.n k z)) this.symm
  case shl => exact hs
  case shr => exact hs
  case andNot => exact hs
  case eql => show some (AV.b (Nat.beq a c)) = _; simp only [bin, pureOf, Op.intCmp, if_true, pure]; congr 2; rw [Bool.eq_iff_iff, Nat.beq_eq, beq_iff_eq]; exact ⟨fun h => h ▸ rfl, fun h => Int.ofNat.inj h⟩
  case neq => show some (AV.b (not (Nat.beq a c))) = _; simp only [bin, pureOf, Op.intCmp, if_true, pure]; congr 2; rw [bne]; congr 1; rw [Bool.eq_iff_iff, Nat.beq_eq, beq_iff_eq]; exact ⟨fun h => h ▸ rfl, fun h => Int.ofNat.inj h⟩
  case lss => show some (AV.b (Nat.ble (a + 1) c)) = _; simp only [bin, pureOf, Op.intCmp, if_true, pure]; congr 2; rw [Bool.eq_iff_iff, Nat.ble_eq, decide_eq_true_eq]; exact Int.ofNat_lt.symm
  case leq => show some (AV.b (Nat.ble a c)) = _; simp only [bin, pureOf, Op.intCmp, if_true, pure]; congr 2; rw [Bool.eq_iff_iff, Nat.ble_eq, decide_eq_true_eq]; exact Int.ofNat_le.symm
  case gtr => show some (AV.b (Nat.ble (c + 1) a)) = _; simp only [bin, pureOf, Op.intCmp, if_true, pure]; congr 2; rw [Bool.eq_iff_iff, Nat.ble_eq, decide_eq_true_eq]; exact Int.ofNat_lt.symm
  case geq => show some (AV.b (Nat.ble c a)) = _; simp only [bin, pureOf, Op.intCmp, if_true, pure]; congr 2; rw [Bool.eq_iff_iff, Nat.ble_eq, decide_eq_true_eq]; exact Int.ofNat_le.symm
/-- A shift of a number that is not below nought. -/
noncomputable def shOp (op : BinOp) (k : IntKind) (a c : Nat) (slow : Option AV) : Option AV :=
  BinOp.rec (motive := fun _ => Option AV) slow slow slow slow slow slow slow slow
    (Bool.rec (motive := fun _ => Option AV) slow (fitU k (a * Nat.pow 2 c)) (Nat.ble c k.bits))
    (Bool.rec (motive := fun _ => Option AV) slow (some (.n k (Int.ofNat (a / Nat.pow 2 c)))) (Nat.ble c k.bits))
    slow slow slow slow slow slow slow op
theorem shOp_eq (op : BinOp) (k k' : IntKind) (a c : Nat) (slow : Option AV) (t : TypeId) (P : Program) (hs : slow = bin P op t (.n k (Int.ofNat a)) (.n k' (Int.ofNat c))) : shOp op k a c slow = bin P op t (.n k (Int.ofNat a)) (.n k' (Int.ofNat c)) := by
  cases op
  case shl =>
    show Bool.rec (motive := fun _ => Option AV) slow (fitU k (a * Nat.pow 2 c)) (Nat.ble c k.bits) = _
    cases h : Nat.ble c k.bits with
    | false => exact hs
    | true =>
      have h := ble_iff.1 h
      show fitU k (a * Nat.pow 2 c) = _
      rw [fitU_eq]
      simp only [bin, pureOf, Op.shift]
      rw [if_neg (by exact Int.not_lt.2 (Int.natCast_nonneg c))]
      show _ = some (AV.n k (k.wrap (Int.ofNat a * 2 ^ min c k.bits)))
      rw [Nat.min_eq_left h]
      refine congrArg (fun z => some (AV.n k (k.wrap z))) ?_
      show ((a * 2 ^ c : Nat) : Int) = (a : Int) * 2 ^ c
      rw [Int.natCast_mul, Int.natCast_pow]; rfl
  case shr =>
    show Bool.rec (motive := fun _ => Option AV) slow (some (.n k (Int.ofNat (a / Nat.pow 2 c)))) (Nat.ble c k.bits) = _
    cases h : Nat.ble c k.bits with
    | false => exact hs
    | true =>
      have h := ble_iff.1 h
      show some (AV.n k (Int.ofNat (a / Nat.pow 2 c))) = _
      simp only [bin, pureOf, Op.shift]
      rw [if_neg (by exact Int.not_lt.2 (Int.natCast_nonneg c))]
      show _ = some (AV.n k ((Int.ofNat a).fdiv (2 ^ min c k.bits)))
      rw [Nat.min_eq_left h]
      congr 2
      rw [show (2 : Int) ^ c = ((2 ^ c : Nat) : Int) from (Int.natCast_pow 2 c).symm]
      show ((a / 2 ^ c : Nat) : Int) = (a : Int).fdiv ((2 ^ c : Nat) : Int); rw [Int.fdiv_eq_ediv_of_nonneg _ (Int.natCast_nonneg _)]; rfl
  all_goals exact hs
noncomputable def natOf (a : Int) (slow : Option AV) (k : Nat → Option AV) : Option AV := Int.rec (motive := fun _ => Option AV) k (fun _ => slow) a
noncomputable def isSh (op : BinOp) : Bool := BinOp.rec (motive := fun _ => Bool) false false false false false false false false true true false false false false false false false op
/-- A number below nought beside one that is not. -/
noncomputable def negOp (op : BinOp) (slow : Option AV) : Option AV :=
  BinOp.rec (motive := fun _ => Option AV) slow slow slow slow slow slow slow slow slow slow slow
    (some (.b false)) (some (.b true)) (some (.b true)) (some (.b true)) (some (.b false)) (some (.b false)) op
theorem negOp_eq (op : BinOp) (k : IntKind) (a c : Nat) (slow : Option AV) (t : TypeId) (P : Program) (hs : slow = bin P op t (.n k (Int.negSucc a)) (.n k (Int.ofNat c))) : negOp op slow = bin P op t (.n k (Int.negSucc a)) (.n k (Int.ofNat c)) := by
  have hlt : Int.negSucc a < Int.ofNat c := by have := Int.negSucc_lt_zero a; have : (0 : Int) ≤ Int.ofNat c := Int.natCast_nonneg c; omega
  cases op
  case eql => show some (AV.b false) = _; simp only [bin, pureOf, Op.intCmp, if_true, pure]; first | done | exact congrArg (fun b => some (AV.b b)) (beq_eq_false_iff_ne.2 (by omega)).symm
  case neq => show some (AV.b true) = _; simp only [bin, pureOf, Op.intCmp, if_true, pure]; first | done | exact congrArg (fun b => some (AV.b b)) (bne_iff_ne.2 (by omega)).symm
  case lss => show some (AV.b true) = _; simp only [bin, pureOf, Op.intCmp, if_true, pure]; first | done | exact congrArg (fun b => some (AV.b b)) (decide_eq_true hlt).symm
  case leq => show some (AV.b true) = _; simp only [bin, pureOf, Op.intCmp, if_true, pure]; first | done | exact congrArg (fun b => some (AV.b b)) (decide_eq_true (Int.le_of_lt hlt)).symm
  case gtr => show some (AV.b false) = _; simp only [bin, pureOf, Op.intCmp, if_true, pure]; first | done | exact congrArg (fun b => some (AV.b b)) (decide_eq_false (by omega)).symm
  case geq => show some (AV.b false) = _; simp only [bin, pureOf, Op.intCmp, if_true, pure]; first | done | exact congrArg (fun b => some (AV.b b)) (decide_eq_false (by omega)).symm
  all_goals exact hs
noncomputable def natOr (a : Int) (k j : Nat → Option AV) : Option AV := Int.rec (motive := fun _ => Option AV) k j a
section
variable (P : Program)
noncomputable def binN (op : BinOp) (t : TypeId) (k : IntKind) (a : Int) (k' : IntKind) (c : Int) : Option AV :=
  natOr a (fun a' => natOf c (bin P op t (.n k a) (.n k' c)) fun c' =>
    Bool.rec (motive := fun _ => Option AV)
      (Bool.rec (motive := fun _ => Option AV) (bin P op t (.n k a) (.n k' c)) (numOp op k a' c' (bin P op t (.n k a) (.n k' c))) (Nat.beq (tagK k) (tagK k')))
      (shOp op k a' c' (bin P op t (.n k a) (.n k' c))) (isSh op)) fun _ => natOf c (bin P op t (.n k a) (.n k' c)) fun c' =>
        Bool.rec (motive := fun _ => Option AV) (bin P op t (.n k a) (.n k' c)) (negOp op (bin P op t (.n k a) (.n k' c))) (Nat.beq (tagK k) (tagK k'))
theorem binN_eq (op : BinOp) (t : TypeId) (k : IntKind) (a : Int) (k' : IntKind) (c : Int) : binN P op t k a k' c = bin P op t (.n k a) (.n k' c) := by
  cases a with
  | negSucc a => cases c with
    | negSucc c => rfl
    | ofNat c =>
      show Bool.rec (motive := fun _ => Option AV) (bin P op t (.n k (Int.negSucc a)) (.n k' (Int.ofNat c))) (negOp op (bin P op t (.n k (Int.negSucc a)) (.n k' (Int.ofNat c)))) (Nat.beq (tagK k) (tagK k')) = _
      cases h : Nat.beq (tagK k) (tagK k') with
      | false => rfl
      | true => rw [tagK_inj, decide_eq_true_eq] at h; subst h; exact negOp_eq op k a c _ t P rfl
  | ofNat a => cases c with
    | negSucc c => rfl
    | ofNat c =>
      show Bool.rec (motive := fun _ => Option AV)
        (Bool.rec (motive := fun _ => Option AV) (bin P op t (.n k (Int.ofNat a)) (.n k' (Int.ofNat c))) (numOp op k a c (bin P op t (.n k (Int.ofNat a)) (.n k' (Int.ofNat c)))) (Nat.beq (tagK k) (tagK k')))
        (shOp op k a c (bin P op t (.n k (Int.ofNat a)) (.n k' (Int.ofNat c)))) (isSh op) = _
      cases isSh op with
      | true => exact shOp_eq op k k' a c _ t P rfl
      | false =>
        cases h : Nat.beq (tagK k) (tagK k') with
        | false => rfl
        | true => rw [tagK_inj, decide_eq_true_eq] at h; subst h; exact numOp_eq op k a c _ t P rfl
noncomputable def binF (l : Bool) (op : BinOp) (t : TypeId) (x y : AV) : Option AV :=
  AV.casesOn (motive_1 := fun _ => Option AV) x (bin P op t x y) (fun _ => bin P op t x y)
    (fun k a => AV.casesOn (motive_1 := fun _ => Option AV) y (bin P op t x y) (fun _ => bin P op t x y) (fun k' c => binN P op t k a k' c) (fun _ => bin P op t x y) (fun _ => bin P op t x y) (fun _ _ _ => bin P op t x y) (fun _ => bin P op t x y) (fun _ _ => bin P op t x y) (bin P op t x y) (bin P op t x y) (fun _ => bin P op t x y) (fun _ => bin P op t x y) (fun _ _ => bin P op t x y) (fun _ _ => bin P op t x y) (fun _ _ => bin P op t x y))
    (fun _ => bin P op t x y) (fun _ => bin P op t x y) (fun _ _ _ => bin P op t x y) (fun _ => bin P op t x y) (fun _ _ => bin P op t x y) (bin P op t x y) (binE P l op t x y) (fun _ => bin P op t x y) (fun _ => bin P op t x y) (fun _ _ => bin P op t x y) (fun _ _ => bin P op t x y) (fun _ _ => bin P op t x y)
theorem binF_eq (l : Bool) (op : BinOp) (t : TypeId) (x y : AV) : binF P l op t x y = binE P l op t x y := by
  cases x
  case n k a =>
    cases y
    case n k' c => exact binN_eq P op t k a k' c
    all_goals rfl
  all_goals rfl
end
end Go.Proofs.Ytjhijcehcklipaa.Ev
