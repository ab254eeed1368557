/-
  The swift form with closed branches: what is handed on goes through the recursors' motives, so that nothing is copied at each step. It tells what the swift form tells.
-/
import Derived.Test.YtpmonnofmnncjaaGreatDoorEvX
set_option linter.unusedVariables false
set_option linter.unusedSimpArgs false
namespace Go.Proofs.YtpmonnofmnncjaaGreatDoor.Ev
abbrev Bt := AV × AH
abbrev CF := Nat → List AV → AH → Option (AV × AH)

noncomputable def gpV (p : Pa) (t : Tr AV) : Option AV := Pa.rec (motive := fun _ => Tr AV → Option AV) (fun t => Tr.rec (motive := fun _ => Option AV) none (fun v _ _ _ _ => v) t) (fun _ ih t => Tr.rec (motive := fun _ => Option AV) none (fun _ l _ _ _ => ih l) t) (fun _ ih t => Tr.rec (motive := fun _ => Option AV) none (fun _ _ r _ _ => ih r) t) p t
theorem gpV_eq (p : Pa) (t : Tr AV) : gpV p t = Tr.gp p t := rfl
noncomputable def onLV (v : Option AV) (r t : Tr AV) : Tr AV := Tr.rec (motive := fun _ => Option AV → Tr AV → Tr AV) (fun _ _ => .nil) (fun v' l' r' _ _ v r => .node v (.node v' l' r') r) t v r
noncomputable def onRV (v : Option AV) (l t : Tr AV) : Tr AV := Tr.rec (motive := fun _ => Option AV → Tr AV → Tr AV) (fun _ _ => .nil) (fun v' l' r' _ _ v l => .node v l (.node v' l' r')) t v l
theorem onLV_eq (v : Option AV) (r t : Tr AV) : onLV v r t = onL v r t := by cases t <;> rfl
theorem onRV_eq (v : Option AV) (l t : Tr AV) : onRV v l t = onR v l t := by cases t <;> rfl
noncomputable def spV (x : AV) (p : Pa) (t : Tr AV) : Tr AV :=
  Pa.rec (motive := fun _ => AV → Tr AV → Tr AV) (fun x t => Tr.rec (motive := fun _ => AV → Tr AV) (fun x => .node (some x) .nil .nil) (fun _ l r _ _ x => .node (some x) l r) t x)
    (fun _ ih x t => Tr.rec (motive := fun _ => (AV → Tr AV → Tr AV) → AV → Tr AV) (fun ih x => onLV none .nil (ih x .nil)) (fun v l r _ _ ih x => onLV v r (ih x l)) t ih x)
    (fun _ ih x t => Tr.rec (motive := fun _ => (AV → Tr AV → Tr AV) → AV → Tr AV) (fun ih x => onRV none .nil (ih x .nil)) (fun v l r _ _ ih x => onRV v l (ih x r)) t ih x) p x t
theorem spV_eq (x : AV) : ∀ (p : Pa) (t : Tr AV), spV x p t = Tr.sp x p t
  | .o, t => by cases t <;> rfl
  | .l p, .nil => by show onLV none .nil (spV x p .nil) = onL none .nil (Tr.sp x p .nil); rw [spV_eq x p, onLV_eq]
  | .l p, .node v l r => by show onLV v r (spV x p l) = onL v r (Tr.sp x p l); rw [spV_eq x p, onLV_eq]
  | .r p, .nil => by show onRV none .nil (spV x p .nil) = onR none .nil (Tr.sp x p .nil); rw [spV_eq x p, onRV_eq]
  | .r p, .node v l r => by show onRV v l (spV x p r) = onR v l (Tr.sp x p r); rw [spV_eq x p, onRV_eq]
noncomputable def slotV (T : Tr AV) (p : Pa) : AV := Option.rec (motive := fun _ => AV) .undef (fun v => v) (gpV p T)
theorem slotV_eq (T : Tr AV) (p : Pa) : slotV T p = slot T p := rfl
noncomputable def evV (x : Xo) (T : Tr AV) : Option AV := Xo.rec (motive := fun _ => Tr AV → Option AV) (fun p T => some (slotV T p)) (fun v _ => v) x T
theorem evV_eq (x : Xo) (T : Tr AV) : evV x T = x.ev T := by cases x <;> rfl
noncomputable def consO (a : Option AV) (l : Option (List AV)) : Option (List AV) :=
  Option.rec (motive := fun _ => Option (List AV) → Option (List AV)) (fun _ => none) (fun a l => Option.rec (motive := fun _ => AV → Option (List AV)) (fun _ => none) (fun l a => some (a :: l)) l a) a l
noncomputable def evXsV (T : Tr AV) (xs : List Xo) : Option (List AV) := List.rec (motive := fun _ => Tr AV → Option (List AV)) (fun _ => some []) (fun x _ ih T => consO (evV x T) (ih T)) xs T
theorem evXsV_eq (T : Tr AV) : ∀ xs, evXsV T xs = evXs T xs
  | [] => rfl
  | x :: xs => by
    show consO (evV x T) (evXsV T xs) = _
    rw [evV_eq, evXsV_eq T xs]
    show _ = Option.rec (motive := fun _ => Option (List AV)) none (fun a => Option.rec (motive := fun _ => Option (List AV)) none (fun l => some (a :: l)) (evXs T xs)) (x.ev T)
    cases x.ev T with
    | none => rfl
    | some a => cases evXs T xs <;> rfl
noncomputable def asPA (v : AV) (k : (Pl → Option AV)) : Option AV := AV.casesOn (motive_1 := fun _ => (Pl → Option AV) → Option AV) v (fun k => none) (fun f0 k => none) (fun f0 f1 k => none) (fun f0 k => none) (fun f0 k => oc f0 k) (fun f0 f1 f2 k => none) (fun f0 k => none) (fun f0 f1 k => none) (fun k => none) (fun k => none) (fun f0 k => none) (fun f0 k => none) k
theorem asPA_eq (v : AV) (k : (Pl → Option AV)) : asPA v k = asP v k := by cases v <;> rfl
noncomputable def asBA (v : AV) (x : (Option AV)) (y : (Option AV)) : Option AV := AV.casesOn (motive_1 := fun _ => (Option AV) → (Option AV) → Option AV) v (fun x y => none) (fun f0 x y => bc f0 x y) (fun f0 f1 x y => none) (fun f0 x y => none) (fun f0 x y => none) (fun f0 f1 f2 x y => none) (fun f0 x y => none) (fun f0 f1 x y => none) (fun x y => none) (fun x y => none) (fun f0 x y => none) (fun f0 x y => none) x y
theorem asBA_eq (v : AV) (x : (Option AV)) (y : (Option AV)) : asBA v x y = asB v x y := by cases v <;> rfl
noncomputable def asFA (v : AV) (k : (Nat → List AV → Option AV)) : Option AV := AV.casesOn (motive_1 := fun _ => (Nat → List AV → Option AV) → Option AV) v (fun k => none) (fun f0 k => none) (fun f0 f1 k => none) (fun f0 k => none) (fun f0 k => none) (fun f0 f1 f2 k => none) (fun f0 k => none) (fun f0 f1 k => k f0 f1) (fun k => none) (fun k => none) (fun f0 k => none) (fun f0 k => none) k
theorem asFA_eq (v : AV) (k : (Nat → List AV → Option AV)) : asFA v k = asF v k := by cases v <;> rfl
noncomputable def asTA (v : AV) (k : (List AV → Option AV)) : Option AV := AV.casesOn (motive_1 := fun _ => (List AV → Option AV) → Option AV) v (fun k => none) (fun f0 k => none) (fun f0 f1 k => none) (fun f0 k => none) (fun f0 k => none) (fun f0 f1 f2 k => none) (fun f0 k => none) (fun f0 f1 k => none) (fun k => none) (fun k => none) (fun f0 k => none) (fun f0 k => k f0) k
theorem asTA_eq (v : AV) (k : (List AV → Option AV)) : asTA v k = asT v k := by cases v <;> rfl
noncomputable def asNA (v : AV) (slow : (Option AV)) (k : (IntKind → Int → Option AV)) : Option AV := AV.casesOn (motive_1 := fun _ => (Option AV) → (IntKind → Int → Option AV) → Option AV) v (fun slow k => slow) (fun f0 slow k => slow) (fun f0 f1 slow k => k f0 f1) (fun f0 slow k => slow) (fun f0 slow k => slow) (fun f0 f1 f2 slow k => slow) (fun f0 slow k => slow) (fun f0 f1 slow k => slow) (fun slow k => slow) (fun slow k => slow) (fun f0 slow k => slow) (fun f0 slow k => slow) slow k
theorem asNA_eq (v : AV) (slow : (Option AV)) (k : (IntKind → Int → Option AV)) : asNA v slow k = asN v slow k := by cases v <;> rfl
noncomputable def asLA (v : AV) (slow : (Option AV)) (k : (Pl → Nat → Option AV)) : Option AV := AV.casesOn (motive_1 := fun _ => (Option AV) → (Pl → Nat → Option AV) → Option AV) v (fun slow k => slow) (fun f0 slow k => slow) (fun f0 f1 slow k => slow) (fun f0 slow k => slow) (fun f0 slow k => slow) (fun f0 f1 f2 slow k => Option.rec (motive := fun _ => Nat → Option AV → (Pl → Nat → Option AV) → Option AV) (fun _ slow _ => slow) (fun a f1 _ k => k a f1) f0 f1 slow k) (fun f0 slow k => slow) (fun f0 f1 slow k => slow) (fun slow k => slow) (fun slow k => slow) (fun f0 slow k => slow) (fun f0 slow k => slow) slow k
theorem asLA_eq (v : AV) (slow : (Option AV)) (k : (Pl → Nat → Option AV)) : asLA v slow k = asL v slow k := by
  cases v
  case l a n c => cases a <;> rfl
  all_goals rfl
noncomputable def asGA (v : AV) (x : (Option AV)) (y : (Option AV)) (z : (Option AV)) : Option AV := AV.casesOn (motive_1 := fun _ => (Option AV) → (Option AV) → (Option AV) → Option AV) v (fun x y z => none) (fun f0 x y z => bc f0 x y) (fun f0 f1 x y z => none) (fun f0 x y z => none) (fun f0 x y z => none) (fun f0 f1 f2 x y z => none) (fun f0 x y z => none) (fun f0 f1 x y z => none) (fun x y z => none) (fun x y z => none) (fun f0 x y z => none) (fun f0 x y z => List.casesOn (motive := fun _ => Option AV → Option AV) f0 (fun z => z) (fun _ _ _ => none) z) x y z
theorem asGA_eq (v : AV) (x : (Option AV)) (y : (Option AV)) (z : (Option AV)) : asGA v x y z = asG v x y z := by
  cases v
  case tup cs => cases cs <;> rfl
  all_goals rfl
noncomputable def asPB (v : AV) (k : (Pl → Option Bt)) : Option Bt := AV.casesOn (motive_1 := fun _ => (Pl → Option Bt) → Option Bt) v (fun k => none) (fun f0 k => none) (fun f0 f1 k => none) (fun f0 k => none) (fun f0 k => oc f0 k) (fun f0 f1 f2 k => none) (fun f0 k => none) (fun f0 f1 k => none) (fun k => none) (fun k => none) (fun f0 k => none) (fun f0 k => none) k
theorem asPB_eq (v : AV) (k : (Pl → Option Bt)) : asPB v k = asP v k := by cases v <;> rfl
noncomputable def asBB (v : AV) (x : (Option Bt)) (y : (Option Bt)) : Option Bt := AV.casesOn (motive_1 := fun _ => (Option Bt) → (Option Bt) → Option Bt) v (fun x y => none) (fun f0 x y => bc f0 x y) (fun f0 f1 x y => none) (fun f0 x y => none) (fun f0 x y => none) (fun f0 f1 f2 x y => none) (fun f0 x y => none) (fun f0 f1 x y => none) (fun x y => none) (fun x y => none) (fun f0 x y => none) (fun f0 x y => none) x y
theorem asBB_eq (v : AV) (x : (Option Bt)) (y : (Option Bt)) : asBB v x y = asB v x y := by cases v <;> rfl
noncomputable def asFB (v : AV) (k : (Nat → List AV → Option Bt)) : Option Bt := AV.casesOn (motive_1 := fun _ => (Nat → List AV → Option Bt) → Option Bt) v (fun k => none) (fun f0 k => none) (fun f0 f1 k => none) (fun f0 k => none) (fun f0 k => none) (fun f0 f1 f2 k => none) (fun f0 k => none) (fun f0 f1 k => k f0 f1) (fun k => none) (fun k => none) (fun f0 k => none) (fun f0 k => none) k
theorem asFB_eq (v : AV) (k : (Nat → List AV → Option Bt)) : asFB v k = asF v k := by cases v <;> rfl
noncomputable def asTB (v : AV) (k : (List AV → Option Bt)) : Option Bt := AV.casesOn (motive_1 := fun _ => (List AV → Option Bt) → Option Bt) v (fun k => none) (fun f0 k => none) (fun f0 f1 k => none) (fun f0 k => none) (fun f0 k => none) (fun f0 f1 f2 k => none) (fun f0 k => none) (fun f0 f1 k => none) (fun k => none) (fun k => none) (fun f0 k => none) (fun f0 k => k f0) k
theorem asTB_eq (v : AV) (k : (List AV → Option Bt)) : asTB v k = asT v k := by cases v <;> rfl
noncomputable def asNB (v : AV) (slow : (Option Bt)) (k : (IntKind → Int → Option Bt)) : Option Bt := AV.casesOn (motive_1 := fun _ => (Option Bt) → (IntKind → Int → Option Bt) → Option Bt) v (fun slow k => slow) (fun f0 slow k => slow) (fun f0 f1 slow k => k f0 f1) (fun f0 slow k => slow) (fun f0 slow k => slow) (fun f0 f1 f2 slow k => slow) (fun f0 slow k => slow) (fun f0 f1 slow k => slow) (fun slow k => slow) (fun slow k => slow) (fun f0 slow k => slow) (fun f0 slow k => slow) slow k
theorem asNB_eq (v : AV) (slow : (Option Bt)) (k : (IntKind → Int → Option Bt)) : asNB v slow k = asN v slow k := by cases v <;> rfl
noncomputable def asLB (v : AV) (slow : (Option Bt)) (k : (Pl → Nat → Option Bt)) : Option Bt := AV.casesOn (motive_1 := fun _ => (Option Bt) → (Pl → Nat → Option Bt) → Option Bt) v (fun slow k => slow) (fun f0 slow k => slow) (fun f0 f1 slow k => slow) (fun f0 slow k => slow) (fun f0 slow k => slow) (fun f0 f1 f2 slow k => Option.rec (motive := fun _ => Nat → Option Bt → (Pl → Nat → Option Bt) → Option Bt) (fun _ slow _ => slow) (fun a f1 _ k => k a f1) f0 f1 slow k) (fun f0 slow k => slow) (fun f0 f1 slow k => slow) (fun slow k => slow) (fun slow k => slow) (fun f0 slow k => slow) (fun f0 slow k => slow) slow k
theorem asLB_eq (v : AV) (slow : (Option Bt)) (k : (Pl → Nat → Option Bt)) : asLB v slow k = asL v slow k := by
  cases v
  case l a n c => cases a <;> rfl
  all_goals rfl
noncomputable def asGB (v : AV) (x : (Option Bt)) (y : (Option Bt)) (z : (Option Bt)) : Option Bt := AV.casesOn (motive_1 := fun _ => (Option Bt) → (Option Bt) → (Option Bt) → Option Bt) v (fun x y z => none) (fun f0 x y z => bc f0 x y) (fun f0 f1 x y z => none) (fun f0 x y z => none) (fun f0 x y z => none) (fun f0 f1 f2 x y z => none) (fun f0 x y z => none) (fun f0 f1 x y z => none) (fun x y z => none) (fun x y z => none) (fun f0 x y z => none) (fun f0 x y z => List.casesOn (motive := fun _ => Option Bt → Option Bt) f0 (fun z => z) (fun _ _ _ => none) z) x y z
theorem asGB_eq (v : AV) (x : (Option Bt)) (y : (Option Bt)) (z : (Option Bt)) : asGB v x y z = asG v x y z := by
  cases v
  case tup cs => cases cs <;> rfl
  all_goals rfl
noncomputable def numOpV (op : BinOp) (k : IntKind) (a c : Nat) (slow : Option AV) : Option AV := BinOp.rec (motive := fun _ => IntKind → Nat → Nat → Option AV → Option AV) (fun k a c slow => fitU k (a + c)) (fun k a c slow => Bool.rec (motive := fun _ => Option AV) slow (fitN k (a - c)) (Nat.ble c a)) (fun k a c slow => fitU k (a * c)) (fun k a c slow => slow) (fun k a c slow => slow) (fun k a c slow => Bool.rec (motive := fun _ => Option AV) slow (Bool.rec (motive := fun _ => Option AV) slow (some (.n k (Int.ofNat (Nat.land a c)))) (Nat.ble c (maxK k))) (Nat.ble a (maxK k))) (fun k a c slow => Bool.rec (motive := fun _ => Option AV) slow (Bool.rec (motive := fun _ => Option AV) slow (some (.n k (Int.ofNat (Nat.lor a c)))) (Nat.ble c (maxK k))) (Nat.ble a (maxK k))) (fun k a c slow => Bool.rec (motive := fun _ => Option AV) slow (Bool.rec (motive := fun _ => Option AV) slow (some (.n k (Int.ofNat (Nat.xor a c)))) (Nat.ble c (maxK k))) (Nat.ble a (maxK k))) (fun k a c slow => slow) (fun k a c slow => slow) (fun k a c slow => slow) (fun k a c slow => some (.b (Nat.beq a c))) (fun k a c slow => some (.b (not (Nat.beq a c)))) (fun k a c slow => some (.b (Nat.ble (a + 1) c))) (fun k a c slow => some (.b (Nat.ble a c))) (fun k a c slow => some (.b (Nat.ble (c + 1) a))) (fun k a c slow => some (.b (Nat.ble c a))) op k a c slow
theorem numOpV_eq (op : BinOp) (k : IntKind) (a c : Nat) (slow : Option AV) : numOpV op k a c slow = numOp op k a c slow := by cases op <;> rfl
noncomputable def shOpV (op : BinOp) (k : IntKind) (a c : Nat) (slow : Option AV) : Option AV := BinOp.rec (motive := fun _ => IntKind → Nat → Nat → Option AV → Option AV) (fun k a c slow => slow) (fun k a c slow => slow) (fun k a c slow => slow) (fun k a c slow => slow) (fun k a c slow => slow) (fun k a c slow => slow) (fun k a c slow => slow) (fun k a c slow => slow) (fun k a c slow => Bool.rec (motive := fun _ => Option AV) slow (fitU k (a * Nat.pow 2 c)) (Nat.ble c k.bits)) (fun k a c slow => Bool.rec (motive := fun _ => Option AV) slow (some (.n k (Int.ofNat (a / Nat.pow 2 c)))) (Nat.ble c k.bits)) (fun k a c slow => slow) (fun k a c slow => slow) (fun k a c slow => slow) (fun k a c slow => slow) (fun k a c slow => slow) (fun k a c slow => slow) (fun k a c slow => slow) op k a c slow
theorem shOpV_eq (op : BinOp) (k : IntKind) (a c : Nat) (slow : Option AV) : shOpV op k a c slow = shOp op k a c slow := by cases op <;> rfl
noncomputable def binPP (P : Program) (op : BinOp) (t : TypeId) (k k' : IntKind) (a c : Nat) : Option AV :=
  Bool.rec (motive := fun _ => Program → BinOp → TypeId → IntKind → IntKind → Nat → Nat → Option AV)
    (fun P op t k k' a c => Bool.rec (motive := fun _ => Option AV) (bin P op t (.n k (Int.ofNat a)) (.n k' (Int.ofNat c))) (numOpV op k a c (bin P op t (.n k (Int.ofNat a)) (.n k' (Int.ofNat c)))) (Nat.beq (tagK k) (tagK k')))
    (fun P op t k k' a c => shOpV op k a c (bin P op t (.n k (Int.ofNat a)) (.n k' (Int.ofNat c)))) (isSh op) P op t k k' a c
noncomputable def binNV (P : Program) (op : BinOp) (t : TypeId) (k : IntKind) (a : Int) (k' : IntKind) (c : Int) : Option AV :=
  Int.rec (motive := fun _ => Program → BinOp → TypeId → IntKind → IntKind → Int → Option AV)
    (fun a P op t k k' c => Int.rec (motive := fun _ => Program → BinOp → TypeId → IntKind → IntKind → Nat → Option AV) (fun c P op t k k' a => binPP P op t k k' a c) (fun c P op t k k' a => bin P op t (.n k (Int.ofNat a)) (.n k' (Int.negSucc c))) c P op t k k' a)
    (fun a P op t k k' c => binN P op t k (Int.negSucc a) k' c) a P op t k k' c
theorem binNV_eq (P : Program) (op : BinOp) (t : TypeId) (k : IntKind) (a : Int) (k' : IntKind) (c : Int) : binNV P op t k a k' c = binN P op t k a k' c := by
  cases a with
  | negSucc a => rfl
  | ofNat a => cases c with
    | negSucc c => rfl
    | ofNat c =>
      show binPP P op t k k' a c = Bool.rec (motive := fun _ => Option AV)
        (Bool.rec (motive := fun _ => Option AV) (bin P op t (.n k (Int.ofNat a)) (.n k' (Int.ofNat c))) (numOp op k a c (bin P op t (.n k (Int.ofNat a)) (.n k' (Int.ofNat c)))) (Nat.beq (tagK k) (tagK k')))
        (shOp op k a c (bin P op t (.n k (Int.ofNat a)) (.n k' (Int.ofNat c)))) (isSh op)
      unfold binPP
      cases isSh op with
      | true => exact shOpV_eq _ _ _ _ _
      | false => dsimp only; rw [numOpV_eq]
noncomputable def slowB (P : Program) (op : BinOp) (t : TypeId) (x y : AV) : Option AV := bin P op t x y
noncomputable def slowC (P : Program) (op : BinOp) (t : TypeId) (k : IntKind) (a : Int) (y : AV) : Option AV := bin P op t (.n k a) y
noncomputable def binFV (P : Program) (op : BinOp) (t : TypeId) (x y : AV) : Option AV := AV.casesOn (motive_1 := fun _ => Program → BinOp → TypeId → AV → AV → Option AV) x slowB (fun _ => slowB) (fun k a P op t _ y => AV.casesOn (motive_1 := fun _ => Program → BinOp → TypeId → IntKind → Int → AV → Option AV) y slowC (fun _ => slowC) (fun k' c P op t k a _ => binNV P op t k a k' c) (fun _ => slowC) (fun _ => slowC) (fun _ _ _ => slowC) (fun _ => slowC) (fun _ _ => slowC) slowC slowC (fun _ => slowC) (fun _ => slowC) P op t k a y) (fun _ => slowB) (fun _ => slowB) (fun _ _ _ => slowB) (fun _ => slowB) (fun _ _ => slowB) slowB slowB (fun _ => slowB) (fun _ => slowB) P op t x y
theorem binFV_eq (P : Program) (op : BinOp) (t : TypeId) (x y : AV) : binFV P op t x y = binF P op t x y := by
  cases x
  case n k a =>
    cases y
    case n k' c => exact binNV_eq P op t k a k' c
    all_goals rfl
  all_goals rfl
noncomputable def iaFV (P : Program) (t : TypeId) (n : Option Nat) (x i : AV) : Option AV :=
  Option.rec (motive := fun _ => Program → TypeId → AV → AV → Option AV) (fun P t x i => indexAd P t x i) (fun n P t x i => asLA x (indexAd P t x i) fun a len => asNA i (indexAd P t x i) fun _ j => natOfO j (indexAd P t x i) fun j =>
    bc (Nat.ble (j + 1) len) (some (.p (some ⟨a.o, a.v, a.i + j * n⟩))) none) n P t x i
theorem iaFV_eq (P : Program) (t : TypeId) (n : Option Nat) (x i : AV) : iaFV P t n x i = iaF P t n x i := by
  cases n with
  | none => rfl
  | some n =>
    show asLA x _ _ = asL x _ _
    rw [asLA_eq]
    congr 1
    funext a len
    rw [asNA_eq]
noncomputable def cvFV (P : Program) (src dst : TypeId) (k : Option IntKind) (x : AV) : Option AV :=
  Option.rec (motive := fun _ => Program → TypeId → TypeId → AV → Option AV) (fun P src dst x => convP P src dst x) (fun k P src dst x => asNA x (convP P src dst x) fun _ c => natOfO c (convP P src dst x) fun c => fitU k c) k P src dst x
theorem cvFV_eq (P : Program) (src dst : TypeId) (k : Option IntKind) (x : AV) : cvFV P src dst k x = cvF P src dst k x := by
  cases k with
  | none => rfl
  | some k => show asNA x _ _ = asN x _ _; rw [asNA_eq]
noncomputable def ncV (v : AV) : Option AV := AV.casesOn (motive_1 := fun _ => Option AV) v none (fun _ => none) (fun _ _ => none) (fun _ => none) (fun a => oc a fun a => some (.p (some a))) (fun _ _ _ => none) (fun _ => none) (fun g cs => some (.f g cs)) none none (fun _ => none) (fun _ => none)
noncomputable def faV (off : Option Nat) (a : AV) : Option AV := asPA a fun a => oc off fun o => some (.p (some (a.add o)))
noncomputable def Pq.evV (P : Program) (n : Nat) (q : Pq) (T : Tr AV) : Option AV :=
  Pq.casesOn (motive := fun _ => Program → Nat → Tr AV → Option AV) q
    (fun x P n T => Ev.evV x T)
    (fun c x y P n T => oc (Ev.evV c T) fun c => asBA c (Ev.evV x T) (Ev.evV y T))
    (fun x P n T => oc (Ev.evV x T) ncV)
    (fun op t x y P n T => oc (Ev.evV x T) fun a => oc (Ev.evV y T) fun c => binFV P op t a c)
    (fun t f off x P n T => oc (Ev.evV x T) (faV off))
    (fun t m x i P n T => oc (Ev.evV x T) fun a => oc (Ev.evV i T) fun j => iaFV P t m a j)
    (fun x i P n T => oc (Ev.evV x T) fun a => asTA a fun cs => cs[i]?)
    (fun t ps P n T => oc (evp ⟨T, n⟩ ps) fun l => buildA P t l)
    (fun op x P n T => oc (Ev.evV x T) fun a => asNA a (AV.casesOn (motive_1 := fun _ => BinOp → Option AV) a (fun _ => none) (fun i _ => pureOf (Op.unary op (.bool i))) (fun _ _ _ => none) (fun _ _ => none) (fun _ _ => none) (fun _ _ _ _ => none) (fun _ _ => none) (fun _ _ _ => none) (fun _ => none) (fun _ => none) (fun _ _ => none) (fun _ _ => none) .add) fun k i => pureOf (Op.unary op (.int k i)))
    (fun src dst k x P n T => oc (Ev.evV x T) fun a => cvFV P src dst k a)
    (fun g cs P n T => oc (evXsV T cs) fun l => some (.f g l))
    (fun t x lo hi mx P n T => oc (Ev.evV x T) fun a => oc (evo ⟨T, n⟩ lo) fun l => oc (evo ⟨T, n⟩ hi) fun h => oc (evo ⟨T, n⟩ mx) fun m => sliceA P t a l h m)
    (fun t x f P n T => oc (Ev.evV x T) fun a => fieldA P t a f)
    (fun t x i P n T => oc (Ev.evV x T) fun a => oc (Ev.evV i T) fun j => indexA P t a j)
    (fun ts xs P n T => oc (evXsV T xs) fun l => one l fun a => lenB P ts a)
    (fun mx xs P n T => oc (evXsV T xs) fun l => minmax mx l)
    (fun P n T => none) P n T
theorem Pq.evV_eq (P : Program) (n : Nat) (q : Pq) (T : Tr AV) : q.evV P n T = q.ev P n T := by
  cases q
  case mv x => exact Ev.evV_eq x T
  case pk c x y => show oc (Ev.evV c T) (fun c => asBA c (Ev.evV x T) (Ev.evV y T)) = oc (c.ev T) fun c => asB c (x.ev T) (y.ev T); simp only [Ev.evV_eq, asBA_eq]
  case nc x => show oc (Ev.evV x T) ncV = _; rw [Ev.evV_eq]; rfl
  case bn op t x y => show oc (Ev.evV x T) (fun a => oc (Ev.evV y T) fun c => binFV P op t a c) = oc (x.ev T) fun a => oc (y.ev T) fun c => binF P op t a c; simp only [Ev.evV_eq, binFV_eq]
  case fa t f off x => show oc (Ev.evV x T) (faV off) = oc (x.ev T) fun a => asP a fun a => oc off fun o => some (.p (some (a.add o))); rw [Ev.evV_eq]; congr 1; funext a; exact asPA_eq _ _
  case ia t m x i => show oc (Ev.evV x T) (fun a => oc (Ev.evV i T) fun j => iaFV P t m a j) = oc (x.ev T) fun a => oc (i.ev T) fun j => iaF P t m a j; simp only [Ev.evV_eq, iaFV_eq]
  case ex x i => show oc (Ev.evV x T) (fun a => asTA a fun cs => cs[i]?) = oc (x.ev T) fun a => asT a fun cs => cs[i]?; simp only [Ev.evV_eq, asTA_eq]
  case bd t ps => rfl
  case un op x =>
    show oc (Ev.evV x T) _ = oc (x.ev T) _
    rw [Ev.evV_eq]; congr 1; funext a
    rw [asNA_eq]
    cases a <;> rfl
  case cv src dst k x => show oc (Ev.evV x T) (fun a => cvFV P src dst k a) = oc (x.ev T) fun a => cvF P src dst k a; simp only [Ev.evV_eq, cvFV_eq]
  case mf g cs => show oc (evXsV T cs) _ = oc (evXs T cs) _; rw [evXsV_eq]
  case sl t x lo hi mx => show oc (Ev.evV x T) _ = oc (x.ev T) _; rw [Ev.evV_eq]
  case fl t x f => show oc (Ev.evV x T) _ = oc (x.ev T) _; rw [Ev.evV_eq]
  case ix t x i => show oc (Ev.evV x T) (fun a => oc (Ev.evV i T) fun j => indexA P t a j) = oc (x.ev T) fun a => oc (i.ev T) fun j => indexA P t a j; simp only [Ev.evV_eq]
  case ln ts xs => show oc (evXsV T xs) _ = oc (evXs T xs) _; rw [evXsV_eq]
  case mm mx xs => show oc (evXsV T xs) _ = oc (evXs T xs) _; rw [evXsV_eq]
  case no => rfl
noncomputable def ldV (H : AH) (k : Option (Option Nat)) (a : Pl) : Option AV :=
  oc k fun k => Option.rec (motive := fun _ => AH → Pl → Option AV) (fun H a => readF H a 0) (fun n H a => oc (readsF H a n 0) fun cs => some (.agg cs)) k H a
noncomputable def Rq.evV (P : Program) (q : Rq) (T : Tr AV) (H : AH) : Option AV :=
  Rq.casesOn (motive := fun _ => Program → Tr AV → AH → Option AV) q
    (fun k x P T H => oc (Ev.evV x T) fun a => asPA a (ldV H k))
    (fun src dst x P T H => oc (Ev.evV x T) fun a => convRF P H src dst a)
    (fun t x i ok P T H => oc (Ev.evV x T) fun a => oc (Ev.evV i T) fun k => lookA P H t a k ok)
    (fun ts xs P T H => oc (evXsV T xs) fun l => one l fun a => mlenA P H ts a)
    (fun P T H => none) P T H
theorem Rq.evV_eq (P : Program) (q : Rq) (T : Tr AV) (H : AH) : q.evV P T H = q.ev P T H := by
  cases q
  case ld k x =>
    show oc (Ev.evV x T) (fun a => asPA a (ldV H k)) = oc (x.ev T) fun a => asP a fun a => oc k fun k => Option.rec (motive := fun _ => Option AV) (readF H a 0) (fun n => oc (readsF H a n 0) fun cs => some (.agg cs)) k
    rw [Ev.evV_eq]; congr 1; funext a; rw [asPA_eq]; congr 1; funext a
    unfold ldV
    cases k with
    | none => rfl
    | some k => cases k <;> rfl
  case cv src dst x => show oc (Ev.evV x T) _ = oc (x.ev T) _; rw [Ev.evV_eq]
  case lk t x i ok => show oc (Ev.evV x T) (fun a => oc (Ev.evV i T) fun k => lookA P H t a k ok) = oc (x.ev T) fun a => oc (i.ev T) fun k => lookA P H t a k ok; simp only [Ev.evV_eq]
  case ml ts xs => show oc (evXsV T xs) _ = oc (evXs T xs) _; rw [evXsV_eq]
  case no => rfl
noncomputable def Aq.evV (P : Program) (n : Nat) (q : Aq) (T : Tr AV) : Option Mk :=
  Aq.casesOn (motive := fun _ => Program → Nat → Tr AV → Option Mk) q
    (fun e P n T => oc (zero P e) fun z => some ⟨z.cells, 0, fun a => .p (some a)⟩)
    (fun x P n T => oc (Ev.evV x T) fun v => bc (v.cells.all oneCell) (some ⟨v.cells, 0, fun a => .p (some a)⟩) none)
    (fun t m ps P n T => oc (evp ⟨T, n⟩ ps) fun l => buildSl P t m l)
    (fun t l c P n T => oc (Ev.evV l T) fun a => oc (Ev.evV c T) fun b => makeSl P t a b)
    (fun src dst x P n T => oc (Ev.evV x T) fun a => convA P src dst a)
    (fun P n T => none) P n T
theorem Aq.evV_eq (P : Program) (n : Nat) (q : Aq) (T : Tr AV) : q.evV P n T = q.ev P n T := by
  cases q
  case bx x => show oc (Ev.evV x T) _ = oc (x.ev T) _; rw [Ev.evV_eq]
  case ms t l c => show oc (Ev.evV l T) (fun a => oc (Ev.evV c T) fun b => makeSl P t a b) = oc (l.ev T) fun a => oc (c.ev T) fun b => makeSl P t a b; simp only [Ev.evV_eq]
  case cv src dst x => show oc (Ev.evV x T) _ = oc (x.ev T) _; rw [Ev.evV_eq]
  all_goals rfl
noncomputable def Wq.runV (P : Program) (n : Nat) (q : Wq) (T : Tr AV) (H : AH) (k : AV → AH → Option Bt) : Option Bt :=
  Wq.casesOn (motive := fun _ => Program → Nat → Tr AV → AH → (AV → AH → Option Bt) → Option Bt) q
    (fun m x y P n T H k => oc (Ev.evV x T) fun a => asPB a fun a => oc (Ev.evV y T) fun v => oc (storeF m H a v) fun H' => k .undef H')
    (fun size kd s x P n T H k => oc (Ev.evV s T) fun a => oc (Ev.evV x T) fun b => oc (apF size kd a b H) fun q => Prod.casesOn (motive := fun _ => (AV → AH → Option Bt) → Option Bt) q (fun v H k => k v H) k)
    (fun o P n T H k => oc (opW P ⟨T, n⟩ H o) fun q => Prod.casesOn (motive := fun _ => (AV → AH → Option Bt) → Option Bt) q (fun v H k => k v H) k) P n T H k
theorem Wq.runV_eq (P : Program) (n : Nat) (q : Wq) (T : Tr AV) (H : AH) (k : AV → AH → Option Bt) : q.runV P n T H k = q.run P n T H k := by
  cases q
  case st m x y => show oc (Ev.evV x T) (fun a => asPB a fun a => oc (Ev.evV y T) fun v => oc (storeF m H a v) fun H' => k .undef H') = oc (x.ev T) fun a => asP a fun a => oc (y.ev T) fun v => oc (storeF m H a v) fun H' => k .undef H'; simp only [Ev.evV_eq, asPB_eq]
  case ap size kd s x => show oc (Ev.evV s T) (fun a => oc (Ev.evV x T) fun b => oc (apF size kd a b H) fun q => Prod.casesOn (motive := fun _ => Option Bt) q k) = oc (s.ev T) fun a => oc (x.ev T) fun b => oc (apF size kd a b H) fun q => Prod.casesOn (motive := fun _ => Option Bt) q k; simp only [Ev.evV_eq]
  case g o => rfl
noncomputable def putV (d : Option Pa) (v : AV) (T : Tr AV) : Tr AV := Option.rec (motive := fun _ => AV → Tr AV → Tr AV) (fun _ T => T) (fun p v T => spV v p T) d v T
theorem putV_eq (d : Option Pa) (v : AV) (T : Tr AV) : putV d v T = putX d v T := by
  cases d with
  | none => rfl
  | some p => exact spV_eq v p T
abbrev KO := Tr AV → AH → Option Bt
noncomputable def In.runV (P : Program) (cf : CF) (n : Nat) (i : In) (T : Tr AV) (H : AH) (k : KO) : Option Bt :=
  In.rec (motive := fun _ => Program → CF → Nat → Tr AV → AH → KO → Option Bt)
    (fun d q P cf n T H k => oc (q.evV P n T) fun v => k (putV d v T) H)
    (fun d q P cf n T H k => oc (q.evV P T H) fun v => k (putV d v T) H)
    (fun d q P cf n T H k => oc (q.evV P n T) fun m => Mk.casesOn (motive := fun _ => Option Pa → Tr AV → AH → KO → Option Bt) m (fun cs z val d T H k => bc (okNew H cs) (k (putV d (val ⟨H.next, cs.length, 0⟩) T) (newF H cs z)) none) d T H k)
    (fun d q P cf n T H k => q.runV P n T H fun v H' => k (putV d v T) H')
    (fun d f l P cf n T H k => oc (evXsV T l) fun l => oc (Ev.evV f T) fun f => asFB f fun g cs => oc (cf g (l ++ cs) H) fun q => Prod.casesOn (motive := fun _ => Option Pa → Tr AV → KO → Option Bt) q (fun v H' d T k => k (putV d v T) H') d T k)
    (fun g want d i ih P cf n T H k => asGB (slotV T g) (bc want (ih P cf n T H k) (k (putV d (.tup []) T) H)) (bc want (k (putV d (.tup []) T) H) (ih P cf n T H k)) (k (putV d (.tup []) T) H))
    (fun P cf n T H k => none) i P cf n T H k
theorem In.runV_eq (P : Program) (cf : CF) (n : Nat) : ∀ (i : In) (T : Tr AV) (H : AH) (k : KO), i.runV P cf n T H k = i.run P cf n T H k
  | .p d q, T, H, k => by show oc (q.evV P n T) (fun v => k (putV d v T) H) = oc (q.ev P n T) fun v => k (putX d v T) H; simp only [Pq.evV_eq, putV_eq]
  | .r d q, T, H, k => by show oc (q.evV P T H) (fun v => k (putV d v T) H) = oc (q.ev P T H) fun v => k (putX d v T) H; simp only [Rq.evV_eq, putV_eq]
  | .a d q, T, H, k => by
    show oc (q.evV P n T) (fun m => Mk.casesOn (motive := fun _ => Option Pa → Tr AV → AH → KO → Option Bt) m (fun cs z val d T H k => bc (okNew H cs) (k (putV d (val ⟨H.next, cs.length, 0⟩) T) (newF H cs z)) none) d T H k) = oc (q.ev P n T) fun m => Mk.casesOn (motive := fun _ => Option Bt) m fun cs z val => bc (okNew H cs) (k (putX d (val ⟨H.next, cs.length, 0⟩) T) (newF H cs z)) none
    rw [Aq.evV_eq]; congr 1; funext m; obtain ⟨cs, z, val⟩ := m
    show bc (okNew H cs) (k (putV d (val ⟨H.next, cs.length, 0⟩) T) (newF H cs z)) none = _
    rw [putV_eq]
  | .w d q, T, H, k => by show q.runV P n T H (fun v H' => k (putV d v T) H') = q.run P n T H fun v H' => k (putX d v T) H'; simp only [Wq.runV_eq, putV_eq]
  | .c d f l, T, H, k => by
    show oc (evXsV T l) (fun l => oc (Ev.evV f T) fun f => asFB f fun g cs => oc (cf g (l ++ cs) H) fun q => Prod.casesOn (motive := fun _ => Option Pa → Tr AV → KO → Option Bt) q (fun v H' d T k => k (putV d v T) H') d T k) = oc (evXs T l) fun l => oc (f.ev T) fun f => asF f fun g cs => oc (cf g (l ++ cs) H) fun q => Prod.casesOn (motive := fun _ => Option Bt) q fun v H' => k (putX d v T) H'
    simp only [evXsV_eq, Ev.evV_eq, asFB_eq, putV_eq]
  | .gd g want d i, T, H, k => by
    show asGB (slotV T g) (bc want (i.runV P cf n T H k) (k (putV d (.tup []) T) H)) (bc want (k (putV d (.tup []) T) H) (i.runV P cf n T H k)) (k (putV d (.tup []) T) H) = asG (slot T g) (bc want (i.run P cf n T H k) (k (putX d (.tup []) T) H)) (bc want (k (putX d (.tup []) T) H) (i.run P cf n T H k)) (k (putX d (.tup []) T) H)
    rw [asGB_eq, In.runV_eq P cf n i, putV_eq]; rfl
  | .no, T, H, k => rfl
noncomputable def runLV (P : Program) (cf : CF) (n : Nat) (l : List In) (T : Tr AV) (H : AH) (k : KO) : Option Bt :=
  List.rec (motive := fun _ => Program → CF → Nat → Tr AV → AH → KO → Option Bt) (fun P cf n T H k => k T H) (fun i _ ih P cf n T H k => i.runV P cf n T H fun T' H' => ih P cf n T' H' k) l P cf n T H k
theorem runLV_eq (P : Program) (cf : CF) (n : Nat) : ∀ (l : List In) (T : Tr AV) (H : AH) (k : KO), runLV P cf n l T H k = runL P cf n l T H k
  | [], T, H, k => rfl
  | i :: l, T, H, k => by
    show i.runV P cf n T H (fun T' H' => runLV P cf n l T' H' k) = i.run P cf n T H fun T' H' => runL P cf n l T' H' k
    rw [In.runV_eq]; congr 1; funext T' H'; exact runLV_eq P cf n l T' H' k
noncomputable def drawV (P : Program) (cf : CF) (n : Nat) (ok : Bool) (l : List In) (m : Nat) (rs : List Rd) (T : Tr AV) (H : AH) (kn : KO) : Option Bt :=
  bc ok (oc (statesX P cf n l T H) fun st => bc (allL (rdOk P st) rs) (oc (nth st m) fun s => kn s.1 s.2) none) none
abbrev KX := Nat → Tr AV → AH → Option Bt
noncomputable def Cd.runV (P : Program) (cf : CF) (n L : Nat) (c : Cd) (T : Tr AV) (H : AH) (kn : KO) (kx : KX) (kr : KO) : Option Bt :=
  Cd.rec (motive := fun _ => Program → CF → Nat → Nat → Tr AV → AH → KO → KX → KO → Option Bt)
    (fun P cf n L T H kn kx kr => kn T H)
    (fun l P cf n L T H kn kx kr => runLV P cf n l T H kn)
    (fun ok l m rs P cf n L T H kn kx kr => drawV P cf n ok l m rs T H kn)
    (fun _ _ ia ib P cf n L T H kn kx kr => ia P cf n L T H (fun T H => ib P cf n L T H kn kx kr) kx kr)
    (fun c _ _ ia ib P cf n L T H kn kx kr => oc (Ev.evV c T) fun v => asBB v (ia P cf n L T H kn kx kr) (ib P cf n L T H kn kx kr))
    (fun id _ ib P cf n L T H kn kx kr => ib P cf n L T H kn (fun i T H => bc (Nat.beq i id) (kn T H) (kx i T H)) kr)
    (fun _ ib P cf n L T H kn kx kr => Nat.rec (motive := fun _ => KO) (fun _ _ => none) (fun _ ih T H => ib P cf n L T H ih kx kr) L T H)
    (fun id P cf n L T H kn kx kr => kx id T H)
    (fun P cf n L T H kn kx kr => kr T H)
    (fun P cf n L T H kn kx kr => none) c P cf n L T H kn kx kr
theorem Cd.runV_eq (P : Program) (cf : CF) (n L : Nat) : ∀ (c : Cd) (T : Tr AV) (H : AH) (kn : KO) (kx : KX) (kr : KO), c.runV P cf n L T H kn kx kr = c.run P cf n L T H kn kx kr
  | .skip, T, H, kn, kx, kr => rfl
  | .ops l, T, H, kn, kx, kr => runLV_eq P cf n l T H kn
  | .draw ok l m rs, T, H, kn, kx, kr => rfl
  | .seq a b, T, H, kn, kx, kr => by
    show a.runV P cf n L T H (fun T H => b.runV P cf n L T H kn kx kr) kx kr = a.run P cf n L T H (fun T H => b.run P cf n L T H kn kx kr) kx kr
    rw [Cd.runV_eq P cf n L a]; congr 1; funext T H; exact Cd.runV_eq P cf n L b T H kn kx kr
  | .cond c a b, T, H, kn, kx, kr => by
    show oc (Ev.evV c T) (fun v => asBB v (a.runV P cf n L T H kn kx kr) (b.runV P cf n L T H kn kx kr)) = oc (c.ev T) fun v => asB v (a.run P cf n L T H kn kx kr) (b.run P cf n L T H kn kx kr)
    rw [Ev.evV_eq, Cd.runV_eq P cf n L a, Cd.runV_eq P cf n L b]; congr 1; funext v; exact asBB_eq _ _ _
  | .block id b, T, H, kn, kx, kr => Cd.runV_eq P cf n L b T H _ _ _
  | .loop b, T, H, kn, kx, kr => by
    have : ∀ (f : Nat) (T : Tr AV) (H : AH), Nat.rec (motive := fun _ => KO) (fun _ _ => none) (fun _ ih T H => b.runV P cf n L T H ih kx kr) f T H = Nat.rec (motive := fun _ => KO) (fun _ _ => none) (fun _ ih T H => b.run P cf n L T H ih kx kr) f T H := by
      intro f
      induction f with
      | zero => intro T H; rfl
      | succ f ih =>
        intro T H
        show b.runV P cf n L T H (Nat.rec (motive := fun _ => KO) (fun _ _ => none) (fun _ ih T H => b.runV P cf n L T H ih kx kr) f) kx kr = b.run P cf n L T H (Nat.rec (motive := fun _ => KO) (fun _ _ => none) (fun _ ih T H => b.run P cf n L T H ih kx kr) f) kx kr
        rw [Cd.runV_eq P cf n L b]; congr 1; funext T H; exact ih T H
    exact this L T H
  | .exit id, T, H, kn, kx, kr => rfl
  | .ret, T, H, kn, kx, kr => rfl
  | .bad, T, H, kn, kx, kr => rfl
noncomputable def backV (rs : List Rv) (T : Tr AV) (H : AH) : Option Bt := oc (resX T H rs) fun vs => some (single vs, H)
noncomputable def stepV (P : Program) (L : Nat) (cf : CF) (g : Nat) (l : List AV) (H : AH) : Option Bt :=
  oc (fc P g) fun f => Fc.casesOn (motive := fun _ => Program → Nat → CF → List AV → AH → Option Bt) f (fun n c rs P L cf l H => bc (Nat.ble l.length n)
    (c.runV P cf n L (setFromF l .nil 0) H (backV rs) (fun _ _ _ => none) (backV rs)) none) P L cf l H
theorem stepV_eq (P : Program) (L : Nat) (cf : CF) (g : Nat) (l : List AV) (H : AH) : stepV P L cf g l H = stepX P L cf g l H := by
  unfold stepV stepX
  congr 1
  funext f
  obtain ⟨n, c, rs⟩ := f
  show bc _ (c.runV P cf n L _ H _ _ _) none = bc _ (c.run P cf n L _ H _ _ _) none
  rw [Cd.runV_eq]; rfl
noncomputable def callV (P : Program) (O : CF) (L d : Nat) : CF := Nat.rec (motive := fun _ => CF) O (fun _ ih => overX O (stepV P L ih)) d
theorem callV_eq (P : Program) (O : CF) (L : Nat) : ∀ d, callV P O L d = callX P O L d
  | 0 => rfl
  | d + 1 => by
    show overX O (stepV P L (callV P O L d)) = overX O (stepX P L (callX P O L d))
    rw [callV_eq P O L d]
    congr 1
    funext g l H
    exact stepV_eq P L _ g l H
end Go.Proofs.YtpmonnofmnncjaaGreatDoor.Ev
