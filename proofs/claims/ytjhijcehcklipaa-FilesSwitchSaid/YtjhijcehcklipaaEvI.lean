/-
  The swift form, its texts: what a compiled text tells the second reading tells.
-/
import Derived.Test.YtjhijcehcklipaaEvG
set_option linter.unusedVariables false
set_option linter.unusedSimpArgs false
namespace Go.Proofs.Ytjhijcehcklipaa.Ev

noncomputable def oc {α β : Type} (x : Option α) (k : α → Option β) : Option β := Option.rec (motive := fun _ => Option β) none k x
theorem oc_map {α β : Type} (x : Option α) (f : α → β) : oc x (fun a => some (f a)) = x.map f := by cases x <;> rfl
noncomputable def bc {β : Type} (c : Bool) (x y : β) : β := Bool.rec (motive := fun _ => β) y x c
/-- A pointer's place. -/
noncomputable def asP {β : Type} (v : AV) (k : Pl → Option β) : Option β :=
  AV.casesOn (motive_1 := fun _ => Option β) v none (fun _ => none) (fun _ _ => none) (fun _ => none) (fun a => oc a k) (fun _ _ _ => none) (fun _ => none) (fun _ _ => none) none none (fun _ => none) (fun _ => none) (fun _ _ => none) (fun _ _ => none) (fun _ _ => none)
noncomputable def asB {β : Type} (v : AV) (x y : Option β) : Option β :=
  AV.casesOn (motive_1 := fun _ => Option β) v none (fun b => bc b x y) (fun _ _ => none) (fun _ => none) (fun _ => none) (fun _ _ _ => none) (fun _ => none) (fun _ _ => none) none none (fun _ => none) (fun _ => none) (fun _ _ => none) (fun _ _ => none) (fun _ _ => none)
noncomputable def asF {β : Type} (v : AV) (as : List AV) (k : Nat → List AV → Option β) : Option β :=
  AV.casesOn (motive_1 := fun _ => Option β) v none (fun _ => none) (fun _ _ => none) (fun _ => none) (fun _ => none) (fun _ _ _ => none) (fun _ => none) (fun g cs => k g (as ++ cs)) none none (fun _ => none) (fun _ => none) (fun _ _ => none) (fun g fs => k g (fs ++ as)) (fun _ _ => none)
noncomputable def asT {β : Type} (v : AV) (k : List AV → Option β) : Option β :=
  AV.casesOn (motive_1 := fun _ => Option β) v none (fun _ => none) (fun _ _ => none) (fun _ => none) (fun _ => none) (fun _ _ _ => none) (fun _ => none) (fun _ _ => none) none none (fun _ => none) k (fun _ _ => none) (fun _ _ => none) (fun _ _ => none)
noncomputable def asN {β : Type} (v : AV) (slow : Option β) (k : IntKind → Int → Option β) : Option β :=
  AV.casesOn (motive_1 := fun _ => Option β) v slow (fun _ => slow) k (fun _ => slow) (fun _ => slow) (fun _ _ _ => slow) (fun _ => slow) (fun _ _ => slow) slow slow (fun _ => slow) (fun _ => slow) (fun _ _ => slow) (fun _ _ => slow) (fun _ _ => slow)
noncomputable def asL {β : Type} (v : AV) (slow : Option β) (k : Pl → Nat → Option β) : Option β :=
  AV.casesOn (motive_1 := fun _ => Option β) v slow (fun _ => slow) (fun _ _ => slow) (fun _ => slow) (fun _ => slow) (fun a n _ => Option.rec (motive := fun _ => Option β) slow (fun a => k a n) a) (fun _ => slow) (fun _ _ => slow) slow slow (fun _ => slow) (fun _ => slow) (fun _ _ => slow) (fun _ _ => slow) (fun _ _ => slow)
/-- What a guard tells: true, false, nothing. -/
noncomputable def asG {β : Type} (v : AV) (x y z : Option β) : Option β :=
  AV.casesOn (motive_1 := fun _ => Option β) v none (fun b => bc b x y) (fun _ _ => none) (fun _ => none) (fun _ => none) (fun _ _ _ => none) (fun _ => none) (fun _ _ => none) none none (fun _ => none) (fun cs => List.casesOn (motive := fun _ => Option β) cs z (fun _ _ => none)) (fun _ _ => none) (fun _ _ => none) (fun _ _ => none)
noncomputable def natOfO {β : Type} (a : Int) (slow : Option β) (k : Nat → Option β) : Option β := Int.rec (motive := fun _ => Option β) k (fun _ => slow) a

/-- Plain operations. -/
inductive Pq where
  | mv (x : Xo)
  | pk (c x y : Xo)
  | nc (x : Xo)
  | bn (l : Bool) (op : BinOp) (t : TypeId) (x y : Xo)
  | fa (t : TypeId) (f : Nat) (off : Option Nat) (x : Xo)
  | ia (t : TypeId) (n : Option Nat) (x i : Xo)
  | ex (x : Xo) (i : Nat)
  | bd (t : TypeId) (ps : List (Nat × Operand))
  | un (op : UnOp) (x : Xo)
  | cv (src dst : TypeId) (k : Option IntKind) (x : Xo)
  | mf (g : Nat) (cs : List Xo)
  | sl (t : TypeId) (x : Xo) (lo hi mx : Option Operand)
  | fl (t : TypeId) (x : Xo) (f : Nat)
  | ix (t : TypeId) (x i : Xo)
  | ln (ts : Array TypeId) (xs : List Xo)
  | mm (mx : Bool) (xs : List Xo)
  | no
  | mi (t : TypeId) (x : Xo)
  | mb (g : Nat) (fs : List Xo)
  | mt (name : String) (fs : List Xo)
section
variable (P : Program)
def offOf (s : TypeId) (f : Nat) : Option Nat := match P.underlying s with
  | some (.struct fs) => match fs[f]? with
    | some fd => match sz P fd.type with
      | some n => if n = 0 then none else some fd.offset
      | none => none
    | none => none
  | _ => none
theorem offOf_eq (s : TypeId) (f : Nat) (a : AV) : asP a (fun a => oc (offOf P s f) fun o => some (.p (some (a.add o)))) = fieldAd P s a f := by
  unfold offOf fieldAd
  cases a with
  | p a =>
    cases a with
    | none => cases P.underlying s with
      | none => rfl
      | some d => cases d <;> rfl
    | some a =>
      show oc _ _ = _
      cases P.underlying s with
      | none => rfl
      | some d =>
        cases d
        case struct fs =>
          dsimp only
          cases fs[f]? with
          | none => rfl
          | some fd =>
            dsimp only
            cases sz P fd.type with
            | none => rfl
            | some n =>
              dsimp only
              by_cases h : n = 0
              · rw [if_pos h, if_pos h]; rfl
              · rw [if_neg h, if_neg h]; rfl
        all_goals rfl
  | _ => cases P.underlying s with
    | none => rfl
    | some d => cases d <;> rfl
def slOf (t : TypeId) : Option Nat := match P.underlying t with
  | some (.slice e) => sz P e
  | _ => none
noncomputable def iaF (t : TypeId) (n : Option Nat) (x i : AV) : Option AV :=
  Option.rec (motive := fun _ => Option AV) (indexAd P t x i) (fun n => asL x (indexAd P t x i) fun a len => asN i (indexAd P t x i) fun _ j => natOfO j (indexAd P t x i) fun j =>
    bc (Nat.ble (j + 1) len) (some (.p (some ⟨a.o, a.v, a.i + j * n⟩))) none) n
theorem iaF_eq (t : TypeId) (x i : AV) : iaF P t (slOf P t) x i = indexAd P t x i := by
  unfold iaF
  cases h : slOf P t with
  | none => rfl
  | some n =>
    dsimp only
    unfold asL
    cases x
    case l a len c =>
      cases a with
      | none => rfl
      | some a =>
        dsimp only
        unfold asN
        cases i
        case n k j =>
          dsimp only
          unfold natOfO
          cases j with
          | negSucc j => rfl
          | ofNat j =>
            dsimp only
            unfold slOf at h
            unfold indexAd
            split at h
            · rename_i e he
              rw [he]; dsimp only; rw [h]; dsimp only
              unfold bc
              cases hb : Nat.ble (j + 1) len with
              | true => have := ble_iff.1 hb; rw [if_pos (by show (0 : Int) ≤ (j : Int) ∧ (j : Int) < (len : Int); omega)]; rfl
              | false =>
                have : ¬ (j + 1 ≤ len) := fun q => by rw [ble_iff.2 q] at hb; cases hb
                rw [if_neg (by show ¬ ((0 : Int) ≤ (j : Int) ∧ (j : Int) < (len : Int)); omega)]
            · cases h
        all_goals rfl
    all_goals rfl
/-- A text as one number: its bytes are read off it. -/
noncomputable def encB (l : List Nat) : Nat := List.rec (motive := fun _ => Nat) 0 (fun x _ ih => x + 256 * ih) l
noncomputable def allB (l : List Nat) : Bool := List.rec (motive := fun _ => Bool) true (fun x _ ih => bc (Nat.blt x 256) ih false) l
theorem encB_at : ∀ (l : List Nat) (j : Nat), allB l = true → j < l.length → l[j]? = some (Nat.shiftRight (encB l) (8 * j) % 256)
  | [], j, _, h => by simp at h
  | x :: l, j, ha, h => by
    change bc (Nat.blt x 256) (allB l) false = true at ha
    cases hx : Nat.blt x 256 with
    | false => rw [hx] at ha; cases ha
    | true =>
      rw [hx] at ha
      have hx' : x < 256 := by rw [Nat.blt_eq] at hx; exact hx
      have e : encB (x :: l) = x + 256 * encB l := rfl
      cases j with
      | zero =>
        rw [e]
        show some x = some ((x + 256 * encB l) % 256)
        congr 1; omega
      | succ j =>
        rw [List.getElem?_cons_succ, encB_at l j ha (by simpa using h), e]
        show some ((encB l >>> (8 * j)) % 256) = some (((x + 256 * encB l) >>> (8 * (j + 1))) % 256)
        rw [Nat.shiftRight_eq_div_pow, Nat.shiftRight_eq_div_pow, show 8 * (j + 1) = 8 + 8 * j by omega, Nat.pow_add, ← Nat.div_div_eq_div_mul, show (x + 256 * encB l) / 2 ^ 8 = encB l by omega]
noncomputable def ixF (t : TypeId) (x i : AV) : Option AV := match x with
  | .s l => match i with
    | .n _ (.ofNat j) => match P.underlying t with
      | some .string => bc (allB l) (bc (Nat.blt j l.length) (some (.n .u8 (.ofNat (Nat.shiftRight (encB l) (8 * j) % 256)))) none) (indexA P t x i)
      | _ => indexA P t x i
    | _ => indexA P t x i
  | _ => indexA P t x i
theorem ixF_eq (t : TypeId) (x i : AV) : ixF P t x i = indexA P t x i := by
  unfold ixF
  split
  · rename_i l
    split
    · rename_i k j
      split
      · rename_i hu
        cases ha : allB l with
        | false => rfl
        | true =>
          show bc (Nat.blt j l.length) _ none = _
          unfold indexA
          rw [hu]
          show _ = if 0 ≤ Int.ofNat j then (l[(Int.ofNat j).toNat]?).map (fun (c : Nat) => AV.n .u8 (c : Int)) else none
          rw [if_pos (show 0 ≤ Int.ofNat j from Int.natCast_nonneg j), show (Int.ofNat j).toNat = j from rfl]
          cases hb : Nat.blt j l.length with
          | true =>
            rw [Nat.blt_eq] at hb
            rw [encB_at l j ha hb]; rfl
          | false =>
            have : ¬ j < l.length := fun q => by rw [← Nat.blt_eq] at q; rw [q] at hb; cases hb
            rw [List.getElem?_eq_none (by omega)]; rfl
      · rfl
    · rfl
  · rfl
def convK (src dst : TypeId) : Option IntKind := match P.underlying src, P.underlying dst with
  | some _, some (.int k) => some k
  | _, _ => none
noncomputable def cvF (src dst : TypeId) (k : Option IntKind) (x : AV) : Option AV :=
  Option.rec (motive := fun _ => Option AV) (convP P src dst x) (fun k => asN x (convP P src dst x) fun _ c => natOfO c (convP P src dst x) fun c => fitU k c) k
theorem cvF_eq (src dst : TypeId) (x : AV) : cvF P src dst (convK P src dst) x = convP P src dst x := by
  unfold cvF
  cases h : convK P src dst with
  | none => rfl
  | some k =>
    dsimp only
    unfold asN
    cases x
    case n k0 c =>
      dsimp only
      unfold natOfO
      cases c with
      | negSucc c => rfl
      | ofNat c =>
        dsimp only
        unfold convK at h
        split at h
        · rename_i d k' h1 h2
          obtain rfl := Option.some.inj h
          unfold convP
          rw [h1, h2]; dsimp only
          rw [fitU_eq]; rfl
        · cases h
    all_goals rfl
def pl : Op → Pq
  | .move x => .mv (xo x)
  | .assign x => .mv (xo x)
  | .pick c x y => .pk (xo c) (xo x) (xo y)
  | .build t ps => .bd t ps.toList
  | .nilCheck x => .nc (xo x)
  | .binOp op t x y _ => .bn (isK x || isK y) op t (xo x) (xo y)
  | .makeInterface t x => .mi t (xo x)
  | .unOp op _ x => .un op (xo x)
  | .convert src dst x => .cv src dst (convK P src dst) (xo x)
  | .makeFunc (.method name) fst cs => if cs.size = 0 then .mt name (fst.toList.map xo) else .no
  | .makeFunc (.func g) fst cs => if fst.size = 0 then .mf g (cs.toList.map xo) else if cs.size = 0 then .mb g (fst.toList.map xo) else .no
  | .slice t x lo hi mx => .sl t (xo x) lo hi mx
  | .fieldAddr t x f => .fa t f (offOf P t f) (xo x)
  | .field t x f => .fl t (xo x) f
  | .indexAddr t x i => .ia t (slOf P t) (xo x) (xo i)
  | .index t x i => .ix t (xo x) (xo i)
  | .extract x i => .ex (xo x) i
  | .call c => match c.callee with
    | .builtin .len => .ln c.argTypes (c.args.toList.map xo)
    | .builtin .min => .mm false (c.args.toList.map xo)
    | .builtin .max => .mm true (c.args.toList.map xo)
    | _ => .no
  | _ => .no
noncomputable def one {β : Type} (l : List AV) (k : AV → Option β) : Option β := List.casesOn (motive := fun _ => Option β) l none fun a r => List.casesOn (motive := fun _ => Option β) r (k a) fun _ _ => none
noncomputable def Pq.ev (n : Nat) (q : Pq) (T : Tr AV) : Option AV :=
  Pq.casesOn (motive := fun _ => Option AV) q
    (fun x => x.ev T)
    (fun c x y => oc (c.ev T) fun c => asB c (x.ev T) (y.ev T))
    (fun x => oc (x.ev T) fun v => AV.casesOn (motive_1 := fun _ => Option AV) v none (fun _ => none) (fun _ _ => none) (fun _ => none) (fun a => oc a fun a => some (.p (some a))) (fun _ _ _ => none) (fun _ => none) (fun g cs => some (.f g cs)) none none (fun _ => none) (fun _ => none) (fun t a => some (.i t a)) (fun g cs => some (.fb g cs)) (fun _ _ => none))
    (fun l op t x y => oc (x.ev T) fun a => oc (y.ev T) fun c => binF P l op t a c)
    (fun t f off x => oc (x.ev T) fun a => asP a fun a => oc off fun o => some (.p (some (a.add o))))
    (fun t n x i => oc (x.ev T) fun a => oc (i.ev T) fun j => iaF P t n a j)
    (fun x i => oc (x.ev T) fun a => asT a fun cs => cs[i]?)
    (fun t ps => oc (evp ⟨T, n⟩ ps) fun as => buildA P t as)
    (fun op x => oc (x.ev T) fun a => asN a (AV.casesOn (motive_1 := fun _ => Option AV) a none (fun i => pureOf (Op.unary op (.bool i))) (fun _ _ => none) (fun _ => none) (fun _ => none) (fun _ _ _ => none) (fun _ => none) (fun _ _ => none) none none (fun _ => none) (fun _ => none) (fun _ _ => none) (fun _ _ => none) (fun _ _ => none)) fun k i => pureOf (Op.unary op (.int k i)))
    (fun src dst k x => oc (x.ev T) fun a => cvF P src dst k a)
    (fun g cs => oc (evXs T cs) fun as => some (.f g as))
    (fun t x lo hi mx => oc (x.ev T) fun a => oc (evo ⟨T, n⟩ lo) fun l => oc (evo ⟨T, n⟩ hi) fun h => oc (evo ⟨T, n⟩ mx) fun m => sliceA P t a l h m)
    (fun t x f => oc (x.ev T) fun a => fieldA P t a f)
    (fun t x i => oc (x.ev T) fun a => oc (i.ev T) fun j => ixF P t a j)
    (fun ts xs => oc (evXs T xs) fun as => one as fun a => lenB P ts a)
    (fun mx xs => oc (evXs T xs) fun as => minmax mx as)
    none
    (fun t x => oc (x.ev T) fun a => mkIf P t a)
    (fun g fs => oc (evXs T fs) fun as => some (.fb g as))
    (fun name fs => oc (evXs T fs) fun as => methF name as)
theorem pl_ev (T : Fr) (o : Op) : (pl P o).ev P T.n T.t = opP P T o := by
  cases o
  case move x => exact xo_ev T x
  case assign x => exact xo_ev T x
  case pick c x y =>
    show oc ((xo c).ev T.t) (fun c => asB c ((xo x).ev T.t) ((xo y).ev T.t)) = _
    rw [xo_ev, xo_ev, xo_ev, opP]
    cases ev T c with
    | none => rfl
    | some v => cases v with
      | b b => cases b <;> rfl
      | _ => rfl
  case build t ps =>
    show oc (evp T ps.toList) (fun as => buildA P t as) = _
    rw [opP]; cases evp T ps.toList <;> rfl
  case nilCheck x =>
    show oc ((xo x).ev T.t) _ = _
    rw [xo_ev, opP]
    cases ev T x with
    | none => rfl
    | some v => cases v with
      | p a => cases a <;> rfl
      | _ => rfl
  case binOp op t x y ty =>
    show oc ((xo x).ev T.t) (fun a => oc ((xo y).ev T.t) fun c => binF P (isK x || isK y) op t a c) = _
    rw [xo_ev, xo_ev, opP]
    cases ev T x with
    | none => rfl
    | some v => cases ev T y with
      | none => rfl
      | some u => exact binF_eq P _ op t v u
  case makeInterface t x =>
    show oc ((xo x).ev T.t) (fun a => mkIf P t a) = _
    rw [xo_ev, opP]
    cases ev T x <;> rfl
  case unOp op t x =>
    show oc ((xo x).ev T.t) _ = _
    rw [xo_ev, opP]
    cases ev T x with
    | none => rfl
    | some v => cases v <;> rfl
  case convert src dst x =>
    show oc ((xo x).ev T.t) (fun a => cvF P src dst (convK P src dst) a) = _
    rw [xo_ev, opP]
    cases ev T x with
    | none => rfl
    | some v => exact cvF_eq P src dst v
  case makeFunc fn fst cs =>
    cases fn
    case method name =>
      rw [opP]
      by_cases h : cs.size = 0
      · rw [if_pos h, pl, if_pos h]
        show oc (evXs T.t (fst.toList.map xo)) (fun as => methF name as) = _
        rw [xos_ev]
        cases evs T fst.toList <;> rfl
      · rw [if_neg h, pl, if_neg h]; rfl
    case func g =>
      rw [opP]
      by_cases h : fst.size = 0
      · rw [if_pos h, pl, if_pos h]
        show oc (evXs T.t (cs.toList.map xo)) (fun as => some (AV.f g as)) = _
        rw [xos_ev]; exact oc_map _ _
      · rw [if_neg h, pl, if_neg h]
        by_cases h2 : cs.size = 0
        · rw [if_pos h2, if_pos h2]
          show oc (evXs T.t (fst.toList.map xo)) (fun as => some (AV.fb g as)) = _
          rw [xos_ev]; exact oc_map _ _
        · rw [if_neg h2, if_neg h2]; rfl
    all_goals rfl
  case slice t x lo hi mx =>
    show oc ((xo x).ev T.t) (fun a => oc (evo T lo) fun l => oc (evo T hi) fun h => oc (evo T mx) fun m => sliceA P t a l h m) = _
    rw [xo_ev, opP]
    cases ev T x with
    | none => rfl
    | some v => cases evo T lo with
      | none => rfl
      | some l => cases evo T hi with
        | none => rfl
        | some h => cases evo T mx <;> rfl
  case fieldAddr t x f =>
    show oc ((xo x).ev T.t) (fun a => asP a fun a => oc (offOf P t f) fun o => some (AV.p (some (a.add o)))) = _
    rw [xo_ev, opP]
    cases ev T x with
    | none => rfl
    | some v => exact offOf_eq P t f v
  case field t x f =>
    show oc ((xo x).ev T.t) _ = _
    rw [xo_ev, opP]
    cases ev T x <;> rfl
  case indexAddr t x i =>
    show oc ((xo x).ev T.t) (fun a => oc ((xo i).ev T.t) fun j => iaF P t (slOf P t) a j) = _
    rw [xo_ev, xo_ev, opP]
    cases ev T x with
    | none => rfl
    | some v => cases ev T i with
      | none => rfl
      | some j => exact iaF_eq P t v j
  case index t x i =>
    show oc ((xo x).ev T.t) (fun a => oc ((xo i).ev T.t) fun j => ixF P t a j) = _
    rw [xo_ev, xo_ev, opP]
    cases ev T x with
    | none => rfl
    | some v => cases ev T i with
      | none => rfl
      | some j => exact ixF_eq P t v j
  case extract x i =>
    show oc ((xo x).ev T.t) _ = _
    rw [xo_ev, opP]
    cases ev T x with
    | none => rfl
    | some v => cases v <;> rfl
  case call c =>
    obtain ⟨callee, args, ts⟩ := c
    cases callee
    case builtin b =>
      cases b
      case len =>
        show oc (evXs T.t (args.toList.map xo)) _ = _
        rw [xos_ev, opP]
        cases evs T args.toList with
        | none => rfl
        | some l => match l with
          | [] => rfl
          | [a] => rfl
          | _ :: _ :: _ => rfl
      case min =>
        show oc (evXs T.t (args.toList.map xo)) _ = _
        rw [xos_ev, opP]
        cases evs T args.toList with
        | none => rfl
        | some l => match l with
          | [] => rfl
          | [a] => rfl
          | _ :: _ :: _ => rfl
      case max =>
        show oc (evXs T.t (args.toList.map xo)) _ = _
        rw [xos_ev, opP]
        cases evs T args.toList with
        | none => rfl
        | some l => match l with
          | [] => rfl
          | [a] => rfl
          | _ :: _ :: _ => rfl
      all_goals (rw [opP]; cases evs T args.toList with
        | none => rfl
        | some l => match l with
          | [] => rfl
          | [a] => rfl
          | _ :: _ :: _ => rfl)
    all_goals (rw [opP]; cases evs T args.toList with
        | none => rfl
        | some l => match l with
          | [] => rfl
          | [a] => rfl
          | _ :: _ :: _ => rfl)
  all_goals rfl
end
end Go.Proofs.Ytjhijcehcklipaa.Ev
