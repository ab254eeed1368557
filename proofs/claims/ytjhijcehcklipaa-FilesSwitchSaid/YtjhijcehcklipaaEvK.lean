/-
  The swift form: texts run by what comes behind them; what they tell the second reading tells.
-/
import Derived.Test.YtjhijcehcklipaaEvJ
set_option linter.unusedVariables false
set_option linter.unusedSimpArgs false
namespace Go.Proofs.Ytjhijcehcklipaa.Ev

section
variable (P : Program)
/-- What writes. -/
inductive Wq where
  | st (n : Option Nat) (x y : Xo)
  | ap (size kd : Nat) (s x : Xo)
  | g (o : Op)
noncomputable def storeF (n : Option Nat) (H : AH) (a : Pl) (v : AV) : Option AH :=
  oc n fun n => bc (Nat.beq v.cells.length n) (bc (v.cells.all oneCell) (writeF H a v.cells) none) none
theorem storeF_eq (t : TypeId) (H : AH) (a : Pl) (v : AV) : storeF (sz P t) H a v = storeV P H t a v := by
  unfold storeF storeV
  cases sz P t with
  | none => rfl
  | some n =>
    show bc (Nat.beq v.cells.length n) (bc (v.cells.all oneCell) (writeF H a v.cells) none) none = _
    rw [writeF_eq, bc_ite _ (v.cells.length = n) ⟨Nat.eq_of_beq_eq_true, fun h => by rw [h]; exact Nat.beq_refl _⟩, bc_ite _ (v.cells.all oneCell = true) Iff.rfl]
    dsimp only
    by_cases h1 : v.cells.length = n
    · by_cases h2 : v.cells.all oneCell = true
      · rw [if_pos h1, if_pos h2, if_pos ⟨h1, h2⟩]
      · rw [if_pos h1, if_neg h2, if_neg (fun q => h2 q.2)]
    · rw [if_neg h1, if_neg (fun q => h1 q.1)]
def wq (o : Op) : Wq := match o with
  | .store t x y => .st (sz P t) (xo x) (xo y)
  | .call c => match c.callee with
    | .builtin .append => match c.args.toList, apK P c.argTypes with
      | [s, x], some (size, kd) => .ap size kd (xo s) (xo x)
      | _, _ => .g o
    | _ => .g o
  | _ => .g o
noncomputable def Wq.run {β : Type} (n : Nat) (q : Wq) (T : Tr AV) (H : AH) (k : AV → AH → Option β) : Option β :=
  Wq.casesOn (motive := fun _ => Option β) q
    (fun m x y => oc (x.ev T) fun a => asP a fun a => oc (y.ev T) fun v => oc (storeF m H a v) fun H' => k .undef H')
    (fun size kd s x => oc (s.ev T) fun a => oc (x.ev T) fun b => oc (apF size kd a b H) fun q => Prod.casesOn (motive := fun _ => Option β) q k)
    (fun o => oc (opW P ⟨T, n⟩ H o) fun q => Prod.casesOn (motive := fun _ => Option β) q k)
theorem wq_run {β : Type} (T : Fr) (H : AH) (o : Op) (k : AV → AH → Option β) : (wq P o).run P T.n T.t H k = oc (opW P T H o) fun q => k q.1 q.2 := by
  cases o
  case store t x y =>
    show oc ((xo x).ev T.t) (fun a => asP a fun a => oc ((xo y).ev T.t) fun v => oc (storeF (sz P t) H a v) fun H' => k .undef H') = _
    rw [xo_ev, xo_ev, opW]
    cases ev T x with
    | none => rfl
    | some v =>
      cases v with
      | p a =>
        cases a with
        | none => cases ev T y <;> rfl
        | some a =>
          cases ev T y with
          | none => rfl
          | some u =>
            show oc (storeF (sz P t) H a u) (fun H' => k .undef H') = oc ((storeV P H t a u).map fun H' => (.undef, H')) fun q => k q.1 q.2
            rw [storeF_eq]
            cases storeV P H t a u <;> rfl
      | _ => cases ev T y <;> rfl
  case call c =>
    obtain ⟨callee, args, ts⟩ := c
    cases callee
    case builtin b =>
      cases b
      case append =>
        unfold wq
        dsimp only
        split
        · rename_i s x size kd ha hk
          show oc ((xo s).ev T.t) (fun a => oc ((xo x).ev T.t) fun b => oc (apF size kd a b H) fun q => Prod.casesOn (motive := fun _ => Option β) q k) = _
          rw [xo_ev, xo_ev, opW]
          dsimp only
          rw [ha, evs, evs, evs]
          cases ev T s with
          | none => rfl
          | some a => cases ev T x with
            | none => rfl
            | some b =>
              show oc (apF size kd a b H) _ = oc (if appendZ P ts a b = true then some (a, H) else appendA P ts a b H) _
              rw [if_neg (by rw [apK_z P ts _ hk]; simp), apF_eq P ts size kd hk]
        · rfl
      all_goals rfl
    all_goals rfl
  all_goals rfl

/-- Operations. -/
inductive In where
  | p (d : Option Pa) (q : Pq)
  | r (d : Option Pa) (q : Rq)
  | a (d : Option Pa) (q : Aq)
  | w (d : Option Pa) (q : Wq)
  | c (d : Option Pa) (f : Xo) (as : List Xo)
  | iv (d : Option Pa) (name : String) (f : Xo) (as : List Xo)
  | gd (g : Pa) (want : Bool) (d : Option Pa) (i : In)
  | no
def dst (n : Nat) (d : Option Tmp) : Option Pa := match d with
  | some t => if t < n then some (pathOf deep t) else none
  | none => none
noncomputable def putX (d : Option Pa) (v : AV) (T : Tr AV) : Tr AV := Option.rec (motive := fun _ => Tr AV) T (fun p => T.sp v p) d
theorem putX_eq (T : Fr) (hn : T.n ≤ 1000000) (d : Option Tmp) (v : AV) : (⟨putX (dst T.n d) v T.t, T.n⟩ : Fr) = put T d v := by
  cases d with
  | none => rfl
  | some t =>
    unfold dst put
    dsimp only
    by_cases h : t < T.n
    · rw [if_pos h, if_pos h]
      show Fr.mk (Tr.sp v (pathOf deep t) T.t) T.n = _
      rw [sp_eq v deep t T.t (Nat.lt_of_lt_of_le (Nat.add_lt_add_right (Nat.lt_of_lt_of_le h hn) 1) (by decide))]
    · rw [if_neg h, if_neg h]; rfl
def base (n : Nat) (o : Oper) : In := match kind P o.op with
  | .p => .p (dst n o.dst) (pl P o.op)
  | .r => .r (dst n o.dst) (rq P o.op)
  | .a => .a (dst n o.dst) (aq o.op)
  | .w => .w (dst n o.dst) (wq P o.op)
  | .c => match o.op with
    | .call c => match c.callee with
      | .value x => .c (dst n o.dst) (xo x) (c.args.toList.map xo)
      | .invoke x name => .iv (dst n o.dst) name (xo x) (c.args.toList.map xo)
      | _ => .no
    | _ => .no
  | .no => .no
def inOf (n : Nat) (ops : Array Oper) (o : Oper) : In := match o.guard with
  | none => base P n o
  | some (j, want) => match (ops[j]?).bind (·.dst) with
    | some t => .gd (pathOf (t + 1) t) want (dst n o.dst) (base P n o)
    | none => .no
variable (cf : Nat → List AV → AH → Option (AV × AH))
noncomputable def In.run {β : Type} (n : Nat) (i : In) : Tr AV → AH → (Tr AV → AH → Option β) → Option β :=
  In.rec (motive := fun _ => Tr AV → AH → (Tr AV → AH → Option β) → Option β)
    (fun d q T H k => oc (q.ev P n T) fun v => k (putX d v T) H)
    (fun d q T H k => oc (q.ev P T H) fun v => k (putX d v T) H)
    (fun d q T H k => oc (q.ev P n T) fun m => Mk.casesOn (motive := fun _ => Option β) m fun cs z val => bc (okNew H cs) (k (putX d (val ⟨H.next, cs.length, 0⟩) T) (newF H cs z)) none)
    (fun d q T H k => q.run P n T H fun v H' => k (putX d v T) H')
    (fun d f as T H k => oc (evXs T as) fun as => oc (f.ev T) fun f => asF f as fun g xs => oc (cf g xs H) fun q => Prod.casesOn (motive := fun _ => Option β) q fun v H' => k (putX d v T) H')
    (fun d name f as T H k => oc (evXs T as) fun as => oc (f.ev T) fun f => oc (opI P H name f as) fun r => oc (cf r.1 r.2 H) fun q => Prod.casesOn (motive := fun _ => Option β) q fun v H' => k (putX d v T) H')
    (fun g want d i ih T H k => asG (slot T g) (bc want (ih T H k) (k (putX d (.tup []) T) H)) (bc want (k (putX d (.tup []) T) H) (ih T H k)) (k (putX d (.tup []) T) H))
    (fun T H k => none) i
def unO {β : Type} (x : Option (Fr × AH)) (k : Tr AV → AH → Option β) : Option β := match x with
  | some (T, H) => k T.t H
  | none => none
theorem base_run {β : Type} (T : Fr) (hn : T.n ≤ 1000000) (H : AH) (ops : Array Oper) (o : Oper) (hw : wants ops T o = some true) (k : Tr AV → AH → Option β) :
    (base P T.n o).run P cf T.n T.t H k = unO (doOp P cf ops o T H) k := by
  unfold doOp
  rw [hw]
  dsimp only
  unfold base
  cases hk : kind P o.op
  case p =>
    show oc ((pl P o.op).ev P T.n T.t) (fun v => k (putX (dst T.n o.dst) v T.t) H) = _
    rw [pl_ev]
    cases opP P T o.op with
    | none => rfl
    | some v => show _ = k (put T o.dst v).t H; rw [← putX_eq T hn]; rfl
  case r =>
    show oc ((rq P o.op).ev P T.t H) (fun v => k (putX (dst T.n o.dst) v T.t) H) = _
    rw [rq_ev]
    cases opR P T H o.op with
    | none => rfl
    | some v => show _ = k (put T o.dst v).t H; rw [← putX_eq T hn]; rfl
  case a =>
    show oc ((aq o.op).ev P T.n T.t) _ = _
    rw [aq_ev]
    cases opA P T o.op with
    | none => rfl
    | some m =>
      obtain ⟨cs, z, val⟩ := m
      show bc (okNew H cs) _ none = _
      dsimp only
      rw [bc_ite _ (okNew H cs = true) Iff.rfl]
      by_cases hok : okNew H cs = true
      · rw [if_pos hok, if_pos hok]
        show _ = k (put T o.dst (val ⟨H.next, cs.length, 0⟩)).t (H.new cs z)
        rw [← putX_eq T hn, newF_eq]
      · rw [if_neg hok, if_neg hok]; rfl
  case w =>
    show (wq P o.op).run P T.n T.t H (fun v H' => k (putX (dst T.n o.dst) v T.t) H') = _
    rw [wq_run]
    cases opW P T H o.op with
    | none => rfl
    | some q => show _ = k (put T o.dst q.1).t q.2; rw [← putX_eq T hn]; rfl
  case c =>
    unfold opC
    cases o.op
    case call c =>
      dsimp only
      obtain ⟨callee, args, ts⟩ := c
      cases callee
      case invoke x name =>
        show oc (evXs T.t (args.toList.map xo)) (fun as => oc ((xo x).ev T.t) fun f => oc (opI P H name f as) fun r => oc (cf r.1 r.2 H) fun q => Prod.casesOn (motive := fun _ => Option β) q fun v H' => k (putX (dst T.n o.dst) v T.t) H') = _
        rw [xos_ev, xo_ev]
        dsimp only
        cases evs T args.toList with
        | none => rfl
        | some as =>
          show oc (ev T x) _ = _
          dsimp only
          cases ev T x with
          | none => rfl
          | some f =>
            show oc (opI P H name f as) _ = _
            dsimp only
            cases opI P H name f as with
            | none => rfl
            | some r =>
              obtain ⟨g, xs⟩ := r
              show oc (cf g xs H) _ = _
              dsimp only
              cases cf g xs H with
              | none => rfl
              | some q => obtain ⟨v, H'⟩ := q; show _ = k (put T o.dst v).t H'; rw [← putX_eq T hn]; rfl
      case value x =>
        show oc (evXs T.t (args.toList.map xo)) (fun as => oc ((xo x).ev T.t) fun f => asF f as fun g xs => oc (cf g xs H) fun q => Prod.casesOn (motive := fun _ => Option β) q fun v H' => k (putX (dst T.n o.dst) v T.t) H') = _
        rw [xos_ev, xo_ev]
        dsimp only
        cases evs T args.toList with
        | none => rfl
        | some as =>
          show oc (ev T x) _ = _
          dsimp only
          cases ev T x with
          | none => rfl
          | some f =>
            cases f
            case f g cs =>
              show oc (cf g (as ++ cs) H) _ = _
              dsimp only
              cases cf g (as ++ cs) H with
              | none => rfl
              | some q => obtain ⟨v, H'⟩ := q; show _ = k (put T o.dst v).t H'; rw [← putX_eq T hn]; rfl
            case fb g fs =>
              show oc (cf g (fs ++ as) H) _ = _
              dsimp only
              cases cf g (fs ++ as) H with
              | none => rfl
              | some q => obtain ⟨v, H'⟩ := q; show _ = k (put T o.dst v).t H'; rw [← putX_eq T hn]; rfl
            all_goals rfl
      all_goals (cases evs T args.toList <;> rfl)
    all_goals rfl
  case no => rfl
theorem inOf_run {β : Type} (T : Fr) (hn : T.n ≤ 1000000) (H : AH) (ops : Array Oper) (o : Oper) (k : Tr AV → AH → Option β) :
    (inOf P T.n ops o).run P cf T.n T.t H k = unO (doOp P cf ops o T H) k := by
  unfold inOf
  cases hg : o.guard with
  | none => exact base_run P cf T hn H ops o (by unfold wants; rw [hg]) k
  | some gw =>
    obtain ⟨j, want⟩ := gw
    dsimp only
    cases hd : (ops[j]?).bind (·.dst) with
    | none =>
      have : wants ops T o = none := by unfold wants; rw [hg]; dsimp only; rw [hd]
      unfold doOp; rw [this]; rfl
    | some t =>
      show asG (slot T.t (pathOf (t + 1) t)) (bc want ((base P T.n o).run P cf T.n T.t H k) (k (putX (dst T.n o.dst) (.tup []) T.t) H)) (bc want (k (putX (dst T.n o.dst) (.tup []) T.t) H) ((base P T.n o).run P cf T.n T.t H k)) (k (putX (dst T.n o.dst) (.tup []) T.t) H) = _
      rw [slot_eq]
      have hw : wants ops T o = match T.at t with | .b x => some (x == want) | .tup [] => some false | _ => none := by unfold wants; rw [hg]; dsimp only; rw [hd]; dsimp only; cases T.at t <;> rfl
      have hf : wants ops T o = some false → unO (doOp P cf ops o T H) k = k (putX (dst T.n o.dst) (.tup []) T.t) H := fun h => by
        unfold doOp; rw [h]; show k (put T o.dst (.tup [])).t H = _; rw [← putX_eq T hn]
      have ht : wants ops T o = some true → unO (doOp P cf ops o T H) k = (base P T.n o).run P cf T.n T.t H k := fun h => (base_run P cf T hn H ops o h k).symm
      cases hv : T.at t with
      | b x =>
        rw [hv] at hw
        cases x <;> cases want
        · exact (ht hw).symm
        · exact (hf hw).symm
        · exact (hf hw).symm
        · exact (ht hw).symm
      | tup cs =>
        rw [hv] at hw
        cases cs with
        | nil => exact (hf hw).symm
        | cons _ _ => unfold doOp; rw [hw]; rfl
      | _ => rw [hv] at hw; unfold doOp; rw [hw]; rfl

noncomputable def runL {β : Type} (n : Nat) (l : List In) : Tr AV → AH → (Tr AV → AH → Option β) → Option β :=
  List.rec (motive := fun _ => Tr AV → AH → (Tr AV → AH → Option β) → Option β) (fun T H k => k T H) (fun i _ ih T H k => i.run P cf n T H fun T' H' => ih T' H' k) l
theorem doOp_fn {ops : Array Oper} {o : Oper} {T T' : Fr} {H H' : AH} (h : doOp P cf ops o T H = some (T', H')) : T'.n = T.n := by
  obtain ⟨v, rfl⟩ := doOp_n h
  exact put_n _ _ _
theorem runL_eq {β : Type} (ops : Array Oper) : ∀ (l : List Oper) (T : Fr) (hn : T.n ≤ 1000000) (H : AH) (k : Tr AV → AH → Option β),
    runL P cf T.n (l.map (inOf P T.n ops)) T.t H k = unO (doOps P cf ops l T H) k
  | [], T, hn, H, k => rfl
  | o :: l, T, hn, H, k => by
    show (inOf P T.n ops o).run P cf T.n T.t H (fun T' H' => runL P cf T.n (l.map (inOf P T.n ops)) T' H' k) = _
    rw [inOf_run P cf T hn, doOps]
    cases h : doOp P cf ops o T H with
    | none => rfl
    | some q =>
      obtain ⟨T', H'⟩ := q
      have e := doOp_fn P cf h
      show runL P cf T.n (l.map (inOf P T.n ops)) T'.t H' k = _
      rw [← e]
      exact runL_eq ops l T' (by omega) H' k
end
end Go.Proofs.Ytjhijcehcklipaa.Ev
