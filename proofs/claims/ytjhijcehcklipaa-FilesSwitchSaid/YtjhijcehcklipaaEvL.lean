/-
  The swift form: texts and calls.
-/
import Derived.Test.YtjhijcehcklipaaEvK
set_option linter.unusedVariables false
set_option linter.unusedSimpArgs false
namespace Go.Proofs.Ytjhijcehcklipaa.Ev

section
variable (P : Program)
/-- A drawn region's reads that are looked at again, and ahead of which writes. -/
inductive Rd where
  | r (j : Nat) (g : Option (Option Pa)) (want : Bool) (q : Rq) (ps : List Nat)
  | a (j : Nat) (ps : List Nat)
inductive Cd where
  | skip
  | ops (l : List In)
  | draw (ok : Bool) (l : List In) (n : Nat) (rs : List Rd)
  | seq (a b : Cd)
  | cond (c : Xo) (a b : Cd)
  | block (id : Nat) (b : Cd)
  | loop (b : Cd)
  | exit (id : Nat)
  | ret
  | bad
def guardOf (ops : Array Oper) (o : Oper) : Option (Option Pa) := match o.guard with
  | none => some none
  | some (j, _) => match (ops[j]?).bind (·.dst) with
    | some t => some (some (pathOf (t + 1) t))
    | none => none
def wantOf (o : Oper) : Bool := match o.guard with
  | none => true
  | some (_, w) => w
def rdsFrom (ops : Array Oper) (ws : List Nat) : Nat → List Oper → List Rd
  | _, [] => []
  | j, o :: os => match kind P o.op with
    | .r => .r j ((guardOf ops o).map id) (wantOf o) (rq P o.op) ((ws ++ [ops.size]).filter fun p => compat ops ws j p) :: rdsFrom ops ws (j + 1) os
    | .a => match (ws ++ [ops.size]).filter (fun p => behind ops ws j p) with
      | [] => rdsFrom ops ws (j + 1) os
      | p :: ps => .a j (p :: ps) :: rdsFrom ops ws (j + 1) os
    | _ => rdsFrom ops ws (j + 1) os
def cdr (n : Nat) : Code → Cd
  | .skip => .skip
  | .region _ ops false => .ops (ops.toList.map (inOf P n ops))
  | .region _ ops true => .draw (drawOk P ops) (ops.toList.map (inOf P n ops)) ops.size (rdsFrom P ops (wsFrom P 0 ops.toList) 0 ops.toList)
  | .seq a b => .seq (cdr n a) (cdr n b)
  | .cond c a b => .cond (xo c) (cdr n a) (cdr n b)
  | .block id b => .block id (cdr n b)
  | .loop b => .loop (cdr n b)
  | .exit id => .exit id
  | .ret => .ret
  | _ => .bad
variable (cf : Nat → List AV → AH → Option (AV × AH))
/-- The states of a run, one ahead of each operation and the last. -/
noncomputable def statesX (n : Nat) (l : List In) : Tr AV → AH → Option (List (Tr AV × AH)) :=
  List.rec (motive := fun _ => Tr AV → AH → Option (List (Tr AV × AH))) (fun T H => some [(T, H)])
    (fun i _ ih T H => oc (i.run P cf n T H fun T' H' => some (T', H')) fun q => oc (ih q.1 q.2) fun st => some ((T, H) :: st)) l
noncomputable def nth {α : Type} (l : List α) : Nat → Option α :=
  List.rec (motive := fun _ => Nat → Option α) (fun _ => none) (fun a _ ih i => bc (Nat.beq i 0) (some a) (ih (i - 1))) l
theorem nth_eq {α : Type} : ∀ (l : List α) (i : Nat), nth l i = l[i]?
  | [], i => rfl
  | a :: l, 0 => rfl
  | a :: l, i + 1 => by show nth l i = _; rw [nth_eq l i]; rfl
noncomputable def sameO (x : Option AV) (v : AV) : Bool := Option.rec (motive := fun _ => Bool) false (fun u => same u v) x
noncomputable def allL {α : Type} (f : α → Bool) (l : List α) : Bool := List.rec (motive := fun _ => Bool) true (fun a _ ih => bc (f a) ih false) l
theorem allL_eq {α : Type} (f : α → Bool) : ∀ l : List α, allL f l = l.all f
  | [] => rfl
  | a :: l => by
    show bc (f a) (allL f l) false = _
    rw [allL_eq f l, List.all_cons]
    cases f a <;> rfl
noncomputable def freshX (st : List (Tr AV × AH)) (j p : Nat) : Bool :=
  Option.rec (motive := fun _ => Bool) false (fun (s : Tr AV × AH) => Option.rec (motive := fun _ => Bool) false (fun (s1 : Tr AV × AH) => Option.rec (motive := fun _ => Bool) false (fun (sp : Tr AV × AH) => sameOb (s1.2.objs.gn s.2.next) (sp.2.objs.gn s.2.next)) (nth st p)) (nth st (j + 1))) (nth st j)
noncomputable def rdOk (st : List (Tr AV × AH)) (r : Rd) : Bool := Rd.casesOn (motive := fun _ => Bool) r (fun j g want q ps =>
  Option.rec (motive := fun _ => Bool) false (fun (s : Tr AV × AH) =>
    Option.rec (motive := fun _ => Bool) false (fun g => Option.rec (motive := fun _ => Bool) false (fun b => b)
      (asG (β := Bool) (Option.rec (motive := fun _ => AV) (.b want) (fun p => slot s.1 p) g)
        (bc want (some (Option.rec (motive := fun _ => Bool) false (fun v => allL (fun p => Option.rec (motive := fun _ => Bool) false (fun (sp : Tr AV × AH) => sameO (q.ev P s.1 sp.2) v) (nth st p)) ps) (q.ev P s.1 s.2))) (some true))
        (bc want (some true) (some (Option.rec (motive := fun _ => Bool) false (fun v => allL (fun p => Option.rec (motive := fun _ => Bool) false (fun (sp : Tr AV × AH) => sameO (q.ev P s.1 sp.2) v) (nth st p)) ps) (q.ev P s.1 s.2)))) (some true))) g) (nth st j))
  (fun j ps => allL (freshX st j) ps)
def frs (n : Nat) (l : List (Tr AV × AH)) : List (Fr × AH) := l.map fun s => (⟨s.1, n⟩, s.2)
theorem statesX_eq (ops : Array Oper) : ∀ (l : List Oper) (T : Fr) (hn : T.n ≤ 1000000) (H : AH),
    (statesX P cf T.n (l.map (inOf P T.n ops)) T.t H).map (frs T.n) = states P cf ops l T H
  | [], T, hn, H => rfl
  | o :: l, T, hn, H => by
    show Option.map (frs T.n) (oc ((inOf P T.n ops o).run P cf T.n T.t H fun T' H' => some (T', H')) fun q => oc (statesX P cf T.n (l.map (inOf P T.n ops)) q.1 q.2) fun st => some ((T.t, H) :: st)) = _
    rw [inOf_run P cf T hn, states]
    cases h : doOp P cf ops o T H with
    | none => rfl
    | some q =>
      obtain ⟨T', H'⟩ := q
      have e := doOp_fn P cf h
      have ih := statesX_eq ops l T' (by omega) H'
      show Option.map (frs T.n) (oc (statesX P cf T.n (l.map (inOf P T.n ops)) T'.t H') fun st => some ((T.t, H) :: st)) = _
      dsimp only
      rw [← ih, e]
      cases statesX P cf T.n (l.map (inOf P T.n ops)) T'.t H' with
      | none => rfl
      | some st => rfl
theorem frs_nth (n : Nat) (st : List (Tr AV × AH)) (i : Nat) : (frs n st)[i]? = (nth st i).map fun s => (⟨s.1, n⟩, s.2) := by
  rw [nth_eq]; unfold frs; exact List.getElem?_map
theorem all_filter {α : Type} (f g : α → Bool) : ∀ l : List α, (l.filter f).all g = l.all fun a => !f a || g a
  | [] => rfl
  | a :: l => by
    rw [List.filter_cons, List.all_cons, ← all_filter f g l]
    cases f a with
    | false => simp
    | true => simp
theorem rdOk_eq (ops : Array Oper) (ws : List Nat) (st : List (Tr AV × AH)) (n j : Nat) (o : Oper) (hk : kind P o.op = .r) :
    rdOk P st (.r j ((guardOf ops o).map id) (wantOf o) (rq P o.op) ((ws ++ [ops.size]).filter fun p => compat ops ws j p)) = readOk P ops ws (frs n st) j o := by
  unfold readOk rdOk
  rw [hk, frs_nth]
  dsimp only
  cases nth st j with
  | none => rfl
  | some s =>
    obtain ⟨T, H⟩ := s
    dsimp only [Option.map_some]
    have hs : ∀ p, slot T p = slot (Fr.mk T n).t p := fun p => rfl
    have hc : (Option.rec (motive := fun _ => Bool) false (fun v => allL (fun p => Option.rec (motive := fun _ => Bool) false (fun (sp : Tr AV × AH) => sameO ((rq P o.op).ev P T sp.2) v) (nth st p)) ((ws ++ [ops.size]).filter fun p => compat ops ws j p)) ((rq P o.op).ev P T H))
        = (match opR P ⟨T, n⟩ H o.op with
          | some v => (ws ++ [ops.size]).all fun p => !compat ops ws j p || (match (frs n st)[p]? with
            | some (_, Hp) => match opR P ⟨T, n⟩ Hp o.op with
              | some u => same u v
              | none => false
            | none => false)
          | none => false) := by
      have hr : ∀ H, (rq P o.op).ev P T H = opR P ⟨T, n⟩ H o.op := fun H => rq_ev P ⟨T, n⟩ H o.op
      rw [hr]
      cases opR P ⟨T, n⟩ H o.op with
      | none => rfl
      | some v =>
        dsimp only
        rw [allL_eq, all_filter]
        congr 1
        funext p
        rw [frs_nth]
        cases nth st p with
        | none => rfl
        | some s' =>
          dsimp only [Option.map_some]
          rw [hr]
          cases opR P ⟨T, n⟩ s'.2 o.op <;> rfl
    cases hg : o.guard with
    | none =>
      have e1 : guardOf ops o = some none := by unfold guardOf; rw [hg]
      have e2 : wantOf o = true := by unfold wantOf; rw [hg]
      have e3 : wants ops ⟨T, n⟩ o = some true := by unfold wants; rw [hg]
      rw [e1, e2, e3]
      show (Option.rec (motive := fun _ => Bool) false (fun v => allL (fun p => Option.rec (motive := fun _ => Bool) false (fun (sp : Tr AV × AH) => sameO ((rq P o.op).ev P T sp.2) v) (nth st p)) ((ws ++ [ops.size]).filter fun p => compat ops ws j p)) ((rq P o.op).ev P T H)) = _
      rw [hc]
      cases opR P ⟨T, n⟩ H o.op <;> rfl
    | some gw =>
      obtain ⟨i, want⟩ := gw
      have e2 : wantOf o = want := by unfold wantOf; rw [hg]
      cases hd : (ops[i]?).bind (·.dst) with
      | none =>
        have e1 : guardOf ops o = none := by unfold guardOf; rw [hg]; dsimp only; rw [hd]
        have e3 : wants ops ⟨T, n⟩ o = none := by unfold wants; rw [hg]; dsimp only; rw [hd]
        rw [e1, e3]; rfl
      | some t =>
        have e1 : guardOf ops o = some (some (pathOf (t + 1) t)) := by unfold guardOf; rw [hg]; dsimp only; rw [hd]
        have e3 : wants ops ⟨T, n⟩ o = match (Fr.mk T n).at t with | .b x => some (x == want) | .tup [] => some false | _ => none := by unfold wants; rw [hg]; dsimp only; rw [hd]; dsimp only; cases (Fr.mk T n).at t <;> rfl
        rw [e1, e2, e3]
        dsimp only [Option.map_some, id]
        rw [hs, slot_eq]
        cases (Fr.mk T n).at t with
        | b x =>
          cases x <;> cases want
          · refine hc.trans ?_; show _ = (match some true, opR P ⟨T, n⟩ H o.op with | some true, some v => _ | some false, _ => true | _, _ => false); cases opR P ⟨T, n⟩ H o.op <;> rfl
          · cases opR P ⟨T, n⟩ H o.op <;> rfl
          · cases opR P ⟨T, n⟩ H o.op <;> rfl
          · refine hc.trans ?_; show _ = (match some true, opR P ⟨T, n⟩ H o.op with | some true, some v => _ | some false, _ => true | _, _ => false); cases opR P ⟨T, n⟩ H o.op <;> rfl
        | tup cs => cases cs <;> cases opR P ⟨T, n⟩ H o.op <;> rfl
        | _ => cases opR P ⟨T, n⟩ H o.op <;> rfl
theorem rdsFrom_eq (ops : Array Oper) (ws : List Nat) (st : List (Tr AV × AH)) (n : Nat) : ∀ (l : List Oper) (j : Nat), allL (rdOk P st) (rdsFrom P ops ws j l) = readsFrom P ops ws (frs n st) j l
  | [], j => rfl
  | o :: l, j => by
    rw [readsFrom, rdsFrom]
    have ih := rdsFrom_eq ops ws st n l (j + 1)
    cases hk : kind P o.op
    case r =>
      show bc (rdOk P st _) (allL (rdOk P st) (rdsFrom P ops ws (j + 1) l)) false = _
      rw [ih, rdOk_eq P ops ws st n j o hk]
      cases readOk P ops ws (frs n st) j o <;> rfl
    case a =>
      have e1 : readOk P ops ws (frs n st) j o = ((ws ++ [ops.size]).filter (fun p => behind ops ws j p)).all (freshX st j) := by
        unfold readOk
        rw [hk, all_filter]
        dsimp only
        congr 1
        funext p
        congr 1
        unfold freshAt freshX
        rw [frs_nth, frs_nth, frs_nth]
        cases nth st j with
        | none => rfl
        | some s => cases nth st (j + 1) with
          | none => rfl
          | some s1 => cases nth st p with
            | none => rfl
            | some sp => dsimp only [Option.map_some]; rw [gn_eq, gn_eq]
      rw [e1]
      dsimp only
      cases (ws ++ [ops.size]).filter (fun p => behind ops ws j p) with
      | nil => rw [ih]; rfl
      | cons p ps =>
        show bc (allL (freshX st j) (p :: ps)) (allL (rdOk P st) (rdsFrom P ops ws (j + 1) l)) false = _
        rw [ih, allL_eq]
        cases (p :: ps).all (freshX st j) <;> rfl
    all_goals (dsimp only; rw [ih]; unfold readOk; rw [hk]; rfl)
noncomputable def Cd.run {β : Type} (n L : Nat) (c : Cd) : Tr AV → AH → (Tr AV → AH → Option β) → (Nat → Tr AV → AH → Option β) → (Tr AV → AH → Option β) → Option β :=
  Cd.rec (motive := fun _ => Tr AV → AH → (Tr AV → AH → Option β) → (Nat → Tr AV → AH → Option β) → (Tr AV → AH → Option β) → Option β)
    (fun T H kn kx kr => kn T H)
    (fun l T H kn kx kr => runL P cf n l T H kn)
    (fun ok l m rs T H kn kx kr => bc ok (oc (statesX P cf n l T H) fun st => bc (allL (rdOk P st) rs) (oc (nth st m) fun s => kn s.1 s.2) none) none)
    (fun _ _ ia ib T H kn kx kr => ia T H (fun T H => ib T H kn kx kr) kx kr)
    (fun c _ _ ia ib T H kn kx kr => oc (c.ev T) fun v => asB v (ia T H kn kx kr) (ib T H kn kx kr))
    (fun id _ ib T H kn kx kr => ib T H kn (fun i T H => bc (Nat.beq i id) (kn T H) (kx i T H)) kr)
    (fun _ ib T H kn kx kr => Nat.rec (motive := fun _ => Tr AV → AH → Option β) (fun _ _ => none) (fun _ ih T H => ib T H ih kx kr) L T H)
    (fun id T H kn kx kr => kx id T H)
    (fun T H kn kx kr => kr T H)
    (fun T H kn kx kr => none) c
def unX {β : Type} (x : Option (AX × Fr × AH)) (kn : Tr AV → AH → Option β) (kx : Nat → Tr AV → AH → Option β) (kr : Tr AV → AH → Option β) : Option β := match x with
  | some (.nrm, T, H) => kn T.t H
  | some (.ex i, T, H) => kx i T.t H
  | some (.ret, T, H) => kr T.t H
  | none => none
theorem draw_run {β : Type} (T : Fr) (hn : T.n ≤ 1000000) (H : AH) (ops : Array Oper) (kn : Tr AV → AH → Option β) :
    bc (drawOk P ops) (oc (statesX P cf T.n (ops.toList.map (inOf P T.n ops)) T.t H) fun st => bc (allL (rdOk P st) (rdsFrom P ops (wsFrom P 0 ops.toList) 0 ops.toList)) (oc (nth st ops.size) fun s => kn s.1 s.2) none) none = unO (doDraw P cf ops T H) kn := by
  unfold doDraw
  rw [bc_ite _ (drawOk P ops = true) Iff.rfl]
  by_cases hd : drawOk P ops = true
  · rw [if_pos hd, if_pos hd, ← statesX_eq P cf ops _ T hn H]
    cases statesX P cf T.n (ops.toList.map (inOf P T.n ops)) T.t H with
    | none => rfl
    | some st =>
      show bc _ _ _ = _
      rw [rdsFrom_eq P ops _ st T.n]
      dsimp only [Option.map_some]
      rw [bc_ite _ (readsFrom P ops (wsFrom P 0 ops.toList) (frs T.n st) 0 ops.toList = true) Iff.rfl]
      by_cases hr : readsFrom P ops (wsFrom P 0 ops.toList) (frs T.n st) 0 ops.toList = true
      · rw [if_pos hr, if_pos hr, frs_nth]
        cases nth st ops.size <;> rfl
      · rw [if_neg hr, if_neg hr]; rfl
  · rw [if_neg hd, if_neg hd]; rfl
theorem cdr_run {β : Type} (hx : ∀ g as H v H', cf g as H = some (v, H') → H.next ≤ H'.next) (L : Nat) : ∀ (c : Code) (T : Fr) (hn : T.n ≤ 1000000) (H : AH) (kn : Tr AV → AH → Option β) (kx : Nat → Tr AV → AH → Option β) (kr : Tr AV → AH → Option β),
    (cdr P T.n c).run P cf T.n L T.t H kn kx kr = unX (code P cf L c T H) kn kx kr
  | .skip, T, hn, H, kn, kx, kr => rfl
  | .region _ ops false, T, hn, H, kn, kx, kr => by
    show runL P cf T.n (ops.toList.map (inOf P T.n ops)) T.t H kn = _
    rw [runL_eq P cf ops _ T hn, code]
    cases doOps P cf ops ops.toList T H <;> rfl
  | .region _ ops true, T, hn, H, kn, kx, kr => by
    refine (draw_run P cf T hn H ops kn).trans ?_
    rw [code]
    cases doDraw P cf ops T H <;> rfl
  | .seq a b, T, hn, H, kn, kx, kr => by
    show (cdr P T.n a).run P cf T.n L T.t H (fun T' H' => (cdr P T.n b).run P cf T.n L T' H' kn kx kr) kx kr = _
    rw [cdr_run hx L a T hn, code]
    cases h : code P cf L a T H with
    | none => rfl
    | some q =>
      obtain ⟨X, T', H'⟩ := q
      have e := (code_mono hx L a T H X T' H' h).1
      cases X with
      | nrm =>
        show (cdr P T.n b).run P cf T.n L T'.t H' kn kx kr = _
        rw [← e]
        exact cdr_run hx L b T' (by omega) H' kn kx kr
      | ex i => rfl
      | ret => rfl
  | .cond c a b, T, hn, H, kn, kx, kr => by
    show oc ((xo c).ev T.t) (fun v => asB v ((cdr P T.n a).run P cf T.n L T.t H kn kx kr) ((cdr P T.n b).run P cf T.n L T.t H kn kx kr)) = _
    rw [xo_ev, code]
    cases ev T c with
    | none => rfl
    | some v =>
      cases v with
      | b x =>
        cases x with
        | true => exact cdr_run hx L a T hn H kn kx kr
        | false => exact cdr_run hx L b T hn H kn kx kr
      | _ => rfl
  | .block id b, T, hn, H, kn, kx, kr => by
    show (cdr P T.n b).run P cf T.n L T.t H kn (fun i T H => bc (Nat.beq i id) (kn T H) (kx i T H)) kr = _
    rw [cdr_run hx L b T hn, code]
    cases code P cf L b T H with
    | none => rfl
    | some q =>
      obtain ⟨X, T', H'⟩ := q
      cases X with
      | nrm => rfl
      | ret => rfl
      | ex i =>
        show bc (Nat.beq i id) (kn T'.t H') (kx i T'.t H') = _
        dsimp only
        rw [bc_ite _ (i = id) ⟨Nat.eq_of_beq_eq_true, fun h => by rw [h]; exact Nat.beq_refl _⟩]
        by_cases h : i = id
        · rw [if_pos h, if_pos h]; rfl
        · rw [if_neg h, if_neg h]; rfl
  | .loop b, T, hn, H, kn, kx, kr => by
    rw [code]
    show Nat.rec (motive := fun _ => Tr AV → AH → Option β) (fun _ _ => none) (fun _ ih T' H' => (cdr P T.n b).run P cf T.n L T' H' ih kx kr) L T.t H = _
    have : ∀ (n : Nat) (hn : n ≤ 1000000) (f : Nat) (T' : Fr) (hT : T'.n = n) (H' : AH), Nat.rec (motive := fun _ => Tr AV → AH → Option β) (fun _ _ => none) (fun _ ih T' H' => (cdr P n b).run P cf n L T' H' ih kx kr) f T'.t H' = unX (iter (code P cf L b) f T' H') kn kx kr := by
      intro n hn f
      induction f with
      | zero => intro T' hT H'; rfl
      | succ f ih =>
        intro T' hT H'
        have hb := cdr_run hx L b T' (by omega) H' (Nat.rec (motive := fun _ => Tr AV → AH → Option β) (fun _ _ => none) (fun _ ih T' H' => (cdr P n b).run P cf n L T' H' ih kx kr) f) kx kr
        rw [hT] at hb
        refine hb.trans ?_
        rw [iter]
        cases h : code P cf L b T' H' with
        | none => rfl
        | some q =>
          obtain ⟨X, T1, H1⟩ := q
          have e := (code_mono hx L b T' H' X T1 H1 h).1
          cases X with
          | nrm => exact ih T1 (e.trans hT) H1
          | ex i => rfl
          | ret => rfl
    exact this T.n hn L T rfl H
  | .exit id, T, hn, H, kn, kx, kr => rfl
  | .ret, T, hn, H, kn, kx, kr => rfl
  | .rangeFunc .., T, hn, H, kn, kx, kr => rfl
  | .scope _, T, hn, H, kn, kx, kr => rfl
  | .label _, T, hn, H, kn, kx, kr => rfl
  | .goto _, T, hn, H, kn, kx, kr => rfl
  | .refuse _, T, hn, H, kn, kx, kr => rfl
/-- Results. -/
inductive Rv where
  | t (p : Pa)
  | c (p : Pa) (k : Option (Option Nat))
def rvs : List ResultVar → List Rv
  | [] => []
  | .tmp t :: rs => .t (pathOf (t + 1) t) :: rvs rs
  | .cell a t :: rs => .c (pathOf (a + 1) a) (ldK P t) :: rvs rs
noncomputable def resX (T : Tr AV) (H : AH) (l : List Rv) : Option (List AV) :=
  List.rec (motive := fun _ => Option (List AV)) (some []) (fun r _ ih => Rv.casesOn (motive := fun _ => Option (List AV)) r
    (fun p => oc ih fun vs => some (slot T p :: vs))
    (fun p k => asP (slot T p) fun a => oc (oc k fun k => Option.rec (motive := fun _ => Option AV) (readF H a 0) (fun n => oc (readsF H a n 0) fun cs => some (.agg cs)) k) fun v => oc ih fun vs => some (v :: vs))) l
theorem resX_eq (T : Fr) (H : AH) : ∀ (l : List ResultVar), resX T.t H (rvs P l) = resV P T H l
  | [] => rfl
  | .tmp t :: rs => by
    show oc (resX T.t H (rvs P rs)) (fun vs => some (slot T.t (pathOf (t + 1) t) :: vs)) = _
    rw [resX_eq T H rs, slot_eq, resV]
    exact oc_map _ _
  | .cell a t :: rs => by
    have ih := resX_eq T H rs
    show asP (slot T.t (pathOf (a + 1) a)) (fun a => oc (oc (ldK P t) fun k => Option.rec (motive := fun _ => Option AV) (readF H a 0) (fun n => oc (readsF H a n 0) fun cs => some (.agg cs)) k) fun v => oc (resX T.t H (rvs P rs)) fun vs => some (v :: vs)) = _
    rw [ih, slot_eq, resV]
    cases T.at a with
    | p pl =>
      cases pl with
      | none => rfl
      | some pl =>
        have hl : (oc (ldK P t) fun k => Option.rec (motive := fun _ => Option AV) (readF H pl 0) (fun n => oc (readsF H pl n 0) fun cs => some (.agg cs)) k) = loadV P H t pl := by
          unfold ldK loadV
          cases isAg P t with
          | none => rfl
          | some b => cases b with
            | false => show readF H pl 0 = _; rw [readF_eq]
            | true => cases sz P t with
              | none => rfl
              | some n => show oc (readsF H pl n 0) (fun cs => some (AV.agg cs)) = _; rw [readsF_eq]; exact oc_map _ _
        show oc (oc (ldK P t) fun k => Option.rec (motive := fun _ => Option AV) (readF H pl 0) (fun n => oc (readsF H pl n 0) fun cs => some (.agg cs)) k) (fun v => oc (resV P T H rs) fun vs => some (v :: vs)) = _
        rw [hl]
        dsimp only
        cases loadV P H t pl with
        | none => rfl
        | some v => cases resV P T H rs <;> rfl
    | _ => rfl
/-- A function, compiled. -/
structure Fc where
  n : Nat
  c : Cd
  rs : List Rv
def fc (P : Program) (g : Nat) : Option Fc := match P.funcs[g]? with
  | some fn => match fn.body with
    | some c => if 1000000 < fn.ntmps ∨ fn.name == "runtime.NumGoroutine" then none else some ⟨fn.ntmps, cdr P fn.ntmps c, rvs P fn.results.toList⟩
    | none => none
  | none => none
noncomputable def single (l : List AV) : AV := List.casesOn (motive := fun _ => AV) l (.tup []) fun a r => List.casesOn (motive := fun _ => AV) r a fun _ _ => .tup l
noncomputable def stepX (P : Program) (L : Nat) (cf : Nat → List AV → AH → Option (AV × AH)) (g : Nat) (as : List AV) (H : AH) : Option (AV × AH) :=
  oc (fc P g) fun f => Fc.casesOn (motive := fun _ => Option (AV × AH)) f fun n c rs => bc (Nat.ble as.length n)
    (c.run P cf n L (setFromF as .nil 0) H (fun T H => oc (resX T H rs) fun vs => some (single vs, H)) (fun _ _ _ => none) (fun T H => oc (resX T H rs) fun vs => some (single vs, H))) none
theorem stepX_eq (hx : ∀ g as H v H', cf g as H = some (v, H') → H.next ≤ H'.next) (L g : Nat) (as : List AV) (H : AH) : stepX P L cf g as H = step P L cf g as H := by
  unfold stepX step fc
  cases P.funcs[g]? with
  | none => rfl
  | some fn =>
    dsimp only
    cases fn.body with
    | none => rfl
    | some c =>
      dsimp only
      by_cases h1 : 1000000 < fn.ntmps ∨ (fn.name == "runtime.NumGoroutine") = true
      · rw [if_pos h1, if_pos (.inr h1)]; rfl
      · rw [if_neg h1]
        show bc (Nat.ble as.length fn.ntmps) ((cdr P fn.ntmps c).run P cf fn.ntmps L (setFromF as .nil 0) H _ _ _) none = _
        rw [bc_ite _ (as.length ≤ fn.ntmps) ble_iff]
        by_cases h2 : as.length ≤ fn.ntmps
        · rw [if_pos h2, if_neg (fun q => q.elim (fun q => absurd q (Nat.not_lt.2 h2)) h1), setFromF_eq]
          have hn : fn.ntmps ≤ 1000000 := Nat.not_lt.1 fun q => h1 (.inl q)
          refine (cdr_run P cf hx L c ⟨setFrom .nil 0 as, fn.ntmps⟩ hn H _ _ _).trans ?_
          have hr : ∀ (T : Fr) (H' : AH), (oc (resX T.t H' (rvs P fn.results.toList)) fun vs => some (single vs, H')) = match resV P T H' fn.results.toList with
              | some [v] => some (v, H')
              | some vs => some (.tup vs, H')
              | none => none := fun T H' => by
            rw [resX_eq]
            cases resV P T H' fn.results.toList with
            | none => rfl
            | some vs => match vs with
              | [] => rfl
              | [v] => rfl
              | _ :: _ :: _ => rfl
          cases code P cf L c ⟨setFrom .nil 0 as, fn.ntmps⟩ H with
          | none => rfl
          | some q =>
            obtain ⟨X, T', H'⟩ := q
            cases X with
            | nrm => exact hr T' H'
            | ret => exact hr T' H'
            | ex i => rfl
        · rw [if_neg h2, if_pos (.inl (Nat.not_le.1 h2))]
end
end Go.Proofs.Ytjhijcehcklipaa.Ev
