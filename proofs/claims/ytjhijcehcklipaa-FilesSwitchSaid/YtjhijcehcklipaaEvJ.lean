/-
  The swift form: what reads, makes and writes.
-/
import Derived.Test.YtjhijcehcklipaaEvI
set_option linter.unusedVariables false
set_option linter.unusedSimpArgs false
namespace Go.Proofs.Ytjhijcehcklipaa.Ev

noncomputable def readF (H : AH) (a : Pl) (k : Nat) : Option AV :=
  oc (H.objs.gn a.o) fun ao => AO.casesOn (motive := fun _ => Option AV) ao (fun cells size minv z =>
    bc (Nat.ble minv a.v) (bc (Nat.ble a.v size) (bc (Nat.ble (a.i + k + 1) a.v) (cells.gn (a.i + k)) none) none) none) fun _ => none
theorem ble_false {a b : Nat} (h : Nat.ble a b = false) : ¬ a ≤ b := fun q => by rw [ble_iff.2 q] at h; cases h
theorem readF_eq (H : AH) (a : Pl) (k : Nat) : readF H a k = H.read a k := by
  unfold readF AH.read
  rw [gn_eq]
  cases H.objs.get a.o with
  | none => rfl
  | some ao =>
    cases ao with
    | mp es => rfl
    | row cells size minv z =>
      show bc (Nat.ble minv a.v) (bc (Nat.ble a.v size) (bc (Nat.ble (a.i + k + 1) a.v) (cells.gn (a.i + k)) none) none) none = _
      cases h1 : Nat.ble minv a.v with
      | false => dsimp only; rw [if_neg (fun q => ble_false h1 q.1)]; rfl
      | true => cases h2 : Nat.ble a.v size with
        | false => dsimp only; rw [if_neg (fun q => ble_false h2 q.2.1)]; rfl
        | true => cases h3 : Nat.ble (a.i + k + 1) a.v with
          | false => dsimp only; rw [if_neg (fun q => ble_false h3 q.2.2)]; rfl
          | true => dsimp only; rw [if_pos ⟨ble_iff.1 h1, ble_iff.1 h2, ble_iff.1 h3⟩]; exact gn_eq _ _
noncomputable def readsF (H : AH) (a : Pl) (n : Nat) : Nat → Option (List AV) :=
  Nat.rec (motive := fun _ => Nat → Option (List AV)) (fun _ => some []) (fun _ ih k => oc (readF H a k) fun c => oc (ih (k + 1)) fun cs => some (c :: cs)) n
theorem readsF_eq (H : AH) (a : Pl) : ∀ (n k : Nat), readsF H a n k = H.reads a k n
  | 0, k => rfl
  | n + 1, k => by
    show oc (readF H a k) (fun c => oc (readsF H a n (k + 1)) fun cs => some (c :: cs)) = _
    rw [readF_eq, readsF_eq H a n, AH.reads]
    cases H.read a k with
    | none => rfl
    | some c => cases H.reads a (k + 1) n <;> rfl
noncomputable def setFromF {α : Type} (cs : List α) : Tr α → Nat → Tr α :=
  List.rec (motive := fun _ => Tr α → Nat → Tr α) (fun t _ => t) (fun c _ ih t i => ih (t.sn c deep i) (i + 1)) cs
theorem setFromF_eq {α : Type} : ∀ (cs : List α) (t : Tr α) (i : Nat), setFromF cs t i = setFrom t i cs
  | [], t, i => rfl
  | c :: cs, t, i => by
    show setFromF cs (Tr.sn c deep t i) (i + 1) = _
    rw [sn_eq, setFromF_eq cs]; rfl
noncomputable def newF (H : AH) (cs : List AV) (z : Nat) : AH := ⟨Tr.sn (.row (setFromF cs .nil 0) cs.length 0 z) deep H.objs H.next, H.next + 1⟩
theorem newF_eq (H : AH) (cs : List AV) (z : Nat) : newF H cs z = H.new cs z := by unfold newF AH.new; rw [sn_eq, setFromF_eq]
noncomputable def writeF (H : AH) (a : Pl) (cs : List AV) : Option AH :=
  oc (H.objs.gn a.o) fun ao => AO.casesOn (motive := fun _ => Option AH) ao (fun cells size minv z =>
    bc (Nat.ble minv a.v) (bc (Nat.beq a.v size) (bc (Nat.ble (a.i + cs.length) size) (some ⟨Tr.sn (.row (setFromF cs cells a.i) size size z) deep H.objs a.o, H.next⟩) none) none) none) fun _ => none
theorem beq_false {a b : Nat} (h : Nat.beq a b = false) : ¬ a = b := fun q => by subst q; rw [Nat.beq_refl] at h; cases h
theorem writeF_eq (H : AH) (a : Pl) (cs : List AV) : writeF H a cs = H.write a cs := by
  unfold writeF AH.write
  rw [gn_eq]
  cases H.objs.get a.o with
  | none => rfl
  | some ao =>
    cases ao with
    | mp es => rfl
    | row cells size minv z =>
      show bc (Nat.ble minv a.v) (bc (Nat.beq a.v size) (bc (Nat.ble (a.i + cs.length) size) (some (AH.mk (Tr.sn (.row (setFromF cs cells a.i) size size z) deep H.objs a.o) H.next)) none) none) none = _
      cases h1 : Nat.ble minv a.v with
      | false => dsimp only; rw [if_neg (fun q => ble_false h1 q.1)]; rfl
      | true => cases h2 : Nat.beq a.v size with
        | false => dsimp only; rw [if_neg (fun q => beq_false h2 q.2.1)]; rfl
        | true => cases h3 : Nat.ble (a.i + cs.length) size with
          | false => dsimp only; rw [if_neg (fun q => ble_false h3 q.2.2)]; rfl
          | true =>
            dsimp only
            rw [if_pos ⟨ble_iff.1 h1, Nat.eq_of_beq_eq_true h2, ble_iff.1 h3⟩, sn_eq, setFromF_eq]; rfl
noncomputable def growF (H : AH) (a : Pl) (len : Nat) (cs : List AV) (z : Nat) : Option (Nat × AH) :=
  oc (H.objs.gn a.o) fun ao => AO.casesOn (motive := fun _ => Option (Nat × AH)) ao (fun cells size minv z' =>
    bc (Nat.ble minv a.v) (bc (Nat.beq a.v size) (bc (Nat.beq (a.i + len) size) (bc (Nat.beq z' z) (bc (Nat.ble (size + cs.length + 1) 1000000000)
      (some (size + cs.length, ⟨Tr.sn (.row (setFromF cs cells size) (size + cs.length) minv z) deep H.objs a.o, H.next⟩)) none) none) none) none) none) fun _ => none
theorem growF_eq (H : AH) (a : Pl) (len : Nat) (cs : List AV) (z : Nat) : growF H a len cs z = H.grow a len cs z := by
  unfold growF AH.grow
  rw [gn_eq]
  cases H.objs.get a.o with
  | none => rfl
  | some ao =>
    cases ao with
    | mp es => rfl
    | row cells size minv z' =>
      show bc (Nat.ble minv a.v) (bc (Nat.beq a.v size) (bc (Nat.beq (a.i + len) size) (bc (Nat.beq z' z) (bc (Nat.ble (size + cs.length + 1) 1000000000)
        (some (size + cs.length, AH.mk (Tr.sn (.row (setFromF cs cells size) (size + cs.length) minv z) deep H.objs a.o) H.next)) none) none) none) none) none = _
      cases h1 : Nat.ble minv a.v with
      | false => dsimp only; rw [if_neg (fun q => ble_false h1 q.1)]; rfl
      | true => cases h2 : Nat.beq a.v size with
        | false => dsimp only; rw [if_neg (fun q => beq_false h2 q.2.1)]; rfl
        | true => cases h3 : Nat.beq (a.i + len) size with
          | false => dsimp only; rw [if_neg (fun q => beq_false h3 q.2.2.1)]; rfl
          | true => cases h4 : Nat.beq z' z with
            | false => dsimp only; rw [if_neg (fun q => beq_false h4 q.2.2.2.1)]; rfl
            | true => cases h5 : Nat.ble (size + cs.length + 1) 1000000000 with
              | false => dsimp only; rw [if_neg (fun q => ble_false h5 q.2.2.2.2)]; rfl
              | true =>
                dsimp only
                rw [if_pos ⟨ble_iff.1 h1, Nat.eq_of_beq_eq_true h2, Nat.eq_of_beq_eq_true h3, Nat.eq_of_beq_eq_true h4, ble_iff.1 h5⟩, sn_eq, setFromF_eq]; rfl
theorem bc_ite {β : Type} (c : Bool) (p : Prop) [Decidable p] (h : c = true ↔ p) (x y : β) : bc c x y = if p then x else y := by
  cases c with
  | true => rw [if_pos (h.1 rfl)]; rfl
  | false => rw [if_neg (fun q => by have := h.2 q; cases this)]; rfl
section
variable (P : Program)
/-- What reads. -/
inductive Rq where
  | ld (k : Option (Option Nat)) (x : Xo)
  | cv (src dst : TypeId) (x : Xo)
  | lk (t : TypeId) (x i : Xo) (ok : Bool)
  | ml (ts : Array TypeId) (xs : List Xo)
  | no
def ldK (t : TypeId) : Option (Option Nat) := match isAg P t with
  | some true => match sz P t with
    | some n => some (some n)
    | none => none
  | some false => some none
  | none => none
def rq : Op → Rq
  | .load t x => .ld (ldK P t) (xo x)
  | .convert src dst x => .cv src dst (xo x)
  | .lookup t x i ok => .lk t (xo x) (xo i) ok
  | .call c => match c.callee with
    | .builtin .len => .ml c.argTypes (c.args.toList.map xo)
    | _ => .no
  | _ => .no
def isBy (src dst : TypeId) : Bool := match P.underlying src, P.underlying dst with
  | some (.slice e), some .string => match P.underlying e with
    | some (.int .u8) => true
    | _ => false
  | _, _ => false
noncomputable def convRF (H : AH) (src dst : TypeId) (x : AV) : Option AV :=
  bc (isBy P src dst) (asL x (convR P H src dst x) fun a len => oc (readsF H a len 0) fun l => oc (toBytes l) fun b => some (.s b)) (convR P H src dst x)
theorem convRF_eq (H : AH) (src dst : TypeId) (x : AV) : convRF P H src dst x = convR P H src dst x := by
  unfold convRF
  cases h : isBy P src dst with
  | false => rfl
  | true =>
    show asL x _ _ = _
    unfold asL
    cases x
    case l a len c =>
      cases a with
      | none => rfl
      | some a =>
        dsimp only
        rw [readsF_eq]
        unfold isBy at h
        unfold convR
        split at h
        · rename_i e h1 h2
          rw [h1, h2]
          dsimp only
          split at h
          · rename_i h3
            rw [h3]
            dsimp only
            cases H.reads a 0 len with
            | none => rfl
            | some l => exact oc_map (toBytes l) AV.s
          · cases h
        · cases h
    all_goals rfl
noncomputable def Rq.ev (q : Rq) (T : Tr AV) (H : AH) : Option AV :=
  Rq.casesOn (motive := fun _ => Option AV) q
    (fun k x => oc (x.ev T) fun a => asP a fun a => oc k fun k => Option.rec (motive := fun _ => Option AV) (readF H a 0) (fun n => oc (readsF H a n 0) fun cs => some (.agg cs)) k)
    (fun src dst x => oc (x.ev T) fun a => convRF P H src dst a)
    (fun t x i ok => oc (x.ev T) fun a => oc (i.ev T) fun k => lookA P H t a k ok)
    (fun ts xs => oc (evXs T xs) fun as => one as fun a => mlenA P H ts a)
    none
theorem rq_ev (T : Fr) (H : AH) (o : Op) : (rq P o).ev P T.t H = opR P T H o := by
  cases o
  case load t x =>
    show oc ((xo x).ev T.t) _ = _
    rw [xo_ev, opR]
    cases ev T x with
    | none => rfl
    | some v => cases v with
      | p a =>
        cases a with
        | none => rfl
        | some a =>
          show oc (ldK P t) _ = loadV P H t a
          unfold ldK loadV
          cases isAg P t with
          | none => rfl
          | some b => cases b with
            | false => show readF H a 0 = _; rw [readF_eq]
            | true => cases sz P t with
              | none => rfl
              | some n => show oc (readsF H a n 0) (fun cs => some (AV.agg cs)) = _; rw [readsF_eq]; exact oc_map _ _
      | _ => rfl
  case convert src dst x =>
    show oc ((xo x).ev T.t) (fun a => convRF P H src dst a) = _
    rw [xo_ev, opR]
    cases ev T x with
    | none => rfl
    | some v => exact convRF_eq P H src dst v
  case lookup t x i ok =>
    show oc ((xo x).ev T.t) (fun a => oc ((xo i).ev T.t) fun k => lookA P H t a k ok) = _
    rw [xo_ev, xo_ev, opR]
    cases ev T x with
    | none => rfl
    | some v => cases ev T i <;> rfl
  case call c =>
    obtain ⟨callee, args, ts⟩ := c
    cases callee
    case builtin b =>
      cases b
      case len =>
        show oc (evXs T.t (args.toList.map xo)) _ = _
        rw [xos_ev, opR]
        cases evs T args.toList with
        | none => rfl
        | some l => match l with
          | [] => rfl
          | [a] => rfl
          | _ :: _ :: _ => rfl
      all_goals (rw [opR]; cases evs T args.toList with
        | none => rfl
        | some l => match l with
          | [] => rfl
          | [a] => rfl
          | _ :: _ :: _ => rfl)
    all_goals (rw [opR]; cases evs T args.toList with
        | none => rfl
        | some l => match l with
          | [] => rfl
          | [a] => rfl
          | _ :: _ :: _ => rfl)
  all_goals rfl
/-- What makes. -/
inductive Aq where
  | al (t : TypeId)
  | bx (x : Xo)
  | bs (t : TypeId) (n : Nat) (ps : List (Nat × Operand))
  | ms (t : TypeId) (l c : Xo)
  | cv (src dst : TypeId) (x : Xo)
  | no
def aq : Op → Aq
  | .alloc e => .al e
  | .box _ x => .bx (xo x)
  | .buildSlice t n ps => .bs t n ps.toList
  | .makeSlice t l c => .ms t (xo l) (xo c)
  | .convert src dst x => .cv src dst (xo x)
  | _ => .no
noncomputable def Aq.ev (n : Nat) (q : Aq) (T : Tr AV) : Option Mk :=
  Aq.casesOn (motive := fun _ => Option Mk) q
    (fun e => oc (zero P e) fun z => some ⟨z.cells, 0, fun a => .p (some a)⟩)
    (fun x => oc (x.ev T) fun v => bc (v.cells.all oneCell) (some ⟨v.cells, 0, fun a => .p (some a)⟩) none)
    (fun t m ps => oc (evp ⟨T, n⟩ ps) fun as => buildSl P t m as)
    (fun t l c => oc (l.ev T) fun a => oc (c.ev T) fun b => makeSl P t a b)
    (fun src dst x => oc (x.ev T) fun a => convA P src dst a)
    none
theorem aq_ev (T : Fr) (o : Op) : (aq o).ev P T.n T.t = opA P T o := by
  cases o
  case alloc e => show oc (zero P e) _ = _; rw [opA]; exact oc_map _ _
  case box t x =>
    show oc ((xo x).ev T.t) _ = _
    rw [xo_ev, opA]
    cases ev T x with
    | none => rfl
    | some v =>
      show bc (v.cells.all oneCell) _ none = _
      dsimp only
      cases h : v.cells.all oneCell with
      | true => rw [if_pos rfl]; rfl
      | false => rw [if_neg (by simp)]; rfl
  case buildSlice t n ps =>
    show oc (evp T ps.toList) _ = _
    rw [opA]; cases evp T ps.toList <;> rfl
  case makeSlice t l c =>
    show oc ((xo l).ev T.t) (fun a => oc ((xo c).ev T.t) fun b => makeSl P t a b) = _
    rw [xo_ev, xo_ev, opA]
    cases ev T l with
    | none => rfl
    | some a => cases ev T c <;> rfl
  case convert src dst x =>
    show oc ((xo x).ev T.t) _ = _
    rw [xo_ev, opA]
    cases ev T x <;> rfl
  all_goals rfl
/-- A source's kind. -/
def srcK : TypeDesc → Nat
  | .slice _ => 0
  | .string => 1
  | _ => 2
/-- What an append to a type does. -/
def apK (ts : Array TypeId) : Option (Nat × Nat) := match ts.toList with
  | [t, tx] => match P.underlying t, P.underlying tx with
    | some (.slice e), some xt => match P.info? e, zero P e with
      | some i, some z => if i.size = 0 ∨ z.cells.length ≠ i.size ∨ i.bytes > 1000000 ∨ srcK xt = 2 then none else
        some (i.size, srcK xt)
      | _, _ => none
    | _, _ => none
  | _ => none
noncomputable def firstF (H : AH) (size n : Nat) (x : AV) : Option (List AV) :=
  asL x (firstA H size n x) fun a len => bc (Nat.ble n len) (readsF H a (n * size) 0) none
theorem firstF_eq (H : AH) (size n : Nat) (x : AV) : firstF H size n x = firstA H size n x := by
  unfold firstF asL
  cases x
  case l a len c =>
    cases a with
    | none => rfl
    | some a =>
      dsimp only
      rw [bc_ite _ (n ≤ len) ble_iff, readsF_eq]; rfl
  all_goals rfl
noncomputable def goodF (kd size : Nat) (x : AV) : Bool :=
  AV.casesOn (motive_1 := fun _ => Bool) x false (fun _ => false) (fun _ _ => false) (fun _ => bc (Nat.beq kd 1) (Nat.beq size 1) false) (fun _ => false) (fun _ _ _ => Nat.beq kd 0) (fun _ => false) (fun _ _ => false) false false (fun _ => false) (fun _ => false) (fun _ _ => false) (fun _ _ => false) (fun _ _ => false)
noncomputable def apF (size kd : Nat) (s x : AV) (H : AH) : Option (AV × AH) :=
  AV.casesOn (motive_1 := fun _ => Option (AV × AH)) s none (fun _ => none) (fun _ _ => none) (fun _ => none) (fun _ => none)
    (fun base len cap => oc (lenA x) fun n => bc (Nat.ble (len + n) 16777216) (bc (goodF kd size x) (oc (firstF H size n x) fun new => bc (new.all oneCell) (bc (Nat.beq n 0) (some (.l base len cap, H))
      (Option.rec (motive := fun _ => Option (AV × AH)) (bc (okNew H new) (some (.l (some ⟨H.next, new.length, 0⟩) n (inf + size), newF H new size)) none)
        (fun a => bc (Nat.ble (cap + 1) inf)
          (bc (Nat.ble (len + n) cap) (oc (writeF H (a.add (len * size)) new) fun H' => some (.l (some a) (len + n) cap, H'))
            (oc (readsF H a (len * size) 0) fun old => bc (okNew H (old ++ new)) (some (.l (some ⟨H.next, (old ++ new).length, 0⟩) (len + n) (inf + size), newF H (old ++ new) size)) none))
          (bc (Nat.beq cap (inf + size)) (oc (growF H a (len * size) new size) fun q => Prod.casesOn (motive := fun _ => Option (AV × AH)) q fun v H' => some (.l (some ⟨a.o, v, a.i⟩) (len + n) cap, H')) none)) base)) none) none) none)
    (fun _ => none) (fun _ _ => none) none none (fun _ => none) (fun _ => none) (fun _ _ => none) (fun _ _ => none) (fun _ _ => none)
theorem apK_z (ts : Array TypeId) (r : Nat × Nat) (h : apK P ts = some r) (s x : AV) : appendZ P ts s x = false := by
  cases hz : appendZ P ts s x with
  | false => rfl
  | true =>
    unfold appendZ at hz
    split at hz
    · rename_i t tx _ _ _ _ hts
      split at hz
      · rename_i e q h1 h2
        unfold apK at h
        rw [hts] at h
        dsimp only at h
        rw [h1, h2] at h
        dsimp only at h
        split at h
        · rw [if_pos (.inr (.inr (.inr rfl)))] at h; cases h
        · cases h
      · cases hz
    · cases hz
theorem apF_eq (ts : Array TypeId) (size kd : Nat) (h : apK P ts = some (size, kd)) (s x : AV) (H : AH) : apF size kd s x H = appendA P ts s x H := by
  unfold apK at h
  split at h
  · rename_i t tx hts
    split at h
    · rename_i e xt h1 h2
      split at h
      · rename_i i z h3 h4
        split at h
        · cases h
        · rename_i hc
          obtain ⟨rfl, rfl⟩ := Prod.mk.inj (Option.some.inj h)
          unfold apF appendA
          rw [hts]
          cases s
          case l base len cap =>
            dsimp only
            rw [h1, h2]
            cases hl : lenA x with
            | none => rfl
            | some n =>
              show bc (Nat.ble (len + n) 16777216) _ none = _
              have hg : goodF (srcK xt) i.size x = goodSrc xt i.size x := by
                cases xt <;> cases x <;> rfl
              rw [hg]
              dsimp only
              rw [h3, h4]
              dsimp only
              simp only [gt_iff_lt, not_or, Nat.not_lt] at hc
              cases g1 : Nat.ble (len + n) 16777216 with
              | false =>
                have := ble_false g1
                rw [if_pos (by omega)]; rfl
              | true =>
                have g1 := ble_iff.1 g1
                cases g2 : goodSrc xt i.size x with
                | false => rw [if_pos (by simp)]; rfl
                | true =>
                  rw [if_neg (by simp only [not_or, Bool.true_eq_false, not_false_eq_true, and_true]; omega)]
                  show oc (firstF H i.size n x) _ = _
                  rw [firstF_eq]
                  cases firstA H i.size n x with
                  | none => rfl
                  | some new =>
                    show bc (new.all oneCell) _ none = _
                    dsimp only
                    cases g3 : new.all oneCell with
                    | false => rw [if_pos rfl]; rfl
                    | true =>
                      rw [if_neg (by simp)]
                      show bc (Nat.beq n 0) _ _ = _
                      rw [bc_ite _ (n = 0) ⟨Nat.eq_of_beq_eq_true, fun h => by subst h; rfl⟩]
                      by_cases hn : n = 0
                      · rw [if_pos hn, if_pos hn]
                      · rw [if_neg hn, if_neg hn]
                        cases base with
                        | none =>
                          dsimp only
                          rw [bc_ite _ (okNew H new = true) Iff.rfl, newF_eq]
                        | some a =>
                          dsimp only
                          rw [bc_ite _ (cap < inf) ble_iff, bc_ite _ (len + n ≤ cap) ble_iff, bc_ite _ (cap = inf + i.size) ⟨Nat.eq_of_beq_eq_true, fun h => by rw [h]; exact Nat.beq_refl _⟩, writeF_eq, readsF_eq, growF_eq]
                          by_cases g4 : cap < inf
                          · rw [if_pos g4, if_pos g4]
                            by_cases g5 : len + n ≤ cap
                            · rw [if_pos g5, if_pos g5]; exact oc_map _ _
                            · rw [if_neg g5, if_neg g5]
                              cases H.reads a 0 (len * i.size) with
                              | none => rfl
                              | some old => show bc _ _ _ = _; rw [bc_ite _ (okNew H (old ++ new) = true) Iff.rfl, newF_eq]
                          · rw [if_neg g4, if_neg g4]
                            by_cases g5 : cap = inf + i.size
                            · rw [if_pos g5, if_pos g5]
                              cases H.grow a (len * i.size) new i.size with
                              | none => rfl
                              | some q => obtain ⟨v, H'⟩ := q; rfl
                            · rw [if_neg g5, if_neg g5]
          all_goals rfl
      · cases h
    · cases h
  · cases h
end
end Go.Proofs.Ytjhijcehcklipaa.Ev
