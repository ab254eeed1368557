/-
  A second reading of the given model's programs: over tries, with slices that tell no capacity once they have grown. What it tells holds of the model (texts EvRel.. of the same hand).
-/
import GoSem.Step
set_option linter.unusedVariables false
namespace Go.Proofs.Ytjhijcehcklipaa.Ev

/-- Tries, by a number's bits. -/
inductive Tr (α : Type) where
  | nil
  | node (v : Option α) (l r : Tr α)
def Tr.get {α : Type} : Tr α → Nat → Option α
  | .nil, _ => none
  | .node v _ _, 0 => v
  | .node _ l r, i + 1 => match i % 2 with
    | 0 => l.get (i / 2)
    | _ => r.get (i / 2)
def Tr.set {α : Type} : Nat → Tr α → Nat → α → Tr α
  | 0, t, _, _ => t
  | _ + 1, .nil, 0, x => .node (some x) .nil .nil
  | f + 1, .nil, i + 1, x => match i % 2 with
    | 0 => .node none (Tr.set f .nil (i / 2) x) .nil
    | _ => .node none .nil (Tr.set f .nil (i / 2) x)
  | _ + 1, .node _ l r, 0, x => .node (some x) l r
  | f + 1, .node v l r, i + 1, x => match i % 2 with
    | 0 => .node v (Tr.set f l (i / 2) x) r
    | _ => .node v l (Tr.set f r (i / 2) x)
/-- How deep a trie may be. -/
def deep : Nat := 40

/-- A place: an object, its state (how many cells it had), a cell. -/
structure Pl where
  o : Nat
  v : Nat
  i : Nat
inductive AV where
  | undef
  | b (x : Bool)
  | n (k : IntKind) (x : Int)
  | s (l : List Nat)
  | p (a : Option Pl)
  | l (a : Option Pl) (len cap : Nat)
  | m (r : Option Nat)
  | f (g : Nat) (cs : List AV)
  | nf
  | ni
  | agg (cs : List AV)
  | tup (cs : List AV)
  | i (t : Nat) (a : AV)
  | fb (g : Nat) (fs : List AV)
  | sg (k : IntKind) (pos : Bool)
  deriving Inhabited
/-- The methods of the types behind interface values: which function; where it takes no pointer, of what type it is. -/
def methT (t : TypeId) (name : String) : Option (Nat × Option TypeId) := none
/-- What the program says of these methods. -/
class MethsOk (P : Program) : Prop where
  ptr : ∀ t name g, methT t name = some (g, none) → (∀ v w, (method (P.types.size + Made.depth) t v name).run P w = .ok (g, v) w) ∧ ∀ v w, (nilAhead (P.types.size + Made.depth) t v name).run P w = .ok (some false) w
  val : ∀ t name g e, methT t name = some (g, some e) → ∀ blk off w c w', (loadVar e ⟨blk, off, none⟩).run P w = .ok c w' → (method (P.types.size + Made.depth) t (.pointer (some ⟨blk, off, none⟩)) name).run P w = .ok (g, c) w'
/-- No capacity is told from here on. -/
def inf : Nat := 4611686018427387904
inductive AO where
  | row (cells : Tr AV) (size minv z : Nat)
  | mp (es : List (AV × AV))
structure AH where
  objs : Tr AO
  next : Nat

def AV.cells : AV → List AV
  | .agg cs => cs
  | v => [v]
mutual
def toAV : Value → Option AV
  | .bool b => some (.b b)
  | .int k n => some (.n k n)
  | .string s => some (.s (s.data.toList.map UInt8.toNat))
  | .pointer none => some (.p none)
  | .slice none 0 0 => some (.l none 0 0)
  | .map none => some (.m none)
  | .nilFunc => some .nf
  | .nilIface => some .ni
  | .func (.func g) ⟨[]⟩ ⟨cs⟩ => (toAVs cs).map (.f g ·)
  | .agg ⟨cs⟩ => (toAVs cs).map .agg
  | .tuple ⟨cs⟩ => (toAVs cs).map .tup
  | _ => none
def toAVs : List Value → Option (List AV)
  | [] => some []
  | v :: vs => match toAV v, toAVs vs with
    | some a, some as => some (a :: as)
    | _, _ => none
end

def setFrom {α : Type} (t : Tr α) (i : Nat) : List α → Tr α
  | [] => t
  | c :: cs => setFrom (t.set deep i c) (i + 1) cs
/-- A new row; z: an element's size, where it may grow. -/
def AH.new (H : AH) (cs : List AV) (z : Nat) : AH :=
  { objs := H.objs.set deep H.next (.row (setFrom .nil 0 cs) cs.length 0 z), next := H.next + 1 }
/-- There is room for one more. -/
def okNew (H : AH) (cs : List AV) : Bool := Nat.blt H.next 1000000000 && Nat.blt cs.length 1000000000
def AH.read (H : AH) (a : Pl) (k : Nat) : Option AV :=
  match H.objs.get a.o with
  | some (.row cells size minv _) => if minv ≤ a.v ∧ a.v ≤ size ∧ a.i + k < a.v then cells.get (a.i + k) else none
  | some (.mp _) => none
  | none => none
def AH.reads (H : AH) (a : Pl) (k : Nat) : Nat → Option (List AV)
  | 0 => some []
  | n + 1 => match H.read a k, H.reads a (k + 1) n with
    | some c, some cs => some (c :: cs)
    | _, _ => none
def AH.write (H : AH) (a : Pl) (cs : List AV) : Option AH :=
  match H.objs.get a.o with
  | some (.row cells size minv z) => if minv ≤ a.v ∧ a.v = size ∧ a.i + cs.length ≤ size then some { H with objs := H.objs.set deep a.o (.row (setFrom cells a.i cs) size size z) } else none
  | some (.mp _) => none
  | none => none
/-- An object grows: the slice that ends where it ends has cells more. -/
def AH.grow (H : AH) (a : Pl) (len : Nat) (cs : List AV) (z : Nat) : Option (Nat × AH) :=
  match H.objs.get a.o with
  | some (.row cells size minv z') => if minv ≤ a.v ∧ a.v = size ∧ a.i + len = size ∧ z' = z ∧ size + cs.length < 1000000000 then some (size + cs.length, { H with objs := H.objs.set deep a.o (.row (setFrom cells size cs) (size + cs.length) minv z) }) else none
  | some (.mp _) => none
  | none => none

section
variable (P : Program)
def sz (t : TypeId) : Option Nat := (P.info? t).map (·.size)
def isAg (t : TypeId) : Option Bool := match P.underlying t with
  | some (.struct _) | some (.array _ _) => some true
  | some _ => some false
  | none => none
def zero (t : TypeId) : Option AV := match P.info? t with
  | some i => i.zero.bind toAV
  | none => none
def loadV (H : AH) (t : TypeId) (a : Pl) : Option AV := match isAg P t with
  | some true => match sz P t with
    | some n => (H.reads a 0 n).map .agg
    | none => none
  | some false => H.read a 0
  | none => none
def oneCell : AV → Bool
  | .agg _ | .tup _ | .undef => false
  | _ => true
def storeV (H : AH) (t : TypeId) (a : Pl) (v : AV) : Option AH := match sz P t with
  | some n => if v.cells.length = n ∧ v.cells.all oneCell = true then H.write a v.cells else none
  | none => none
def Pl.add (a : Pl) (n : Nat) : Pl := { a with i := a.i + n }
/-- What the model's own operation on plain values tells. -/
def pureOf : Sem Value → Option AV
  | .pure (.int k n) => some (.n k n)
  | .pure (.bool b) => some (.b b)
  | _ => none
def lessN : List Nat → List Nat → Bool
  | _, [] => false
  | [], _ :: _ => true
  | x :: a, y :: b => Nat.blt x y || (Nat.beq x y && lessN a b)
def eqN : List Nat → List Nat → Bool
  | [], [] => true
  | x :: a, y :: b => Nat.beq x y && eqN a b
  | _, _ => false
def strOp (op : BinOp) (x y : List Nat) : Option AV := match op with
  | .add => if x.length + y.length ≤ 1000000000 then some (.s (x ++ y)) else none
  | .eql => some (.b (eqN x y))
  | .neq => some (.b !(eqN x y))
  | .lss => some (.b (lessN x y))
  | .leq => some (.b (lessN x y || eqN x y))
  | .gtr => some (.b !(lessN x y || eqN x y))
  | .geq => some (.b !(lessN x y))
  | _ => none
def eqPlain (t : TypeId) (x y : AV) : Option Bool := match P.underlying t, x, y with
  | some .bool, .b a, .b c => some (a == c)
  | some (.pointer _), .p none, .p c => some c.isNone
  | some (.pointer _), .p _, .p none => some false
  | some (.slice _), .l none _ _, .l c _ _ => some c.isNone
  | some (.slice _), .l _ _ _, .l none _ _ => some false
  | some (.map _ _), .m none, .m c => some c.isNone
  | some (.map _ _), .m _, .m none => some false
  | some (.func _ _ _), .nf, .nf => some true
  | some (.func _ _ _), .nf, .f _ _ => some false
  | some (.func _ _ _), .f _ _, .nf => some false
  | some (.interface _), .ni, .i _ _ => some false
  | some (.interface _), .i _ _, .ni => some false
  | _, _, _ => none
def bin (op : BinOp) (t : TypeId) (x y : AV) : Option AV := match op, x, y with
  | .shl, .n k a, .n yk c | .shr, .n k a, .n yk c => pureOf (Op.shift op k a yk c)
  | _, .n k a, .n k' c => if k = k' then (match op with
      | .add | .sub | .mul => pureOf (Op.intArith op k a c)
      | .quo | .rem => pureOf (Op.intDiv op k a c)
      | .and | .or | .xor | .andNot => pureOf (Op.intBits op k a c)
      | _ => pureOf (Op.intCmp op a c)) else none
  | _, .s a, .s c => strOp op a c
  | .eql, x, y => (eqPlain P t x y).map .b
  | .neq, x, y => (eqPlain P t x y).map fun z => .b !z
  | _, _, _ => none
/-- Is an operand written out? -/
def isK : Operand → Bool
  | .const _ => true
  | _ => false
/-- Two nil values of an interface type are held together where one is written out. -/
def binE (lit : Bool) (op : BinOp) (t : TypeId) (x y : AV) : Option AV := match x, y with
  | .ni, .ni => match lit, op, P.underlying t with
    | true, .eql, some (.interface _) => some (.b true)
    | true, .neq, some (.interface _) => some (.b false)
    | _, _, _ => none
  | x, y => bin P op t x y
def mkIf (t : TypeId) (x : AV) : Option AV := match P.underlying t with
  | some (.interface _) => none
  | some _ => some (.i t x)
  | none => none
def bytesOf (l : List Nat) : List AV := l.map fun (c : Nat) => .n .u8 (c : Int)
def toBytes : List AV → Option (List Nat)
  | [] => some []
  | .n .u8 c :: cs => if 0 ≤ c ∧ c < 256 then (toBytes cs).map (c.toNat :: ·) else none
  | _ :: _ => none
def convP (src dst : TypeId) (x : AV) : Option AV := match P.underlying src, P.underlying dst, x with
  | some _, some (.int k), .n _ c => pureOf (Conv.intToInt k c)
  | some _, some .string, .s _ => some x
  | _, _, _ => none
def convR (H : AH) (src dst : TypeId) (x : AV) : Option AV := match P.underlying src, P.underlying dst, x with
  | some (.slice e), some .string, .l a len _ => match P.underlying e with
    | some (.int .u8) => match a with
      | none => some (.s [])
      | some a => ((H.reads a 0 len).bind toBytes).map .s
    | _ => none
  | _, _, _ => none
/-- What is made: its cells, an element's size, the value out of the place. -/
structure Mk where
  cs : List AV
  z : Nat
  val : Pl → AV
def convA (src dst : TypeId) (x : AV) : Option Mk := match P.underlying src, P.underlying dst, x with
  | some _, some (.slice e), .s l => match P.underlying e with
    | some (.int .u8) => if l.length ≤ 1000000000 then some ⟨bytesOf l, 1, fun a => .l (some a) l.length (inf + 1)⟩ else none
    | _ => none
  | _, _, _ => none
/-- Is it the last state of its row? -/
def AH.last (H : AH) (a : Pl) : Bool := match H.objs.get a.o with
  | some (.row _ size _ _) => Nat.beq a.v size
  | _ => false
def convW (H : AH) (src dst : TypeId) (x : AV) : Option (AV × AH) := match P.underlying src, P.underlying dst, x with
  | some (.slice _), some (.slice e), .l (some a) len cap => match P.underlying e with
    | some (.int .u8) => if src = dst then (if ((H.read a 0).isSome && H.last a) = true then some (.l (some a) len cap, H) else none) else none
    | _ => none
  | _, _, _ => none
def fillA (place : Nat → Option (Nat × Nat)) (cells : List AV) : List (Nat × AV) → Option (List AV)
  | [] => some cells
  | (i, v) :: rest => match place i with
    | none => none
    | some (off, size) => if v.cells.length ≠ size ∨ off + v.cells.length > cells.length ∨ v.cells.all oneCell = false then none
      else fillA place (cells.take off ++ v.cells ++ cells.drop (off + v.cells.length)) rest
def places (fs : Array Field) : Option (List (Nat × Nat)) := fs.toList.mapM fun f => (sz P f.type).map (f.offset, ·)
def repl (z : List AV) : Nat → List AV
  | 0 => []
  | n + 1 => z ++ repl z n
def buildA (t : TypeId) (parts : List (Nat × AV)) : Option AV := match P.underlying t, zero P t with
  | some (.struct fs), some z => match places P fs with
    | some ps => (fillA (fun i => ps[i]?) z.cells parts).map .agg
    | none => none
  | some (.array _ e), some z => match sz P e with
    | some n => (fillA (fun i => some (i * n, n)) z.cells parts).map .agg
    | none => none
  | _, _ => none
def buildSl (t : TypeId) (len : Nat) (parts : List (Nat × AV)) : Option Mk := match P.underlying t with
  | some (.slice e) => match sz P e, zero P e with
    | some n, some z => if n = 0 ∨ z.cells.length ≠ n ∨ len * n > 100000 then none else
      (fillA (fun i => some (i * n, n)) (repl z.cells len) parts).map fun cs => ⟨cs, 0, fun a => .l (some a) len len⟩
    | _, _ => none
  | _ => none
def makeSl (t : TypeId) (len cap : AV) : Option Mk := match P.underlying t, len, cap with
  | some (.slice e), .n _ l, .n _ c => match P.info? e, zero P e with
    | some i, some z => if i.size = 0 ∨ z.cells.length ≠ i.size ∨ l < 0 ∨ c < l ∨ c > 16777216 ∨ i.bytes > 1000000 ∨ 1000000000 ≤ c.toNat * i.size then none else
      some ⟨repl z.cells c.toNat, 0, fun a => .l (some a) l.toNat c.toNat⟩
    | _, _ => none
  | _, _, _ => none
/-- Is a number less than another (told by their forms, so that it is told of a sum with a variable, too)? -/
def ltI : Int → Int → Bool
  | .ofNat a, .ofNat b => Nat.blt a b
  | .ofNat _, .negSucc _ => false
  | .negSucc _, .ofNat _ => true
  | .negSucc a, .negSucc b => Nat.blt b a
theorem ltI_iff : ∀ {x y : Int}, ltI x y = true ↔ x < y
  | .ofNat a, .ofNat b => by
    show Nat.blt a b = true ↔ _
    rw [Nat.blt_eq]; exact Int.ofNat_lt.symm
  | .ofNat a, .negSucc b => by
    have h1 : (0 : Int) ≤ Int.ofNat a := Int.natCast_nonneg a
    have h2 := Int.negSucc_lt_zero b
    exact ⟨fun h => (by cases h), fun h => (by omega)⟩
  | .negSucc a, .ofNat b => by
    have h1 : (0 : Int) ≤ Int.ofNat b := Int.natCast_nonneg b
    have h2 := Int.negSucc_lt_zero a
    exact ⟨fun _ => by omega, fun _ => rfl⟩
  | .negSucc a, .negSucc b => by
    show Nat.blt b a = true ↔ _
    rw [Nat.blt_eq]
    constructor <;> intro h <;> omega
def bound (x : Option AV) (dflt : Nat) (top : Nat) : Option Nat := match x with
  | none => some dflt
  | some (.n _ i) => if ltI i 0 = false ∧ ltI top i = false then some i.toNat else none
  | some _ => none
theorem bound_old (x : Option AV) (dflt : Nat) (top : Nat) : bound x dflt top = match x with
  | none => some dflt
  | some (.n _ i) => if 0 ≤ i ∧ i ≤ top then some i.toNat else none
  | some _ => none := by
  unfold bound
  split
  · rfl
  · rename_i k i
    have e1 : (ltI i 0 = false) ↔ 0 ≤ i := by
      cases h : ltI i 0 with
      | true => have := ltI_iff.1 h; simp; omega
      | false => have : ¬ i < 0 := fun q => by rw [← ltI_iff, h] at q; cases q
                 simp; omega
    have e2 : (ltI (top : Int) i = false) ↔ i ≤ (top : Int) := by
      cases h : ltI (top : Int) i with
      | true => have := ltI_iff.1 h; simp; omega
      | false => have : ¬ (top : Int) < i := fun q => by rw [← ltI_iff, h] at q; cases q
                 simp; omega
    simp only [e1, e2]
  · rfl
def sliceA (t : TypeId) (x : AV) (lo hi mx : Option AV) : Option AV := match P.underlying t, x with
  | some .string, .s l => match mx, bound hi l.length l.length with
    | none, some h => (bound lo 0 h).map fun z => .s ((l.take h).drop z)
    | _, _ => none
  | some (.slice e), .l a len cap => match sz P e with
    | some n => if n = 0 then none else
      if cap < inf then match bound mx cap cap with
        | some m => match (if mx.isSome && hi.isNone then none else bound hi len m) with
          | some h => (bound lo 0 h).map fun z => .l (if m = z then a else a.map (·.add (z * n))) (h - z) (m - z)
          | none => none
        | none => none
      else match mx with
        | none => if cap = inf + n then (match bound hi len len with
          | some h => (bound lo 0 h).map fun z => .l (a.map (·.add (z * n))) (h - z) cap
          | none => none) else none
        | some _ => match bound mx 0 len with
          | some m => match (if hi.isNone then none else bound hi 0 m) with
            | some h => (bound lo 0 h).map fun z => .l (if m = z then a else a.map (·.add (z * n))) (h - z) (m - z)
            | none => none
          | none => none
    | none => none
  | _, _ => none
def indexAd (t : TypeId) (x i : AV) : Option AV := match P.underlying t, x, i with
  | some (.slice e), .l (some a) len _, .n _ i => match sz P e with
    | some n => if 0 ≤ i ∧ i < len then some (.p (some (a.add (i.toNat * n)))) else none
    | none => none
  | some (.array len e), .p (some a), .n _ i => match sz P e with
    | some n => if 0 ≤ i ∧ i < len then some (.p (some (a.add (i.toNat * n)))) else none
    | none => none
  | _, _, _ => none
def partA (t : TypeId) (cs : List AV) (off : Nat) : Option AV := match isAg P t with
  | some true => match sz P t with
    | some n => if off + n ≤ cs.length then some (.agg ((cs.drop off).take n)) else none
    | none => none
  | some false => cs[off]?
  | none => none
def indexA (t : TypeId) (x i : AV) : Option AV := match P.underlying t, x, i with
  | some .string, .s l, .n _ i => if 0 ≤ i then (l[i.toNat]?).map fun (c : Nat) => AV.n .u8 (c : Int) else none
  | some (.array len e), .agg cs, .n _ i => match sz P e with
    | some n => if 0 ≤ i ∧ i < len then partA P e cs (i.toNat * n) else none
    | none => none
  | _, _, _ => none
def fieldAd (s : TypeId) (x : AV) (f : Nat) : Option AV := match P.underlying s, x with
  | some (.struct fs), .p (some a) => match fs[f]? with
    | some fd => match sz P fd.type with
      | some n => if n = 0 then none else some (.p (some (a.add fd.offset)))
      | none => none
    | none => none
  | _, _ => none
def fieldA (s : TypeId) (x : AV) (f : Nat) : Option AV := match P.underlying s, x with
  | some (.struct fs), .agg cs => match fs[f]? with
    | some fd => partA P fd.type cs fd.offset
    | none => none
  | _, _ => none
/-- The first cells of what is appended or copied. -/
def firstA (H : AH) (size n : Nat) : AV → Option (List AV)
  | .l (some a) len _ => if n ≤ len then H.reads a 0 (n * size) else none
  | .l none _ _ => if n = 0 then some [] else none
  | .s l => if size = 1 ∧ n ≤ l.length then some (bytesOf (l.take n)) else none
  | _ => none
/-- The source of an append fits its type. -/
def goodSrc (xt : TypeDesc) (size : Nat) (x : AV) : Bool := match xt, x with
  | .slice _, .l _ _ _ => true
  | .string, .s _ => Nat.beq size 1
  | _, _ => false
def lenA : AV → Option Nat
  | .l _ n _ => some n
  | .s l => some l.length
  | _ => none
def appendA (ts : Array TypeId) (s x : AV) (H : AH) : Option (AV × AH) := match ts.toList, s with
  | [t, tx], .l base len cap => match P.underlying t, P.underlying tx, lenA x with
    | some (.slice e), some xt, some n => match P.info? e, zero P e with
      | some i, some z => if i.size = 0 ∨ z.cells.length ≠ i.size ∨ len + n > 16777216 ∨ i.bytes > 1000000 ∨ goodSrc xt i.size x = false then none else match firstA H i.size n x with
        | some new => if new.all oneCell = false then none else
          if n = 0 then some (s, H)
          else match base with
            | none => if okNew H new = true then some (.l (some ⟨H.next, new.length, 0⟩) n (inf + i.size), H.new new i.size) else none
            | some a =>
              if cap < inf then
                if len + n ≤ cap then (H.write (a.add (len * i.size)) new).map fun H' => (.l (some a) (len + n) cap, H')
                else match H.reads a 0 (len * i.size) with
                  | some old => if okNew H (old ++ new) = true then some (.l (some ⟨H.next, (old ++ new).length, 0⟩) (len + n) (inf + i.size), H.new (old ++ new) i.size) else none
                  | none => none
              else if cap = inf + i.size then (H.grow a (len * i.size) new i.size).map fun q => (.l (some { a with v := q.1 }) (len + n) cap, q.2) else none
        | none => none
      | _, _ => none
    | _, _, _ => none
  | _, _ => none
/-- An append of no noughts. -/
def appendZ (ts : Array TypeId) (s x : AV) : Bool := match ts.toList, s, x with
  | [t, tx], .l _ _ _, .n _ 0 => match P.underlying t, P.underlying tx with
    | some (.slice e), some (.int _) => (sz P e).isSome
    | _, _ => false
  | _, _, _ => false
def copyA (ts : Array TypeId) (d x : AV) (H : AH) : Option (AV × AH) := match (ts[0]?).bind P.underlying, d with
  | some (.slice e), .l base dl _ => match sz P e, lenA x with
    | some z, some n => match firstA H z (Nat.min n dl) x with
      | some cs => if cs.all oneCell = false ∨ dl > 100000000 then none else match base with
        | some a => if Nat.min n dl = 0 then some (.n .i64 0, H) else (H.write a cs).map fun H' => (.n .i64 (Nat.min n dl : Nat), H')
        | none => if Nat.min n dl = 0 then some (.n .i64 0, H) else none
      | none => none
    | _, _ => none
  | _, _ => none
def clearA (ts : Array TypeId) (d : AV) (H : AH) : Option (AV × AH) := match (ts[0]?).bind P.underlying, d with
  | some (.slice e), .l base n _ => if n = 0 then some (.tup [], H) else match base, zero P e with
    | some a, some z => if z.cells.all oneCell = true ∧ z.cells.length ≠ 0 then (H.write a (repl z.cells n)).map fun H' => (.tup [], H') else none
    | _, _ => none
  | _, _ => none
def minmax (mx : Bool) : List AV → Option AV
  | [.n k x, .n _ y] => some (.n k (if mx then (if ltI x y = true then y else x) else (if ltI y x = true then y else x)))
  | [.sg k true, .n _ y] => if ltI 0 y = true then none else some (if mx then .sg k true else .n k y)
  | [.sg k false, .n _ y] => if ltI y 0 = true then none else some (if mx then .n k y else .sg k false)
  | [.s x, .s y] => some (.s (if mx then (if lessN x y then y else x) else (if lessN x y || eqN x y then x else y)))
  | _ => none
def lenB (ts : Array TypeId) (x : AV) : Option AV := match (ts[0]?).bind P.underlying, x with
  | some .string, .s l => some (.n .i64 l.length)
  | some (.array n _), _ => some (.n .i64 n)
  | some (.pointer e), _ => match P.underlying e with
    | some (.array n _) => some (.n .i64 n)
    | _ => none
  | some (.slice _), .l _ n _ => some (.n .i64 n)
  | some (.map _ _), .m none => some (.n .i64 0)
  | _, _ => none

/-- Two keys of a kind. -/
def sameA : TypeDesc → AV → AV → Option Bool
  | .int _, .n k a, .n k' b => if k = k' then some (decide (a = b)) else none
  | .string, .s a, .s b => some (eqN a b)
  | _, _, _ => none
def findA (kd : TypeDesc) (k : AV) : List (AV × AV) → Nat → Option (Option (Nat × AV))
  | [], _ => some none
  | e :: es, i => match sameA kd k e.1 with
    | some true => some (some (i, e.2))
    | some false => findA kd k es (i + 1)
    | none => none
/-- A key's kind. -/
def keyKd (t : TypeId) : Option TypeDesc := match P.underlying t with
  | some (.int k) => some (.int k)
  | some .string => some .string
  | _ => none
/-- A map's key and element. -/
def mapTy (t : TypeId) : Option (TypeDesc × TypeId) := match P.underlying t with
  | some (.map k e) => (keyKd P k).map (·, e)
  | _ => none
def AH.entries (H : AH) : Option Nat → Option (List (AV × AV))
  | none => some []
  | some o => match H.objs.get o with
    | some (.mp es) => some es
    | _ => none
def AH.setMap (H : AH) (o : Nat) (es : List (AV × AV)) : AH := { H with objs := H.objs.set deep o (.mp es) }
def lookA (H : AH) (t : TypeId) (x i : AV) (ok : Bool) : Option AV := match mapTy P t, x with
  | some (kd, elem), .m r => match H.entries r with
    | some es => match findA kd i es 0 with
      | some (some (_, v)) => some (if ok then .tup [v, .b true] else v)
      | some none => (zero P elem).map fun z => if ok then .tup [z, .b false] else z
      | none => none
    | none => none
  | _, _ => none
def updA (H : AH) (t : TypeId) (x k v : AV) : Option AH := match mapTy P t, x with
  | some (kd, _), .m (some o) => match H.entries (some o) with
    | some es => match findA kd k es 0 with
      | some (some (i, _)) => some (H.setMap o (es.set i (k, v)))
      | some none => some (H.setMap o (es ++ [(k, v)]))
      | none => none
    | none => none
  | _, _ => none
def delA (H : AH) (t : TypeId) (x k : AV) : Option AH := match mapTy P t, x with
  | some (_, _), .m none => some H
  | some (kd, _), .m (some o) => match H.entries (some o) with
    | some es => match findA kd k es 0 with
      | some (some (i, _)) => some (H.setMap o (es.eraseIdx i))
      | some none => some H
      | none => none
    | none => none
  | _, _ => none
def mlenA (H : AH) (ts : Array TypeId) (x : AV) : Option AV := match (ts[0]?).bind P.underlying, x with
  | some (.map _ _), .m r => (H.entries r).map fun es => .n .i64 es.length
  | _, _ => none
def mkMap (H : AH) : Option (AV × AH) := if Nat.blt H.next 1000000000 = true then some (.m (some H.next), { objs := H.objs.set deep H.next (.mp []), next := H.next + 1 }) else none

/-- A frame: its slots, and how many there are. -/
structure Fr where
  t : Tr AV
  n : Nat
def Fr.at (T : Fr) (t : Nat) : AV := (T.t.get t).getD .undef
def ev (T : Fr) : Operand → Option AV
  | .tmp t => some (T.at t)
  | .const v => toAV v
  | .global _ => none
  | .func g => some (.f g [])
def evs (T : Fr) : List Operand → Option (List AV)
  | [] => some []
  | x :: xs => match ev T x, evs T xs with
    | some a, some as => some (a :: as)
    | _, _ => none
def evp (T : Fr) : List (Nat × Operand) → Option (List (Nat × AV))
  | [] => some []
  | (i, x) :: xs => match ev T x, evp T xs with
    | some a, some as => some ((i, a) :: as)
    | _, _ => none
/-- An operand that may be there. -/
def evo (T : Fr) : Option Operand → Option (Option AV)
  | none => some none
  | some x => (ev T x).map some
/-- The kinds of operations: plain; reads; makes; writes; calls. -/
inductive OK where
  | p | r | a | w | c | no
  deriving DecidableEq
def kind : Op → OK
  | .move _ | .assign _ | .pick .. | .build .. | .nilCheck _ | .makeInterface .. | .binOp .. | .unOp .. | .makeFunc .. | .slice .. | .fieldAddr .. | .field .. | .indexAddr .. | .index .. | .extract .. => .p
  | .convert src dst _ => match P.underlying src, P.underlying dst with
    | some (.slice _), some .string => .r
    | some (.slice _), some (.slice _) => .w
    | _, some (.slice _) => .a
    | _, _ => .p
  | .alloc _ | .box .. | .buildSlice .. | .makeSlice .. => .a
  | .load .. | .lookup .. => .r
  | .store .. | .mapUpdate .. | .makeMap .. => .w
  | .call c => match c.callee with
    | .builtin .len => match (c.argTypes[0]?).bind P.underlying with
      | some (.map _ _) => .r
      | _ => .p
    | .builtin .min | .builtin .max => .p
    | .builtin .append | .builtin .copy | .builtin .clear | .builtin .delete => .w
    | .value _ => .c
    | .invoke .. => .c
    | _ => .no
  | _ => .no
/-- A method value of an interface value. -/
def methF (name : String) (as : List AV) : Option AV := match as with
  | [.i t a] => match methT t name with
    | some (g, none) => some (.fb g [a])
    | _ => none
  | _ => none
def opP (T : Fr) (o : Op) : Option AV := match o with
  | .move x | .assign x => ev T x
  | .pick c x y => match ev T c with
    | some (.b true) => ev T x
    | some (.b false) => ev T y
    | _ => none
  | .build t ps => match evp T ps.toList with
    | some as => buildA P t as
    | none => none
  | .nilCheck x => match ev T x with
    | some (.p (some a)) => some (.p (some a))
    | some (.i t a) => some (.i t a)
    | some (.f g cs) => some (.f g cs)
    | some (.fb g cs) => some (.fb g cs)
    | _ => none
  | .binOp op t x y _ => match ev T x, ev T y with
    | some a, some c => binE P (isK x || isK y) op t a c
    | _, _ => none
  | .makeInterface t x => match ev T x with
    | some a => mkIf P t a
    | none => none
  | .unOp op _ x => match ev T x with
    | some (.n k i) => pureOf (Op.unary op (.int k i))
    | some (.b i) => pureOf (Op.unary op (.bool i))
    | _ => none
  | .convert src dst x => match ev T x with
    | some a => convP P src dst a
    | none => none
  | .makeFunc (.method name) fst cs => if cs.size = 0 then match evs T fst.toList with
      | some as => methF name as
      | none => none
    else none
  | .makeFunc (.func g) fst cs => if fst.size = 0 then (evs T cs.toList).map (.f g ·) else if cs.size = 0 then (evs T fst.toList).map (.fb g ·) else none
  | .slice t x lo hi mx => match ev T x, evo T lo, evo T hi, evo T mx with
    | some a, some l, some h, some m => sliceA P t a l h m
    | _, _, _, _ => none
  | .fieldAddr t x f => match ev T x with
    | some a => fieldAd P t a f
    | none => none
  | .field t x f => match ev T x with
    | some a => fieldA P t a f
    | none => none
  | .indexAddr t x i => match ev T x, ev T i with
    | some a, some j => indexAd P t a j
    | _, _ => none
  | .index t x i => match ev T x, ev T i with
    | some a, some j => indexA P t a j
    | _, _ => none
  | .extract x i => match ev T x with
    | some (.tup cs) => cs[i]?
    | _ => none
  | .call c => match evs T c.args.toList, c.callee with
    | some [x], .builtin .len => lenB P c.argTypes x
    | some as, .builtin .min => minmax false as
    | some as, .builtin .max => minmax true as
    | _, _ => none
  | _ => none
def opR (T : Fr) (H : AH) (o : Op) : Option AV := match o with
  | .load t x => match ev T x with
    | some (.p (some a)) => loadV P H t a
    | _ => none
  | .convert src dst x => match ev T x with
    | some a => convR P H src dst a
    | none => none
  | .lookup t x i ok => match ev T x, ev T i with
    | some a, some k => lookA P H t a k ok
    | _, _ => none
  | .call c => match evs T c.args.toList, c.callee with
    | some [x], .builtin .len => mlenA P H c.argTypes x
    | _, _ => none
  | _ => none
def opA (T : Fr) (o : Op) : Option Mk := match o with
  | .alloc e => (zero P e).map fun z => ⟨z.cells, 0, fun a => .p (some a)⟩
  | .box _ x => match ev T x with
    | some v => if v.cells.all oneCell = true then some ⟨v.cells, 0, fun a => .p (some a)⟩ else none
    | none => none
  | .buildSlice t n ps => match evp T ps.toList with
    | some as => buildSl P t n as
    | none => none
  | .makeSlice t l c => match ev T l, ev T c with
    | some a, some b => makeSl P t a b
    | _, _ => none
  | .convert src dst x => match ev T x with
    | some a => convA P src dst a
    | none => none
  | _ => none
def opW (T : Fr) (H : AH) (o : Op) : Option (AV × AH) := match o with
  | .store t x y => match ev T x, ev T y with
    | some (.p (some a)), some v => (storeV P H t a v).map fun H' => (.undef, H')
    | _, _ => none
  | .convert src dst x => match ev T x with
    | some a => convW P H src dst a
    | none => none
  | .call c => match evs T c.args.toList, c.callee with
    | some [s, x], .builtin .append => if appendZ P c.argTypes s x = true then some (s, H) else appendA P c.argTypes s x H
    | some [s, x], .builtin .copy => copyA P c.argTypes s x H
    | some [s], .builtin .clear => clearA P c.argTypes s H
    | some [m, k], .builtin .delete => match c.argTypes[0]? with
      | some t => (delA P H t m k).map fun H' => (.tup [], H')
      | none => none
    | _, _ => none
  | .mapUpdate t m k v => match ev T m, ev T k, ev T v with
    | some m, some k, some v => (updA P H t m k v).map fun H' => (.undef, H')
    | _, _, _ => none
  | .makeMap _ none => mkMap H
  | _ => none
/-- A call of an interface value's method. -/
def opI (H : AH) (name : String) (r : AV) (as : List AV) : Option (Nat × List AV) := match r with
  | .i t a => match methT t name with
    | some (g, none) => some (g, a :: as)
    | some (g, some e) => match a with
      | .p (some pl) => match loadV P H e pl with
        | some c => some (g, c :: as)
        | none => none
      | _ => none
    | none => none
  | _ => none
def opC (T : Fr) (H : AH) (o : Op) : Option (Nat × List AV) := match o with
  | .call c => match evs T c.args.toList, c.callee with
    | some as, .value x => match ev T x with
      | some (.f g cs) => some (g, as ++ cs)
      | some (.fb g fs) => some (g, fs ++ as)
      | _ => none
    | some as, .invoke r name => match ev T r with
      | some v => opI P H name v as
      | none => none
    | _, _ => none
  | _ => none
def put (T : Fr) (d : Option Tmp) (v : AV) : Fr := match d with
  | some t => if t < T.n then ⟨T.t.set deep t v, T.n⟩ else T
  | none => T
/-- Is an operation's guard met? -/
def wants (ops : Array Oper) (T : Fr) (o : Oper) : Option Bool := match o.guard with
  | none => some true
  | some (j, want) => match (ops[j]?).bind (·.dst) with
    | some t => match T.at t with
      | .b x => some (x == want)
      | .tup [] => some false
      | _ => none
    | none => none

/-- How a text ends. -/
inductive AX where
  | nrm
  | ex (id : Nat)
  | ret
variable (cf : Nat → List AV → AH → Option (AV × AH))
def doOp (ops : Array Oper) (o : Oper) (T : Fr) (H : AH) : Option (Fr × AH) := match wants ops T o with
  | some true => match kind P o.op with
    | .p => (opP P T o.op).map fun v => (put T o.dst v, H)
    | .r => (opR P T H o.op).map fun v => (put T o.dst v, H)
    | .a => match opA P T o.op with
      | some q => if okNew H q.cs = true then some (put T o.dst (q.val ⟨H.next, q.cs.length, 0⟩), H.new q.cs q.z) else none
      | none => none
    | .w => (opW P T H o.op).map fun q => (put T o.dst q.1, q.2)
    | .c => match opC P T H o.op with
      | some (g, as) => (cf g as H).map fun q => (put T o.dst q.1, q.2)
      | none => none
    | .no => none
  | some false => some (put T o.dst (.tup []), H)
  | none => none
def doOps (ops : Array Oper) : List Oper → Fr → AH → Option (Fr × AH)
  | [], T, H => some (T, H)
  | o :: os, T, H => match doOp P cf ops o T H with
    | some (T', H') => doOps ops os T' H'
    | none => none
/-- The order of a region is open: what must hold for any order to tell the same. -/
def anc (ops : Array Oper) : Nat → Nat → Nat → Bool
  | 0, _, _ => false
  | f + 1, j, i => match ops[j]? with
    | none => false
    | some o => o.after.toList.any fun e => Region.binds .any e && (Nat.beq e.on i || anc ops f e.on i)
def guardTmp (ops : Array Oper) (o : Oper) : List Nat := match o.guard with
  | none => []
  | some (j, _) => match (ops[j]?).bind (·.dst) with
    | some t => [t]
    | none => []
def looks (ops : Array Oper) (o : Oper) : List Nat := (o.op.operands.toList.filterMap fun | .tmp t => some t | _ => none) ++ guardTmp ops o
def hit (d : Option Tmp) (l : List Nat) : Bool := match d with
  | some t => l.any (Nat.beq t)
  | none => false
/-- Two operations that meet in a slot. -/
def shares (ops : Array Oper) (x y : Oper) : Bool := hit x.dst (looks ops y ++ y.dst.toList) || hit y.dst (looks ops x)
def isW (o : Oper) : Bool := match kind P o.op with
  | .w | .c => true
  | _ => false
def isA (o : Oper) : Bool := match kind P o.op with
  | .a => true
  | _ => false
def pairOk (ops : Array Oper) (i j : Nat) (x y : Oper) : Bool := !(shares ops x y || isW P x && isW P y || isW P x && isA P y) || anc ops ops.size j i
def edgesOk (j : Nat) (o : Oper) : Bool := o.after.toList.all fun e => !Region.binds .any e || Nat.blt e.on j
def pairsFrom (ops : Array Oper) (i : Nat) (x : Oper) : Nat → List Oper → Bool
  | _, [] => true
  | j, y :: ys => pairOk P ops i j x y && pairsFrom ops i x (j + 1) ys
def drawFrom (ops : Array Oper) : Nat → List Oper → Bool
  | _, [] => true
  | i, x :: xs => edgesOk i x && pairsFrom P ops i x (i + 1) xs && drawFrom ops (i + 1) xs
def drawOk (ops : Array Oper) : Bool := drawFrom P ops 0 ops.toList
def samePl (a c : Pl) : Bool := Nat.beq a.o c.o && Nat.beq a.v c.v && Nat.beq a.i c.i
def same0 : AV → AV → Bool
  | .b x, .b y => x == y
  | .n k x, .n k' y => decide (k = k') && decide (x = y)
  | .s l, .s m => eqN l m
  | .p none, .p none => true
  | .p (some a), .p (some c) => samePl a c
  | .l none n m, .l none n' m' => Nat.beq n n' && Nat.beq m m'
  | .l (some a) n m, .l (some c) n' m' => samePl a c && Nat.beq n n' && Nat.beq m m'
  | .m none, .m none => true
  | .m (some a), .m (some c) => Nat.beq a c
  | .f g [], .f h [] => Nat.beq g h
  | .fb g [.p (some a)], .fb h [.p (some c)] => Nat.beq g h && samePl a c
  | .nf, .nf => true
  | .ni, .ni => true
  | .sg k x, .sg k' y => decide (k = k') && (x == y)
  | _, _ => false
def sames : List AV → List AV → Bool
  | [], [] => true
  | a :: as, c :: cs => same0 a c && sames as cs
  | _, _ => false
def same : AV → AV → Bool
  | .agg cs, .agg ds => sames cs ds
  | a, c => same0 a c
/-- The states of a run in the text's order, one ahead of each operation and the last. -/
def states (ops : Array Oper) : List Oper → Fr → AH → Option (List (Fr × AH))
  | [], T, H => some [(T, H)]
  | o :: os, T, H => match doOp P cf ops o T H with
    | some (T', H') => (states ops os T' H').map ((T, H) :: ·)
    | none => none
/-- May the read j meet the heap as it is ahead of the write p? -/
def compat (ops : Array Oper) (ws : List Nat) (j p : Nat) : Bool := ws.all fun q => if Nat.blt q p then !anc ops ops.size q j else !anc ops ops.size j q
def sameTr : Tr AV → Tr AV → Bool
  | .nil, .nil => true
  | .node none l r, .node none l' r' => sameTr l l' && sameTr r r'
  | .node (some v) l r, .node (some v') l' r' => same0 v v' && (sameTr l l' && sameTr r r')
  | _, _ => false
/-- What an object was when it was made, and what it is later. -/
def sameOb : Option AO → Option AO → Bool
  | none, _ => true
  | some (.row c s m z), some (.row c' s' m' z') => Nat.beq s s' && (Nat.beq m m' && (Nat.beq z z' && sameTr c c'))
  | _, _ => false
/-- May the object j be made ahead of the write p, behind another write? -/
def behind (ops : Array Oper) (ws : List Nat) (j p : Nat) : Bool := compat ops ws j p && ws.any fun q => Nat.blt j q && Nat.blt q p
def freshAt (st : List (Fr × AH)) (j p : Nat) : Bool := match st[j]? with
  | some (_, H) => match st[j + 1]? with
    | some (_, H1) => match st[p]? with
      | some (_, Hp) => sameOb (H1.objs.get H.next) (Hp.objs.get H.next)
      | none => false
    | none => false
  | none => false
def readOk (ops : Array Oper) (ws : List Nat) (st : List (Fr × AH)) (j : Nat) (o : Oper) : Bool := match kind P o.op with
  | .r => match st[j]? with
    | some (T, H) => match wants ops T o, opR P T H o.op with
      | some true, some v => (ws ++ [ops.size]).all fun p => !compat ops ws j p || (match st[p]? with
        | some (_, Hp) => match opR P T Hp o.op with
          | some u => same u v
          | none => false
        | none => false)
      | some false, _ => true
      | _, _ => false
    | none => false
  | .a => (ws ++ [ops.size]).all fun p => !behind ops ws j p || freshAt st j p
  | _ => true
def readsFrom (ops : Array Oper) (ws : List Nat) (st : List (Fr × AH)) : Nat → List Oper → Bool
  | _, [] => true
  | j, o :: os => readOk P ops ws st j o && readsFrom ops ws st (j + 1) os
def wsFrom : Nat → List Oper → List Nat
  | _, [] => []
  | j, o :: os => if isW P o then j :: wsFrom (j + 1) os else wsFrom (j + 1) os
def doDraw (ops : Array Oper) (T : Fr) (H : AH) : Option (Fr × AH) :=
  if drawOk P ops = true then match states P cf ops ops.toList T H with
    | some st => if readsFrom P ops (wsFrom P 0 ops.toList) st 0 ops.toList = true then st[ops.size]? else none
    | none => none
  else none
def iter (step : Fr → AH → Option (AX × Fr × AH)) : Nat → Fr → AH → Option (AX × Fr × AH)
  | 0, _, _ => none
  | k + 1, T, H => match step T H with
    | some (.nrm, T', H') => iter step k T' H'
    | r => r
def code (L : Nat) : Code → Fr → AH → Option (AX × Fr × AH)
  | .skip, T, H => some (.nrm, T, H)
  | .region _ ops false, T, H => match doOps P cf ops ops.toList T H with
    | some (T', H') => some (.nrm, T', H')
    | none => none
  | .region _ ops true, T, H => match doDraw P cf ops T H with
    | some (T', H') => some (.nrm, T', H')
    | none => none
  | .seq a b, T, H => match code L a T H with
    | some (.nrm, T', H') => code L b T' H'
    | r => r
  | .cond c a b, T, H => match ev T c with
    | some (.b true) => code L a T H
    | some (.b false) => code L b T H
    | _ => none
  | .block id b, T, H => match code L b T H with
    | some (.ex i, T', H') => if i = id then some (.nrm, T', H') else some (.ex i, T', H')
    | r => r
  | .loop b, T, H => iter (code L b) L T H
  | .exit id, T, H => some (.ex id, T, H)
  | .ret, T, H => some (.ret, T, H)
  | _, _, _ => none
def resV (T : Fr) (H : AH) : List ResultVar → Option (List AV)
  | [] => some []
  | .tmp t :: rs => (resV T H rs).map fun vs => T.at t :: vs
  | .cell a t :: rs => match T.at a with
    | .p (some pl) => match loadV P H t pl, resV T H rs with
      | some v, some vs => some (v :: vs)
      | _, _ => none
    | _ => none
end
/-- One call, its own calls told by cf. -/
def step (P : Program) (L : Nat) (cf : Nat → List AV → AH → Option (AV × AH)) (g : Nat) (as : List AV) (H : AH) : Option (AV × AH) :=
  match P.funcs[g]? with
    | some fn => match fn.body with
      | some c => if fn.ntmps < as.length ∨ 1000000 < fn.ntmps ∨ fn.name == "runtime.NumGoroutine" then none else match code P cf L c ⟨setFrom .nil 0 as, fn.ntmps⟩ H with
        | some (.ex _, _, _) => none
        | some (_, T, H') => match resV P T H' fn.results.toList with
          | some [v] => some (v, H')
          | some vs => some (.tup vs, H')
          | none => none
        | none => none
      | none => none
    | none => none
/-- What O tells, or what C tells. -/
def over (O C : Nat → List AV → AH → Option (AV × AH)) (g : Nat) (as : List AV) (H : AH) : Option (AV × AH) :=
  match O g as H with
  | some r => some r
  | none => C g as H
def callO (P : Program) (O : Nat → List AV → AH → Option (AV × AH)) (L : Nat) : Nat → Nat → List AV → AH → Option (AV × AH)
  | 0 => O
  | d + 1 => over O (step P L (callO P O L d))
def call (P : Program) (L d : Nat) : Nat → List AV → AH → Option (AV × AH) := callO P (fun _ _ _ => none) L d
end Go.Proofs.Ytjhijcehcklipaa.Ev
