/-
  Plain facts on a stream of characters: what comes in pieces is put in order as all at once. 'S' is a stream's state; 'take', 'write', 'close' are its steps; no program in sight.
-/
import Derived.Test.YtiplbhjllkfemaaZNText
namespace Go.Proofs.Ytiplbhjllkfemaa.Stm
open Go.RowKit Go.Proofs.YtiplbhjllkfemaaW.PrintWords Go.Proofs.Ytiplbhjllkfemaa.Utf Go.Proofs.Ytiplbhjllkfemaa.NOrd Go.Proofs.Ytiplbhjllkfemaa.NTab Go.Proofs.Ytiplbhjllkfemaa.NChars Go.Proofs.Ytiplbhjllkfemaa.NText

/-! ### marks that stand behind one another -/
/-- Do more than thirty marks stand behind one another? k: how many stand ahead. -/
def over : Nat → List Int → Bool
  | _, [] => false
  | k, x :: xs => if clf x = 0 then over 0 xs else if 30 < k + 1 then true else over (k + 1) xs
/-- How many marks stand at the end. -/
def trail : Nat → List Int → Nat
  | k, [] => k
  | k, x :: xs => if clf x = 0 then trail 0 xs else trail (k + 1) xs
theorem over_append : ∀ (l m : List Int) (k : Nat), over k (l ++ m) = (over k l || over (trail k l) m)
  | [], _, _ => rfl
  | x :: xs, m, k => by
    show over k (x :: (xs ++ m)) = (over k (x :: xs) || over (trail k (x :: xs)) m)
    simp only [over, trail]
    by_cases h : clf x = 0
    · simp only [h, if_true]; exact over_append xs m 0
    · by_cases h2 : 30 < k + 1
      · simp only [h, h2, if_false, if_true, Bool.true_or]
      · simp only [h, h2, if_false]; exact over_append xs m (k + 1)
theorem trail_append : ∀ (l m : List Int) (k : Nat), trail k (l ++ m) = trail (trail k l) m
  | [], _, _ => rfl
  | x :: xs, m, k => by
    show trail k (x :: (xs ++ m)) = trail (trail k (x :: xs)) m
    simp only [trail]
    by_cases h : clf x = 0
    · simp only [h, if_true]; exact trail_append xs m 0
    · simp only [h, if_false]; exact trail_append xs m (k + 1)
theorem trail_marks : ∀ (l : List Int) (k : Nat), (∀ x ∈ l, 0 < clf x) → trail k l = k + l.length
  | [], k, _ => by simp [trail]
  | x :: xs, k, h => by
    have hx := h x (by simp)
    rw [trail, if_neg (by omega), trail_marks xs (k + 1) (fun y hy => h y (by simp [hy])), List.length_cons]; omega
theorem over_pre {l m : List Int} (h : over 0 (l ++ m) = false) : over 0 l = false := by
  rw [over_append] at h
  cases h2 : over 0 l with
  | false => rfl
  | true => rw [h2] at h; exact absurd h (by simp)
/-- Where the marks stand. -/
def pat (l : List Int) : List Bool := l.map fun x => decide (0 < clf x)
theorem pat_insr (c : Int) : ∀ o, pat (insr clf c o) = pat (c :: o)
  | [] => rfl
  | x :: xs => by
    rw [insr]
    split
    · rename_i h
      have hx : 0 < clf x := by omega
      have ih := pat_insr c xs
      show decide (0 < clf x) :: pat (insr clf c xs) = decide (0 < clf c) :: decide (0 < clf x) :: pat xs
      rw [ih]
      show decide (0 < clf x) :: decide (0 < clf c) :: pat xs = _
      rw [decide_eq_true hx, decide_eq_true h.1]
    · rfl
theorem pat_append (l m : List Int) : pat (l ++ m) = pat l ++ pat m := List.map_append
theorem pat_ordr (l : List Int) : ∀ o, pat (ordr clf o l) = pat (l.reverse ++ o) := by
  induction l with
  | nil => intro o; rfl
  | cons c l ih =>
    intro o
    rw [ordr_cons, ih, pat_append, pat_insr, List.reverse_cons, List.append_assoc, pat_append]; rfl
theorem pat_order (l : List Int) : pat (order clf l) = pat l := by
  have h := pat_ordr l []
  rw [List.append_nil] at h
  unfold order pat at *
  rw [List.map_reverse, h, List.map_reverse, List.reverse_reverse]
theorem over_pat : ∀ (l m : List Int) (k : Nat), pat l = pat m → over k l = over k m
  | [], [], _, _ => rfl
  | [], _ :: _, _, h => by simp [pat] at h
  | _ :: _, [], _, h => by simp [pat] at h
  | x :: xs, y :: ys, k, h => by
    have h1 : decide (0 < clf x) = decide (0 < clf y) ∧ pat xs = pat ys := by simpa [pat] using h
    have hx := (clf_range x).1
    have hy := (clf_range y).1
    have h2 : 0 < clf x ↔ 0 < clf y := by simpa using h1.1
    simp only [over]
    by_cases q : clf x = 0
    · rw [if_pos q, if_pos (by omega)]; exact over_pat xs ys 0 h1.2
    · rw [if_neg q, if_neg (show ¬ clf y = 0 by omega)]
      by_cases z : 30 < k + 1
      · rw [if_pos z, if_pos z]
      · rw [if_neg z, if_neg z]; exact over_pat xs ys (k + 1) h1.2
theorem over_order (l : List Int) : over 0 (order clf l) = over 0 l := over_pat _ _ 0 (pat_order l)

/-! ### order, part by part -/
theorem insr_stop (c x : Int) (hx : clf x = 0) (o : List Int) : ∀ p, ∃ p', insr clf c (p ++ [x]) = p' ++ [x] ∧ insr clf c (p ++ x :: o) = p' ++ x :: o
  | [] => by
    refine ⟨[c], ?_, ?_⟩
    · show insr clf c [x] = _; rw [insr, if_neg (by omega)]; rfl
    · show insr clf c (x :: o) = _; rw [insr, if_neg (by omega)]; rfl
  | y :: p => by
    by_cases h : 0 < clf c ∧ clf c < clf y
    · obtain ⟨p', h1, h2⟩ := insr_stop c x hx o p
      refine ⟨y :: p', ?_, ?_⟩
      · show insr clf c (y :: (p ++ [x])) = _; rw [insr, if_pos h, h1]; rfl
      · show insr clf c (y :: (p ++ x :: o)) = _; rw [insr, if_pos h, h2]; rfl
    · refine ⟨c :: y :: p, ?_, ?_⟩
      · show insr clf c (y :: (p ++ [x])) = _; rw [insr, if_neg h]; rfl
      · show insr clf c (y :: (p ++ x :: o)) = _; rw [insr, if_neg h]; rfl
theorem ordr_stop (x : Int) (hx : clf x = 0) (o : List Int) : ∀ (l p : List Int), ∃ p', ordr clf (p ++ [x]) l = p' ++ [x] ∧ ordr clf (p ++ x :: o) l = p' ++ x :: o
  | [], p => ⟨p, rfl, rfl⟩
  | c :: l, p => by
    obtain ⟨p1, h1, h2⟩ := insr_stop c x hx o p
    obtain ⟨p2, h3, h4⟩ := ordr_stop x hx o l p1
    exact ⟨p2, by rw [ordr_cons, h1, h3], by rw [ordr_cons, h2, h4]⟩
theorem insr_zero {x : Int} (hx : clf x = 0) (o : List Int) : insr clf x o = x :: o := by
  cases o with
  | nil => rfl
  | cons y ys => rw [insr, if_neg (by omega)]
/-- What begins with a character of class 0 is put in order by itself. -/
theorem order_split (A : List Int) {x : Int} (hx : clf x = 0) (r : List Int) : order clf (A ++ x :: r) = order clf A ++ order clf (x :: r) := by
  obtain ⟨p, h1, h2⟩ := ordr_stop x hx (ordr clf [] A) r []
  simp only [List.nil_append] at h1 h2
  have e1 : ordr clf [] (A ++ x :: r) = p ++ x :: ordr clf [] A := by rw [ordr_append, ordr_cons, insr_zero hx, h2]
  have e2 : ordr clf [] (x :: r) = p ++ [x] := by rw [ordr_cons, insr_zero hx, h1]
  unfold order
  rw [e1, e2]
  simp
theorem order_head {x : Int} (hx : clf x = 0) (r : List Int) : ∃ q, order clf (x :: r) = x :: q ∧ q.Perm r := by
  obtain ⟨p, h1, _⟩ := ordr_stop x hx [] r []
  simp only [List.nil_append] at h1
  have e2 : order clf (x :: r) = x :: p.reverse := by unfold order; rw [ordr_cons, insr_zero hx, h1]; simp
  refine ⟨p.reverse, e2, ?_⟩
  have := order_perm clf (x :: r)
  rw [e2] at this
  exact (List.perm_cons x).1 this

/-! ### a stream's state -/
structure S where
  rest : ByteArray
  held : List Int
  marks : Int
  err : Int
  closed : Bool
def S0 : S := ⟨⟨#[]⟩, [], 0, 0, false⟩
def S.fail (s : S) (e : Int) : S := ⟨⟨#[]⟩, [], 0, e, s.closed⟩
def S.more (s : S) (x : Int) : S := { s with held := s.held ++ [x], marks := s.marks + 1 }
def S.next (s : S) (x : Int) : S := { s with held := [x], marks := 0 }
def S.give (s : S) : List Int := encAll (order clf s.held)
def S.take : List Int → S → List Int → List Int × S
  | [], s, b => (b, s)
  | x :: xs, s, b => if 0 < clf x then (if s.marks + 1 > 30 then ([], (s.more x).fail 2) else S.take xs (s.more x) b) else S.take xs (s.next x) (b ++ s.give)

/-- What the characters that came have to do with the state: A went out, the rest is held. -/
structure Inv (e : List Int) (s : S) (out A : List Int) : Prop where
  all : e = A ++ s.held
  out : out = encAll (order clf A)
  emp : s.held = [] → A = []
  head : A ≠ [] → ∃ x r, s.held = x :: r ∧ clf x = 0
  tail : ∀ x ∈ s.held.tail, 0 < clf x
  cnt : s.marks = (trail 0 s.held : Nat)
  ok : over 0 e = false
  err : s.err = 0
  cl : s.closed = false
theorem Inv.start : Inv [] S0 [] [] := ⟨rfl, rfl, fun _ => rfl, fun h => absurd rfl h, by simp [S0], rfl, rfl, rfl, rfl⟩
theorem trail_zero {x : Int} (hx : clf x = 0) (r : List Int) (k : Nat) : trail k (x :: r) = trail 0 (x :: r) := by simp only [trail, hx, if_true]
theorem Inv.trail {e : List Int} {s : S} {out A : List Int} (h : Inv e s out A) : trail 0 e = trail 0 s.held := by
  rw [h.all, trail_append]
  by_cases q : A = []
  · rw [q]; rfl
  · obtain ⟨x, r, h1, h2⟩ := h.head q
    rw [h1, trail_zero h2 r (Stm.trail 0 A)]
theorem Inv.sp {e : List Int} {s : S} {out A : List Int} (h : Inv e s out A) : order clf e = order clf A ++ order clf s.held := by
  rw [h.all]
  by_cases q : A = []
  · rw [q]; rfl
  · obtain ⟨x, r, h1, h2⟩ := h.head q
    rw [h1, order_split A h2]
theorem encAll_append (l m : List Int) : encAll (l ++ m) = encAll l ++ encAll m := by simp [encAll]
theorem take_ok (pre : List Int) : ∀ (xs e : List Int) (s : S) (out A : List Int), Inv e s (pre ++ out) A →
    (over 0 (e ++ xs) = false → ∃ A', Inv (e ++ xs) (S.take xs s out).2 (pre ++ (S.take xs s out).1) A' ∧ (S.take xs s out).2.rest = s.rest) ∧
    (over 0 (e ++ xs) = true → S.take xs s out = ([], ⟨⟨#[]⟩, [], 0, 2, false⟩))
  | [], e, s, out, A, h => by
    rw [List.append_nil]
    refine ⟨fun _ => ⟨A, h, rfl⟩, fun q => ?_⟩
    rw [h.ok] at q; cases q
  | x :: xs, e, s, out, A, h => by
    have ea : e ++ x :: xs = (e ++ [x]) ++ xs := by simp
    have ho : over 0 (e ++ [x]) = over (trail 0 s.held) [x] := by rw [over_append, h.ok, h.trail]; rfl
    have hr := (clf_range x).1
    rw [S.take]
    by_cases h0 : 0 < clf x
    · rw [if_pos h0]
      by_cases h1 : s.marks + 1 > 30
      · rw [if_pos h1]
        have hc := h.cnt
        have : over 0 (e ++ [x]) = true := by
          rw [ho, over, if_neg (by omega), if_pos (by omega)]
        refine ⟨fun q => ?_, fun _ => ?_⟩
        · rw [ea] at q; rw [over_pre q] at this; cases this
        · show ([], S.mk _ _ _ _ s.closed) = _; rw [h.cl]
      · rw [if_neg h1]
        have hc := h.cnt
        have ok1 : over 0 (e ++ [x]) = false := by
          rw [ho, over, if_neg (by omega), if_neg (by omega), over]
        have hi : Inv (e ++ [x]) (s.more x) (pre ++ out) A := by
          refine ⟨by rw [h.all, List.append_assoc]; rfl, h.out, fun q => ?_, fun q => ?_, fun y hy => ?_, ?_, ok1, h.err, h.cl⟩
          · have : s.held ++ [x] = [] := q
            simp at this
          · obtain ⟨z, r, z1, z2⟩ := h.head q
            exact ⟨z, r ++ [x], by show s.held ++ [x] = _; rw [z1]; rfl, z2⟩
          · have hy' : y ∈ (s.held ++ [x]).tail := hy
            cases hh : s.held with
            | nil => rw [hh] at hy'; simp at hy'
            | cons z r =>
              rw [hh] at hy'
              rcases List.mem_append.1 (show y ∈ r ++ [x] from hy') with q | q
              · exact h.tail y (by rw [hh]; exact q)
              · rw [List.mem_singleton.1 q]; exact h0
          · show s.marks + 1 = ((trail 0 (s.held ++ [x]) : Nat) : Int)
            rw [trail_append, trail, if_neg (by omega), trail]; omega
        obtain ⟨i1, i2⟩ := take_ok pre xs (e ++ [x]) (s.more x) out A hi
        rw [← ea] at i1 i2
        exact ⟨fun q => (by obtain ⟨A', a1, a2⟩ := i1 q; exact ⟨A', a1, a2⟩), i2⟩
    · rw [if_neg h0]
      have hz : clf x = 0 := by omega
      have hi : Inv (e ++ [x]) (s.next x) (pre ++ (out ++ s.give)) e := by
        refine ⟨rfl, ?_, fun q => ?_, fun _ => ⟨x, [], rfl, hz⟩, fun y hy => ?_, ?_, ?_, h.err, h.cl⟩
        · rw [← List.append_assoc, h.out, h.sp, encAll_append]; rfl
        · exact absurd q (by simp [S.next])
        · simp [S.next] at hy
        · show (0 : Int) = ((trail 0 [x] : Nat) : Int); rw [trail, if_pos hz, trail]; rfl
        · rw [ho, over, if_pos hz, over]
      obtain ⟨i1, i2⟩ := take_ok pre xs (e ++ [x]) (s.next x) (out ++ s.give) e hi
      rw [← ea] at i1 i2
      exact ⟨fun q => (by obtain ⟨A', a1, a2⟩ := i1 q; exact ⟨A', a1, a2⟩), i2⟩

/-- What a character's taking keeps. -/
theorem take_keeps : ∀ (xs : List Int) (s : S) (b : List Int), (∀ x ∈ xs, valid x) → (∀ x ∈ s.held, valid x) → 0 ≤ s.marks → s.marks ≤ 30 →
    (∀ x ∈ (S.take xs s b).2.held, valid x) ∧ 0 ≤ (S.take xs s b).2.marks ∧ (S.take xs s b).2.marks ≤ 30 ∧ (S.take xs s b).1.length + 4 * (S.take xs s b).2.held.length ≤ b.length + 4 * s.held.length + 8 * xs.length ∧ (S.take xs s b).2.rest.size ≤ s.rest.size
  | [], s, b, _, hh, h0, h1 => ⟨hh, h0, h1, by simp [S.take], Nat.le_refl _⟩
  | x :: xs, s, b, hx, hh, h0, h1 => by
    rw [S.take]
    split
    · split
      · exact ⟨by intro y hy; simp [S.fail] at hy, Int.le_refl 0, by show (0 : Int) ≤ 30; omega, by show 0 + 4 * 0 ≤ _; omega, Nat.zero_le _⟩
      · rename_i hm
        obtain ⟨i1, i2, i3, i4, i5⟩ := take_keeps xs (s.more x) b (fun y hy => hx y (by simp [hy])) (fun y hy => by
          rcases List.mem_append.1 (show y ∈ s.held ++ [x] from hy) with q | q
          · exact hh y q
          · rw [List.mem_singleton.1 q]; exact hx x (by simp)) (by show 0 ≤ s.marks + 1; omega) (by show s.marks + 1 ≤ 30; omega)
        refine ⟨i1, i2, i3, ?_, i5⟩
        have e : (s.more x).held.length = s.held.length + 1 := by simp [S.more]
        rw [List.length_cons]; omega
    · obtain ⟨i1, i2, i3, i4, i5⟩ := take_keeps xs (s.next x) (b ++ s.give) (fun y hy => hx y (by simp [hy])) (fun y hy => by
          rw [List.mem_singleton.1 (show y ∈ [x] from hy)]; exact hx x (by simp)) (Int.le_refl 0) (by show (0 : Int) ≤ 30; omega)
      refine ⟨i1, i2, i3, ?_, i5⟩
      have e : (s.next x).held.length = 1 := rfl
      have g := PureSt.encAll_len (order clf s.held)
      rw [(order_perm clf s.held).length_eq] at g
      have g2 : s.give.length ≤ 4 * s.held.length := g
      rw [List.length_append] at i4
      rw [List.length_cons]; omega

/-! ### bytes in pieces -/
/-- May bytes still become a character? As the program asks it: n, c: how many bytes, what the first one bears. -/
def begT (n c : Int) : List Int → Int → Option Int
  | [], c0 => some c0
  | b :: l, c0 => if tail b then begT n c l (c0 * 64 + (b - 128)) else none
def lead (a : Int) : Int × Int := if a < 128 then (1, a) else if a < 194 then (0, 0) else if a < 224 then (2, a - 192) else if a < 240 then (3, a - 224) else if a < 245 then (4, a - 240) else (0, 0)
def leastN (n : Int) : Int := if n = 2 then 128 else if n = 3 then 2048 else if n = 4 then 65536 else 0
def begs : List Int → Bool
  | [] => true
  | a :: l =>
    if (lead a).1 = 0 then false else if (l.length : Int) + 1 ≥ (lead a).1 then false else match begT 0 0 l (lead a).2 with
      | none => false
      | some c => if l = [] then true else
        decide ((c + 1) * 64 ^ ((lead a).1.toNat - (l.length + 1)) - 1 ≥ leastN (lead a).1) && decide (c * 64 ^ ((lead a).1.toNat - (l.length + 1)) ≤ 1114111) && (decide (c * 64 ^ ((lead a).1.toNat - (l.length + 1)) < 55296) || decide ((c + 1) * 64 ^ ((lead a).1.toNat - (l.length + 1)) - 1 > 57343))
theorem begs_len {l : List Int} (h : begs l = true) : l.length ≤ 3 := by
  cases l with
  | nil => simp
  | cons a l =>
    simp only [begs] at h
    have hl : (lead a).1 ≤ 4 := by unfold lead; (repeat' split) <;> simp
    split at h
    · cases h
    · split at h
      · cases h
      · rw [List.length_cons]; omega
/-- Bytes that are no character, and begin none, are none whatever follows. -/
theorem begs_bad {l q : List Int} (hl : isByte l) (hq : isByte q) (h0 : l ≠ []) (hd : (dec l).2 = 0) (hb : begs l = false) : (dec (l ++ q)).2 = 0 := by
  refine Decidable.byContradiction fun hn => ?_
  have hb2 := isByte_append hl hq
  match l with
  | [] => exact h0 rfl
  | a :: s =>
    have ha := hl a (by simp)
    unfold dec at hn hd
    simp only [List.cons_append] at hn hd
    by_cases c1 : a < 128
    · simp [c1] at hd
    · by_cases c2 : a < 194
      · simp [c1, c2] at hn
      · by_cases c3 : a < 224
        · match s with
          | [] => simp [begs, lead, c1, c2, c3, begT] at hb
          | b :: t =>
            simp only [c1, c2, c3, if_true, if_false, List.cons_append] at hn hd
            exact hn hd
        · by_cases c4 : a < 240
          · match s with
            | [] => simp [begs, lead, c1, c2, c3, c4, begT] at hb
            | [b] =>
              simp only [c1, c2, c3, c4, if_true, if_false, List.cons_append, List.nil_append] at hn
              match q with
              | [] => simp at hn
              | c :: q =>
                have hc := hq c (by simp)
                simp only at hn
                split at hn
                · rename_i hh
                  obtain ⟨t1, t2, t3, t4⟩ := hh
                  simp only [begs, lead, c1, c2, c3, c4, if_true, if_false, begT, t1, leastN] at hb
                  unfold tail at t1 t2
                  unfold valid at t4
                  simp at hb
                  omega
                · simp at hn
            | b :: c :: t =>
                simp only [c1, c2, c3, c4, if_true, if_false, List.cons_append] at hn hd
                exact hn hd
          · by_cases c5 : a < 245
            · match s with
              | [] => simp [begs, lead, c1, c2, c3, c4, c5, begT] at hb
              | [b] =>
                simp only [c1, c2, c3, c4, c5, if_true, if_false, List.cons_append, List.nil_append] at hn
                match q with
                | [] => simp at hn
                | [_] => simp at hn
                | c :: d :: q =>
                  have hc := hq c (by simp)
                  have hd2 := hq d (by simp)
                  simp only at hn
                  split at hn
                  · rename_i hh
                    obtain ⟨t1, t2, t2', t3, t4⟩ := hh
                    simp only [begs, lead, c1, c2, c3, c4, c5, if_true, if_false, begT, t1, leastN] at hb
                    unfold tail at t1 t2 t2'
                    unfold valid at t4
                    simp at hb
                    omega
                  · simp at hn
              | [b, c] =>
                simp only [c1, c2, c3, c4, c5, if_true, if_false, List.cons_append, List.nil_append] at hn
                match q with
                | [] => simp at hn
                | d :: q =>
                  have hd2 := hq d (by simp)
                  simp only at hn
                  split at hn
                  · rename_i hh
                    obtain ⟨t1, t2, t2', t3, t4⟩ := hh
                    simp only [begs, lead, c1, c2, c3, c4, c5, if_true, if_false, begT, t1, t2, leastN] at hb
                    unfold tail at t1 t2 t2'
                    unfold valid at t4
                    simp at hb
                    omega
                  · simp at hn
              | b :: c :: d :: t =>
                    simp only [c1, c2, c3, c4, c5, if_true, if_false, List.cons_append] at hn hd
                    exact hn hd
            · simp [c1, c2, c3, c4, c5] at hn

/-! ### pieces -/
def S.write : Nat → S → List Int → List Int × Int × S
  | 0, s, b => (b, 0, s)
  | n + 1, s, b =>
    if bnums s.rest = [] then (b, 0, s)
    else if (dec (bnums s.rest)).2 = 0 then (if begs (bnums s.rest) = true then (b, 0, s) else ([], 1, s.fail 1))
    else if (S.take (apt (dec (bnums s.rest)).1) { s with rest := s.rest.extract (dec (bnums s.rest)).2.toNat s.rest.size } b).2.err ≠ 0 then ([], (S.take (apt (dec (bnums s.rest)).1) { s with rest := s.rest.extract (dec (bnums s.rest)).2.toNat s.rest.size } b).2.err, (S.take (apt (dec (bnums s.rest)).1) { s with rest := s.rest.extract (dec (bnums s.rest)).2.toNat s.rest.size } b).2)
    else S.write n (S.take (apt (dec (bnums s.rest)).1) { s with rest := s.rest.extract (dec (bnums s.rest)).2.toNat s.rest.size } b).2 (S.take (apt (dec (bnums s.rest)).1) { s with rest := s.rest.extract (dec (bnums s.rest)).2.toNat s.rest.size } b).1
def S.put (s : S) (p : ByteArray) : List Int × Int × S :=
  if s.closed = true then ([], 11, s) else if s.err ≠ 0 then ([], s.err, s) else S.write ((s.rest ++ p).size + 1) { s with rest := s.rest ++ p } []
def S.close (s : S) : List Int × Int × S :=
  if s.closed = true then ([], 11, s) else if s.err ≠ 0 then ([], s.err, s) else if bnums s.rest ≠ [] then ([], 1, s.fail 1) else (s.give, 0, ⟨s.rest, [], s.marks, s.err, true⟩)

structure Come (B cs : List Int) (s : S) (out A : List Int) : Prop where
  bytes : B = encAll cs ++ bnums s.rest
  val : ∀ c ∈ cs, valid c
  inv : Inv (expand cs) s out A
/-- What is left begins a character, and is none. -/
def Part (l : List Int) : Prop := (dec l).2 = 0 ∧ begs l = true
def Bad1 (B : List Int) : Prop := ∀ q, isByte q → chars (B ++ q) = none
def Bad2 (B : List Int) : Prop := ∃ cs q, B = encAll cs ++ q ∧ (∀ c ∈ cs, valid c) ∧ over 0 (expand cs) = true
def Wrote (pre B : List Int) (r : List Int × Int × S) : Prop :=
  (r.2.1 = 0 ∧ ∃ cs A, Come B cs r.2.2 (pre ++ r.1) A ∧ Part (bnums r.2.2.rest)) ∨
  (r.1 = [] ∧ r.2.2 = ⟨⟨#[]⟩, [], 0, r.2.1, false⟩ ∧ (r.2.1 = 1 ∧ Bad1 B ∨ r.2.1 = 2 ∧ Bad2 B))
theorem expand_snoc (cs : List Int) (c : Int) : expand (cs ++ [c]) = expand cs ++ apt c := by rw [expand_append]; simp [expand]
theorem write_ok (pre B : List Int) : ∀ (n : Nat) (s : S) (b cs A : List Int), Come B cs s (pre ++ b) A → s.rest.size < n → Wrote pre B (S.write n s b)
  | 0, s, b, cs, A, h, hn => absurd hn (Nat.not_lt_zero _)
  | n + 1, s, b, cs, A, h, hn => by
    have hby := bnums_byte s.rest
    have hsz := bnums_length s.rest
    rw [S.write]
    by_cases h0 : bnums s.rest = []
    · rw [if_pos h0]
      exact .inl ⟨rfl, cs, A, h, by show Part (bnums s.rest); rw [h0]; exact ⟨rfl, rfl⟩⟩
    · rw [if_neg h0]
      by_cases h2 : (dec (bnums s.rest)).2 = 0
      · rw [if_pos h2]
        by_cases hb : begs (bnums s.rest) = true
        · rw [if_pos hb]
          exact .inl ⟨rfl, cs, A, h, h2, hb⟩
        · rw [if_neg hb]
          refine .inr ⟨rfl, ?_, .inl ⟨rfl, fun q hq => ?_⟩⟩
          · show S.mk _ _ _ _ s.closed = _; rw [h.inv.cl]
          · rw [h.bytes, List.append_assoc, chars_encAll cs h.val (isByte_append hby hq), chars_step (isByte_append hby hq) (fun e => h0 (List.append_eq_nil_iff.1 e).1), if_pos (begs_bad hby hq h0 h2 (by simpa using hb))]; rfl
      · rw [if_neg h2]
        obtain ⟨v, e1, e2⟩ := dec_some hby h2
        have hp := dec_pos hby h2
        have hx : bnums (s.rest.extract (dec (bnums s.rest)).2.toNat s.rest.size) = (bnums s.rest).drop (dec (bnums s.rest)).2.toNat := by
          rw [bnums_extract, List.take_of_length_le (by omega)]
        have hB : B = encAll (cs ++ [(dec (bnums s.rest)).1]) ++ bnums (s.rest.extract (dec (bnums s.rest)).2.toNat s.rest.size) := by
          rw [h.bytes, encAll_append, List.append_assoc, hx]
          congr 1
          have : encAll [(dec (bnums s.rest)).1] = enc (dec (bnums s.rest)).1 := by simp [encAll]
          rw [this, ← e2, List.take_append_drop]
        have hv : ∀ c ∈ cs ++ [(dec (bnums s.rest)).1], valid c := fun c hc => by
          rcases List.mem_append.1 hc with q | q
          · exact h.val c q
          · rw [List.mem_singleton.1 q]; exact v
        obtain ⟨i1, i2⟩ := take_ok pre (apt (dec (bnums s.rest)).1) (expand cs) { s with rest := s.rest.extract (dec (bnums s.rest)).2.toNat s.rest.size } b A ⟨h.inv.all, h.inv.out, h.inv.emp, h.inv.head, h.inv.tail, h.inv.cnt, h.inv.ok, h.inv.err, h.inv.cl⟩
        rw [← expand_snoc] at i1 i2
        cases hov : over 0 (expand (cs ++ [(dec (bnums s.rest)).1])) with
        | false =>
          obtain ⟨A', j1, j2⟩ := i1 hov
          rw [if_neg (fun q => q j1.err)]
          refine write_ok pre B n _ _ (cs ++ [(dec (bnums s.rest)).1]) A' ⟨by rw [j2]; exact hB, hv, j1⟩ ?_
          rw [j2]
          show (s.rest.extract _ _).size < n
          rw [ByteArray.size_extract]; omega
        | true =>
          rw [i2 hov]
          rw [if_pos (by decide)]
          exact .inr ⟨rfl, rfl, .inr ⟨rfl, _, _, hB, hv, hov⟩⟩
theorem put_ok {pre B cs A : List Int} {s : S} (h : Come B cs s pre A) (p : ByteArray) : Wrote pre (B ++ bnums p) (s.put p) := by
  unfold S.put
  rw [if_neg (show ¬ s.closed = true by rw [h.inv.cl]; decide), if_neg (fun q => q h.inv.err)]
  refine write_ok pre (B ++ bnums p) _ _ [] cs A ⟨?_, h.val, ?_⟩ (Nat.lt_succ_self _)
  · rw [h.bytes, List.append_assoc, bnums_append]
  · rw [List.append_nil]; exact ⟨h.inv.all, h.inv.out, h.inv.emp, h.inv.head, h.inv.tail, h.inv.cnt, h.inv.ok, h.inv.err, h.inv.cl⟩
theorem come_start : Come [] [] S0 [] [] := ⟨rfl, by simp, Inv.start⟩

/-- The same bytes as characters and a part are the same characters and the same part. -/
theorem pre_of : ∀ (cs L : List Int) {q z : List Int}, isByte q → isByte z → (∀ c ∈ cs, valid c) → (∀ c ∈ L, valid c) → (dec z).2 = 0 → encAll cs ++ q = encAll L ++ z → ∃ m, L = cs ++ m ∧ q = encAll m ++ z
  | [], L, q, z, _, _, _, _, _, h => ⟨L, rfl, by simpa [encAll] using h⟩
  | c :: cs, [], q, z, _, _, hc, _, hz, h => by
    have e : z = enc c ++ (encAll cs ++ q) := by
      have : encAll (c :: cs) = enc c ++ encAll cs := by simp [encAll]
      rw [this] at h; simpa [encAll] using h.symm
    rw [e, dec_enc (hc c (by simp))] at hz
    have := enc_pos c
    simp only at hz
    omega
  | c :: cs, d :: L, q, z, hq, hzb, hc, hL, hz, h => by
    have e1 : encAll (c :: cs) = enc c ++ encAll cs := by simp [encAll]
    have e2 : encAll (d :: L) = enc d ++ encAll L := by simp [encAll]
    rw [e1, e2, List.append_assoc, List.append_assoc] at h
    have d1 := dec_enc (hc c (by simp)) (encAll cs ++ q)
    rw [h, dec_enc (hL d (by simp))] at d1
    obtain ⟨rfl, _⟩ := Prod.mk.inj d1
    obtain ⟨m, m1, m2⟩ := pre_of cs L hq hzb (fun x hx => hc x (by simp [hx])) (fun x hx => hL x (by simp [hx])) hz (List.append_cancel_left h)
    exact ⟨m, by rw [m1]; rfl, m2⟩
theorem same_of (cs L : List Int) {q z : List Int} (hq : isByte q) (hzb : isByte z) (hc : ∀ c ∈ cs, valid c) (hL : ∀ c ∈ L, valid c) (hz : (dec z).2 = 0) (hy : (dec q).2 = 0) (h : encAll cs ++ q = encAll L ++ z) : L = cs ∧ q = z := by
  obtain ⟨m, m1, m2⟩ := pre_of cs L hq hzb hc hL hz h
  cases m with
  | nil => exact ⟨by rw [m1, List.append_nil], by simpa [encAll] using m2⟩
  | cons d m =>
    have e2 : encAll (d :: m) = enc d ++ encAll m := by simp [encAll]
    rw [m2, e2, List.append_assoc, dec_enc (hL d (by rw [m1]; simp))] at hy
    have := enc_pos d
    simp only at hy
    omega
theorem over_expand {cs m : List Int} (h : over 0 (expand cs) = true) : over 0 (expand (cs ++ m)) = true := by
  rw [expand_append, over_append, h]; rfl
theorem dec_nil : (dec []).2 = 0 := rfl
theorem isByte_nil : isByte [] := by intro x hx; simp at hx
theorem encAll_nil : encAll [] = [] := rfl
/-- A text that has a form and not too many marks is not bad, nor is any front of it. -/
theorem good_not1 {B q L : List Int} (hq : isByte q) (h : chars (B ++ q) = some L) : ¬ Bad1 B := fun hb => by rw [hb q hq] at h; cases h
theorem good_not2 {B q L z : List Int} (hB : isByte B) (hq : isByte q) (hz : isByte z) (hL : ∀ c ∈ L, valid c) (h : B ++ q = encAll L ++ z) (hd : (dec z).2 = 0) (ho : over 0 (expand L) = false) : ¬ Bad2 B := fun ⟨cs, r, b1, b2, b3⟩ => by
  have hr : isByte r := fun x hx => hB x (by rw [b1]; exact List.mem_append_right _ hx)
  rw [b1, List.append_assoc] at h
  obtain ⟨m, m1, _⟩ := pre_of cs L (isByte_append hr hq) hz b2 hL hd h
  rw [m1, over_expand b3] at ho; cases ho
/-- At the end: what came out and what is held is the form. -/
theorem give_ok {B cs A out : List Int} {s : S} (h : Come B cs s out A) : out ++ s.give = encAll (canon cs) := by
  rw [h.inv.out]
  show _ ++ encAll (order clf s.held) = encAll (order clf (expand cs))
  rw [h.inv.sp, encAll_append]
theorem over_canon (cs : List Int) : over 0 (canon cs) = over 0 (expand cs) := over_order _

/-! ### what writing keeps -/
structure Fits (N : Nat) (s : S) : Prop where
  val : ∀ x ∈ s.held, valid x
  m0 : 0 ≤ s.marks
  m1 : s.marks ≤ 30
  size : 4 * s.held.length + 40 * s.rest.size ≤ N
theorem Fits.start : Fits 0 S0 := ⟨by simp [S0], Int.le_refl 0, by show (0 : Int) ≤ 30; omega, Nat.le_refl 0⟩
theorem Fits.more {N M : Nat} {s : S} (h : Fits N s) (hm : N ≤ M) : Fits M s := ⟨h.val, h.m0, h.m1, Nat.le_trans h.size hm⟩
theorem Fits.failed (N : Nat) (s : S) (e : Int) : Fits N (s.fail e) := ⟨by intro x hx; simp [S.fail] at hx, Int.le_refl 0, by show (0 : Int) ≤ 30; omega, Nat.zero_le _⟩
theorem write_keeps : ∀ (n : Nat) (s : S) (b : List Int) (M : Nat), (∀ x ∈ s.held, valid x) → 0 ≤ s.marks → s.marks ≤ 30 → b.length + 4 * s.held.length + 40 * s.rest.size ≤ M →
    Fits M (S.write n s b).2.2 ∧ (S.write n s b).1.length ≤ M
  | 0, s, b, M, hv, h0, h1, hs => ⟨⟨hv, h0, h1, by show 4 * s.held.length + 40 * s.rest.size ≤ M; omega⟩, by show b.length ≤ M; omega⟩
  | n + 1, s, b, M, hv, h0, h1, hs => by
    have stay : Fits M s ∧ b.length ≤ M := ⟨⟨hv, h0, h1, by omega⟩, by omega⟩
    have hby := bnums_byte s.rest
    have hsz := bnums_length s.rest
    rw [S.write]
    split
    · exact stay
    · rename_i hne
      split
      · split
        · exact stay
        · exact ⟨Fits.failed M s 1, Nat.zero_le _⟩
      · rename_i hd
        have hp := dec_pos hby hd
        obtain ⟨v, -, -⟩ := dec_some hby hd
        obtain ⟨i1, i2, i3, i4, i5⟩ := take_keeps (apt (dec (bnums s.rest)).1) { s with rest := s.rest.extract (dec (bnums s.rest)).2.toNat s.rest.size } b (fun x hx => apt_valid _ x v hx) hv h0 h1
        have hal := apt_len (dec (bnums s.rest)).1
        have hx : (s.rest.extract (dec (bnums s.rest)).2.toNat s.rest.size).size = s.rest.size - (dec (bnums s.rest)).2.toNat := by rw [ByteArray.size_extract]; omega
        generalize S.take (apt (dec (bnums s.rest)).1) { s with rest := s.rest.extract (dec (bnums s.rest)).2.toNat s.rest.size } b = z at i1 i2 i3 i4 i5
        have i4' : z.1.length + 4 * z.2.held.length ≤ b.length + 4 * s.held.length + 8 * (apt (dec (bnums s.rest)).1).length := i4
        have i5' : z.2.rest.size ≤ (s.rest.extract (dec (bnums s.rest)).2.toNat s.rest.size).size := i5
        split
        · exact ⟨⟨i1, i2, i3, by show 4 * z.2.held.length + 40 * z.2.rest.size ≤ M; omega⟩, Nat.zero_le _⟩
        · exact write_keeps n z.2 z.1 M i1 i2 i3 (by omega)
theorem put_keeps {N : Nat} {s : S} (h : Fits N s) (t : ByteArray) : Fits (N + 40 * t.size) (s.put t).2.2 ∧ (s.put t).1.length ≤ N + 40 * t.size := by
  unfold S.put
  split
  · exact ⟨h.more (by omega), Nat.zero_le _⟩
  · split
    · exact ⟨h.more (by omega), Nat.zero_le _⟩
    · refine write_keeps _ _ [] _ h.val h.m0 h.m1 ?_
      have := h.size
      show 0 + 4 * s.held.length + 40 * (s.rest ++ t).size ≤ _
      rw [ByteArray.size_append]; omega
theorem close_keeps {N : Nat} {s : S} (h : Fits N s) : Fits N s.close.2.2 ∧ s.close.1.length ≤ N := by
  unfold S.close
  have h1 := PureSt.encAll_len (order clf s.held)
  rw [(order_perm clf s.held).length_eq] at h1
  have h2 := h.size
  split
  · exact ⟨h, Nat.zero_le _⟩
  · split
    · exact ⟨h, Nat.zero_le _⟩
    · split
      · exact ⟨Fits.failed N s 1, Nat.zero_le _⟩
      · refine ⟨⟨by intro x hx; simp at hx, h.m0, h.m1, ?_⟩, ?_⟩
        · show 4 * 0 + 40 * s.rest.size ≤ N; omega
        · show (encAll (order clf s.held)).length ≤ N; omega
end Go.Proofs.Ytiplbhjllkfemaa.Stm
