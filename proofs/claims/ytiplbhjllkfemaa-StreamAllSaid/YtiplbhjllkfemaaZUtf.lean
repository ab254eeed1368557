/-
  Plain facts on strict UTF-8, over lists of numbers 0..255; no program in sight. 'dec' tells the first character and its bytes; 'enc' a character's bytes; 'chars' all characters.
-/
import Derived.RowKit
import Derived.Laws.Strings
import Derived.Laws.BytesArg
import Derived.Laws.BitsLemmas
import Derived.Laws.BitsAllLaws
namespace Go.Proofs.Ytiplbhjllkfemaa.Utf
open Go.RowKit

theorem w64 {x : Int} (h0 : -9223372036854775808 ≤ x) (h1 : x < 9223372036854775808) : wrap64 x = x := by
  unfold wrap64; omega

/-- The bytes of a string, as numbers. -/
def bnums (s : ByteArray) : List Int := s.data.toList.map fun b => (b.toNat : Int)
theorem bnums_length (s : ByteArray) : (bnums s).length = s.size := by rw [bnums, List.length_map, Array.length_toList]; rfl
theorem bnums_inj {s t : ByteArray} (h : bnums s = bnums t) : s = t := by
  unfold bnums at h
  have : s.data.toList = t.data.toList := by
    refine List.map_inj_right (f := fun b : UInt8 => (b.toNat : Int)) ?_ |>.1 h
    intro a b hab
    have : a.toNat = b.toNat := by exact_mod_cast hab
    exact UInt8.toNat_inj.1 this
  have h2 : s.data = t.data := Array.toList_inj.1 this
  cases s; cases t; simp_all
def isByte (l : List Int) : Prop := ∀ x ∈ l, 0 ≤ x ∧ x < 256
theorem bnums_byte (s : ByteArray) : isByte (bnums s) := by
  intro x hx
  obtain ⟨b, _, rfl⟩ := List.mem_map.1 hx
  have := b.toNat_lt
  omega
theorem bnums_append (s t : ByteArray) : bnums (s ++ t) = bnums s ++ bnums t := by simp [bnums]
theorem bnums_extract (s : ByteArray) (a b : Nat) : bnums (s.extract a b) = ((bnums s).take b).drop a := by
  simp only [bnums, ByteArray.data_extract, Array.toList_extract, List.extract_eq_take_drop, List.map_take, List.map_drop]
  rw [List.drop_take]
theorem bnums_str {l : List Int} (h : isByte l) : bnums (strOfNums l) = l := by
  unfold bnums
  rw [strOfNums_data, List.map_map]
  refine (List.map_congr_left (g := id) ?_).trans (List.map_id _)
  intro x hx
  have := h x hx
  simp [UInt8.toNat_ofNat']
  omega
theorem str_nums (s : ByteArray) : strOfNums (bnums s) = s := bnums_inj (bnums_str (bnums_byte s))
theorem bnums_nil {s : ByteArray} (h : s.toList = ([] : List UInt8)) : bnums s = [] := by
  have : s.data.toList = [] := by rw [← _root_.Go.ByteArray.toList_eq]; exact h
  simp [bnums, this]
theorem bnums_ne {s : ByteArray} (h : ¬ s.toList = ([] : List UInt8)) : bnums s ≠ [] := by
  intro e; apply h
  have : s.data.toList = [] := by simpa [bnums] using e
  rw [_root_.Go.ByteArray.toList_eq]; exact this
theorem toList_nums {s t : ByteArray} : s.toList = t.toList ↔ bnums s = bnums t := by
  constructor
  · intro h; rw [_root_.Go.ByteArray.toList_eq, _root_.Go.ByteArray.toList_eq] at h; unfold bnums; rw [h]
  · intro h; rw [bnums_inj h]

/-- Is a number a character's? -/
def valid (c : Int) : Prop := 0 ≤ c ∧ c ≤ 1114111 ∧ (c < 55296 ∨ 57343 < c)
instance (c : Int) : Decidable (valid c) := by unfold valid; infer_instance
/-- A character's bytes. -/
def enc (c : Int) : List Int :=
  if c < 128 then [c] else if c < 2048 then [192 + c / 64, 128 + c % 64]
  else if c < 65536 then [224 + c / 4096, 128 + c / 64 % 64, 128 + c % 64]
  else [240 + c / 262144, 128 + c / 4096 % 64, 128 + c / 64 % 64, 128 + c % 64]
def tail (b : Int) : Prop := 128 ≤ b ∧ b < 192
instance (c : Int) : Decidable (tail c) := by unfold tail; infer_instance
/-- The first character and how many bytes it has. -/
def dec : List Int → Int × Int
  | [] => (-1, 0)
  | a :: s =>
    if a < 128 then (a, 1) else if a < 194 then (-1, 0) else if a < 224 then
      match s with
      | b :: _ => if tail b then ((a - 192) * 64 + (b - 128), 2) else (-1, 0)
      | _ => (-1, 0)
    else if a < 240 then
      match s with
      | b :: c :: _ => if tail b ∧ tail c ∧ 2048 ≤ ((a - 224) * 64 + (b - 128)) * 64 + (c - 128) ∧ valid (((a - 224) * 64 + (b - 128)) * 64 + (c - 128)) then (((a - 224) * 64 + (b - 128)) * 64 + (c - 128), 3) else (-1, 0)
      | _ => (-1, 0)
    else if a < 245 then
      match s with
      | b :: c :: d :: _ => if tail b ∧ tail c ∧ tail d ∧ 65536 ≤ (((a - 240) * 64 + (b - 128)) * 64 + (c - 128)) * 64 + (d - 128) ∧ valid ((((a - 240) * 64 + (b - 128)) * 64 + (c - 128)) * 64 + (d - 128)) then ((((a - 240) * 64 + (b - 128)) * 64 + (c - 128)) * 64 + (d - 128), 4) else (-1, 0)
      | _ => (-1, 0)
    else (-1, 0)

theorem enc_byte {c : Int} (h : valid c) : isByte (enc c) := by
  unfold valid at h
  intro x hx
  unfold enc at hx
  split at hx
  · simp at hx; omega
  · split at hx
    · simp at hx; omega
    · split at hx
      · simp at hx; omega
      · simp at hx; omega
theorem enc_pos (c : Int) : 0 < (enc c).length := by unfold enc; (repeat' split) <;> simp
theorem enc_le (c : Int) : (enc c).length ≤ 4 := by unfold enc; (repeat' split) <;> simp

/-- A character's bytes, whatever stands behind them, are that character. -/
theorem dec_enc {c : Int} (h : valid c) (t : List Int) : dec (enc c ++ t) = (c, ((enc c).length : Int)) := by
  unfold enc
  unfold valid at h
  by_cases h1 : c < 128
  · simp only [h1, if_true, List.cons_append, List.nil_append, dec]; simp
  · by_cases h2 : c < 2048
    · simp only [h1, h2, if_true, if_false, List.cons_append, List.nil_append, dec]
      rw [if_neg (by omega), if_neg (by omega), if_pos (by omega), if_pos (by unfold tail; omega)]
      simp only [Prod.mk.injEq]
      exact ⟨by omega, by simp⟩
    · by_cases h3 : c < 65536
      · simp only [h1, h2, h3, if_true, if_false, List.cons_append, List.nil_append, dec]
        rw [if_neg (by omega), if_neg (by omega), if_neg (by omega), if_pos (by omega)]
        have e : ((224 + c / 4096 - 224) * 64 + (128 + c / 64 % 64 - 128)) * 64 + (128 + c % 64 - 128) = c := by omega
        rw [e, if_pos ⟨by unfold tail; omega, by unfold tail; omega, by omega, h⟩]
        simp
      · simp only [h1, h2, h3, if_false, List.cons_append, List.nil_append, dec]
        rw [if_neg (by omega), if_neg (by omega), if_neg (by omega), if_neg (by omega), if_pos (by omega)]
        have e : (((240 + c / 262144 - 240) * 64 + (128 + c / 4096 % 64 - 128)) * 64 + (128 + c / 64 % 64 - 128)) * 64 + (128 + c % 64 - 128) = c := by omega
        rw [e, if_pos ⟨by unfold tail; omega, by unfold tail; omega, by unfold tail; omega, by omega, h⟩]
        simp

/-- What is told a character is one, and its bytes stand at the begin. -/
theorem dec_some {l : List Int} (hl : isByte l) (hn : (dec l).2 ≠ 0) : valid (dec l).1 ∧ (dec l).2 = (enc (dec l).1).length ∧ l.take (dec l).2.toNat = enc (dec l).1 := by
  unfold dec at hn ⊢
  match l with
  | [] => simp at hn
  | a :: s =>
    have ha := hl a (by simp)
    simp only at hn ⊢
    by_cases h1 : a < 128
    · simp only [h1, if_true]; refine ⟨by unfold valid; omega, ?_, ?_⟩ <;> simp [enc, h1]
    · by_cases h2 : a < 194
      · simp [h1, h2] at hn
      · by_cases h3 : a < 224
        · simp only [h1, h2, h3, if_true, if_false] at hn ⊢
          match s with
          | [] => simp at hn
          | b :: _ =>
            simp only at hn ⊢
            by_cases h4 : tail b
            · simp only [h4, if_true]
              unfold tail at h4
              have e : enc ((a - 192) * 64 + (b - 128)) = [a, b] := by
                unfold enc; rw [if_neg (by omega), if_pos (by omega)]; congr 1; omega; congr 1; omega
              rw [e]
              exact ⟨by unfold valid; omega, by simp, by simp⟩
            · simp [h4] at hn
        · by_cases h4 : a < 240
          · simp only [h1, h2, h3, h4, if_true, if_false] at hn ⊢
            match s with
            | [] => simp at hn
            | [_] => simp at hn
            | b :: c :: _ =>
              simp only at hn ⊢
              by_cases h5 : tail b ∧ tail c ∧ 2048 ≤ ((a - 224) * 64 + (b - 128)) * 64 + (c - 128) ∧ valid (((a - 224) * 64 + (b - 128)) * 64 + (c - 128))
              · rw [if_pos h5]
                obtain ⟨t1, t2, t3, t4⟩ := h5
                unfold tail at t1 t2
                have e : enc (((a - 224) * 64 + (b - 128)) * 64 + (c - 128)) = [a, b, c] := by
                  unfold enc; rw [if_neg (by omega), if_neg (by omega), if_pos (by omega)]; congr 1; omega; congr 1; omega; congr 1; omega
                refine ⟨t4, ?_, ?_⟩ <;> simp only [e] <;> simp
              · rw [if_neg h5] at hn; simp at hn
          · by_cases h5 : a < 245
            · simp only [h1, h2, h3, h4, h5, if_true, if_false] at hn ⊢
              match s with
              | [] => simp at hn
              | [_] => simp at hn
              | [_, _] => simp at hn
              | b :: c :: d :: _ =>
                simp only at hn ⊢
                by_cases h6 : tail b ∧ tail c ∧ tail d ∧ 65536 ≤ (((a - 240) * 64 + (b - 128)) * 64 + (c - 128)) * 64 + (d - 128) ∧ valid ((((a - 240) * 64 + (b - 128)) * 64 + (c - 128)) * 64 + (d - 128))
                · rw [if_pos h6]
                  obtain ⟨t1, t2, t3, t4, t5⟩ := h6
                  unfold tail at t1 t2 t3
                  have e : enc ((((a - 240) * 64 + (b - 128)) * 64 + (c - 128)) * 64 + (d - 128)) = [a, b, c, d] := by
                    unfold enc; rw [if_neg (by omega), if_neg (by omega), if_neg (by omega)]; congr 1; omega; congr 1; omega; congr 1; omega; congr 1; omega
                  refine ⟨t5, ?_, ?_⟩ <;> simp only [e] <;> simp
                · rw [if_neg h6] at hn; simp at hn
            · simp [h1, h2, h3, h4, h5] at hn

theorem dec_or {l : List Int} {p : Int × Int} (h : dec l = p) : p = (-1, 0) ∨ 0 < p.2 := by
  unfold dec at h
  repeat' split at h
  all_goals (subst h; simp)
theorem dec_none {l : List Int} (hn : (dec l).2 = 0) : dec l = (-1, 0) := by
  rcases dec_or (rfl : dec l = dec l) with h | h
  · exact h
  · omega

theorem dec_pos {l : List Int} (hl : isByte l) (hn : (dec l).2 ≠ 0) : 0 < (dec l).2.toNat ∧ (dec l).2.toNat ≤ l.length ∧ 0 ≤ (dec l).2 := by
  obtain ⟨_, h2, h3⟩ := dec_some hl hn
  have := enc_pos (dec l).1
  have e := congrArg List.length h3
  rw [List.length_take] at e
  omega

/-- All characters of bytes; none: they are none. -/
def charsN : Nat → List Int → Option (List Int)
  | 0, _ => none
  | n + 1, l => if l = [] then some [] else if (dec l).2 = 0 then none else (charsN n (l.drop (dec l).2.toNat)).map ((dec l).1 :: ·)
def chars (l : List Int) : Option (List Int) := charsN (l.length + 1) l

theorem charsN_more (n : Nat) : ∀ (m : Nat) (l : List Int), isByte l → l.length < n → l.length < m → charsN n l = charsN m l := by
  induction n with
  | zero => intro m l _ h _; omega
  | succ n ih =>
    intro m l hb hn hm
    obtain ⟨m, rfl⟩ : ∃ k, m = k + 1 := ⟨m - 1, by omega⟩
    unfold charsN
    by_cases h1 : l = []
    · simp [h1]
    · by_cases h2 : (dec l).2 = 0
      · simp [h1, h2]
      · rw [if_neg h1, if_neg h1, if_neg h2, if_neg h2]
        have := dec_pos hb h2
        rw [ih m _ (fun x hx => hb x (List.mem_of_mem_drop hx)) (by rw [List.length_drop]; omega) (by rw [List.length_drop]; omega)]

theorem chars_nil : chars [] = some [] := rfl
theorem chars_step {l : List Int} (hb : isByte l) (h0 : l ≠ []) : chars l = if (dec l).2 = 0 then none else (chars (l.drop (dec l).2.toNat)).map ((dec l).1 :: ·) := by
  unfold chars
  rw [charsN, if_neg h0]
  by_cases h2 : (dec l).2 = 0
  · rw [if_pos h2, if_pos h2]
  · rw [if_neg h2, if_neg h2]
    have := dec_pos hb h2
    rw [charsN_more l.length ((l.drop (dec l).2.toNat).length + 1) _ (fun x hx => hb x (List.mem_of_mem_drop hx)) (by rw [List.length_drop]; omega) (by omega)]

theorem isByte_drop {l : List Int} (h : isByte l) (n : Nat) : isByte (l.drop n) := fun x hx => h x (List.mem_of_mem_drop hx)
theorem isByte_append {l m : List Int} (h : isByte l) (k : isByte m) : isByte (l ++ m) := fun x hx => (List.mem_append.1 hx).elim (h x) (k x)

theorem chars_enc {c : Int} (h : valid c) {t : List Int} (ht : isByte t) : chars (enc c ++ t) = (chars t).map (c :: ·) := by
  have hp := enc_pos c
  rw [chars_step (isByte_append (enc_byte h) ht) (by intro e; have := congrArg List.length e; rw [List.length_append] at this; simp only [List.length_nil] at this; omega), dec_enc h]
  simp only
  rw [if_neg (by omega)]
  simp

/-- Characters as bytes. -/
def encAll (l : List Int) : List Int := l.flatMap enc
theorem encAll_byte {l : List Int} (h : ∀ c ∈ l, valid c) : isByte (encAll l) := by
  intro x hx
  obtain ⟨c, hc, hx⟩ := List.mem_flatMap.1 hx
  exact enc_byte (h c hc) x hx
theorem chars_encAll (l : List Int) (h : ∀ c ∈ l, valid c) {t : List Int} (ht : isByte t) : chars (encAll l ++ t) = (chars t).map (l ++ ·) := by
  induction l with
  | nil => simp [encAll]
  | cons c l ih =>
    have : encAll (c :: l) ++ t = enc c ++ (encAll l ++ t) := by simp [encAll]
    rw [this, chars_enc (h c (by simp)) (isByte_append (encAll_byte fun x hx => h x (by simp [hx])) ht), ih fun x hx => h x (by simp [hx])]
    simp [Function.comp_def]

/-- What is read is valid, and its bytes are those that were read. -/
theorem chars_some (n : Nat) : ∀ {l m : List Int}, l.length ≤ n → isByte l → chars l = some m → (∀ c ∈ m, valid c) ∧ l = encAll m := by
  induction n with
  | zero =>
    intro l m hl hb h
    have : l = [] := List.length_eq_zero_iff.1 (by omega)
    subst this; rw [chars_nil] at h; cases h; simp [encAll]
  | succ n ih =>
    intro l m hl hb h
    by_cases h0 : l = []
    · subst h0; rw [chars_nil] at h; cases h; simp [encAll]
    · rw [chars_step hb h0] at h
      by_cases h2 : (dec l).2 = 0
      · rw [if_pos h2] at h; cases h
      · rw [if_neg h2] at h
        obtain ⟨m', hm', rfl⟩ := Option.map_eq_some_iff.1 h
        have hp := dec_pos hb h2
        obtain ⟨v, e1, e2⟩ := dec_some hb h2
        obtain ⟨i1, i2⟩ := ih (by rw [List.length_drop]; omega) (isByte_drop hb _) hm'
        refine ⟨fun c hc => ?_, ?_⟩
        · rcases List.mem_cons.1 hc with rfl | hc
          · exact v
          · exact i1 c hc
        · have : encAll ((dec l).1 :: m') = enc (dec l).1 ++ encAll m' := by simp [encAll]
          rw [this, ← i2, ← e2, List.take_append_drop]

theorem chars_append {a b m : List Int} (ha : isByte a) (hb : isByte b) (h : chars a = some m) : chars (a ++ b) = (chars b).map (m ++ ·) := by
  obtain ⟨v, e⟩ := chars_some _ (Nat.le_refl _) ha h
  rw [e, chars_encAll m v hb]

end Go.Proofs.Ytiplbhjllkfemaa.Utf
