/-
  The stream laws' plain parts: what the document's text, its reading, its marks come to; bad bytes; a text at once.
-/
import Derived.Test.YtiplbhjllkfemaaZStW6
import Derived.Test.YtiplbhjllkfemaaZRText
namespace Go.Proofs.Ytiplbhjllkfemaa.StP
open Go.RowKit Go.Proofs.YtiplbhjllkfemaaW.PrintWords Go.Proofs.Ytiplbhjllkfemaa.MSt Go.Proofs.Ytiplbhjllkfemaa.Stm Go.Proofs.Ytiplbhjllkfemaa.Utf Go.Proofs.Ytiplbhjllkfemaa.NOrd Go.Proofs.Ytiplbhjllkfemaa.NTab Go.Proofs.Ytiplbhjllkfemaa.NChars Go.Proofs.Ytiplbhjllkfemaa.NText Go.Proofs.Ytiplbhjllkfemaa.NTabR
open Go.Proofs.Ytiplbhjllkfemaa.PureSt (told rread_l rwrite_f wrote encAll_len)

theorem marks_l (l : List Int) (hl : l.length ≤ 1000000) : ∀ (rest pre : List Int) (n : Nat), l = pre ++ rest → n ≤ 1000 → Evr (fun k => incipitlaw5_marks.l0 k l 30 (n : Int) (pre.length : Int)) (over n rest)
  | [], pre, n, e, hn => by
    rw [List.append_nil] at e
    subst e
    refine Evr.succ (h := fun _ => some false) (fun k => ?_) (Evr.of fun _ => rfl)
    rw [incipitlaw5_marks.l0, if_neg (by omega)]
  | c :: rest, pre, n, e, hn => by
    have hlen : l.length = pre.length + 1 + rest.length := by rw [e]; simp; omega
    have hr : rd l (pre.length : Int) = c := by rw [e]; simp [rd]
    have e2 : l = (pre ++ [c]) ++ rest := by rw [e]; simp
    have hp : ((pre ++ [c]).length : Int) = (pre.length : Int) + 1 := by rw [List.length_append]; rfl
    have w1 : wrap64 ((pre.length : Int) + 1) = (pre.length : Int) + 1 := by unfold wrap64; omega
    have w2 : wrap64 ((n : Int) + 1) = (n : Int) + 1 := by unfold wrap64; omega
    refine Evr.succ (fun k => by rw [incipitlaw5_marks.l0, if_pos (by omega), if_pos (by omega), hr]) (Evr.bind (rclass_f c) ?_)
    rw [over]
    by_cases h0 : clf c = 0
    · have ih := marks_l l hl rest (pre ++ [c]) 0 e2 (by omega)
      rw [hp] at ih
      rw [if_pos h0]
      refine Evr.congr (fun k => ?_) ih
      rw [if_pos h0, w1]; rfl
    · rw [if_neg h0]
      by_cases h1 : 30 < n + 1
      · rw [if_pos h1]
        refine Evr.of fun k => ?_
        rw [if_neg h0, w2, if_pos (by omega)]
      · rw [if_neg h1]
        have ih := marks_l l hl rest (pre ++ [c]) (n + 1) e2 (by omega)
        rw [hp] at ih
        refine Evr.congr (fun k => ?_) ih
        rw [if_neg h0, w2, if_neg (by omega), w1]; rfl
theorem marks_any (l : List Int) (hl : l.length ≤ 1000000) : ∃ k, incipitlaw5_marks.f k l 30 = some (over 0 l) := by
  obtain ⟨k, h⟩ := marks_l l hl l [] 0 rfl (by omega)
  exact ⟨k, h k (Nat.le_refl _)⟩
/-- What is known of a text that has a form. -/
structure Good (t : ByteArray) (m : List Int) (F : ByteArray) (kt kr km : Nat) : Prop where
  ch : chars (bnums t) = some m
  val : ∀ c ∈ m, valid c
  bytes : bnums t = encAll m
  form : bnums F = encAll (canon m)
  text : incipitref1_Text.f kt t = some (F, true)
  read : incipitref1_Read.f kr F = some (canon m, true)
  marks : incipitlaw5_marks.f km (canon m) 30 = some (over 0 (expand m))
  size : F.size ≤ 20 * t.size
  len : (canon m).length ≤ 5 * t.size
structure None_ (t : ByteArray) (kt kr km : Nat) : Prop where
  ch : chars (bnums t) = none
  text : incipitref1_Text.f kt t = some (⟨#[]⟩, false)
  read : incipitref1_Read.f kr ⟨#[]⟩ = some ([], true)
theorem text_cases (t : ByteArray) (h : t.size ≤ 1000) : (∃ kt kr km, None_ t kt kr km) ∨ ∃ m F kt kr km, Good t m F kt kr km := by
  obtain ⟨kt, hkt⟩ := rtext_f t (by omega)
  have hkt : incipitref1_Text.f kt t = some (toldf (bnums t)) := hkt kt (Nat.le_refl _)
  have hread : ∀ s : ByteArray, s.size ≤ 100000 → ∃ kr, incipitref1_Read.f kr s = some (told [] (bnums s)) := fun s hs => ⟨s.size + 20, rread_l s.size _ s [] (Nat.le_refl _) (by simp; omega) (Nat.le_refl _)⟩
  cases hf : form (bnums t) with
  | none =>
    have hc : chars (bnums t) = none := by
      unfold form at hf
      cases hc : chars (bnums t) with
      | none => rfl
      | some m => rw [hc] at hf; cases hf
    obtain ⟨kr, hkr⟩ := hread ⟨#[]⟩ (by decide)
    refine .inl ⟨kt, kr, 0, hc, ?_, ?_⟩
    · rw [hkt]; unfold toldf; rw [hf]
    · rw [hkr]; rfl
  | some b =>
    obtain ⟨m, h1, h2, h3, h4⟩ := form_some (bnums_byte t) hf
    have hby := form_byte (bnums_byte t) hf
    have hle := form_len (bnums_byte t) hf
    have hcl := chars_len (bnums_byte t) h1
    have hcn := canon_len_le m
    rw [bnums_length] at hle hcl
    have hF : bnums (strOfNums b) = b := bnums_str hby
    have hsz : (strOfNums b).size = b.length := by rw [← bnums_length, hF]
    obtain ⟨kr, hkr⟩ := hread (strOfNums b) (by omega)
    obtain ⟨km, hkm⟩ := marks_any (canon m) (by omega)
    refine .inr ⟨m, strOfNums b, kt, kr, km, h1, h2, (chars_some _ (Nat.le_refl _) (bnums_byte t) h1).2, by rw [hF, h3], ?_, ?_, ?_, by omega, by omega⟩
    · rw [hkt]; unfold toldf; rw [hf]
    · rw [hkr, hF]; unfold told; rw [h4]; simp
    · rw [hkm, over_canon]

/-! ### bad bytes behind a text -/
/-! ### a text at once, and byte by byte -/
theorem put_good {t : ByteArray} {m : List Int} (hm : ∀ c ∈ m, valid c) (hb : bnums t = encAll m) (ho : over 0 (expand m) = false) {pre B cs A : List Int} {s : S} (h : Come B cs s pre A) (p : ByteArray) (q : List Int) (hq : B ++ bnums p ++ q = bnums t) :
    (s.put p).2.1 = 0 ∧ ∃ cs' A', Come (B ++ bnums p) cs' (s.put p).2.2 (pre ++ (s.put p).1) A' ∧ Part (bnums (s.put p).2.2.rest) := by
  have ht := bnums_byte t
  have hbq : isByte q := fun x hx => ht x (by rw [← hq]; exact List.mem_append_right _ hx)
  have hbB : isByte (B ++ bnums p) := fun x hx => ht x (by rw [← hq]; exact List.mem_append_left _ hx)
  rcases put_ok h p with hl | ⟨r1, r2, ⟨e1, b1⟩ | ⟨e2, b2⟩⟩
  · exact hl
  · exfalso
    refine good_not1 hbq (L := m) ?_ b1
    rw [hq, hb]
    have := chars_encAll m hm isByte_nil
    rw [List.append_nil, chars_nil] at this
    rw [this]; simp
  · exfalso
    exact good_not2 hbB hbq isByte_nil hm (z := []) (by rw [hq, hb, List.append_nil]) dec_nil ho b2
theorem close_good {t : ByteArray} {m : List Int} (hm : ∀ c ∈ m, valid c) (hb : bnums t = encAll m) {cs A out : List Int} {s : S} (h : Come (bnums t) cs s out A) (hp : Part (bnums s.rest)) :
    s.close.2.1 = 0 ∧ out ++ s.close.1 = encAll (canon m) := by
  have e : encAll m ++ [] = encAll cs ++ bnums s.rest := by rw [List.append_nil, ← hb]; exact h.bytes
  obtain ⟨c1, c2⟩ := same_of m cs isByte_nil (bnums_byte _) hm h.val hp.1 dec_nil e
  have hg := give_ok h
  rw [c1] at hg
  unfold S.close
  rw [if_neg (show ¬ s.closed = true by rw [h.inv.cl]; decide), if_neg (fun z => z h.inv.err), if_neg (fun z => z c2.symm)]
  exact ⟨rfl, hg⟩
end Go.Proofs.Ytiplbhjllkfemaa.StP
