/-
  norm.Text, norm.Is, norm.Same: a text's characters in their canonical form; what is canonical stays; the forms of two texts put together are those of their forms put together.
-/
import Derived.Test.YtiplbhjllkfemaaZNChars
import Derived.Test.YtiplbhjllkfemaaZReadSt
import Derived.Test.YtiplbhjllkfemaaZWriteSt
import Derived.KernelRfl
namespace Go.Proofs.Ytiplbhjllkfemaa.NText
open Go.RowKit Go.Proofs.Ytiplbhjllkfemaa.MSt Go.Proofs.YtiplbhjllkfemaaW.PrintWords Go.Proofs.Ytiplbhjllkfemaa.Utf Go.Proofs.Ytiplbhjllkfemaa.NOrd Go.Proofs.Ytiplbhjllkfemaa.NTab Go.Proofs.Ytiplbhjllkfemaa.NChars
open Go.Proofs.Ytiplbhjllkfemaa.PureSt (told told_len wrote encAll_cons encAll_len)

/-! ### facts of the rows -/
theorem lookm_all (P : Int → Prop) : ∀ (rows : List (List UInt8 × Int × List Int)) (c : Int), (∀ r ∈ rows, ∀ x ∈ r.2.2, P x) → ∀ x ∈ lookm rows c, P x
  | [], _, _, x, hx => by simp [lookm] at hx
  | (b, f, l) :: r, c, h, x, hx => by
    rw [lookm] at hx
    split at hx
    · exact lookm_all P r c (fun q hq => h q (by simp [hq])) x hx
    · split at hx
      · exact h (b, f, l) (by simp) x hx
      · simp at hx
theorem lookm_none : ∀ (rows : List (List UInt8 × Int × List Int)) (c : Int), (∀ r ∈ rows, r.2.1 ≠ c) → lookm rows c = []
  | [], _, _ => rfl
  | (b, f, l) :: r, c, h => by
    rw [lookm, lookm_none r c (fun q hq => h q (by simp [hq]))]
    have : f ≠ c := h (b, f, l) (by simp)
    rw [if_neg this]; split <;> rfl
theorem rows_valid : (mrow.all fun r => r.2.2.all fun x => decide (0 ≤ x) && decide (x < 55296) || decide (65536 ≤ x) && decide (x ≤ 1114111)) = true := by decide +kernel
theorem rows_apt : (mrow.all fun r => r.2.2.all fun x => decide (apt x = [x])) = true := by decide +kernel
theorem rows_jamo : (mrow.all fun r => decide (r.2.1 < 4352) || decide (4600 < r.2.1)) = true := by decide +kernel
theorem mapf_all (P : Int → Prop) (c : Int) (h : ∀ r ∈ mrow, ∀ x ∈ r.2.2, P x) : ∀ x ∈ mapf c, P x := by
  intro x hx
  unfold mapf at hx
  split at hx
  · simp at hx
  · exact lookm_all P mrow c h x hx
theorem jamo (x : Int) (h0 : 4352 ≤ x) (h1 : x ≤ 4600) : apt x = [x] := by
  have e1 : letters x = [] := by unfold letters; rw [if_pos (by omega)]
  have e2 : mapf x = [] := by
    unfold mapf
    rw [if_neg (by omega)]
    refine lookm_none mrow x (fun r hr => ?_)
    have := List.all_eq_true.1 rows_jamo r hr
    simp only [Bool.or_eq_true, decide_eq_true_eq] at this
    omega
  unfold apt
  rw [if_pos e1, if_pos e2]
theorem letters_in (c x : Int) (h : x ∈ letters c) : 4352 ≤ x ∧ x ≤ 4600 := by
  unfold letters at h
  split at h
  · simp at h
  · split at h
    · simp only [List.mem_cons, List.not_mem_nil, or_false] at h
      rcases h with rfl | rfl <;> omega
    · simp only [List.mem_cons, List.not_mem_nil, or_false] at h
      rcases h with rfl | rfl | rfl <;> omega
/-- What a character comes to comes to itself. -/
theorem apt_apt (c x : Int) (h : x ∈ apt c) : apt x = [x] := by
  by_cases e1 : letters c = []
  · by_cases e2 : mapf c = []
    · have e : apt c = [c] := by unfold apt; rw [if_pos e1, if_pos e2]
      rw [e] at h
      rw [List.mem_singleton.1 h]; exact e
    · have e : apt c = mapf c := by unfold apt; rw [if_pos e1, if_neg e2]
      rw [e] at h
      refine mapf_all (fun x => apt x = [x]) c (fun r hr x hx => ?_) x h
      have := List.all_eq_true.1 (List.all_eq_true.1 rows_apt r hr) x hx
      exact of_decide_eq_true this
  · have e : apt c = letters c := by unfold apt; rw [if_neg e1]
    rw [e] at h
    have := letters_in c x h
    exact jamo x this.1 this.2
theorem apt_valid (c x : Int) (hc : valid c) (h : x ∈ apt c) : valid x := by
  by_cases e1 : letters c = []
  · by_cases e2 : mapf c = []
    · have e : apt c = [c] := by unfold apt; rw [if_pos e1, if_pos e2]
      rw [e] at h
      rw [List.mem_singleton.1 h]; exact hc
    · have e : apt c = mapf c := by unfold apt; rw [if_pos e1, if_neg e2]
      rw [e] at h
      refine mapf_all valid c (fun r hr x hx => ?_) x h
      have := List.all_eq_true.1 (List.all_eq_true.1 rows_valid r hr) x hx
      simp only [Bool.or_eq_true, Bool.and_eq_true, decide_eq_true_eq] at this
      unfold valid; omega
  · have e : apt c = letters c := by unfold apt; rw [if_neg e1]
    rw [e] at h
    have := letters_in c x h
    unfold valid; omega
theorem expand_mem {l : List Int} {x : Int} (h : x ∈ expand l) : ∃ c ∈ l, x ∈ apt c := List.mem_flatMap.1 h
theorem expand_self : ∀ {l : List Int}, (∀ x ∈ l, apt x = [x]) → expand l = l
  | [], _ => rfl
  | c :: l, h => by
    show apt c ++ expand l = _
    rw [h c (by simp), expand_self (fun x hx => h x (by simp [hx]))]; rfl
theorem canon_mem {l : List Int} {x : Int} : x ∈ canon l ↔ x ∈ expand l := (order_perm clf (expand l)).mem_iff
theorem canon_valid {l : List Int} (h : ∀ c ∈ l, valid c) : ∀ x ∈ canon l, valid x := by
  intro x hx
  obtain ⟨c, hc, h2⟩ := expand_mem (canon_mem.1 hx)
  exact apt_valid c x (h c hc) h2
theorem canon_self (l : List Int) : expand (canon l) = canon l := expand_self (fun x hx => by
  obtain ⟨c, _, h2⟩ := expand_mem (canon_mem.1 hx)
  exact apt_apt c x h2)
theorem canon_canon (l : List Int) : canon (canon l) = canon l := by rw [canon, canon_self]; exact order_order clf _
theorem canon_join (l m : List Int) : canon (canon l ++ canon m) = canon (l ++ m) := by
  rw [canon, expand_append, canon_self, canon_self]
  show order clf (order clf (expand l) ++ order clf (expand m)) = _
  rw [order_join, ← expand_append]; rfl
theorem canon_len (l : List Int) : (canon l).length = (expand l).length := (order_perm clf (expand l)).length_eq
theorem canon_len_le (l : List Int) : (canon l).length ≤ 5 * l.length := by rw [canon_len]; exact expand_len l

/-! ### texts -/
/-- A text's canonical form, as bytes, if it is a text. -/
def form (l : List Int) : Option (List Int) := (chars l).map fun m => encAll (canon m)
def toldf (l : List Int) : ByteArray × Bool := match form l with
  | some b => (strOfNums b, true)
  | none => (⟨#[]⟩, false)
theorem chars_len {l m : List Int} (hb : isByte l) (h : chars l = some m) : m.length ≤ l.length := by
  have := told_len l hb
  simp only [told, h, List.nil_append] at this
  exact this
theorem form_byte {l b : List Int} (hl : isByte l) (h : form l = some b) : isByte b := by
  unfold form at h
  cases hc : chars l with
  | none => rw [hc] at h; cases h
  | some m =>
    rw [hc] at h
    obtain rfl := Option.some.inj h
    exact encAll_byte (canon_valid (chars_some l.length (Nat.le_refl _) hl hc).1)
theorem form_some {l b : List Int} (hl : isByte l) (h : form l = some b) : ∃ m, chars l = some m ∧ (∀ c ∈ m, valid c) ∧ b = encAll (canon m) ∧ chars b = some (canon m) := by
  unfold form at h
  cases hc : chars l with
  | none => rw [hc] at h; cases h
  | some m =>
    rw [hc] at h
    obtain rfl := Option.some.inj h
    have hv := (chars_some l.length (Nat.le_refl _) hl hc).1
    refine ⟨m, rfl, hv, rfl, ?_⟩
    have := chars_encAll (canon m) (canon_valid hv) (t := []) (by intro x hx; simp at hx)
    rw [List.append_nil, chars_nil] at this
    rw [this]; simp
theorem form_form {l b : List Int} (hl : isByte l) (h : form l = some b) : form b = some b := by
  obtain ⟨m, _, _, rfl, h2⟩ := form_some hl h
  unfold form
  rw [h2, Option.map_some, canon_canon]
theorem form_join {l m a b : List Int} (hl : isByte l) (hm : isByte m) (ha : form l = some a) (hb : form m = some b) : ∃ c, form (l ++ m) = some c ∧ form (a ++ b) = some c ∧ c.length = a.length + b.length := by
  obtain ⟨x, x1, xv, rfl, x2⟩ := form_some hl ha
  obtain ⟨y, y1, yv, rfl, y2⟩ := form_some hm hb
  have e1 : chars (l ++ m) = some (x ++ y) := by rw [chars_append hl hm x1, y1]; rfl
  have e2 : chars (encAll (canon x) ++ encAll (canon y)) = some (canon x ++ canon y) := by rw [chars_append (form_byte hl ha) (form_byte hm hb) x2, y2]; rfl
  refine ⟨encAll (canon (x ++ y)), by unfold form; rw [e1]; rfl, by unfold form; rw [e2, Option.map_some, canon_join], ?_⟩
  have p : (canon (x ++ y)).Perm (canon x ++ canon y) := by
    refine (order_perm clf _).trans ?_
    rw [expand_append]
    exact ((order_perm clf _).symm).append (order_perm clf _).symm
  have := (p.flatMap_right enc).length_eq
  show (List.flatMap enc (canon (x ++ y))).length = (List.flatMap enc (canon x)).length + (List.flatMap enc (canon y)).length
  rw [← List.length_append, ← List.flatMap_append]
  exact this
theorem form_len {l b : List Int} (hl : isByte l) (h : form l = some b) : b.length ≤ 20 * l.length := by
  obtain ⟨m, h1, _, rfl, _⟩ := form_some hl h
  have a := encAll_len (canon m)
  have b := canon_len_le m
  have c := chars_len hl h1
  omega
end Go.Proofs.Ytiplbhjllkfemaa.NText
