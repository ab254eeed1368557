/-
  norm.Text, norm.Is, norm.Same: a text's characters in their canonical form; what is canonical stays; the forms of two texts put together are those of their forms put together.
-/
import Derived.Test.YtiplbhjllkfemaaNChars
import Derived.Test.YtiplbhjllkfemaaReadAll
import Derived.Test.YtiplbhjllkfemaaWriteAll
import Derived.KernelRfl
namespace Go.Proofs.Ytiplbhjllkfemaa.NText
open Go.RowKit Go.Proofs.Ytiplbhjllkfemaa.MAll Go.Proofs.YtiplbhjllkfemaaW.PrintWords Go.Proofs.Ytiplbhjllkfemaa.Utf Go.Proofs.Ytiplbhjllkfemaa.NOrd Go.Proofs.Ytiplbhjllkfemaa.NTab Go.Proofs.Ytiplbhjllkfemaa.NChars
open Go.Proofs.Ytiplbhjllkfemaa.PureAll (told told_len read_l wrote write_f encAll_cons encAll_len)
theorem lookm_all (P : Int → Prop) : ∀ (rows : List (List UInt8 × Int × List Int)) (c : Int), (∀ r ∈ rows, ∀ x ∈ r.2.2, P x) → ∀ x ∈ lookm rows c, P x
  | [], _, _, x, hx => by simp [lookm] at hx
  | (b, f, l) :: r, c, h, x, hx => by
    rw [lookm] at hx
    split at hx
    · exact lookm_all P r c (fun q hq => h q (by simp [hq])) x hx
    · split at hx
      · exact h (b, f, l) (by simp) x hx
      · simp at hx
theorem rows_valid : (mrow.all fun r => r.2.2.all fun x => decide (0 ≤ x) && decide (x < 55296) || decide (65536 ≤ x) && decide (x ≤ 1114111)) = true := by decide +kernel
theorem mapf_all (P : Int → Prop) (c : Int) (h : ∀ r ∈ mrow, ∀ x ∈ r.2.2, P x) : ∀ x ∈ mapf c, P x := by
  intro x hx
  unfold mapf at hx
  split at hx
  · simp at hx
  · exact lookm_all P mrow c h x hx
theorem letters_in (c x : Int) (h : x ∈ letters c) : 4352 ≤ x ∧ x ≤ 4600 := by
  unfold letters at h
  split at h
  · simp at h
  · split at h
    · simp only [List.mem_cons, List.not_mem_nil, or_false] at h
      rcases h with rfl | rfl <;> omega
    · simp only [List.mem_cons, List.not_mem_nil, or_false] at h
      rcases h with rfl | rfl | rfl <;> omega
theorem apt_valid (c x : Int) (hc : valid c) (h : x ∈ apt c) : valid x := by
  by_cases e1 : letters c = []
  · by_cases e2 : mapf c = []
    · have e : apt c = [c] := by unfold apt; rw [if_pos e1, if_pos e2]
      rw [e] at h
      rw [List.mem_singleton.1 h]; exact hc
    · have e : apt c = mapf c := by unfold apt; rw [if_pos e1, if_neg e2]
      rw [e] at h
      refine mapf_all valid c (fun r hr x hx => ?_) x h
      have := List.all_eq_true.1 (List.all_eq_true.1 rows_valid r hr) x hx
      simp only [Bool.or_eq_true, Bool.and_eq_true, decide_eq_true_eq] at this
      unfold valid; omega
  · have e : apt c = letters c := by unfold apt; rw [if_neg e1]
    rw [e] at h
    have := letters_in c x h
    unfold valid; omega
theorem expand_mem {l : List Int} {x : Int} (h : x ∈ zne l) : ∃ c ∈ l, x ∈ apt c := List.mem_flatMap.1 h
theorem canon_mem {l : List Int} {x : Int} : x ∈ canon l ↔ x ∈ zne l := (order_perm clf (zne l)).mem_iff
theorem canon_valid {l : List Int} (h : ∀ c ∈ l, valid c) : ∀ x ∈ canon l, valid x := by
  intro x hx
  obtain ⟨c, hc, h2⟩ := expand_mem (canon_mem.1 hx)
  exact apt_valid c x (h c hc) h2
theorem canon_len (l : List Int) : (canon l).length = (zne l).length := (order_perm clf (zne l)).length_eq
theorem canon_len_le (l : List Int) : (canon l).length ≤ 5 * l.length := by rw [canon_len]; exact expand_len l
def form (l : List Int) : Option (List Int) := (chars l).map fun m => encAll (canon m)
def toldf (l : List Int) : ByteArray × Bool := match form l with
  | some b => (strOfNums b, true)
  | none => (⟨#[]⟩, false)
theorem chars_len {l m : List Int} (hb : isByte l) (h : chars l = some m) : m.length ≤ l.length := by
  have := told_len l hb
  simp only [told, h, List.nil_append] at this
  exact this
theorem text_f (s : ByteArray) (hs : s.size ≤ 100000) : Evr (fun k => zfd.f k s) (toldf (bnums s)) := by
  unfold zfd.f
  have h1 : Evr (fun k => zvc.f k s) (told [] (bnums s)) := ⟨s.size + 20, fun k hk => read_l s.size k s [] (Nat.le_refl _) (by simp; omega) hk⟩
  refine Evr.bind h1 ?_
  unfold toldf form told
  cases hc : chars (bnums s) with
  | none => exact Evr.of fun _ => rfl
  | some m =>
    have hv := chars_some (bnums s).length (Nat.le_refl _) (zae s) hc
    have hl := chars_len (zae s) hc
    rw [zhd] at hl
    have hcl := canon_len_le m
    simp only [List.nil_append, Option.map_some, if_true]
    refine Evr.bind (chars_f m (by omega)) ?_
    have h2 : Evr (fun k => zic.f k (canon m)) (wrote [] (canon m)) := ⟨(canon m).length + 1, fun k hk => write_f (canon m) (by omega) k (by omega)⟩
    refine Evr.bind h2 (Evr.of fun _ => ?_)
    rw [wrote, if_pos (canon_valid hv.1), List.nil_append]
end Go.Proofs.Ytiplbhjllkfemaa.NText
