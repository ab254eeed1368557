/-
  Keys: what Make, Hash, Compare and Between tell.
-/
import Derived.Test.YtklggdenloenlaaNTextK
import Derived.Test.YtklggdenloenlaaK17a
import Derived.Test.YtklggdenloenlaaK17b
import Derived.Test.YtklggdenloenlaaKCut
namespace Go.Proofs.Ytklggdenloenlaa.NKey
open Go.RowKit Go.Proofs.Ytklggdenloenlaa.MNorm Go.Proofs.YtklggdenloenlaaW.PrintWords Go.Proofs.Ytklggdenloenlaa.Utf Go.Proofs.Ytklggdenloenlaa.NOrd Go.Proofs.Ytklggdenloenlaa.NText Go.Proofs.Ytklggdenloenlaa.NChars
open Go.Proofs.Ytklggdenloenlaa.PureNorm (bt_nums)

theorem cut_f (s : ByteArray) (n : Int) (h0 : 0 ≤ n) : ∃ t, incipitlaw1_Cut.f s n = some t ∧ (t.size : Int) ≤ n := by
  unfold incipitlaw1_Cut.f
  by_cases h : (s.size : Int) > n
  · rw [if_pos h, if_pos h0, if_pos (by omega)]
    exact ⟨_, rfl, by rw [ByteArray.size_extract]; omega⟩
  · rw [if_neg h]; exact ⟨s, rfl, by omega⟩
def makef (s : ByteArray) : ByteArray × ByteArray × Int :=
  if s.toList = ([] : List UInt8) ∨ (s.size : Int) > 4096 then (⟨#[]⟩, ⟨#[]⟩, 1) else if (toldf (bnums s)).2 = true then ((toldf (bnums s)).1, s, 0) else (⟨#[]⟩, ⟨#[]⟩, 1)
theorem make_f (s : ByteArray) (hs : s.size ≤ 100000) : Evr (fun k => ckey_Make.f k s) (makef s) := by
  unfold ckey_Make.f makef
  by_cases h : s.toList = ([] : List UInt8)
  · rw [if_pos (Or.inl h)]
    exact Evr.congr (fun k => by rw [if_pos h]) (Evr.succ (fun k => by rw [ckey_Make.j0, if_pos (Eq.refl true)]) (Evr.of fun _ => rfl))
  · by_cases h2 : (s.size : Int) > 4096
    · rw [if_pos (Or.inr h2)]
      exact Evr.congr (fun k => by rw [if_neg h, decide_eq_true h2]) (Evr.succ (fun k => by rw [ckey_Make.j0, if_pos (Eq.refl true)]) (Evr.of fun _ => rfl))
    · rw [if_neg (not_or.2 ⟨h, h2⟩)]
      refine Evr.congr (fun k => by rw [if_neg h, decide_eq_false h2]) (Evr.succ (fun k => by rw [ckey_Make.j0, if_neg Bool.false_ne_true]) (Evr.bind (text_f s hs) (Evr.of fun _ => ?_)))
      split <;> rfl
theorem drop_bt {s : ByteArray} {i : Nat} (h : i < s.size) : (bnums s).drop i = bt s i :: (bnums s).drop (i + 1) := by
  have hi : i < (bnums s).length := by rw [bnums_length]; exact h
  rw [List.drop_eq_getElem_cons hi, bt_nums]
  simp [hi]
theorem wrap_next {i : Nat} (h : (i : Int) < 1000000000) : wrap64 ((i : Int) + 1) = ((i + 1 : Nat) : Int) := by unfold wrap64; omega
def hstep (h b : Int) : Int := IntKind.u64.wrap ((Go.bits .xor .u64 h (IntKind.u64.wrap b)) * 1099511628211)
def hashn (s : ByteArray) : Int := (bnums s).foldl hstep 14695981039346656037
theorem hash_l (s : ByteArray) (hs : (s.size : Int) ≤ 1000000) : ∀ (d i : Nat) (h : Int), i + d = s.size → Evr (fun k => ckey_Hash.l0 k s h s.size i) (((bnums s).drop i).foldl hstep h)
  | 0, i, h, e => by
    refine Evr.succ (fun k => by rw [ckey_Hash.l0, if_neg (by omega)]) (Evr.of fun _ => ?_)
    rw [List.drop_of_length_le (by rw [bnums_length]; omega)]; rfl
  | d + 1, i, h, e => by
    rw [drop_bt (by omega), List.foldl_cons]
    refine Evr.succ (fun k => by rw [ckey_Hash.l0, if_pos (by omega), if_pos (by omega), if_pos (by omega), wrap_next (by omega)]) ?_
    exact hash_l s hs d (i + 1) _ (by omega)
theorem hash_f (s : ByteArray) (hs : s.size ≤ 100000) : Evr (fun k => ckey_Hash.f k s) (hashn s) := hash_l s (by omega) s.size 0 _ (by omega)
/-- What stands between two texts. -/
def btw : List Int → List Int → List Int
  | x :: a, y :: b => if x = y then x :: btw a b else if (x + 1) % 256 < y then [(x + 1) % 256] else x :: a
  | a, _ => a
theorem btw_nil (a : List Int) : btw a [] = a := by cases a <;> rfl
theorem nil_btw (b : List Int) : btw [] b = [] := by cases b <;> rfl
theorem take_bt {s : ByteArray} {i : Nat} (h : i < s.size) : (bnums s).take (i + 1) = (bnums s).take i ++ [bt s i] := by
  have hi : i < (bnums s).length := by rw [bnums_length]; exact h
  rw [List.take_succ_eq_append_getElem hi, bt_nums]
  simp [hi]
theorem isByte_one {c : Int} (h0 : 0 ≤ c) (h1 : c < 256) : isByte [c] := by
  intro x hx; rcases List.mem_cons.1 hx with rfl | hx
  · exact ⟨h0, h1⟩
  · cases hx
theorem str_len {l : List Int} (h : isByte l) : (strOfNums l).size = l.length := by rw [← bnums_length, bnums_str h]
theorem end_eq (s : ByteArray) (i : Nat) (c : Int) (h0 : 0 ≤ c) (h1 : c < 256) : s.extract 0 i ++ strOfNums [c] = strOfNums ((bnums s).take i ++ [c]) := by
  apply bnums_inj
  rw [bnums_append, bnums_extract, bnums_str (isByte_one h0 h1), bnums_str, List.drop_zero]
  intro x hx
  rcases List.mem_append.1 hx with hx | hx
  · exact bnums_byte s x (List.mem_of_mem_take hx)
  · exact isByte_one h0 h1 x hx
theorem end_size (s : ByteArray) (i : Nat) (c : Int) (hs : s.size ≤ 100000) (h0 : 0 ≤ c) (h1 : c < 256) : (s.extract 0 ((i : Int)).toNat).size + (strOfNums [c]).size ≤ 9223372036854775807 := by
  have e : (s.extract 0 ((i : Int)).toNat).size ≤ s.size := by
    rw [← bnums_length, ← bnums_length, bnums_extract, List.drop_zero]; exact List.length_take_le' _ _
  rw [str_len (isByte_one h0 h1)]; simp; omega
theorem between_l (s t : ByteArray) (hs : s.size ≤ 100000) (m : Nat) (hm : m ≤ s.size) (hm2 : m ≤ t.size) (hm3 : m = s.size ∨ m = t.size) : ∀ (d i : Nat), i + d = m →
    Evr (fun k => ckey_Between.l0 k s t m i) (strOfNums ((bnums s).take i ++ btw ((bnums s).drop i) ((bnums t).drop i)))
  | 0, i, e => by
    refine Evr.succ (fun k => by rw [ckey_Between.l0, if_neg (by omega)]) (Evr.of fun _ => ?_)
    rcases hm3 with h | h
    · rw [List.drop_of_length_le (l := bnums s) (by rw [bnums_length]; omega), nil_btw, List.append_nil, List.take_of_length_le (by rw [bnums_length]; omega), str_nums]
    · rw [List.drop_of_length_le (l := bnums t) (by rw [bnums_length]; omega), btw_nil, List.take_append_drop, str_nums]
  | d + 1, i, e => by
    rw [drop_bt (s := s) (i := i) (by omega), drop_bt (s := t) (i := i) (by omega), btw]
    have hb := bnums_byte s (bt s i) (by have := drop_bt (s := s) (i := i) (by omega); exact List.mem_of_mem_drop (this ▸ List.mem_cons_self ..))
    by_cases h1 : bt s i = bt t i
    · rw [if_pos h1]
      have ih := between_l s t hs m hm hm2 hm3 d (i + 1) (by omega)
      rw [take_bt (by omega), List.append_assoc] at ih
      refine Evr.succ (fun k => by rw [ckey_Between.l0, if_pos (by omega), if_pos (by omega), if_pos (by omega), if_pos (by omega), if_pos h1, wrap_next (by omega)]) ih
    · rw [if_neg h1]
      by_cases h2 : (bt s i + 1) % 256 < bt t i
      · rw [if_pos h2, ← end_eq s i _ (by omega) (by omega)]
        have hz := end_size s i ((bt s i + 1) % 256) hs (by omega) (by omega)
        refine Evr.succ (fun k => by rw [ckey_Between.l0, if_pos (by omega), if_pos (by omega), if_pos (by omega), if_pos (by omega), if_neg h1, if_pos h2, if_pos (by omega), Option.bind_some, if_pos hz]; rfl) (Evr.of fun _ => rfl)
      · rw [if_neg h2, ← drop_bt (by omega), List.take_append_drop, str_nums]
        exact Evr.succ (fun k => by rw [ckey_Between.l0, if_pos (by omega), if_pos (by omega), if_pos (by omega), if_pos (by omega), if_neg h1, if_neg h2]) (Evr.of fun _ => rfl)
def between (s t : ByteArray) : ByteArray := if Op.bytesLess s.toList t.toList = true then strOfNums (btw (bnums s) (bnums t)) else s
theorem between_f (s t : ByteArray) (hs : s.size ≤ 100000) : Evr (fun k => ckey_Between.f k s t) (between s t) := by
  unfold ckey_Between.f between
  by_cases h : Op.bytesLess s.toList t.toList = true
  · rw [if_pos h]
    have hm : mn (s.size : Int) (t.size : Int) = ((min s.size t.size : Nat) : Int) := by unfold mn; split <;> omega
    refine Evr.congr (fun k => by rw [if_pos h, hm]; rfl) (between_l s t hs _ (Nat.min_le_left _ _) (Nat.min_le_right _ _) (by omega) (min s.size t.size) 0 (by omega))
  · rw [if_neg h]
    exact Evr.congr (fun k => by rw [if_neg h]) (Evr.of fun _ => rfl)
set_option maxRecDepth 100000 in
theorem begun_f : Evr (fun k => incipitlaw6_begun.f k) true := by
  unfold incipitlaw6_begun.f
  have e1 : toldf (bnums (⟨#[195, 169]⟩ : ByteArray)) = (strOfNums [101, 204, 129], true) := by
    unfold toldf
    rw [show form (bnums (⟨#[195, 169]⟩ : ByteArray)) = some [101, 204, 129] by decide +kernel]
  have h1 := make_f (⟨#[195, 169]⟩ : ByteArray) (by decide)
  have m1 : makef (⟨#[195, 169]⟩ : ByteArray) = (strOfNums [101, 204, 129], ⟨#[195, 169]⟩, 0) := by
    unfold makef
    rw [if_neg (by decide +kernel), e1, if_pos (Eq.refl true)]
  rw [m1] at h1
  have h2 := make_f (⟨#[]⟩ : ByteArray) (by decide)
  have m2 : makef (⟨#[]⟩ : ByteArray) = (⟨#[]⟩, ⟨#[]⟩, 1) := by
    unfold makef
    rw [if_pos (by decide +kernel)]
  rw [m2] at h2
  refine Evr.bind h1 (Evr.bind h2 ?_)
  have t1 : (strOfNums [101, 204, 129]).toList = ([101, 204, 129] : List UInt8) := by decide +kernel
  have t2 : (⟨#[195, 169]⟩ : ByteArray).toList = ([195, 169] : List UInt8) := by decide +kernel
  dsimp only
  refine Evr.congr (fun k => by rw [if_pos (Eq.refl (0 : Int)), if_pos t1, if_pos t2, if_pos (Eq.refl (1 : Int))]) ?_
  have hc : ∀ k : Nat, ckey_Compare.f (⟨#[97]⟩ : ByteArray) (⟨#[98]⟩ : ByteArray) = some (-1) := fun _ => by decide +kernel
  refine Evr.congr (fun k => by rw [hc k, Option.bind_some, if_pos (Eq.refl (-1 : Int))]) ?_
  refine Evr.bind (hash_f (⟨#[]⟩ : ByteArray) (by decide)) ?_
  have h0 : hashn (⟨#[]⟩ : ByteArray) = 14695981039346656037 := by decide +kernel
  rw [h0]
  refine Evr.congr (fun k => if_pos (Eq.refl (14695981039346656037 : Int))) ?_
  refine Evr.bind (between_f (⟨#[97, 98, 99]⟩ : ByteArray) (⟨#[97, 122]⟩ : ByteArray) (by decide)) (Evr.of fun _ => ?_)
  have hz : ((between (⟨#[97, 98, 99]⟩ : ByteArray) (⟨#[97, 122]⟩ : ByteArray)).toList == ([97, 99] : List UInt8)) = true := by decide +kernel
  rw [hz]
end Go.Proofs.Ytklggdenloenlaa.NKey
