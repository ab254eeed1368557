/-
  Proved: for every number seq and every list of texts, incipitlaw12.GroupOrder(seq, keys) returns true: of a group made of those of the first fifty keys that may be keys (cut to forty bytes), each entry has the number behind the one ahead of it, its key's form, spelling and kind. No condition beyond the given bound on the list's size.
-/
import Derived.Test.YtiplbhjllkfemaaNText
import Derived.Test.YtiplbhjllkfemaaReadAll
import Derived.Test.YtiplbhjllkfemaaRefFirstAll
import Derived.Test.YtiplbhjllkfemaaWriteAll
import Derived.Test.YtiplbhjllkfemaaRefOneAll
import Derived.Test.YtiplbhjllkfemaaNTabR
import Derived.Test.YtiplbhjllkfemaaMAllLGroupOrder
namespace Go.Proofs.Ytiplbhjllkfemaa.NText
open Go.RowKit Go.Proofs.Ytiplbhjllkfemaa.MAll Go.Proofs.YtiplbhjllkfemaaW.PrintWords Go.Proofs.Ytiplbhjllkfemaa.Utf Go.Proofs.Ytiplbhjllkfemaa.NOrd Go.Proofs.Ytiplbhjllkfemaa.NTab Go.Proofs.Ytiplbhjllkfemaa.NChars
end Go.Proofs.Ytiplbhjllkfemaa.NText
namespace Go.Proofs.Ytiplbhjllkfemaa.GKey
open Go.RowKit Go.Proofs.Ytiplbhjllkfemaa.MAll Go.Proofs.YtiplbhjllkfemaaW.PrintWords Go.Proofs.Ytiplbhjllkfemaa.Utf Go.Proofs.Ytiplbhjllkfemaa.NOrd Go.Proofs.Ytiplbhjllkfemaa.NText Go.Proofs.Ytiplbhjllkfemaa.NChars
def makef (s : ByteArray) : ByteArray × ByteArray × Int :=
  if s.toList = ([] : List UInt8) ∨ (s.size : Int) > 4096 then (⟨#[]⟩, ⟨#[]⟩, 1) else if (toldf (bnums s)).2 = true then ((toldf (bnums s)).1, s, 0) else (⟨#[]⟩, ⟨#[]⟩, 1)
theorem make_f (s : ByteArray) (hs : s.size ≤ 100000) : Evr (fun k => zzb.f k s) (makef s) := by
  unfold zzb.f makef
  by_cases h : s.toList = ([] : List UInt8)
  · rw [if_pos (Or.inl h)]
    exact Evr.congr (fun k => by rw [if_pos h]) (Evr.succ (fun k => by rw [zzb.j0, if_pos (Eq.refl true)]) (Evr.of fun _ => rfl))
  · by_cases h2 : (s.size : Int) > 4096
    · rw [if_pos (Or.inr h2)]
      exact Evr.congr (fun k => by rw [if_neg h, decide_eq_true h2]) (Evr.succ (fun k => by rw [zzb.j0, if_pos (Eq.refl true)]) (Evr.of fun _ => rfl))
    · rw [if_neg (not_or.2 ⟨h, h2⟩)]
      refine Evr.congr (fun k => by rw [if_neg h, decide_eq_false h2]) (Evr.succ (fun k => by rw [zzb.j0, if_neg Bool.false_ne_true]) (Evr.bind (text_f s hs) (Evr.of fun _ => ?_)))
      split <;> rfl
theorem empty_iff (s : ByteArray) : s.toList = ([] : List UInt8) ↔ s.size = 0 := by
  constructor
  · intro h; rw [← zhd, bnums_nil h]; rfl
  · intro h; by_cases e : s.toList = ([] : List UInt8)
    · exact e
    · have := List.length_pos_iff.2 (bnums_ne e)
      rw [zhd] at this; omega
end Go.Proofs.Ytiplbhjllkfemaa.GKey
namespace Go.Proofs.Ytiplbhjllkfemaa.PureAll
open Go.RowKit Go.Proofs.Ytiplbhjllkfemaa.MAll Go.Proofs.YtiplbhjllkfemaaW.PrintWords Go.Proofs.YtiplbhjllkfemaaW.PrintLast Go.Proofs.Ytiplbhjllkfemaa.Utf
theorem rread_l (n : Nat) : ∀ (k : Nat) (s : ByteArray) (acc : List Int), s.size ≤ n → n + acc.length < 1000000 → n + 20 ≤ k → zjb.l0 k s acc = some (told acc (bnums s)) := by
  induction n with
  | zero =>
    intro k s acc hs ha hk
    obtain ⟨k, rfl⟩ : ∃ m, k = m + 1 := ⟨k - 1, by omega⟩
    simp only [zjb.l0]
    by_cases h0 : s.toList = ([] : List UInt8)
    · rw [if_pos h0]; simp [told, bnums_nil h0, chars_nil]
    · have := bnums_ne h0
      have e := zhd s
      have := List.length_pos_iff.2 this
      omega
  | succ n ih =>
    intro k s acc hs ha hk
    obtain ⟨k, rfl⟩ : ∃ m, k = m + 1 := ⟨k - 1, by omega⟩
    simp only [zjb.l0]
    by_cases h0 : s.toList = ([] : List UInt8)
    · rw [if_pos h0]; simp [told, bnums_nil h0, chars_nil]
    · rw [if_neg h0, ref_first_at (by omega)]
      simp only [Option.bind_some]
      unfold told
      rw [chars_step (zae s) (bnums_ne h0)]
      by_cases h2 : (dec (bnums s)).2 = 0
      · rw [if_pos h2, if_pos h2]
      · rw [if_neg h2, if_neg h2]
        have hp := dec_pos (zae s) h2
        have e := zhd s
        rw [if_pos (by omega), if_pos hp.2.2, if_pos (by omega), ih _ _ _ (by rw [ByteArray.size_extract]; omega) (by simp; omega) (by omega)]
        unfold told
        rw [bnums_extract, List.take_of_length_le (by omega)]
        cases chars ((bnums s).drop (dec (bnums s)).2.toNat) <;> simp
end Go.Proofs.Ytiplbhjllkfemaa.PureAll
namespace Go.Proofs.Ytiplbhjllkfemaa.PureAll
open Go.RowKit Go.Proofs.Ytiplbhjllkfemaa.MAll Go.Proofs.YtiplbhjllkfemaaW.PrintWords Go.Proofs.YtiplbhjllkfemaaW.PrintLast Go.Proofs.Ytiplbhjllkfemaa.Utf
theorem rwrite_l (l : List Int) (hl : l.length < 1000000) (d : Nat) : ∀ (k i : Nat) (acc : List Int), isByte acc → i + d = l.length → acc.length ≤ 4 * i → d < k → zfb.l0 k l (strOfNums acc) i = some (wrote acc (l.drop i)) := by
  induction d with
  | zero =>
    intro k i acc hb hi ha hk
    obtain ⟨k, rfl⟩ : ∃ m, k = m + 1 := ⟨k - 1, by omega⟩
    rw [zfb.l0, if_neg (by omega), List.drop_of_length_le (by omega)]
    simp [wrote, encAll]
  | succ d ih =>
    intro k i acc hb hi ha hk
    obtain ⟨k, rfl⟩ : ∃ m, k = m + 1 := ⟨k - 1, by omega⟩
    have hlt : i < l.length := by omega
    have hr : rd l (i : Int) = l[i] := by
      unfold rd
      rw [Int.toNat_natCast, List.getD_eq_getElem?_getD, List.getElem?_eq_getElem hlt, Option.getD_some]
    rw [zfb.l0, if_pos (by omega), if_pos (by omega), hr, rvalid_f, Option.bind_some]
    have hd : l.drop i = l[i] :: l.drop (i + 1) := List.drop_eq_getElem_cons hlt
    by_cases hv : valid l[i]
    · rw [if_pos (by simpa using hv), one_f _ hv, Option.bind_some]
      have s1 : (strOfNums acc).size = acc.length := strOfNums_size _
      have s2 : (strOfNums (enc l[i])).size = (enc l[i]).length := strOfNums_size _
      have e4 := enc_le l[i]
      have hb2 : isByte (acc ++ enc l[i]) := isByte_append hb (enc_byte hv)
      have e : strOfNums acc ++ strOfNums (enc l[i]) = strOfNums (acc ++ enc l[i]) := by
        apply bnums_inj; rw [bnums_append, bnums_str hb, bnums_str (enc_byte hv), bnums_str hb2]
      rw [if_pos (by omega), e, w64 (by omega) (by omega)]
      have := ih k (i + 1) (acc ++ enc l[i]) hb2 (by omega) (by rw [List.length_append]; omega) (by omega)
      rw [Int.natCast_succ] at this
      rw [this, hd]
      unfold wrote
      by_cases ha : ∀ c ∈ l.drop (i + 1), valid c
      · rw [if_pos ha, if_pos (by intro c hc; rcases List.mem_cons.1 hc with rfl | hc; exact hv; exact ha c hc), encAll_cons, List.append_assoc]
      · rw [if_neg ha, if_neg (fun h => ha fun c hc => h c (List.mem_cons_of_mem _ hc))]
    · rw [if_neg (by simpa using hv), hd]
      unfold wrote
      rw [if_neg (fun h => hv (h _ List.mem_cons_self))]
theorem rwrite_f (l : List Int) (hl : l.length < 1000000) (k : Nat) (hk : l.length < k) : zfb.f k l = some (wrote [] l) := by
  unfold zfb.f
  have := rwrite_l l hl l.length k 0 [] (by intro x hx; cases hx) (by omega) (by simp) hk
  rw [List.drop_zero] at this
  exact this
end Go.Proofs.Ytiplbhjllkfemaa.PureAll
namespace Go.Proofs.Ytiplbhjllkfemaa.NText
open Go.RowKit Go.Proofs.Ytiplbhjllkfemaa.MAll Go.Proofs.YtiplbhjllkfemaaW.PrintWords Go.Proofs.Ytiplbhjllkfemaa.Utf Go.Proofs.Ytiplbhjllkfemaa.NOrd Go.Proofs.Ytiplbhjllkfemaa.NTab Go.Proofs.Ytiplbhjllkfemaa.NChars Go.Proofs.Ytiplbhjllkfemaa.NTabR
open Go.Proofs.Ytiplbhjllkfemaa.PureAll (told told_len rread_l wrote rwrite_f encAll_cons encAll_len)
theorem rtext_f (s : ByteArray) (hs : s.size ≤ 100000) : Evr (fun k => znc.f k s) (toldf (bnums s)) := by
  unfold znc.f
  have h1 : Evr (fun k => zjb.f k s) (told [] (bnums s)) := ⟨s.size + 20, fun k hk => rread_l s.size k s [] (Nat.le_refl _) (by simp; omega) hk⟩
  refine Evr.bind h1 ?_
  unfold toldf form told
  cases hc : chars (bnums s) with
  | none => exact Evr.of fun _ => rfl
  | some m =>
    have hv := chars_some (bnums s).length (Nat.le_refl _) (zae s) hc
    have hl := chars_len (zae s) hc
    rw [zhd] at hl
    have hcl := canon_len_le m
    simp only [List.nil_append, Option.map_some, if_true]
    refine Evr.bind (rchars_f m (by omega)) ?_
    have h2 : Evr (fun k => zfb.f k (canon m)) (wrote [] (canon m)) := ⟨(canon m).length + 1, fun k hk => rwrite_f (canon m) (by omega) k (by omega)⟩
    refine Evr.bind h2 (Evr.of fun _ => ?_)
    rw [wrote, if_pos (canon_valid hv.1), List.nil_append]
theorem cut_f (s : ByteArray) (n : Int) (h0 : 0 ≤ n) : ∃ t, zwc.f s n = some t ∧ (t.size : Int) ≤ n := by
  unfold zwc.f
  by_cases h : (s.size : Int) > n
  · rw [if_pos h, if_pos h0, if_pos (by omega)]
    exact ⟨_, rfl, by rw [ByteArray.size_extract]; omega⟩
  · rw [if_neg h]; exact ⟨s, rfl, by omega⟩
end Go.Proofs.Ytiplbhjllkfemaa.NText
namespace Go.Proofs.Ytiplbhjllkfemaa.PureGO
open Go.RowKit Go.Proofs.Ytiplbhjllkfemaa.MAll Go.Proofs.YtiplbhjllkfemaaW.PrintWords Go.Proofs.Ytiplbhjllkfemaa.Utf Go.Proofs.Ytiplbhjllkfemaa.NOrd Go.Proofs.Ytiplbhjllkfemaa.GKey Go.Proofs.Ytiplbhjllkfemaa.NText
def rkeyf (s : ByteArray) : ByteArray × Bool := if s.toList = ([] : List UInt8) ∨ (s.size : Int) > 4096 then (⟨#[]⟩, false) else toldf (bnums s)
theorem rkey_f (s : ByteArray) (hs : s.size ≤ 100000) : Evr (fun k => zmb.f k s) (rkeyf s) := by
  unfold zmb.f rkeyf
  by_cases h : s.toList = ([] : List UInt8)
  · rw [if_pos (Or.inl h)]
    exact Evr.congr (fun k => by rw [if_pos h]) (Evr.of fun _ => rfl)
  · by_cases h2 : (s.size : Int) > 4096
    · rw [if_pos (Or.inr h2)]
      exact Evr.congr (fun k => by rw [if_neg h, if_pos h2]) (Evr.of fun _ => rfl)
    · rw [if_neg (not_or.2 ⟨h, h2⟩)]
      exact Evr.congr (fun k => by rw [if_neg h, if_neg h2]) (Evr.bind (rtext_f s hs) (Evr.of fun _ => rfl))
theorem make_of {s : ByteArray} (h : (rkeyf s).2 = true) : makef s = ((rkeyf s).1, s, 0) := by
  unfold rkeyf at h ⊢
  unfold makef
  by_cases c : s.toList = ([] : List UInt8) ∨ (s.size : Int) > 4096
  · rw [if_pos c] at h; exact absurd h (by simp)
  · rw [if_neg c] at h ⊢
    rw [if_neg c, if_pos h]
def Good (o : S47) : Prop := o.f1.size ≤ 100 ∧ (rkeyf o.f1).2 = true ∧ (o.f0 = 0 ∨ o.f0 = 1) ∧ o.f2 = (⟨#[]⟩ : ByteArray)
theorem good_rd {l : List S47} (h : ∀ o ∈ l, Good o) {i : Int} (h0 : 0 ≤ i) (h1 : i < (l.length : Int)) : Good (zeb l i) := by
  have e : zeb l i = l[i.toNat]'(by omega) := by
    unfold zeb
    rw [List.getD_eq_getElem?_getD, List.getElem?_eq_getElem (by omega), Option.getD_some]
  rw [e]
  exact h _ (List.getElem_mem _)
theorem check_l (l : List S47) (hl : l.length ≤ 100) (h : ∀ o ∈ l, Good o) : ∀ (d i : Nat), i + d = l.length → Evr (fun k => zgb.l0 k l (l.length : Int) i) 0
  | 0, i, e => Evr.succ (fun k => by rw [zgb.l0, if_neg (by omega)]) (Evr.of fun _ => rfl)
  | d + 1, i, e => by
    have ih := check_l l hl h d (i + 1) (by omega)
    obtain ⟨g1, g2, g3, g4⟩ := good_rd h (i := (i : Int)) (by omega) (by omega)
    have mk := make_f (zeb l i).f1 (by omega)
    rw [make_of g2] at mk
    have e2 : ((zeb l i).f2.toList != ([] : List UInt8)) = false := by rw [g4, (empty_iff ⟨#[]⟩).2 rfl]; rfl
    have go : Evr (fun k => zgb.j2 k l (l.length : Int) i false (zeb l i).f0 (zeb l i).f1 (zeb l i).f2) 0 := by
      refine Evr.succ (fun k => by rw [zgb.j2, if_neg Bool.false_ne_true]) (Evr.bind mk ?_)
      refine Evr.congr (fun k => ?_) ih
      dsimp only
      rw [if_pos (Eq.refl (0 : Int)), if_neg (by rw [g4]; decide), w64 (by omega) (by omega)]; rfl
    refine Evr.succ (fun k => ?_) go
    rw [zgb.l0, if_pos (by omega), if_pos (by omega), if_pos (by omega)]
    rcases g3 with g3 | g3
    · rw [if_neg (by omega), if_pos g3, e2]
    · rw [if_pos g3, if_neg (by omega)]
theorem check_ok (l : List S47) (h0 : 0 < l.length) (hl : l.length ≤ 50) (h : ∀ o ∈ l, Good o) : Evr (fun k => zgb.f k l) 0 := by
  unfold zgb.f
  exact Evr.congr (fun k => by rw [if_neg (by omega), decide_eq_false (by omega)]) (Evr.succ (fun k => by rw [zgb.j0, if_neg Bool.false_ne_true]; rfl) (check_l l (by omega) h l.length 0 (by omega)))
theorem check_none : Evr (fun k => zgb.f k []) 12 := by
  unfold zgb.f
  exact Evr.congr (fun k => by rw [if_pos (by simp)]) (Evr.succ (fun k => by rw [zgb.j0, if_pos (Eq.refl true)]) (Evr.of fun _ => rfl))
def ent (x : Int) (l : List S47) (j : Nat) : S51 := ⟨(rkeyf (zeb l j).f1).1, wrap64 (x + j), (zeb l j).f0, (zeb l j).f1, (zeb l j).f2⟩
def ents (x : Int) (l : List S47) (n : Nat) : List S51 := (List.range n).map (ent x l)
theorem ents_len (x : Int) (l : List S47) (n : Nat) : (ents x l n).length = n := by simp [ents]
theorem ents_rd (x : Int) (l : List S47) {n i : Nat} (h : i < n) : zmd (ents x l n) i = ent x l i := by
  unfold zmd ents
  rw [List.getD_eq_getElem?_getD, Int.toNat_natCast, List.getElem?_map, List.getElem?_range h]; rfl
theorem ents_l (x : Int) (l : List S47) (hl : l.length ≤ 100) (h : ∀ o ∈ l, Good o) : ∀ (d i : Nat), i + d = l.length → Evr (fun k => zhb.l0 k x (ents x l i) l (l.length : Int) i) (ents x l l.length)
  | 0, i, e => by
    obtain rfl : i = l.length := by omega
    exact Evr.succ (fun k => by rw [zhb.l0, if_neg (by omega)]) (Evr.of fun _ => rfl)
  | d + 1, i, e => by
    have ih := ents_l x l hl h d (i + 1) (by omega)
    obtain ⟨g1, g2, g3, g4⟩ := good_rd h (i := (i : Int)) (by omega) (by omega)
    have mk := make_f (zeb l i).f1 (by omega)
    rw [make_of g2] at mk
    refine Evr.succ (fun k => by rw [zhb.l0, if_pos (by omega), if_pos (by omega), if_pos (by omega)]) (Evr.bind mk ?_)
    refine Evr.congr (fun k => ?_) ih
    dsimp only
    rw [if_pos (by rw [ents_len]; omega), w64 (x := (i : Int) + 1) (by omega) (by omega), ents, ents, List.range_succ, List.map_append]
    rfl
theorem entries_f (x : Int) (l : List S47) (hl : l.length ≤ 50) (h : ∀ o ∈ l, Good o) : Evr (fun k => zhb.f k x l) (ents x l l.length) := by
  unfold zhb.f
  by_cases h0 : 0 < l.length
  · refine Evr.bind (check_ok l h0 hl h) ?_
    exact Evr.congr (fun k => by rw [if_pos (Eq.refl (0 : Int))]; rfl) (ents_l x l (by omega) h l.length 0 (by omega))
  · obtain rfl : l = [] := List.length_eq_zero_iff.1 (by omega)
    refine Evr.bind check_none ?_
    exact Evr.of fun _ => by rw [if_neg (by decide)]; rfl
theorem told_l (x : Int) (l : List S47) (hl : l.length ≤ 100) (h : ∀ o ∈ l, Good o) : ∀ (d i : Nat), i + d = l.length → Evr (fun k => zha.l1 k x l (ents x l l.length) i) true
  | 0, i, e => by
    obtain rfl : i = l.length := by omega
    exact Evr.succ (fun k => by rw [zha.l1, if_neg (by rw [ents_len]; omega)]) (Evr.of fun _ => rfl)
  | d + 1, i, e => by
    have ih := told_l x l hl h d (i + 1) (by omega)
    obtain ⟨g1, g2, g3, g4⟩ := good_rd h (i := (i : Int)) (by omega) (by omega)
    have key := rkey_f (zeb l i).f1 (by omega)
    have hr := ents_rd x l (n := l.length) (i := i) (by omega)
    refine Evr.succ (fun k => by rw [zha.l1, if_pos (by rw [ents_len]; omega), if_pos (by omega), if_pos (by omega)]) (Evr.bind key ?_)
    refine Evr.congr (fun k => ?_) ih
    rw [hr, if_pos (by rfl), if_pos (by rfl), if_pos (by rfl), if_pos (by rfl), w64 (by omega) (by omega)]; rfl
theorem loop (x : Int) (keys : List ByteArray) : ∀ (d i : Nat) (l : List S47), i + d = 50 → l.length ≤ i → (∀ o ∈ l, Good o) → Evr (fun k => zha.l0 k x keys l i) true := by
  have fin : ∀ (i : Int) (l : List S47), l.length ≤ 50 → (∀ o ∈ l, Good o) → Evr (fun k => zha.j2 k x keys l i false) true := by
    intro i l hl h
    refine Evr.succ (fun k => by rw [zha.j2, if_neg Bool.false_ne_true]) (Evr.bind (entries_f x l hl h) ?_)
    by_cases c : (l.length : Int) = 0
    · refine Evr.congr (fun k => by rw [if_pos c]) (Evr.of fun _ => ?_)
      rw [ents_len, c]; rfl
    · exact Evr.congr (fun k => by rw [if_neg c, if_pos (by rw [ents_len])]; rfl) (told_l x l (by omega) h l.length 0 (by omega))
  intro d
  induction d with
  | zero =>
    intro i l e hl h
    obtain rfl : i = 50 := by omega
    by_cases c : ((50 : Nat) : Int) < (keys.length : Int)
    · exact Evr.succ (fun k => by rw [zha.l0, if_pos c, decide_eq_false (by decide)]) (fin _ l hl h)
    · exact Evr.succ (fun k => by rw [zha.l0, if_neg c]) (fin _ l hl h)
  | succ d ih =>
    intro i l e hl h
    by_cases c : (i : Int) < (keys.length : Int)
    · refine Evr.succ (fun k => by rw [zha.l0, if_pos c, decide_eq_true (by omega)]) ?_
      obtain ⟨t, ht, hs⟩ := cut_f (rdOf ByteArray.empty keys i) 40 (by omega)
      refine Evr.succ (fun k => by rw [zha.j2, if_pos (Eq.refl true), if_pos (by omega), if_pos c, ht, Option.bind_some]) (Evr.bind (rkey_f t (by omega)) ?_)
      by_cases c2 : (rkeyf t).2 = true
      · refine Evr.congr (fun k => ?_) (ih (i + 1) (l ++ [⟨Int.tmod i 2, t, ⟨#[]⟩⟩]) (by omega) (by simp; omega) ?_)
        · rw [if_pos c2, if_pos (by omega), w64 (by omega) (by omega)]; rfl
        · intro o ho
          rcases List.mem_append.1 ho with ho | ho
          · exact h o ho
          · obtain rfl := List.mem_singleton.1 ho
            refine ⟨by dsimp only; omega, c2, ?_, rfl⟩
            dsimp only
            have : Int.tmod (i : Int) 2 = ((i % 2 : Nat) : Int) := rfl
            omega
      · refine Evr.congr (fun k => ?_) (ih (i + 1) l (by omega) (by omega) h)
        rw [if_neg c2, w64 (by omega) (by omega)]; rfl
    · exact Evr.succ (fun k => by rw [zha.l0, if_neg c]) (fin _ l (by omega) h)
theorem GroupOrder : zha.Pure := by
  intro a0 l1 _ _
  suffices h : Evr (fun k => zha.f k a0 l1) true by
    obtain ⟨k, hk⟩ := h
    exact ⟨k, hk k (Nat.le_refl _)⟩
  unfold zha.f
  have out : Evr (fun k => zha.j0 k a0 l1 true) true := Evr.succ (fun k => by rw [zha.j0, if_pos (Eq.refl true)]) (Evr.of fun _ => rfl)
  refine Evr.congr (fun k => by rw [zzc.f, Option.bind_some, if_pos (Eq.refl true)]) ?_
  by_cases c1 : a0 < 1
  · exact Evr.congr (fun k => by rw [if_pos c1]) out
  by_cases c2 : a0 > 1099511627776
  · exact Evr.congr (fun k => by rw [if_neg c1, decide_eq_true c2]) out
  exact Evr.congr (fun k => by rw [if_neg c1, decide_eq_false c2]) (Evr.succ (fun k => by rw [zha.j0, if_neg Bool.false_ne_true]; rfl) (loop a0 l1 50 0 [] (by omega) (by simp) (by simp)))
end Go.Proofs.Ytiplbhjllkfemaa.PureGO
namespace Go.Proofs.Ytiplbhjllkfemaa.Pure
theorem GroupOrder : MAll.zha.Pure := PureGO.GroupOrder
end Go.Proofs.Ytiplbhjllkfemaa.Pure
