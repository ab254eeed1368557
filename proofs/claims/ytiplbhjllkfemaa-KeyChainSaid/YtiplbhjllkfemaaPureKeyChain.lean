/-
  Proved: for every list of texts, incipitlaw6.KeyChain returns true: between neighbours of the first twelve of them (cut to thirty bytes), put in order, ckey.Between tells a text that is not below the one and is below the other, and it is the document's. No condition beyond the given bound on the list's size.
-/
import Derived.Test.YtiplbhjllkfemaaNBtw
import Derived.Test.YtiplbhjllkfemaaMAllLKeyChain
namespace Go.Proofs.Ytiplbhjllkfemaa.PureKC
open Go.RowKit Go.Proofs.Ytiplbhjllkfemaa.MAll Go.Proofs.YtiplbhjllkfemaaW.PrintWords Go.Proofs.Ytiplbhjllkfemaa.Utf Go.Proofs.Ytiplbhjllkfemaa.NOrd Go.Proofs.Ytiplbhjllkfemaa.NBtw

theorem cut_f (s : ByteArray) (n : Int) (h0 : 0 ≤ n) : ∃ t, incipitlaw1_Cut.f s n = some t ∧ (t.size : Int) ≤ n := by
  unfold incipitlaw1_Cut.f
  by_cases h : (s.size : Int) > n
  · rw [if_pos h, if_pos h0, if_pos (by omega)]
    exact ⟨_, rfl, by rw [ByteArray.size_extract]; omega⟩
  · rw [if_neg h]; exact ⟨s, rfl, by omega⟩
/-- Is one text below another? -/
def lt (s t : ByteArray) : Bool := Op.bytesLess s.toList t.toList
theorem lt_tri {s t : ByteArray} (h : lt s t = false) (hn : ¬ s.toList = t.toList) : lt t s = true := by
  unfold lt at h ⊢
  rw [less_nums] at h ⊢
  refine ltI_tri _ _ h (fun e => hn ?_)
  rw [bnums_inj e]
def at_ (l : List ByteArray) (j : Nat) : ByteArray := l.getD j ByteArray.empty
theorem rd_at (l : List ByteArray) (j : Nat) : rdOf ByteArray.empty l (j : Int) = at_ l j := rfl
/-- Neighbours are in order. -/
def Chain (l : List ByteArray) : Prop := ∀ j, j + 1 < l.length → lt (at_ l j) (at_ l (j + 1)) = true
def Short (l : List ByteArray) : Prop := ∀ s ∈ l, s.size ≤ 30
theorem at_mem {l : List ByteArray} {j : Nat} (h : j < l.length) : at_ l j ∈ l := by
  unfold at_
  rw [List.getD_eq_getElem?_getD, List.getElem?_eq_getElem h, Option.getD_some]
  exact List.getElem_mem _
def ins (l : List ByteArray) (k : Nat) (x : ByteArray) : List ByteArray := l.take k ++ ([x] ++ l.drop k)
theorem ins_len (l : List ByteArray) (k : Nat) (x : ByteArray) (h : k ≤ l.length) : (ins l k x).length = l.length + 1 := by
  unfold ins; simp; omega
theorem ins_at (l : List ByteArray) (k : Nat) (x : ByteArray) (h : k ≤ l.length) (j : Nat) : at_ (ins l k x) j = if j < k then at_ l j else if j = k then x else at_ l (j - 1) := by
  unfold at_ ins
  have hk : (l.take k).length = k := by rw [List.length_take]; omega
  by_cases h1 : j < k
  · rw [if_pos h1, List.getD_eq_getElem?_getD, List.getElem?_append_left (by omega), List.getElem?_take_of_lt h1, List.getD_eq_getElem?_getD]
  · rw [if_neg h1, List.getD_eq_getElem?_getD, List.getElem?_append_right (by omega), hk]
    by_cases h2 : j = k
    · subst h2; rw [if_pos rfl, Nat.sub_self]; rfl
    · rw [if_neg h2]
      obtain ⟨d, rfl⟩ : ∃ d, j = k + 1 + d := ⟨j - k - 1, by omega⟩
      rw [show k + 1 + d - k = d + 1 by omega, show k + 1 + d - 1 = k + d by omega, List.getD_eq_getElem?_getD]
      show ((l.drop k)[d]?).getD _ = _
      rw [List.getElem?_drop]
theorem ins_chain {l : List ByteArray} {k : Nat} {x : ByteArray} (hc : Chain l) (h : k ≤ l.length) (ha : 0 < k → lt (at_ l (k - 1)) x = true) (hb : k < l.length → lt x (at_ l k) = true) : Chain (ins l k x) := by
  intro j hj
  rw [ins_len l k x h] at hj
  rw [ins_at l k x h, ins_at l k x h]
  by_cases h1 : j + 1 < k
  · rw [if_pos (by omega), if_pos h1]; exact hc j (by omega)
  · by_cases h2 : j + 1 = k
    · rw [if_pos (by omega), if_neg h1, if_pos h2]
      have := ha (by omega)
      rwa [show k - 1 = j by omega] at this
    · by_cases h3 : j = k
      · rw [if_neg (by omega), if_pos h3, if_neg h1, if_neg h2]
        have := hb (by omega)
        rwa [show j + 1 - 1 = k by omega]
      · rw [if_neg (by omega), if_neg h3, if_neg h1, if_neg h2]
        have := hc (j - 1) (by omega)
        rwa [show j - 1 + 1 = j by omega] at this
theorem ins_short {l : List ByteArray} {k : Nat} {x : ByteArray} (hs : Short l) (hx : x.size ≤ 30) : Short (ins l k x) := by
  intro s h
  rcases List.mem_append.1 h with h | h
  · exact hs s (List.mem_of_mem_take h)
  · rcases List.mem_append.1 h with h | h
    · rw [List.mem_singleton.1 h]; exact hx
    · exact hs s (List.mem_of_mem_drop h)
theorem told (l : List ByteArray) (hl : l.length ≤ 100) (hc : Chain l) (hs : Short l) : ∀ (d i : Nat), 1 ≤ i → (i + d = l.length ∨ d = 0 ∧ l.length ≤ i ∧ i ≤ 100) → Evr (fun k => incipitlaw6_KeyChain.l2 k l i) true
  | 0, i, h1, h => Evr.succ (fun k => by rw [incipitlaw6_KeyChain.l2, if_neg (by omega)]) (Evr.of fun _ => rfl)
  | d + 1, i, h1, h => by
    have ih := told l hl hc hs d (i + 1) (by omega) (by omega)
    have w1 : wrap64 ((i : Int) - 1) = ((i - 1 : Nat) : Int) := by rw [w64 (by omega) (by omega)]; omega
    have w2 : wrap64 ((i : Int) + 1) = ((i + 1 : Nat) : Int) := by rw [w64 (by omega) (by omega)]; omega
    have hlt := hc (i - 1) (by omega)
    rw [show i - 1 + 1 = i by omega] at hlt
    have s1 := hs _ (at_mem (l := l) (j := i - 1) (by omega))
    have s2 := hs _ (at_mem (l := l) (j := i) (by omega))
    have b1 := between_f (at_ l (i - 1)) (at_ l i) (by omega)
    have b2 := rbetween_f (at_ l (i - 1)) (at_ l i) (by omega)
    have e : between (at_ l (i - 1)) (at_ l i) = strOfNums (btw (bnums (at_ l (i - 1))) (bnums (at_ l i))) := by exact if_pos hlt
    have n1 := bnums_byte (at_ l (i - 1))
    have n2 := bnums_byte (at_ l i)
    have hn : ltI (bnums (at_ l (i - 1))) (bnums (at_ l i)) = true := by rw [← less_nums]; exact hlt
    obtain ⟨p, q⟩ := btw_between _ _ n1 n2 hn
    have hb := btw_byte (bnums (at_ l (i - 1))) (bnums (at_ l i)) n1
    have p' : ¬ (Op.bytesLess (between (at_ l (i - 1)) (at_ l i)).toList (at_ l (i - 1)).toList) = true := by rw [less_nums, e, bnums_str hb, p]; simp
    have q' : (Op.bytesLess (between (at_ l (i - 1)) (at_ l i)).toList (at_ l i).toList) = true := by rw [less_nums, e, bnums_str hb, q]
    refine Evr.succ (fun k => by rw [incipitlaw6_KeyChain.l2, if_pos (by omega), w1, if_pos (by omega), if_pos (by omega), if_pos (by omega), rd_at, rd_at]) (Evr.bind b1 ?_)
    refine Evr.congr (fun k => by rw [if_neg p', if_pos q']) (Evr.bind b2 ?_)
    exact Evr.congr (fun k => by rw [if_pos (Eq.refl _), w2]) ih
theorem loop (x0 : List ByteArray) : ∀ (d i : Nat) (l : List ByteArray), i + d = 12 → l.length ≤ i → Chain l → Short l → Evr (fun k => incipitlaw6_KeyChain.l0 k x0 l i) true := by
  have fin : ∀ (i : Int) (l : List ByteArray), l.length ≤ 12 → Chain l → Short l → Evr (fun k => incipitlaw6_KeyChain.j1 k x0 l i false) true := by
    intro i l hl hc hs
    refine Evr.succ (fun k => by rw [incipitlaw6_KeyChain.j1, if_neg Bool.false_ne_true]) ?_
    by_cases h : 1 ≤ l.length
    · exact told l (by omega) hc hs (l.length - 1) 1 (by omega) (by omega)
    · exact told l (by omega) hc hs 0 1 (by omega) (by omega)
  intro d
  induction d with
  | zero =>
    intro i l e hl hc hs
    obtain rfl : i = 12 := by omega
    by_cases c : ((12 : Nat) : Int) < (x0.length : Int)
    · exact Evr.succ (fun k => by rw [incipitlaw6_KeyChain.l0, if_pos c, decide_eq_false (by decide)]) (fin _ l hl hc hs)
    · exact Evr.succ (fun k => by rw [incipitlaw6_KeyChain.l0, if_neg c]) (fin _ l hl hc hs)
  | succ d ih =>
    intro i l e hl hc hs
    by_cases c : (i : Int) < (x0.length : Int)
    · refine Evr.succ (fun k => by rw [incipitlaw6_KeyChain.l0, if_pos c, decide_eq_true (by omega)]) ?_
      obtain ⟨x, hx, hxs⟩ := cut_f (rdOf ByteArray.empty x0 i) 30 (by omega)
      refine Evr.succ (fun k => by rw [incipitlaw6_KeyChain.j1, if_pos (Eq.refl true), if_pos (by omega), if_pos c, hx, Option.bind_some]) ?_
      have wi : wrap64 ((i : Int) + 1) = ((i + 1 : Nat) : Int) := by rw [w64 (by omega) (by omega)]; omega
      have put : ∀ j : Nat, j ≤ l.length → (0 < j → lt (at_ l (j - 1)) x = true) → (j < l.length → lt x (at_ l j) = true) → Evr (fun k => incipitlaw6_KeyChain.l0 k x0 (l.take j ++ ([x] ++ l.drop j)) ((i + 1 : Nat) : Int)) true :=
        fun j hj ha hb => ih (i + 1) (ins l j x) (by omega) (by rw [ins_len l j x hj]; omega) (ins_chain hc hj ha hb) (ins_short hs (by omega))
      have go : ∀ (n j : Nat), j + n = l.length → (0 < j → lt (at_ l (j - 1)) x = true) → Evr (fun k => incipitlaw6_KeyChain.l1 k x0 l i x j) true := by
        intro n
        induction n with
        | zero =>
          intro j hj ha
          have h1 : ¬ ((j : Int) < (l.length : Int)) := by omega
          refine Evr.succ (fun k => ?_) (put j (by omega) ha (by omega))
          rw [incipitlaw6_KeyChain.l1, if_neg h1, if_pos (by omega), if_pos (by omega), if_pos (by omega)]
          simp only [Option.bind_some, Int.toNat_natCast]
          rw [if_pos (by simp; omega), if_pos (by simp; omega), wi]
        | succ n ihn =>
          intro j hj ha
          have h1 : ((j : Int) < (l.length : Int)) := by omega
          have wj : wrap64 ((j : Int) + 1) = ((j + 1 : Nat) : Int) := by rw [w64 (by omega) (by omega)]; omega
          by_cases h2 : lt (at_ l j) x = true
          · refine Evr.succ (fun k => ?_) (ihn (j + 1) (by omega) (fun _ => by rw [Nat.add_sub_cancel]; exact h2))
            have h2' : (Op.bytesLess (rdOf ByteArray.empty l (j : Int)).toList x.toList) = true := h2
            rw [incipitlaw6_KeyChain.l1, if_pos h1, if_pos (by omega), if_pos h2', wj]
          · have h2' : ¬ (Op.bytesLess (rdOf ByteArray.empty l (j : Int)).toList x.toList) = true := h2
            by_cases h3 : (rdOf ByteArray.empty l (j : Int)).toList = x.toList
            · refine Evr.succ (fun k => ?_) (ih (i + 1) l (by omega) (by omega) hc hs)
              rw [incipitlaw6_KeyChain.l1, if_pos h1, if_pos (by omega), if_neg h2', if_neg (by omega), if_pos h3, wi]
            · refine Evr.succ (fun k => ?_) (put j (by omega) ha (fun _ => lt_tri (by simpa using h2) h3))
              rw [incipitlaw6_KeyChain.l1, if_pos h1, if_pos (by omega), if_neg h2', if_neg (by omega), if_neg h3, if_pos (by omega)]
              simp only [Option.bind_some, Int.toNat_natCast]
              rw [if_pos (by simp; omega), if_pos (by simp; omega), wi]
      exact go l.length 0 (by omega) (by omega)
    · exact Evr.succ (fun k => by rw [incipitlaw6_KeyChain.l0, if_neg c]) (fin _ l (by omega) hc hs)
theorem KeyChain : incipitlaw6_KeyChain.Pure := by
  intro l0 _
  suffices h : Evr (fun k => incipitlaw6_KeyChain.f k l0) true by
    obtain ⟨k, hk⟩ := h
    exact ⟨k, hk k (Nat.le_refl _)⟩
  unfold incipitlaw6_KeyChain.f
  refine Evr.congr (fun k => by rw [incipitlaw6_begun.f, Option.bind_some, if_pos (Eq.refl true)]) ?_
  exact loop l0 12 0 [] (by omega) (by simp) (fun j hj => by simp at hj) (fun s hs => by cases hs)
end Go.Proofs.Ytiplbhjllkfemaa.PureKC
namespace Go.Proofs.Ytiplbhjllkfemaa.Pure
theorem KeyChain : MAll.incipitlaw6_KeyChain.Pure := PureKC.KeyChain
end Go.Proofs.Ytiplbhjllkfemaa.Pure
