/-
  Proved: for all whole numbers a and b, incipitlaw13.WalNames(a, b) returns true: of numbers from 1 to the greatest sequence number, wal.Name's text is the number's decimal digits and '.log' behind them, and two names are one just where the numbers are. The listed variables stand as the program's text lays them.
-/
import Derived.Test.YtjhijcehcklipaaDoorNamesL
import Derived.Test.YtjhijcehcklipaaDoorUtf
import Derived.Test.YtjhijcehcklipaaDoorNOrd
namespace Go.Proofs.YtjhijcehcklipaaDoor.PureWN
open Go.RowKit Go.Proofs.YtjhijcehcklipaaDoor.MWalNames Go.Proofs.YtjhijcehcklipaaDoorW.PrintWords Go.Proofs.YtjhijcehcklipaaDoor.Utf Go.Proofs.YtjhijcehcklipaaDoor.NOrd
open Go.Proofs.YtjhijcehcklipaaDoor.WalName (dot)

theorem bt_nums (s : ByteArray) (i : Int) : bt s i = (bnums s).getD i.toNat 0 := by
  have e : s.data.toList.length = s.size := by rw [Array.length_toList]; rfl
  unfold bt bnums
  by_cases h : i.toNat < s.size
  · rw [dif_pos h, List.getD_eq_getElem?_getD, List.getElem?_map, List.getElem?_eq_getElem (by omega), Option.map_some, Option.getD_some]
    rfl
  · rw [dif_neg h, List.getD_eq_getElem?_getD, List.getElem?_map, List.getElem?_eq_none (by omega)]
    rfl
/-- What digits tell. -/
def val (l : List UInt8) : Nat := l.foldl (fun n c => n * 10 + (c.toNat - 48)) 0
theorem val_snoc (l : List UInt8) (c : UInt8) : val (l ++ [c]) = val l * 10 + (c.toNat - 48) := by simp [val]
theorem val_le (l : List UInt8) : ∀ m : List UInt8, val l ≤ val (l ++ m) := by
  intro m
  unfold val
  rw [List.foldl_append]
  generalize List.foldl (fun n (c : UInt8) => n * 10 + (c.toNat - 48)) 0 l = z
  induction m generalizing z with
  | nil => exact Nat.le_refl _
  | cons c m ih => rw [List.foldl_cons]; exact Nat.le_trans (by omega) (ih _)
theorem digit (k : Nat) (h : k < 10) : (UInt8.ofNat (48 + k)).toNat = 48 + k := by
  rw [UInt8.toNat_ofNat']; omega
theorem val_dec (u : Nat) : val (Lib.decDigits u) = u := by
  induction u using Nat.strongRecOn with
  | ind u ih =>
    by_cases h : u < 10
    · rw [Lib.decDigits_one h]; unfold val; simp only [List.foldl_cons, List.foldl_nil]; rw [digit u h]; omega
    · rw [Lib.decDigits, dif_neg h, val_snoc, ih (u / 10) (by omega), digit (u % 10) (by omega)]; omega
theorem dec_digit (u : Nat) : ∀ c ∈ Lib.decDigits u, 48 ≤ c.toNat ∧ c.toNat ≤ 57 := by
  induction u using Nat.strongRecOn with
  | ind u ih =>
    by_cases h : u < 10
    · rw [Lib.decDigits_one h]; intro c hc; rw [List.mem_singleton.1 hc, digit u h]; omega
    · rw [Lib.decDigits, dif_neg h]; intro c hc
      rcases List.mem_append.1 hc with hc | hc
      · exact ih (u / 10) (by omega) c hc
      · rw [List.mem_singleton.1 hc, digit (u % 10) (by omega)]; omega
theorem dec_pos (u : Nat) : 0 < (Lib.decDigits u).length := by rw [Lib.decDigits_length]; exact Lib.nDigits_pos u
def nm (u : Nat) : ByteArray := ⟨(Lib.decDigits u).toArray⟩ ++ dot
theorem name_some (u : Nat) (h : u ≤ 1125899906842624) : wal_Name.f u = some (nm u) := by
  unfold wal_Name.f WalName.name
  rw [if_pos (by omega), Int.toNat_natCast]; rfl
theorem bnums_mk (l : List UInt8) : bnums ⟨l.toArray⟩ = l.map fun b => (b.toNat : Int) := rfl
theorem nm_nums (u : Nat) : bnums (nm u) = (Lib.decDigits u).map (fun b => (b.toNat : Int)) ++ [46, 108, 111, 103] := by
  unfold nm; rw [bnums_append, bnums_mk]; rfl
theorem nm_size (u : Nat) : (nm u).size = (Lib.decDigits u).length + 4 := by rw [← bnums_length, nm_nums]; simp
theorem nm_inj {u v : Nat} (h : (nm u).toList = (nm v).toList) : u = v := by
  have h1 : nm u = nm v := by
    apply bnums_inj
    unfold bnums
    rw [_root_.Go.ByteArray.toList_eq, _root_.Go.ByteArray.toList_eq] at h
    rw [h]
  have h2 := congrArg bnums h1
  rw [nm_nums, nm_nums] at h2
  have h3 := List.append_cancel_right h2
  have h4 : Lib.decDigits u = Lib.decDigits v := by
    apply List.ext_getElem?
    intro i
    have := congrArg (·[i]?) h3
    simp only [List.getElem?_map] at this
    cases e1 : (Lib.decDigits u)[i]? <;> cases e2 : (Lib.decDigits v)[i]? <;> rw [e1, e2] at this <;> simp at this ⊢
    exact UInt8.toNat_inj.1 (by omega)
  rw [← val_dec u, h4, val_dec]
theorem nm_tail (u : Nat) : ((nm u).extract ((((nm u).size : Int) - 4).toNat) (nm u).size).toList = ([46, 108, 111, 103] : List UInt8) := by
  have e : (nm u).extract ((((nm u).size : Int) - 4).toNat) (nm u).size = dot := by
    apply bnums_inj
    rw [bnums_extract, nm_nums, nm_size, List.take_of_length_le (by simp)]
    rw [show ((((Lib.decDigits u).length + 4 : Nat) : Int) - 4).toNat = ((Lib.decDigits u).map (fun b => (b.toNat : Int))).length by simp]
    rw [List.drop_left]; rfl
  rw [e, _root_.Go.ByteArray.toList_eq]; rfl
theorem step_eq {V V' D u : Nat} (h : V' = V * 10 + (D - 48)) (hv : V' ≤ u) (hu : u ≤ 1125899906842624) (h0 : 48 ≤ D) (h1 : D ≤ 57) : wrap64 (wrap64 ((V : Int) * 10) + ((D : Int) - 48) % 256) = (V' : Int) := by
  rw [w64 (x := (V : Int) * 10) (by omega) (by omega), w64 (by omega) (by omega)]; omega
theorem w_four {i : Nat} (h : i ≤ 100) : wrap64 ((i : Int) + 4) = (i : Int) + 4 := w64 (by omega) (by omega)
theorem w_next {i : Nat} (h : i ≤ 100) : wrap64 ((i : Int) + 1) = ((i + 1 : Nat) : Int) := by rw [w64 (by omega) (by omega)]; omega
theorem w_back {i : Nat} (h : i ≤ 100) : wrap64 ((i : Int) - 4) = (i : Int) - 4 := w64 (by omega) (by omega)
theorem loop (u v : Nat) (hu : u ≤ 1125899906842624) (l : List UInt8) (hl : l = Lib.decDigits u) (n : Nat) (hn : l.length = n) (h16 : n ≤ 16) (s : ByteArray) (hs : s = nm u) (hz : s.size = n + 4) (hp : 0 < n) (ht : (s.extract (((s.size : Int) - 4).toNat) s.size).toList = ([46, 108, 111, 103] : List UInt8))
    (hb : ∀ (i : Nat) (h : i < l.length), bt s (i : Int) = (l[i].toNat : Int)) (hd : ∀ c ∈ l, 48 ≤ c.toNat ∧ c.toNat ≤ 57) (hw : val l = u) (hi : (s.toList == (nm v).toList) = ((u : Int) == (v : Int))) :
    ∀ (d i : Nat), i + d = n → ∀ V : Nat, V = val (l.take i) → Evr (fun k => incipitlaw13_WalNames.l0 k u v s (nm v) (V : Int) (i : Int)) true
  | 0, i, e, V, hV => by
    obtain rfl : i = n := by omega
    rw [List.take_of_length_le (Nat.le_of_eq hn), hw] at hV
    subst hV
    refine Evr.succ (fun k => ?_) (Evr.of fun _ => rfl)
    rw [hz] at ht
    rw [incipitlaw13_WalNames.l0, w_four (by omega), hz, w_back (by omega), if_neg (by omega), if_pos (Eq.refl _), if_pos (by omega), if_pos (by omega), if_pos (by omega), if_pos ht, hi]
    simp
  | d + 1, i, e, V, hV => by
    have hlt : i < l.length := by omega
    have htk : l.take (i + 1) = l.take i ++ [l[i]] := List.take_succ_eq_append_getElem hlt
    obtain ⟨V', hV'⟩ : ∃ V', V' = val (l.take (i + 1)) := ⟨_, rfl⟩
    have ih := loop u v hu l hl n hn h16 s hs hz hp ht hb hd hw hi d (i + 1) (by omega) V' hV'
    have h1 : V' = V * 10 + (l[i].toNat - 48) := by rw [hV', htk, val_snoc, hV]
    have h2 : V' ≤ u := by
      have := val_le (l.take (i + 1)) (l.drop (i + 1))
      rw [List.take_append_drop, hw] at this; rw [hV']; exact this
    obtain ⟨d0, d1⟩ := hd _ (List.getElem_mem hlt)
    have w3 := step_eq h1 h2 hu d0 d1
    have hbi := hb i hlt
    generalize l[i].toNat = D at w3 hbi
    refine Evr.succ (fun k => ?_) ih
    rw [incipitlaw13_WalNames.l0, w_four (by omega), hz, if_pos (by omega), if_pos (by omega), if_pos (by omega), hbi, w_next (by omega), w3]
theorem bt_nm (u i : Nat) (h : i < (Lib.decDigits u).length) : bt (nm u) (i : Int) = ((Lib.decDigits u)[i].toNat : Int) := by
  rw [bt_nums, nm_nums, Int.toNat_natCast, List.getD_eq_getElem?_getD, List.getElem?_append_left (by simpa using h), List.getElem?_map, List.getElem?_eq_getElem h, Option.map_some, Option.getD_some]
theorem same (u v : Nat) : ((nm u).toList == (nm v).toList) = ((u : Int) == (v : Int)) := by
  by_cases h : u = v
  · subst h; simp
  · have h1 : ¬ (nm u).toList = (nm v).toList := fun z => h (nm_inj z)
    have h2 : ¬ (u : Int) = (v : Int) := fun z => h (by exact_mod_cast z)
    rw [beq_eq_false_iff_ne.2 h1, beq_eq_false_iff_ne.2 h2]
theorem run (u v : Nat) (hu : u ≤ 1125899906842624) : Evr (fun k => incipitlaw13_WalNames.l0 k u v (nm u) (nm v) 0 0) true :=
  loop u v hu (Lib.decDigits u) rfl (Lib.decDigits u).length rfl (WalName.digits_le u hu) (nm u) rfl (nm_size u) (dec_pos u) (nm_tail u) (bt_nm u) (dec_digit u) (val_dec u) (same u v) (Lib.decDigits u).length 0 (Nat.zero_add _) 0 rfl
theorem WalNames : incipitlaw13_WalNames.Pure := by
  intro a b _ _
  suffices h : Evr (fun k => incipitlaw13_WalNames.f k a b) true by
    obtain ⟨k, hk⟩ := h
    exact ⟨k, hk k (Nat.le_refl _)⟩
  unfold incipitlaw13_WalNames.f
  have out : Evr (fun k => incipitlaw13_WalNames.j0 k a b true) true := Evr.succ (fun k => by rw [incipitlaw13_WalNames.j0, if_pos (Eq.refl true)]) (Evr.of fun _ => rfl)
  refine Evr.congr (fun k => by rw [incipitlaw13_begun.f, Option.bind_some, if_pos (Eq.refl true)]) ?_
  by_cases c1 : a < 1
  · exact Evr.congr (fun k => by rw [if_pos c1]) out
  by_cases c2 : a > 1125899906842624
  · exact Evr.congr (fun k => by rw [if_neg c1, if_pos c2]) out
  by_cases c3 : b < 1
  · exact Evr.congr (fun k => by rw [if_neg c1, if_neg c2, if_pos c3]) out
  by_cases c4 : b > 1125899906842624
  · exact Evr.congr (fun k => by rw [if_neg c1, if_neg c2, if_neg c3, decide_eq_true c4]) out
  refine Evr.congr (fun k => by rw [if_neg c1, if_neg c2, if_neg c3, decide_eq_false c4]) ?_
  obtain ⟨u, rfl⟩ := Int.eq_ofNat_of_zero_le (show 0 ≤ a by omega)
  obtain ⟨v, rfl⟩ := Int.eq_ofNat_of_zero_le (show 0 ≤ b by omega)
  exact Evr.succ (fun k => by rw [incipitlaw13_WalNames.j0, if_neg Bool.false_ne_true, name_some u (by omega), Option.bind_some, name_some v (by omega), Option.bind_some]) (run u v (by omega))
end Go.Proofs.YtjhijcehcklipaaDoor.PureWN
namespace Go.Proofs.YtjhijcehcklipaaDoor.Pure
theorem WalNames : MWalNames.incipitlaw13_WalNames.Pure := PureWN.WalNames
end Go.Proofs.YtjhijcehcklipaaDoor.Pure
