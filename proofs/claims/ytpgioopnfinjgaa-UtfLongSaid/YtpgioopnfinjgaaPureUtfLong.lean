/-
  Proved: for every int c, incipitlaw1.UtfLong(c) returns true: a character written in more bytes than it needs is none, alone and behind an 'a'. No condition beyond c being an int.
-/
import Derived.Test.YtpgioopnfinjgaaReadUtfLong
import Derived.KernelRfl
namespace Go.Proofs.Ytpgioopnfinjgaa.PureUtfLong
open Go.RowKit Go.Proofs.Ytpgioopnfinjgaa.PUtfLong Go.Proofs.YtpgioopnfinjgaaW.PrintWords Go.Proofs.YtpgioopnfinjgaaW.PrintLast Go.Proofs.Ytpgioopnfinjgaa.Utf

theorem begun_30 : incipitlaw1_begun.f 30 = some true := by kernel_rfl
theorem begun_f (k : Nat) (hk : 30 ≤ k) : incipitlaw1_begun.f k = some true := at_rounds incipitlaw1_begun.mono hk begun_30

/-- Bytes that begin no character. -/
def bad (t : ByteArray) : Prop := (dec (bnums t)).2 = 0 ∧ 0 < t.size ∧ t.size ≤ 4
theorem bad_of {l : List Int} (hb : isByte l) (h0 : (dec l).2 = 0) (h1 : 0 < l.length) (h2 : l.length ≤ 4) : bad (strOfNums l) := by
  have : (strOfNums l).size = l.length := strOfNums_size l
  exact ⟨by rw [bnums_str hb]; exact h0, by omega, by omega⟩

theorem told_false {l : List Int} (h : chars l = none) : told [] l = ([], false) := by simp [told, h]

theorem chars_bad {t : ByteArray} (h : bad t) : chars (bnums ((⟨#[97]⟩ : ByteArray) ++ t)) = none := by
  have e : bnums (⟨#[97]⟩ : ByteArray) = enc 97 := by decide
  have v : valid 97 := by decide
  rw [bnums_append, e, chars_enc v (bnums_byte t)]
  have hn : bnums t ≠ [] := by
    intro e
    have := congrArg List.length e
    rw [bnums_length, List.length_nil] at this
    have := h.2.1
    omega
  rw [chars_step (bnums_byte t) hn, if_pos h.1]
  rfl

theorem loop (ts : List ByteArray) (hts : ∀ t ∈ ts, bad t) (hl : ts.length ≤ 3) (d : Nat) : ∀ (k i : Nat), i + d = ts.length → d + 40 ≤ k → incipitlaw1_UtfLong.l0 k ts i = some true := by
  induction d with
  | zero =>
    intro k i hi hk
    obtain ⟨k, rfl⟩ : ∃ m, k = m + 1 := ⟨k - 1, by omega⟩
    rw [incipitlaw1_UtfLong.l0, if_neg (by omega)]
  | succ d ih =>
    intro k i hi hk
    obtain ⟨k, rfl⟩ : ∃ m, k = m + 1 := ⟨k - 1, by omega⟩
    have hlt : i < ts.length := by omega
    have hb := hts ts[i] (List.getElem_mem hlt)
    have hr : rdOf ByteArray.empty ts (i : Int) = ts[i] := by
      unfold rdOf
      rw [Int.toNat_natCast, List.getD_eq_getElem?_getD, List.getElem?_eq_getElem hlt, Option.getD_some]
    rw [incipitlaw1_UtfLong.l0, if_pos (by omega), if_pos (by omega), hr, first_at (by omega), Option.bind_some]
    have h4 := hb.2.2
    rw [if_pos (by omega)]
    unfold utf_Read.f
    rw [read_l 5 _ _ [] (by rw [ByteArray.size_append, show (⟨#[97]⟩ : ByteArray).size = 1 from rfl]; omega) (by simp) (by omega), told_false (chars_bad hb), Option.bind_some]
    rw [if_pos hb.1, if_neg Bool.false_ne_true, w64 (by omega) (by omega)]
    exact ih k (i + 1) (by omega) (by omega)

theorem two_bad (c : Int) (h0 : 0 ≤ c) (h1 : c < 128) : bad (strOfNums [(wrap64 (192 + (wrap64 (Int.tdiv c 64)))) % 256, (wrap64 (128 + (Int.tmod c 64))) % 256]) := by
  rw [Int.tdiv_eq_ediv_of_nonneg h0, Int.tmod_eq_emod_of_nonneg h0, w64 (x := c / 64) (by omega) (by omega), w64 (x := 192 + c / 64) (by omega) (by omega), w64 (x := 128 + c % 64) (by omega) (by omega)]
  rw [show (192 + c / 64) % 256 = 192 + c / 64 by omega, show (128 + c % 64) % 256 = 128 + c % 64 by omega]
  refine bad_of (fun x hx => ?_) ?_ (by simp) (by simp)
  · simp at hx; omega
  · unfold dec
    dsimp only
    rw [if_neg (by omega), if_pos (by omega)]
theorem three_bad (c : Int) (h0 : 0 ≤ c) (h1 : c < 2048) : bad (strOfNums [224, (wrap64 (128 + (wrap64 (Int.tdiv c 64)))) % 256, (wrap64 (128 + (Int.tmod c 64))) % 256]) := by
  rw [Int.tdiv_eq_ediv_of_nonneg h0, Int.tmod_eq_emod_of_nonneg h0, w64 (x := c / 64) (by omega) (by omega), w64 (x := 128 + c / 64) (by omega) (by omega), w64 (x := 128 + c % 64) (by omega) (by omega)]
  rw [show (128 + c / 64) % 256 = 128 + c / 64 by omega, show (128 + c % 64) % 256 = 128 + c % 64 by omega]
  refine bad_of (fun x hx => ?_) ?_ (by simp) (by simp)
  · simp at hx; omega
  · unfold dec
    dsimp only
    rw [if_neg (by omega), if_neg (by omega), if_neg (by omega), if_pos (by omega), if_neg (fun x => by have := x.2.2.1; omega)]
theorem four_bad (c : Int) (h0 : 0 ≤ c) (h1 : c < 65536) : bad (strOfNums [240, (wrap64 (128 + (wrap64 (Int.tdiv c 4096)))) % 256, (wrap64 (128 + (Int.tmod (wrap64 (Int.tdiv c 64)) 64))) % 256, (wrap64 (128 + (Int.tmod c 64))) % 256]) := by
  rw [Int.tdiv_eq_ediv_of_nonneg h0, Int.tdiv_eq_ediv_of_nonneg h0, Int.tmod_eq_emod_of_nonneg h0, w64 (x := c / 64) (by omega) (by omega), w64 (x := c / 4096) (by omega) (by omega), Int.tmod_eq_emod_of_nonneg (by omega : (0 : Int) ≤ c / 64),
    w64 (x := 128 + c / 4096) (by omega) (by omega), w64 (x := 128 + c / 64 % 64) (by omega) (by omega), w64 (x := 128 + c % 64) (by omega) (by omega)]
  rw [show (128 + c / 4096) % 256 = 128 + c / 4096 by omega, show (128 + c / 64 % 64) % 256 = 128 + c / 64 % 64 by omega, show (128 + c % 64) % 256 = 128 + c % 64 by omega]
  refine bad_of (fun x hx => ?_) ?_ (by simp) (by simp)
  · simp at hx; omega
  · unfold dec
    dsimp only
    rw [if_neg (by omega), if_neg (by omega), if_neg (by omega), if_neg (by omega), if_pos (by omega), if_neg (fun x => by have := x.2.2.2.1; omega)]

theorem j2 (c : Int) (h0 : 0 ≤ c) (h1 : c < 65536) (ts : List ByteArray) (hts : ∀ t ∈ ts, bad t) (hl : ts.length ≤ 2) (k : Nat) (hk : 50 ≤ k) : incipitlaw1_UtfLong.j2 (k + 1) c ts = some true := by
  rw [incipitlaw1_UtfLong.j2, if_pos (by omega)]
  refine loop _ ?_ (by simp; omega) (ts.length + 1) k 0 (by simp) (by omega)
  intro t ht
  rcases List.mem_append.1 ht with ht | ht
  · exact hts t ht
  · rw [List.mem_singleton.1 ht]; exact four_bad c h0 h1

theorem j1 (c : Int) (h0 : 0 ≤ c) (h1 : c < 65536) (ts : List ByteArray) (hts : ∀ t ∈ ts, bad t) (hl : ts.length ≤ 1) (k : Nat) (hk : 50 ≤ k) : incipitlaw1_UtfLong.j1 (k + 2) c ts = some true := by
  rw [incipitlaw1_UtfLong.j1]
  by_cases h2 : c < 2048
  · rw [if_pos h2, if_pos (by omega)]
    refine j2 c h0 h1 _ ?_ (by simp; omega) k hk
    intro t ht
    rcases List.mem_append.1 ht with ht | ht
    · exact hts t ht
    · rw [List.mem_singleton.1 ht]; exact three_bad c h0 h2
  · rw [if_neg h2]
    exact j2 c h0 h1 ts hts (by omega) k hk

theorem long_true (c : Int) (K : Nat) (hK : 100 ≤ K) : incipitlaw1_UtfLong.f (K + 3) c = some true := by
  unfold incipitlaw1_UtfLong.f
  rw [begun_f _ (by omega), Option.bind_some, if_pos (Eq.refl true)]
  by_cases h0 : c < 0
  · rw [if_pos h0, incipitlaw1_UtfLong.j0, if_pos (Eq.refl true)]
  · rw [if_neg h0]
    by_cases h1 : c > 65535
    · rw [decide_eq_true h1, incipitlaw1_UtfLong.j0, if_pos (Eq.refl true)]
    · rw [decide_eq_false h1, incipitlaw1_UtfLong.j0, if_neg Bool.false_ne_true]
      by_cases h2 : c < 128
      · rw [if_pos h2, if_pos (by simp)]
        refine j1 c (by omega) (by omega) _ ?_ (by simp) K (by omega)
        intro t ht
        rw [List.nil_append] at ht
        rw [List.mem_singleton.1 ht]
        exact two_bad c (by omega) h2
      · rw [if_neg h2]
        exact j1 c (by omega) (by omega) [] (fun t ht => by cases ht) (by simp) K (by omega)

theorem UtfLong : incipitlaw1_UtfLong.Pure := by
  intro c _
  exact ⟨100 + 3, long_true c 100 (Nat.le_refl _)⟩

end Go.Proofs.Ytpgioopnfinjgaa.PureUtfLong
namespace Go.Proofs.Ytpgioopnfinjgaa.Pure
theorem UtfLong : PUtfLong.incipitlaw1_UtfLong.Pure := PureUtfLong.UtfLong
end Go.Proofs.Ytpgioopnfinjgaa.Pure
