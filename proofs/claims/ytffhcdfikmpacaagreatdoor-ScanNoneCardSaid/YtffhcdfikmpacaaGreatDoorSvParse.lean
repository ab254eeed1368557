/-
  A text that is no numeral, read as one: 0 and an error, by the shelf's contract.
-/
import Derived.Test.YtffhcdfikmpacaaGreatDoorCmpSv
import Derived.Test.YtffhcdfikmpacaaGreatDoorSvFs
import Derived.Test.YtffhcdfikmpacaaGreatDoorParse
namespace Go.Proofs.YtffhcdfikmpacaaGreatDoor.Ev
open Go.RowKit
/-- The text's bytes. -/
def bytesU : List Nat → List UInt8
  | [] => []
  | x :: l => UInt8.ofNat x :: bytesU l
theorem bytesU_eq (s : ByteArray) : bytesU (s.data.toList.map UInt8.toNat) = s.data.toList := by
  have key : ∀ l : List UInt8, bytesU (l.map UInt8.toNat) = l := by
    intro l
    induction l with
    | nil => rfl
    | cons x l ih => rw [List.map_cons, bytesU, ih, UInt8.ofNat_toNat]
  exact key _
def noNum (l : List Nat) : Bool := match Lib.parseIntB 64 (bytesU l) with
  | .syntax => Nat.blt l.length 1000
  | _ => false
def parseO : Nat → List AV → AH → Option (AV × AH)
  | g, [.s a, .n .i64 10, .n .i64 64], H => if g = 202 then (if noNum a = true then some (.tup [.n .i64 0, .i 372 .undef], H) else none) else none
  | _, _, _ => none
theorem parseO_some {g : Nat} {xs : List AV} {H : AH} {r : AV × AH} (e : parseO g xs H = some r) : ∃ a, g = 202 ∧ xs = [.s a, .n .i64 10, .n .i64 64] ∧ noNum a = true ∧ r = (.tup [.n .i64 0, .i 372 .undef], H) := by
  unfold parseO at e
  split at e
  · rename_i a
    split at e
    · rename_i h
      split at e
      · rename_i h2; exact ⟨a, h, rfl, h2, (Option.some.inj e).symm⟩
      · cases e
    · cases e
  · cases e
theorem noNum_spec (s : ByteArray) (h : noNum (s.data.toList.map UInt8.toNat) = true) : Lib.parseIntB 64 s.data.toList = .«syntax» ∧ s.size ≤ 281474976710656 := by
  unfold noNum at h
  rw [bytesU_eq] at h
  split at h
  · rename_i e
    refine ⟨e, ?_⟩
    rw [Nat.blt_eq, List.length_map] at h
    have : s.size = s.data.toList.length := by rw [Array.length_toList]; rfl
    omega
  · cases h
theorem sims_parse : Sims Tryz.prog parseO := by
  refine ⟨fun g xs H v H' e => ?_, fun g xs H r e => ?_, fun g xs H v H' e φ B vs w hH hr => ?_⟩
  · obtain ⟨a, rfl, rfl, _, h⟩ := parseO_some e
    obtain ⟨_, rfl⟩ := Prod.mk.inj h
    exact Nat.le_refl _
  · obtain ⟨a, rfl, rfl, _, h⟩ := parseO_some e
    exact ⟨Tryz.f202, Tryz.func202, by kernel_rfl, by kernel_rfl⟩
  · obtain ⟨a, rfl, rfl, hn, h⟩ := parseO_some e
    obtain ⟨rfl, rfl⟩ := Prod.mk.inj h
    match vs, hr with
    | [v1, v2, v3], hr =>
      obtain ⟨h1, h2, h3, _⟩ := hr
      rw [VR] at h2 h3
      subst h2 h3
      obtain ⟨s, rfl, rfl⟩ := h1
      obtain ⟨hs1, hs2⟩ := noNum_spec s hn
      obtain ⟨W0, ⟨hB, ev, g1, g2⟩, hk⟩ := hH.inv
      have hv : w.cell? ⟨1, 0, none⟩ = some ev := by
        rw [← g1]
        unfold World.cell?
        dsimp only
        rw [hk 1 hB]
      refine (Any.strconv_ParseInt_10_at64_syntax Tryz.lays174 s hs2 hs1 ev w hv g2).mono fun e w' ⟨N, e1, e2, e3, e4⟩ => ?_
      subst e1
      refine ⟨_, φ, rfl, ?_, hH.later e4, Ext.refl _ _, below_low e4 hH.base⟩
      exact ⟨_, rfl, by rw [VR], ⟨_, rfl, trivial⟩, trivial⟩
/-- All that the host's part tells. -/
def allO : Nat → List AV → AH → Option (AV × AH) := over fsO (over cmpO parseO)
theorem sims_all : Sims Tryz.prog allO := sims_over sims_fs (sims_over sims_cmp sims_parse)
end Go.Proofs.YtffhcdfikmpacaaGreatDoor.Ev
