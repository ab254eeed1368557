/-
  The law of bytes, one by one or at once: walked.
-/
import Derived.Test.YtiplbhjllkfemaaZStW7
namespace Go.Proofs.Ytiplbhjllkfemaa.MSt
open Go.RowKit Go.Proofs.YtiplbhjllkfemaaW.PrintWords Go.Proofs.YtiplbhjllkfemaaW.PrintLast Go.Proofs.YtiplbhjllkfemaaW.PrintMore
attribute [local go_sem] max2_int min2_int max_two min_two max_three min_three max_four min_four
open Go.Proofs.Ytiplbhjllkfemaa.Stm (S S0 Fits put_keeps close_keeps over begs Come Part come_start)
open Go.Proofs.Ytiplbhjllkfemaa.Utf (valid bnums dec chars isByte bnums_length bnums_str bnums_byte bnums_append str_nums bnums_inj)
open Go.Proofs.Ytiplbhjllkfemaa.NChars (canon expand)
open Go.Proofs.Ytiplbhjllkfemaa.NText (cut_f)
open Go.Proofs.Ytiplbhjllkfemaa.StP
set_option linter.unusedVariables false
set_option linter.unusedSimpArgs false

theorem SInv.kept0 {w0 w w' : World} {g : Nat} {Q : Nat → Prop} (h : ∀ P, SInv w0 P g S0 w) (hb : Below w0.heap.size w0 w') (hk : Kept w w' Q) (hq : ¬ Q g) : ∀ P, SInv w0 P g S0 w' := by
  obtain ⟨h1, h2, vh, h3, h4⟩ := h (fun _ => False)
  exact fun P => ⟨hb, h2, vh, blk_kept h3 hk hq, Kd.R_mono (Kd.R_kept h4 hk (fun _ h => h.elim)) (fun _ h => h.elim)⟩
theorem strNums_join {x y : List Int} {F : ByteArray} (h : x ++ y = bnums F) : strOfNums x ++ strOfNums y = F := by
  have hF := bnums_byte F
  rw [← h] at hF
  refine bnums_inj ?_
  rw [bnums_append, bnums_str (fun a ha => hF a (List.mem_append_left _ ha)), bnums_str (fun a ha => hF a (List.mem_append_right _ ha)), h]

theorem sn_append (x y : List Int) : strOfNums (x ++ y) = strOfNums x ++ strOfNums y := by
  have h : (strOfNums (x ++ y)).data.toList = (strOfNums x ++ strOfNums y).data.toList := by
    rw [strOfNums_data, ByteArray.data_append, Array.toList_append, strOfNums_data, strOfNums_data, List.map_append]
  have h2 := Array.toList_inj.1 h
  cases hx : strOfNums (x ++ y)
  cases hy : strOfNums x ++ strOfNums y
  rw [hx, hy] at h2
  exact congrArg _ h2

end Go.Proofs.Ytiplbhjllkfemaa.MSt
