/-
  What the program's ucd and hangul tell of a character, as plain rows; by the kernel's reckoning of each row of the two constants.
-/
import Derived.Test.YtiplbhjllkfemaaZNWin
import Derived.KernelRfl
namespace Go.Proofs.Ytiplbhjllkfemaa.NTab
open Go.RowKit Go.Proofs.YtiplbhjllkfemaaW.PrintWords Go.Proofs.Ytiplbhjllkfemaa.MSt Go.Proofs.Ytiplbhjllkfemaa.NOrd Go.Proofs.Ytiplbhjllkfemaa.NWin

def crow : List (List UInt8 × Int × Int × Int) := [
  ([51, 48, 48, 32, 51, 49, 52, 32, 50, 51, 48, 10], 768, 788, 230),
  ([51, 49, 53, 32, 51, 49, 53, 32, 50, 51, 50, 10], 789, 789, 232),
  ([51, 49, 54, 32, 51, 49, 57, 32, 50, 50, 48, 10], 790, 793, 220),
  ([51, 49, 65, 32, 51, 49, 65, 32, 50, 51, 50, 10], 794, 794, 232),
  ([51, 49, 66, 32, 51, 49, 66, 32, 50, 49, 54, 10], 795, 795, 216),
  ([51, 49, 67, 32, 51, 50, 48, 32, 50, 50, 48, 10], 796, 800, 220),
  ([51, 50, 49, 32, 51, 50, 50, 32, 50, 48, 50, 10], 801, 802, 202),
  ([51, 50, 51, 32, 51, 50, 54, 32, 50, 50, 48, 10], 803, 806, 220),
  ([51, 50, 55, 32, 51, 50, 56, 32, 50, 48, 50, 10], 807, 808, 202),
  ([51, 50, 57, 32, 51, 51, 51, 32, 50, 50, 48, 10], 809, 819, 220),
  ([51, 51, 52, 32, 51, 51, 56, 32, 49, 10], 820, 824, 1),
  ([51, 51, 57, 32, 51, 51, 67, 32, 50, 50, 48, 10], 825, 828, 220),
  ([51, 51, 68, 32, 51, 52, 52, 32, 50, 51, 48, 10], 829, 836, 230),
  ([51, 52, 53, 32, 51, 52, 53, 32, 50, 52, 48, 10], 837, 837, 240),
  ([51, 52, 54, 32, 51, 52, 54, 32, 50, 51, 48, 10], 838, 838, 230),
  ([51, 52, 55, 32, 51, 52, 57, 32, 50, 50, 48, 10], 839, 841, 220),
  ([53, 66, 48, 32, 53, 66, 48, 32, 49, 48, 10], 1456, 1456, 10),
  ([53, 66, 52, 32, 53, 66, 52, 32, 49, 52, 10], 1460, 1460, 14),
  ([53, 66, 67, 32, 53, 66, 67, 32, 50, 49, 10], 1468, 1468, 21),
  ([53, 67, 49, 32, 53, 67, 49, 32, 50, 52, 10], 1473, 1473, 24),
  ([53, 67, 50, 32, 53, 67, 50, 32, 50, 53, 10], 1474, 1474, 25),
  ([54, 52, 66, 32, 54, 52, 66, 32, 50, 55, 10], 1611, 1611, 27),
  ([54, 53, 49, 32, 54, 53, 49, 32, 51, 51, 10], 1617, 1617, 33),
  ([54, 53, 51, 32, 54, 53, 52, 32, 50, 51, 48, 10], 1619, 1620, 230),
  ([54, 53, 53, 32, 54, 53, 53, 32, 50, 50, 48, 10], 1621, 1621, 220),
  ([54, 55, 48, 32, 54, 55, 48, 32, 51, 53, 10], 1648, 1648, 35),
  ([57, 51, 67, 32, 57, 51, 67, 32, 55, 10], 2364, 2364, 7),
  ([57, 52, 68, 32, 57, 52, 68, 32, 57, 10], 2381, 2381, 9),
  ([51, 48, 57, 57, 32, 51, 48, 57, 65, 32, 56, 10], 12441, 12442, 8),
  ([49, 68, 49, 54, 53, 32, 49, 68, 49, 54, 53, 32, 50, 49, 54, 10], 119141, 119141, 216),
  ([49, 68, 49, 54, 69, 32, 49, 68, 49, 54, 69, 32, 50, 49, 54, 10], 119150, 119150, 216)]
def mrow : List (List UInt8 × Int × List Int) := [
  ([67, 48, 32, 52, 49, 32, 51, 48, 48, 10], 192, [65, 768]),
  ([67, 49, 32, 52, 49, 32, 51, 48, 49, 10], 193, [65, 769]),
  ([67, 50, 32, 52, 49, 32, 51, 48, 50, 10], 194, [65, 770]),
  ([67, 51, 32, 52, 49, 32, 51, 48, 51, 10], 195, [65, 771]),
  ([67, 52, 32, 52, 49, 32, 51, 48, 56, 10], 196, [65, 776]),
  ([67, 53, 32, 52, 49, 32, 51, 48, 65, 10], 197, [65, 778]),
  ([67, 55, 32, 52, 51, 32, 51, 50, 55, 10], 199, [67, 807]),
  ([67, 56, 32, 52, 53, 32, 51, 48, 48, 10], 200, [69, 768]),
  ([67, 57, 32, 52, 53, 32, 51, 48, 49, 10], 201, [69, 769]),
  ([67, 65, 32, 52, 53, 32, 51, 48, 50, 10], 202, [69, 770]),
  ([67, 66, 32, 52, 53, 32, 51, 48, 56, 10], 203, [69, 776]),
  ([67, 67, 32, 52, 57, 32, 51, 48, 48, 10], 204, [73, 768]),
  ([67, 68, 32, 52, 57, 32, 51, 48, 49, 10], 205, [73, 769]),
  ([67, 69, 32, 52, 57, 32, 51, 48, 50, 10], 206, [73, 770]),
  ([67, 70, 32, 52, 57, 32, 51, 48, 56, 10], 207, [73, 776]),
  ([68, 49, 32, 52, 69, 32, 51, 48, 51, 10], 209, [78, 771]),
  ([68, 50, 32, 52, 70, 32, 51, 48, 48, 10], 210, [79, 768]),
  ([68, 51, 32, 52, 70, 32, 51, 48, 49, 10], 211, [79, 769]),
  ([68, 52, 32, 52, 70, 32, 51, 48, 50, 10], 212, [79, 770]),
  ([68, 53, 32, 52, 70, 32, 51, 48, 51, 10], 213, [79, 771]),
  ([68, 54, 32, 52, 70, 32, 51, 48, 56, 10], 214, [79, 776]),
  ([68, 57, 32, 53, 53, 32, 51, 48, 48, 10], 217, [85, 768]),
  ([68, 65, 32, 53, 53, 32, 51, 48, 49, 10], 218, [85, 769]),
  ([68, 66, 32, 53, 53, 32, 51, 48, 50, 10], 219, [85, 770]),
  ([68, 67, 32, 53, 53, 32, 51, 48, 56, 10], 220, [85, 776]),
  ([68, 68, 32, 53, 57, 32, 51, 48, 49, 10], 221, [89, 769]),
  ([69, 48, 32, 54, 49, 32, 51, 48, 48, 10], 224, [97, 768]),
  ([69, 49, 32, 54, 49, 32, 51, 48, 49, 10], 225, [97, 769]),
  ([69, 50, 32, 54, 49, 32, 51, 48, 50, 10], 226, [97, 770]),
  ([69, 51, 32, 54, 49, 32, 51, 48, 51, 10], 227, [97, 771]),
  ([69, 52, 32, 54, 49, 32, 51, 48, 56, 10], 228, [97, 776]),
  ([69, 53, 32, 54, 49, 32, 51, 48, 65, 10], 229, [97, 778]),
  ([69, 55, 32, 54, 51, 32, 51, 50, 55, 10], 231, [99, 807]),
  ([69, 56, 32, 54, 53, 32, 51, 48, 48, 10], 232, [101, 768]),
  ([69, 57, 32, 54, 53, 32, 51, 48, 49, 10], 233, [101, 769]),
  ([69, 65, 32, 54, 53, 32, 51, 48, 50, 10], 234, [101, 770]),
  ([69, 66, 32, 54, 53, 32, 51, 48, 56, 10], 235, [101, 776]),
  ([69, 67, 32, 54, 57, 32, 51, 48, 48, 10], 236, [105, 768]),
  ([69, 68, 32, 54, 57, 32, 51, 48, 49, 10], 237, [105, 769]),
  ([69, 69, 32, 54, 57, 32, 51, 48, 50, 10], 238, [105, 770]),
  ([69, 70, 32, 54, 57, 32, 51, 48, 56, 10], 239, [105, 776]),
  ([70, 49, 32, 54, 69, 32, 51, 48, 51, 10], 241, [110, 771]),
  ([70, 50, 32, 54, 70, 32, 51, 48, 48, 10], 242, [111, 768]),
  ([70, 51, 32, 54, 70, 32, 51, 48, 49, 10], 243, [111, 769]),
  ([70, 52, 32, 54, 70, 32, 51, 48, 50, 10], 244, [111, 770]),
  ([70, 53, 32, 54, 70, 32, 51, 48, 51, 10], 245, [111, 771]),
  ([70, 54, 32, 54, 70, 32, 51, 48, 56, 10], 246, [111, 776]),
  ([70, 57, 32, 55, 53, 32, 51, 48, 48, 10], 249, [117, 768]),
  ([70, 65, 32, 55, 53, 32, 51, 48, 49, 10], 250, [117, 769]),
  ([70, 66, 32, 55, 53, 32, 51, 48, 50, 10], 251, [117, 770]),
  ([70, 67, 32, 55, 53, 32, 51, 48, 56, 10], 252, [117, 776]),
  ([70, 68, 32, 55, 57, 32, 51, 48, 49, 10], 253, [121, 769]),
  ([70, 70, 32, 55, 57, 32, 51, 48, 56, 10], 255, [121, 776]),
  ([49, 48, 48, 32, 52, 49, 32, 51, 48, 52, 10], 256, [65, 772]),
  ([49, 48, 49, 32, 54, 49, 32, 51, 48, 52, 10], 257, [97, 772]),
  ([49, 48, 50, 32, 52, 49, 32, 51, 48, 54, 10], 258, [65, 774]),
  ([49, 48, 51, 32, 54, 49, 32, 51, 48, 54, 10], 259, [97, 774]),
  ([49, 48, 52, 32, 52, 49, 32, 51, 50, 56, 10], 260, [65, 808]),
  ([49, 48, 53, 32, 54, 49, 32, 51, 50, 56, 10], 261, [97, 808]),
  ([49, 49, 50, 32, 52, 53, 32, 51, 48, 52, 10], 274, [69, 772]),
  ([49, 49, 51, 32, 54, 53, 32, 51, 48, 52, 10], 275, [101, 772]),
  ([49, 49, 52, 32, 52, 53, 32, 51, 48, 54, 10], 276, [69, 774]),
  ([49, 49, 53, 32, 54, 53, 32, 51, 48, 54, 10], 277, [101, 774]),
  ([49, 69, 48, 32, 52, 49, 32, 51, 48, 55, 32, 51, 48, 52, 10], 480, [65, 775, 772]),
  ([49, 69, 49, 32, 54, 49, 32, 51, 48, 55, 32, 51, 48, 52, 10], 481, [97, 775, 772]),
  ([51, 52, 52, 32, 51, 48, 56, 32, 51, 48, 49, 10], 836, [776, 769]),
  ([51, 55, 52, 32, 50, 66, 57, 10], 884, [697]),
  ([51, 56, 53, 32, 65, 56, 32, 51, 48, 49, 10], 901, [168, 769]),
  ([51, 56, 54, 32, 51, 57, 49, 32, 51, 48, 49, 10], 902, [913, 769]),
  ([51, 57, 48, 32, 51, 66, 57, 32, 51, 48, 56, 32, 51, 48, 49, 10], 912, [953, 776, 769]),
  ([51, 65, 67, 32, 51, 66, 49, 32, 51, 48, 49, 10], 940, [945, 769]),
  ([52, 51, 57, 32, 52, 51, 56, 32, 51, 48, 54, 10], 1081, [1080, 774]),
  ([52, 53, 49, 32, 52, 51, 53, 32, 51, 48, 56, 10], 1105, [1077, 776]),
  ([54, 50, 50, 32, 54, 50, 55, 32, 54, 53, 51, 10], 1570, [1575, 1619]),
  ([54, 50, 51, 32, 54, 50, 55, 32, 54, 53, 52, 10], 1571, [1575, 1620]),
  ([54, 50, 52, 32, 54, 52, 56, 32, 54, 53, 52, 10], 1572, [1608, 1620]),
  ([57, 50, 57, 32, 57, 50, 56, 32, 57, 51, 67, 10], 2345, [2344, 2364]),
  ([57, 51, 49, 32, 57, 51, 48, 32, 57, 51, 67, 10], 2353, [2352, 2364]),
  ([57, 53, 56, 32, 57, 49, 53, 32, 57, 51, 67, 10], 2392, [2325, 2364]),
  ([49, 69, 48, 56, 32, 52, 51, 32, 51, 50, 55, 32, 51, 48, 49, 10], 7688, [67, 807, 769]),
  ([49, 69, 48, 57, 32, 54, 51, 32, 51, 50, 55, 32, 51, 48, 49, 10], 7689, [99, 807, 769]),
  ([49, 69, 54, 57, 32, 55, 51, 32, 51, 50, 51, 32, 51, 48, 55, 10], 7785, [115, 803, 775]),
  ([49, 69, 57, 66, 32, 49, 55, 70, 32, 51, 48, 55, 10], 7835, [383, 775]),
  ([49, 69, 65, 52, 32, 52, 49, 32, 51, 48, 50, 32, 51, 48, 49, 10], 7844, [65, 770, 769]),
  ([49, 69, 65, 53, 32, 54, 49, 32, 51, 48, 50, 32, 51, 48, 49, 10], 7845, [97, 770, 769]),
  ([49, 69, 68, 56, 32, 52, 70, 32, 51, 50, 51, 32, 51, 48, 50, 10], 7896, [79, 803, 770]),
  ([49, 69, 68, 57, 32, 54, 70, 32, 51, 50, 51, 32, 51, 48, 50, 10], 7897, [111, 803, 770]),
  ([49, 70, 48, 48, 32, 51, 66, 49, 32, 51, 49, 51, 10], 7936, [945, 787]),
  ([49, 70, 48, 49, 32, 51, 66, 49, 32, 51, 49, 52, 10], 7937, [945, 788]),
  ([49, 70, 48, 50, 32, 51, 66, 49, 32, 51, 49, 51, 32, 51, 48, 48, 10], 7938, [945, 787, 768]),
  ([49, 70, 55, 49, 32, 51, 66, 49, 32, 51, 48, 49, 10], 8049, [945, 769]),
  ([49, 70, 56, 50, 32, 51, 66, 49, 32, 51, 49, 51, 32, 51, 48, 48, 32, 51, 52, 53, 10], 8066, [945, 787, 768, 837]),
  ([49, 70, 69, 70, 32, 54, 48, 10], 8175, [96]),
  ([50, 48, 48, 48, 32, 50, 48, 48, 50, 10], 8192, [8194]),
  ([50, 48, 48, 49, 32, 50, 48, 48, 51, 10], 8193, [8195]),
  ([50, 49, 50, 54, 32, 51, 65, 57, 10], 8486, [937]),
  ([50, 49, 50, 65, 32, 52, 66, 10], 8490, [75]),
  ([50, 49, 50, 66, 32, 52, 49, 32, 51, 48, 65, 10], 8491, [65, 778]),
  ([50, 50, 54, 48, 32, 51, 68, 32, 51, 51, 56, 10], 8800, [61, 824]),
  ([50, 65, 68, 67, 32, 50, 65, 68, 68, 32, 51, 51, 56, 10], 10972, [10973, 824]),
  ([51, 48, 52, 67, 32, 51, 48, 52, 66, 32, 51, 48, 57, 57, 10], 12364, [12363, 12441]),
  ([51, 48, 55, 48, 32, 51, 48, 54, 70, 32, 51, 48, 57, 57, 10], 12400, [12399, 12441]),
  ([51, 48, 55, 49, 32, 51, 48, 54, 70, 32, 51, 48, 57, 65, 10], 12401, [12399, 12442]),
  ([70, 57, 48, 48, 32, 56, 67, 52, 56, 10], 63744, [35912]),
  ([70, 66, 49, 68, 32, 53, 68, 57, 32, 53, 66, 52, 10], 64285, [1497, 1460]),
  ([70, 66, 50, 65, 32, 53, 69, 57, 32, 53, 67, 49, 10], 64298, [1513, 1473]),
  ([70, 66, 50, 66, 32, 53, 69, 57, 32, 53, 67, 50, 10], 64299, [1513, 1474]),
  ([70, 66, 50, 67, 32, 53, 69, 57, 32, 53, 66, 67, 32, 53, 67, 49, 10], 64300, [1513, 1468, 1473]),
  ([49, 68, 49, 53, 69, 32, 49, 68, 49, 53, 55, 32, 49, 68, 49, 54, 53, 10], 119134, [119127, 119141]),
  ([49, 68, 49, 53, 70, 32, 49, 68, 49, 53, 56, 32, 49, 68, 49, 54, 53, 10], 119135, [119128, 119141]),
  ([49, 68, 49, 54, 48, 32, 49, 68, 49, 53, 56, 32, 49, 68, 49, 54, 53, 32, 49, 68, 49, 54, 69, 10], 119136, [119128, 119141, 119150]),
  ([50, 70, 56, 48, 48, 32, 52, 69, 51, 68, 10], 194560, [20029])]
def cls : List (List UInt8 × Int × Int × Int) → Int → Int
  | [], _ => 0
  | (_, f, t, v) :: r, c => if f > c then 0 else if c ≤ t then v else cls r c
/-- A character's class. -/
def clf (c : Int) : Int := if c < 768 then 0 else cls crow c
def lookm : List (List UInt8 × Int × List Int) → Int → List Int
  | [], _ => []
  | (_, f, l) :: r, c => if f < c then lookm r c else if f = c then l else []
/-- What a character comes to; [] where it is not taken apart. -/
def mapf (c : Int) : List Int := if c < 192 then [] else lookm mrow c

/-- A line: its last byte ends it, no other. -/
def okl (b : List UInt8) : Bool := decide (0 < b.length) && decide (bt (mkb b) (b.length - 1) = 10) && (b.dropLast.all fun x => x != 10)
theorem okl_line {s : ByteArray} {p : Int} {b : List UInt8} (W : Win s p (mkb b)) (h : okl b = true) : Evr (fun k => ucd_line.f k s p) (p + b.length) := by
  simp only [okl, Bool.and_eq_true, decide_eq_true_eq] at h
  obtain ⟨⟨h1, h2⟩, h3⟩ := h
  refine ⟨b.length + 1, fun k hk => ?_⟩
  have := line_win W h2 ((mkb b).size - 1 - 0 : Int).toNat k 0 rfl (by omega) (by rw [mkb_size]; omega) (by rw [mkb_size]; omega) (fun j hj0 hj1 => ?_)
  · rw [mkb_size, Int.add_zero] at this
    exact this
  · rw [mkb_size] at hj1
    rw [bt_mkb]
    have hlt : j.toNat < b.dropLast.length := by rw [List.length_dropLast]; omega
    have h4 := List.all_eq_true.1 h3 (b.dropLast[j.toNat]) (List.getElem_mem hlt)
    have h5 : (mkb b).data.toList[j.toNat]? = some (b.dropLast[j.toNat]) := by
      show b[j.toNat]? = _
      rw [List.getElem?_eq_getElem (by omega), List.getElem_dropLast]
    rw [h5]
    intro h6
    have h7 : ((b.dropLast[j.toNat]).toNat : Int) = 10 := h6
    have h8 : b.dropLast[j.toNat] = 10 := UInt8.toNat_inj.1 (by have : (10 : UInt8).toNat = 10 := rfl; omega)
    rw [h8] at h4
    cases h4
def chkc : List (List UInt8 × Int × Int × Int) → Bool
  | [] => true
  | (b, f, t, v) :: r => okl b && (match ucd_hex.f 40 (mkb b) 0 with
      | some (f', e1) => decide (f' = f) && decide (0 ≤ e1) && decide (e1 < b.length) && (match ucd_hex.f 40 (mkb b) (e1 + 1) with
        | some (t', e2) => decide (t' = t) && decide (0 ≤ e2) && decide (e2 + 1 < b.length) && decide (ucd_decimal.f 40 (mkb b) (e2 + 1) = some v)
        | none => false)
      | none => false) && chkc r
theorem chkc_ok : chkc crow = true := by decide +kernel
theorem crow_all : lit_73ae92.data.toList = (crow.map (·.1)).flatten := by decide +kernel
theorem mrow_all : lit_31b68b.data.toList = (mrow.map (·.1)).flatten := by decide +kernel
theorem csize : (lit_73ae92.size : Int) = 366 := by decide +kernel
theorem msize : (lit_31b68b.size : Int) = 1304 := by decide +kernel

theorem hex_at {s t : ByteArray} {p i v e : Int} (W : Win s p t) (h0 : 0 ≤ i) (h : ucd_hex.f 40 t i = some (v, e)) (he : e < t.size) : Evr (fun k => ucd_hex.f k s (p + i)) (v, p + e) :=
  Evr.up (fun k => ucd_hex.mono s _ k) (hex_win W 40 40 (Nat.le_refl _) i 0 v e h0 h he)
theorem class_l0 (c : Int) : ∀ (rows : List (List UInt8 × Int × Int × Int)) (pre : List UInt8), chkc rows = true → lit_73ae92.data.toList = pre ++ (rows.map (·.1)).flatten → Evr (fun k => ucd_Class.l0 k c pre.length) (cls rows c)
  | [], pre, _, hd => by
    have hz := csize
    have h1 : lit_73ae92.data.toList.length = pre.length := by rw [hd]; simp
    have h2 : lit_73ae92.data.toList.length = lit_73ae92.size := Array.length_toList
    refine Evr.succ (h := fun _ => some 0) (fun k => ?_) (Evr.of fun _ => rfl)
    rw [ucd_Class.l0, if_neg (by omega)]
  | (b, f, t, v) :: r, pre, h, hd => by
    have hz := csize
    have hd' : lit_73ae92.data.toList = pre ++ b ++ (r.map (·.1)).flatten := by rw [hd]; simp
    have W := Win.of hd' (by omega)
    simp only [chkc, Bool.and_eq_true] at h
    obtain ⟨⟨h1, h2⟩, h3⟩ := h
    have hline := okl_line W h1
    have hb0 : 0 < b.length := by simp only [okl, Bool.and_eq_true, decide_eq_true_eq] at h1; exact h1.1.1
    have hb1 : bt (mkb b) ((mkb b).size - 1) = 10 := by simp only [okl, Bool.and_eq_true, decide_eq_true_eq] at h1; exact h1.1.2
    have hfit := W.fits
    rw [mkb_size] at hfit
    split at h2
    · rename_i f' e1 hx1
      simp only [Bool.and_eq_true, decide_eq_true_eq] at h2
      obtain ⟨⟨⟨rfl, he0⟩, he1⟩, h2⟩ := h2
      split at h2
      · rename_i t' e2 hx2
        simp only [Bool.and_eq_true, decide_eq_true_eq] at h2
        obtain ⟨⟨⟨rfl, hg0⟩, hg1⟩, h4⟩ := h2
        have g3 := hex_at W (by omega) hx1 (by rw [mkb_size]; exact he1)
        have g4 := hex_at W (by omega) hx2 (by rw [mkb_size]; omega)
        have g5 : Evr (fun k => ucd_decimal.f k lit_73ae92 (pre.length + (e2 + 1))) v := Evr.up (fun k => ucd_decimal.mono lit_73ae92 _ k) (decimal_win W hb1 40 (e2 + 1) 0 v (by omega) (by rw [mkb_size]; exact hg1) h4)
        have g6 := hline
        rw [Int.add_zero] at g3
        refine Evr.succ (fun k => by rw [ucd_Class.l0, if_pos (by omega)]) (Evr.bind g3 ?_)
        dsimp only
        rw [cls]
        by_cases c1 : f' > c
        · rw [if_pos c1]; exact Evr.of fun k => by rw [if_pos c1]
        · rw [if_neg c1]
          refine Evr.congr (fun k => if_neg c1) ?_
          rw [w64 (x := (pre.length : Int) + e1 + 1) (by omega) (by omega), show (pre.length : Int) + e1 + 1 = pre.length + (e1 + 1) by omega]
          refine Evr.bind g4 ?_
          dsimp only
          by_cases c2 : c ≤ t'
          · rw [if_pos c2]
            refine Evr.congr (fun k => if_pos c2) ?_
            rw [w64 (x := (pre.length : Int) + e2 + 1) (by omega) (by omega), show (pre.length : Int) + e2 + 1 = pre.length + (e2 + 1) by omega]
            exact Evr.bind g5 (Evr.of fun _ => rfl)
          · rw [if_neg c2]
            refine Evr.congr (fun k => if_neg c2) (Evr.bind g6 ?_)
            have := class_l0 c r (pre ++ b) h3 hd'
            rw [List.length_append, Int.natCast_add] at this
            exact this
      · cases h2
    · cases h2
theorem class_f (c : Int) : Evr (fun k => ucd_Class.f k c) (clf c) := by
  unfold clf
  by_cases h : c < 768
  · rw [if_pos h]; exact Evr.of fun k => by unfold ucd_Class.f; rw [if_pos h]
  · rw [if_neg h]; exact Evr.congr (fun k => by unfold ucd_Class.f; rw [if_neg h]; rfl) (class_l0 c crow [] chkc_ok (by rw [crow_all]; rfl))

def chkm : List (List UInt8 × Int × List Int) → Bool
  | [] => true
  | (b, f, l) :: r => okl b && (match ucd_hex.f 40 (mkb b) 0 with
      | some (f', e1) => decide (f' = f) && decide (0 ≤ e1) && decide (e1 < b.length) && decide (l1t 60 (mkb b) e1 [] = some l)
      | none => false) && chkm r
theorem chkm_ok : chkm mrow = true := by decide +kernel
theorem map_l1_up (a b c : Int) (l : List Int) : ∀ k r, ucd_Map.l1 k a b c l = some r → ucd_Map.l1 (k + 1) a b c l = some r := fun k => (ucd_Map.mono_l k).2 a b c l
theorem map_l0 (c : Int) : ∀ (rows : List (List UInt8 × Int × List Int)) (pre : List UInt8), chkm rows = true → lit_31b68b.data.toList = pre ++ (rows.map (·.1)).flatten → Evr (fun k => ucd_Map.l0 k c pre.length) (lookm rows c)
  | [], pre, _, hd => by
    have hz := msize
    have h1 : lit_31b68b.data.toList.length = pre.length := by rw [hd]; simp
    have h2 : lit_31b68b.data.toList.length = lit_31b68b.size := Array.length_toList
    refine Evr.succ (h := fun _ => some []) (fun k => ?_) (Evr.of fun _ => rfl)
    rw [ucd_Map.l0, if_neg (by omega)]
  | (b, f, l) :: r, pre, h, hd => by
    have hz := msize
    have hd' : lit_31b68b.data.toList = pre ++ b ++ (r.map (·.1)).flatten := by rw [hd]; simp
    have W := Win.of hd' (by omega)
    simp only [chkm, Bool.and_eq_true] at h
    obtain ⟨⟨h1, h2⟩, h3⟩ := h
    have hline := okl_line W h1
    have hb0 : 0 < b.length := by simp only [okl, Bool.and_eq_true, decide_eq_true_eq] at h1; exact h1.1.1
    have hfit := W.fits
    rw [mkb_size] at hfit
    split at h2
    · rename_i f' e1 hx1
      simp only [Bool.and_eq_true, decide_eq_true_eq] at h2
      obtain ⟨⟨⟨rfl, he0⟩, he1⟩, h2⟩ := h2
      have g3 := hex_at W (by omega) hx1 (by rw [mkb_size]; exact he1)
      rw [Int.add_zero] at g3
      refine Evr.succ (fun k => by rw [ucd_Map.l0, if_pos (by omega)]) (Evr.bind g3 ?_)
      dsimp only
      rw [lookm]
      by_cases c1 : f' < c
      · rw [if_pos c1]
        refine Evr.congr (fun k => if_pos c1) (Evr.bind hline ?_)
        have := map_l0 c r (pre ++ b) h3 hd'
        rw [List.length_append, Int.natCast_add] at this
        exact this
      · rw [if_neg c1]
        refine Evr.congr (fun k => if_neg c1) ?_
        by_cases c2 : f' = c
        · subst c2
          rw [if_pos (Eq.refl f')]
          exact Evr.up (map_l1_up f' f' _ []) (l1_win W msize f' 60 e1 [] l (by simp) h2)
        · rw [if_neg c2]
          refine Evr.succ (h := fun _ => some []) (fun k => ?_) (Evr.of fun _ => rfl)
          rw [ucd_Map.l1, if_neg c2]
    · cases h2
theorem map_f (c : Int) : Evr (fun k => ucd_Map.f k c) (mapf c) := by
  unfold mapf
  by_cases h : c < 192
  · rw [if_pos h]; exact Evr.of fun k => by unfold ucd_Map.f; rw [if_pos h]
  · rw [if_neg h]; exact Evr.congr (fun k => by unfold ucd_Map.f; rw [if_neg h]; rfl) (map_l0 c mrow [] chkm_ok (by rw [mrow_all]; rfl))

/-- The letters of a syllable. -/
def letters (c : Int) : List Int :=
  if c < 44032 ∨ 55204 ≤ c then [] else
    if (c - 44032) % 28 = 0 then [4352 + (c - 44032) / 588, 4449 + (c - 44032) / 28 % 21]
    else [4352 + (c - 44032) / 588, 4449 + (c - 44032) / 28 % 21, 4519 + (c - 44032) % 28]

theorem split_f (k : Nat) (c : Int) : hangul_Split.f (k + 1) c = some (letters c) := by
  unfold hangul_Split.f letters
  by_cases h1 : c < 44032
  · rw [if_pos h1, if_pos (Or.inl h1)]; rfl
  · rw [if_neg h1]
    by_cases h2 : 55204 ≤ c
    · rw [if_pos (Or.inr h2)]
      have : decide (c ≥ 55204) = true := decide_eq_true h2
      rw [this]; rfl
    · rw [if_neg (by omega)]
      have : decide (c ≥ 55204) = false := decide_eq_false h2
      rw [this]
      have e0 : wrap64 (c - 44032) = c - 44032 := w64 (by omega) (by omega)
      simp only [hangul_Split.j0, e0, Bool.false_eq_true, if_false, Option.bind_some]
      rw [Int.tdiv_eq_ediv_of_nonneg (by omega), Int.tdiv_eq_ediv_of_nonneg (by omega), Int.tmod_eq_emod_of_nonneg (by omega : (0 : Int) ≤ c - 44032),
        w64 (x := (c - 44032) / 28) (by omega) (by omega), Int.tmod_eq_emod_of_nonneg (by omega), w64 (x := (c - 44032) / 588) (by omega) (by omega),
        w64 (x := 4352 + (c - 44032) / 588) (by omega) (by omega), w64 (x := 4449 + (c - 44032) / 28 % 21) (by omega) (by omega), w64 (x := 4519 + (c - 44032) % 28) (by omega) (by omega)]
      by_cases h3 : (c - 44032) % 28 = 0
      · rw [if_neg (by omega), if_pos h3]
      · rw [if_pos (by omega), if_pos (by simp), if_neg h3]; rfl

/-- A character taken apart. -/
def apt (c : Int) : List Int := if letters c = [] then (if mapf c = [] then [c] else mapf c) else letters c
theorem apart_f (c : Int) : Evr (fun k => norm_Apart.f k c) (apt c) := by
  unfold norm_Apart.f apt
  refine Evr.bind (Evr.succ (h := fun _ => some (letters c)) (fun k => split_f k c) (Evr.of fun _ => rfl)) ?_
  by_cases h : letters c = []
  · rw [if_pos h]
    refine Evr.congr (fun k => if_pos h) (Evr.bind (map_f c) ?_)
    by_cases h2 : mapf c = []
    · rw [if_pos h2]; exact Evr.of fun _ => by rw [if_pos h2]
    · rw [if_neg h2]; exact Evr.of fun _ => by rw [if_neg h2]
  · rw [if_neg h]; exact Evr.of fun _ => by rw [if_neg h]
end Go.Proofs.Ytiplbhjllkfemaa.NTab
