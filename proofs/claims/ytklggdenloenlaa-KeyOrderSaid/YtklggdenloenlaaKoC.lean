-- written by mp.py, a program of this session's over the kit's printer
import Derived.Test.YtklggdenloenlaaMKox0
import Derived.Laws.Cover1
import Derived.Test.YtklggdenloenlaaKoA
import Derived.Test.YtklggdenloenlaaKoB
namespace Go.Proofs.Ytklggdenloenlaa.MKo
open Go.RowKit Go.Proofs.YtklggdenloenlaaW.PrintWords Go.Proofs.YtklggdenloenlaaW.PrintLast Go.Proofs.YtklggdenloenlaaW.PrintMore
attribute [local go_sem] max2_int min2_int max_two min_two max_three min_three max_four min_four   -- for this text's walks alone
set_option linter.unusedVariables false
set_option linter.unusedSimpArgs false

/-! ### incipitlaw6_KeyOrder: function 11 -/
mutual
def incipitlaw6_KeyOrder.l0 : Nat → List Int → List Int → ByteArray → ByteArray → Int → Int → Option (Bool)
 | 0, _, _, _, _, _, _ => none
 | k + 1, x0, x1, x6, x8, x10, x11 => if x11 < (x0.length : Int) then (if x11 < (x1.length : Int) then (if x10 = 0 then (if 0 ≤ x11 then (if (rd x0 x11) < (rd x1 x11) then (if (rd x0 x11) > (rd x1 x11) then (incipitlaw6_KeyOrder.l0 k x0 x1 x6 x8 1 (wrap64 (x11 + 1))) else (incipitlaw6_KeyOrder.l0 k x0 x1 x6 x8 (-1) (wrap64 (x11 + 1)))) else (if (rd x0 x11) > (rd x1 x11) then (incipitlaw6_KeyOrder.l0 k x0 x1 x6 x8 1 (wrap64 (x11 + 1))) else (incipitlaw6_KeyOrder.l0 k x0 x1 x6 x8 x10 (wrap64 (x11 + 1))))) else (none)) else ((ckey_Compare.f x6 x8).bind fun t247 => (if t247 = x10 then ((ckey_Compare.f x8 x6).bind fun t248 => (some (t248 == (wrap64 (-x10))))) else (none)))) else (if x10 = 0 then (if (x0.length : Int) = (x1.length : Int) then ((ckey_Compare.f x6 x8).bind fun t249 => (if t249 = x10 then ((ckey_Compare.f x8 x6).bind fun t250 => (some (t250 == (wrap64 (-x10))))) else (none))) else (if (x0.length : Int) < (x1.length : Int) then ((ckey_Compare.f x6 x8).bind fun t251 => (if t251 = (-1) then ((ckey_Compare.f x8 x6).bind fun t252 => (some (t252 == (-(-1))))) else (none))) else ((ckey_Compare.f x6 x8).bind fun t253 => (if t253 = 1 then ((ckey_Compare.f x8 x6).bind fun t254 => (some (t254 == (-1)))) else (none))))) else ((ckey_Compare.f x6 x8).bind fun t255 => (if t255 = x10 then ((ckey_Compare.f x8 x6).bind fun t256 => (some (t256 == (wrap64 (-x10))))) else (none))))) else (if x10 = 0 then (if (x0.length : Int) = (x1.length : Int) then ((ckey_Compare.f x6 x8).bind fun t257 => (if t257 = x10 then ((ckey_Compare.f x8 x6).bind fun t258 => (some (t258 == (wrap64 (-x10))))) else (none))) else (if (x0.length : Int) < (x1.length : Int) then ((ckey_Compare.f x6 x8).bind fun t259 => (if t259 = (-1) then ((ckey_Compare.f x8 x6).bind fun t260 => (some (t260 == (-(-1))))) else (none))) else ((ckey_Compare.f x6 x8).bind fun t261 => (if t261 = 1 then ((ckey_Compare.f x8 x6).bind fun t262 => (some (t262 == (-1)))) else (none))))) else ((ckey_Compare.f x6 x8).bind fun t263 => (if t263 = x10 then ((ckey_Compare.f x8 x6).bind fun t264 => (some (t264 == (wrap64 (-x10))))) else (none))))
def incipitlaw6_KeyOrder.l101 : Nat → List Int → List Int → ByteArray → ByteArray → Int → Int → Option (Bool)
 | 0, _, _, _, _, _, _ => none
 | k + 1, x0, x1, x6, x8, x10, x11 => if x11 < (x0.length : Int) then (if x11 < (x1.length : Int) then (if x10 = 0 then (if 0 ≤ x11 then (if (rd x0 x11) < (rd x1 x11) then (if (rd x0 x11) > (rd x1 x11) then (incipitlaw6_KeyOrder.l101 k x0 x1 x6 x8 1 (wrap64 (x11 + 1))) else (incipitlaw6_KeyOrder.l101 k x0 x1 x6 x8 (-1) (wrap64 (x11 + 1)))) else (if (rd x0 x11) > (rd x1 x11) then (incipitlaw6_KeyOrder.l101 k x0 x1 x6 x8 1 (wrap64 (x11 + 1))) else (incipitlaw6_KeyOrder.l101 k x0 x1 x6 x8 x10 (wrap64 (x11 + 1))))) else (none)) else ((ckey_Compare.f x6 x8).bind fun t275 => (if t275 = x10 then ((ckey_Compare.f x8 x6).bind fun t276 => (some (t276 == (wrap64 (-x10))))) else (none)))) else (if x10 = 0 then (if (x0.length : Int) = (x1.length : Int) then ((ckey_Compare.f x6 x8).bind fun t277 => (if t277 = x10 then ((ckey_Compare.f x8 x6).bind fun t278 => (some (t278 == (wrap64 (-x10))))) else (none))) else (if (x0.length : Int) < (x1.length : Int) then ((ckey_Compare.f x6 x8).bind fun t279 => (if t279 = (-1) then ((ckey_Compare.f x8 x6).bind fun t280 => (some (t280 == (-(-1))))) else (none))) else ((ckey_Compare.f x6 x8).bind fun t281 => (if t281 = 1 then ((ckey_Compare.f x8 x6).bind fun t282 => (some (t282 == (-1)))) else (none))))) else ((ckey_Compare.f x6 x8).bind fun t283 => (if t283 = x10 then ((ckey_Compare.f x8 x6).bind fun t284 => (some (t284 == (wrap64 (-x10))))) else (none))))) else (if x10 = 0 then (if (x0.length : Int) = (x1.length : Int) then ((ckey_Compare.f x6 x8).bind fun t285 => (if t285 = x10 then ((ckey_Compare.f x8 x6).bind fun t286 => (some (t286 == (wrap64 (-x10))))) else (none))) else (if (x0.length : Int) < (x1.length : Int) then ((ckey_Compare.f x6 x8).bind fun t287 => (if t287 = (-1) then ((ckey_Compare.f x8 x6).bind fun t288 => (some (t288 == (-(-1))))) else (none))) else ((ckey_Compare.f x6 x8).bind fun t289 => (if t289 = 1 then ((ckey_Compare.f x8 x6).bind fun t290 => (some (t290 == (-1)))) else (none))))) else ((ckey_Compare.f x6 x8).bind fun t291 => (if t291 = x10 then ((ckey_Compare.f x8 x6).bind fun t292 => (some (t292 == (wrap64 (-x10))))) else (none))))
def incipitlaw6_KeyOrder.l102 : Nat → List Int → List Int → ByteArray → ByteArray → Int → Int → Option (Bool)
 | 0, _, _, _, _, _, _ => none
 | k + 1, x0, x1, x6, x8, x10, x11 => if x11 < (x0.length : Int) then (if x11 < (x1.length : Int) then (if x10 = 0 then (if 0 ≤ x11 then (if (rd x0 x11) < (rd x1 x11) then (if (rd x0 x11) > (rd x1 x11) then (incipitlaw6_KeyOrder.l102 k x0 x1 x6 x8 1 (wrap64 (x11 + 1))) else (incipitlaw6_KeyOrder.l102 k x0 x1 x6 x8 (-1) (wrap64 (x11 + 1)))) else (if (rd x0 x11) > (rd x1 x11) then (incipitlaw6_KeyOrder.l102 k x0 x1 x6 x8 1 (wrap64 (x11 + 1))) else (incipitlaw6_KeyOrder.l102 k x0 x1 x6 x8 x10 (wrap64 (x11 + 1))))) else (none)) else ((ckey_Compare.f x6 x8).bind fun t307 => (if t307 = x10 then ((ckey_Compare.f x8 x6).bind fun t308 => (some (t308 == (wrap64 (-x10))))) else (none)))) else (if x10 = 0 then (if (x0.length : Int) = (x1.length : Int) then ((ckey_Compare.f x6 x8).bind fun t309 => (if t309 = x10 then ((ckey_Compare.f x8 x6).bind fun t310 => (some (t310 == (wrap64 (-x10))))) else (none))) else (if (x0.length : Int) < (x1.length : Int) then ((ckey_Compare.f x6 x8).bind fun t311 => (if t311 = (-1) then ((ckey_Compare.f x8 x6).bind fun t312 => (some (t312 == (-(-1))))) else (none))) else ((ckey_Compare.f x6 x8).bind fun t313 => (if t313 = 1 then ((ckey_Compare.f x8 x6).bind fun t314 => (some (t314 == (-1)))) else (none))))) else ((ckey_Compare.f x6 x8).bind fun t315 => (if t315 = x10 then ((ckey_Compare.f x8 x6).bind fun t316 => (some (t316 == (wrap64 (-x10))))) else (none))))) else (if x10 = 0 then (if (x0.length : Int) = (x1.length : Int) then ((ckey_Compare.f x6 x8).bind fun t317 => (if t317 = x10 then ((ckey_Compare.f x8 x6).bind fun t318 => (some (t318 == (wrap64 (-x10))))) else (none))) else (if (x0.length : Int) < (x1.length : Int) then ((ckey_Compare.f x6 x8).bind fun t319 => (if t319 = (-1) then ((ckey_Compare.f x8 x6).bind fun t320 => (some (t320 == (-(-1))))) else (none))) else ((ckey_Compare.f x6 x8).bind fun t321 => (if t321 = 1 then ((ckey_Compare.f x8 x6).bind fun t322 => (some (t322 == (-1)))) else (none))))) else ((ckey_Compare.f x6 x8).bind fun t323 => (if t323 = x10 then ((ckey_Compare.f x8 x6).bind fun t324 => (some (t324 == (wrap64 (-x10))))) else (none))))
def incipitlaw6_KeyOrder.l103 : Nat → List Int → List Int → ByteArray → ByteArray → Int → Int → Option (Bool)
 | 0, _, _, _, _, _, _ => none
 | k + 1, x0, x1, x6, x8, x10, x11 => if x11 < (x0.length : Int) then (if x11 < (x1.length : Int) then (if x10 = 0 then (if 0 ≤ x11 then (if (rd x0 x11) < (rd x1 x11) then (if (rd x0 x11) > (rd x1 x11) then (incipitlaw6_KeyOrder.l103 k x0 x1 x6 x8 1 (wrap64 (x11 + 1))) else (incipitlaw6_KeyOrder.l103 k x0 x1 x6 x8 (-1) (wrap64 (x11 + 1)))) else (if (rd x0 x11) > (rd x1 x11) then (incipitlaw6_KeyOrder.l103 k x0 x1 x6 x8 1 (wrap64 (x11 + 1))) else (incipitlaw6_KeyOrder.l103 k x0 x1 x6 x8 x10 (wrap64 (x11 + 1))))) else (none)) else ((ckey_Compare.f x6 x8).bind fun t335 => (if t335 = x10 then ((ckey_Compare.f x8 x6).bind fun t336 => (some (t336 == (wrap64 (-x10))))) else (none)))) else (if x10 = 0 then (if (x0.length : Int) = (x1.length : Int) then ((ckey_Compare.f x6 x8).bind fun t337 => (if t337 = x10 then ((ckey_Compare.f x8 x6).bind fun t338 => (some (t338 == (wrap64 (-x10))))) else (none))) else (if (x0.length : Int) < (x1.length : Int) then ((ckey_Compare.f x6 x8).bind fun t339 => (if t339 = (-1) then ((ckey_Compare.f x8 x6).bind fun t340 => (some (t340 == (-(-1))))) else (none))) else ((ckey_Compare.f x6 x8).bind fun t341 => (if t341 = 1 then ((ckey_Compare.f x8 x6).bind fun t342 => (some (t342 == (-1)))) else (none))))) else ((ckey_Compare.f x6 x8).bind fun t343 => (if t343 = x10 then ((ckey_Compare.f x8 x6).bind fun t344 => (some (t344 == (wrap64 (-x10))))) else (none))))) else (if x10 = 0 then (if (x0.length : Int) = (x1.length : Int) then ((ckey_Compare.f x6 x8).bind fun t345 => (if t345 = x10 then ((ckey_Compare.f x8 x6).bind fun t346 => (some (t346 == (wrap64 (-x10))))) else (none))) else (if (x0.length : Int) < (x1.length : Int) then ((ckey_Compare.f x6 x8).bind fun t347 => (if t347 = (-1) then ((ckey_Compare.f x8 x6).bind fun t348 => (some (t348 == (-(-1))))) else (none))) else ((ckey_Compare.f x6 x8).bind fun t349 => (if t349 = 1 then ((ckey_Compare.f x8 x6).bind fun t350 => (some (t350 == (-1)))) else (none))))) else ((ckey_Compare.f x6 x8).bind fun t351 => (if t351 = x10 then ((ckey_Compare.f x8 x6).bind fun t352 => (some (t352 == (wrap64 (-x10))))) else (none))))
end
def incipitlaw6_KeyOrder.f (k : Nat) (l0 : List Int) (l1 : List Int) : Option (Bool) := (incipitlaw6_begun.f).bind fun t228 => (if t228 = true then (if (l0.length : Int) > 20 then (if 20 ≤ (l0.length : Int) then ((some (l0.take 20 : List Int)).bind fun y229 => (if (l1.length : Int) > 20 then (if 20 ≤ (l1.length : Int) then ((some (l1.take 20 : List Int)).bind fun y233 => ((incipitref1_Write.f k y229).bind fun bt237 => ((incipitref1_Write.f k y233).bind fun bt239 => (if bt237.2 = true then (if bt239.2 = true then (incipitlaw6_KeyOrder.l0 k y229 y233 bt237.1 bt239.1 0 0) else (some true)) else (some true))))) else (none)) else ((incipitref1_Write.f k y229).bind fun bt265 => ((incipitref1_Write.f k l1).bind fun bt267 => (if bt265.2 = true then (if bt267.2 = true then (incipitlaw6_KeyOrder.l101 k y229 l1 bt265.1 bt267.1 0 0) else (some true)) else (some true)))))) else (none)) else (if (l1.length : Int) > 20 then (if 20 ≤ (l1.length : Int) then ((some (l1.take 20 : List Int)).bind fun y293 => ((incipitref1_Write.f k l0).bind fun bt297 => ((incipitref1_Write.f k y293).bind fun bt299 => (if bt297.2 = true then (if bt299.2 = true then (incipitlaw6_KeyOrder.l102 k l0 y293 bt297.1 bt299.1 0 0) else (some true)) else (some true))))) else (none)) else ((incipitref1_Write.f k l0).bind fun bt325 => ((incipitref1_Write.f k l1).bind fun bt327 => (if bt325.2 = true then (if bt327.2 = true then (incipitlaw6_KeyOrder.l103 k l0 l1 bt325.1 bt327.1 0 0) else (some true)) else (some true)))))) else (none))
theorem incipitlaw6_KeyOrder.mono_l : ∀ k, (∀ y0 y1 y2 y3 y4 y5, LeO (incipitlaw6_KeyOrder.l0 k y0 y1 y2 y3 y4 y5) (incipitlaw6_KeyOrder.l0 (k + 1) y0 y1 y2 y3 y4 y5)) ∧ (∀ y0 y1 y2 y3 y4 y5, LeO (incipitlaw6_KeyOrder.l101 k y0 y1 y2 y3 y4 y5) (incipitlaw6_KeyOrder.l101 (k + 1) y0 y1 y2 y3 y4 y5)) ∧ (∀ y0 y1 y2 y3 y4 y5, LeO (incipitlaw6_KeyOrder.l102 k y0 y1 y2 y3 y4 y5) (incipitlaw6_KeyOrder.l102 (k + 1) y0 y1 y2 y3 y4 y5)) ∧ (∀ y0 y1 y2 y3 y4 y5, LeO (incipitlaw6_KeyOrder.l103 k y0 y1 y2 y3 y4 y5) (incipitlaw6_KeyOrder.l103 (k + 1) y0 y1 y2 y3 y4 y5))
 | 0 => ⟨fun _ _ _ _ _ _ r h => by simp [incipitlaw6_KeyOrder.l0] at h, fun _ _ _ _ _ _ r h => by simp [incipitlaw6_KeyOrder.l101] at h, fun _ _ _ _ _ _ r h => by simp [incipitlaw6_KeyOrder.l102] at h, fun _ _ _ _ _ _ r h => by simp [incipitlaw6_KeyOrder.l103] at h⟩
 | k + 1 => by
  obtain ⟨ih0, ih1, ih2, ih3⟩ := incipitlaw6_KeyOrder.mono_l k
  refine ⟨?_, ?_, ?_, ?_⟩
  · intro y0 y1 y2 y3 y4 y5
    unfold incipitlaw6_KeyOrder.l0
    repeat' first
    | (with_reducible exact ih0 _ _ _ _ _ _)
    | (with_reducible exact ih1 _ _ _ _ _ _)
    | (with_reducible exact ih2 _ _ _ _ _ _)
    | (with_reducible exact ih3 _ _ _ _ _ _)
    | (with_reducible exact incipitref1_Write.mono _ _)
    | (with_reducible exact LeO.refl _)
    | (with_reducible exact LeO.none _)
    | (with_reducible refine LeO.ite ?_ ?_)
    | (with_reducible refine LeO.bind ?_ (fun _ => ?_))
    | exact ih0 _ _ _ _ _ _
    | exact ih1 _ _ _ _ _ _
    | exact ih2 _ _ _ _ _ _
    | exact ih3 _ _ _ _ _ _
    | exact incipitref1_Write.mono _ _
    | exact LeO.none _
    | refine LeO.ite ?_ ?_
    | refine LeO.bind ?_ (fun _ => ?_)
  · intro y0 y1 y2 y3 y4 y5
    unfold incipitlaw6_KeyOrder.l101
    repeat' first
    | (with_reducible exact ih0 _ _ _ _ _ _)
    | (with_reducible exact ih1 _ _ _ _ _ _)
    | (with_reducible exact ih2 _ _ _ _ _ _)
    | (with_reducible exact ih3 _ _ _ _ _ _)
    | (with_reducible exact incipitref1_Write.mono _ _)
    | (with_reducible exact LeO.refl _)
    | (with_reducible exact LeO.none _)
    | (with_reducible refine LeO.ite ?_ ?_)
    | (with_reducible refine LeO.bind ?_ (fun _ => ?_))
    | exact ih0 _ _ _ _ _ _
    | exact ih1 _ _ _ _ _ _
    | exact ih2 _ _ _ _ _ _
    | exact ih3 _ _ _ _ _ _
    | exact incipitref1_Write.mono _ _
    | exact LeO.none _
    | refine LeO.ite ?_ ?_
    | refine LeO.bind ?_ (fun _ => ?_)
  · intro y0 y1 y2 y3 y4 y5
    unfold incipitlaw6_KeyOrder.l102
    repeat' first
    | (with_reducible exact ih0 _ _ _ _ _ _)
    | (with_reducible exact ih1 _ _ _ _ _ _)
    | (with_reducible exact ih2 _ _ _ _ _ _)
    | (with_reducible exact ih3 _ _ _ _ _ _)
    | (with_reducible exact incipitref1_Write.mono _ _)
    | (with_reducible exact LeO.refl _)
    | (with_reducible exact LeO.none _)
    | (with_reducible refine LeO.ite ?_ ?_)
    | (with_reducible refine LeO.bind ?_ (fun _ => ?_))
    | exact ih0 _ _ _ _ _ _
    | exact ih1 _ _ _ _ _ _
    | exact ih2 _ _ _ _ _ _
    | exact ih3 _ _ _ _ _ _
    | exact incipitref1_Write.mono _ _
    | exact LeO.none _
    | refine LeO.ite ?_ ?_
    | refine LeO.bind ?_ (fun _ => ?_)
  · intro y0 y1 y2 y3 y4 y5
    unfold incipitlaw6_KeyOrder.l103
    repeat' first
    | (with_reducible exact ih0 _ _ _ _ _ _)
    | (with_reducible exact ih1 _ _ _ _ _ _)
    | (with_reducible exact ih2 _ _ _ _ _ _)
    | (with_reducible exact ih3 _ _ _ _ _ _)
    | (with_reducible exact incipitref1_Write.mono _ _)
    | (with_reducible exact LeO.refl _)
    | (with_reducible exact LeO.none _)
    | (with_reducible refine LeO.ite ?_ ?_)
    | (with_reducible refine LeO.bind ?_ (fun _ => ?_))
    | exact ih0 _ _ _ _ _ _
    | exact ih1 _ _ _ _ _ _
    | exact ih2 _ _ _ _ _ _
    | exact ih3 _ _ _ _ _ _
    | exact incipitref1_Write.mono _ _
    | exact LeO.none _
    | refine LeO.ite ?_ ?_
    | refine LeO.bind ?_ (fun _ => ?_)
theorem incipitlaw6_KeyOrder.mono : ∀ a0 a1 k, LeO (incipitlaw6_KeyOrder.f k a0 a1) (incipitlaw6_KeyOrder.f (k + 1) a0 a1) := by
 intro a0 a1 k
 obtain ⟨ih0, ih1, ih2, ih3⟩ := incipitlaw6_KeyOrder.mono_l k
 unfold incipitlaw6_KeyOrder.f
 repeat' first
  | (with_reducible exact ih0 _ _ _ _ _ _)
  | (with_reducible exact ih1 _ _ _ _ _ _)
  | (with_reducible exact ih2 _ _ _ _ _ _)
  | (with_reducible exact ih3 _ _ _ _ _ _)
  | (with_reducible exact incipitref1_Write.mono _ _)
  | (with_reducible exact LeO.refl _)
  | (with_reducible exact LeO.none _)
  | (with_reducible refine LeO.ite ?_ ?_)
  | (with_reducible refine LeO.bind ?_ (fun _ => ?_))
  | exact ih0 _ _ _ _ _ _
  | exact ih1 _ _ _ _ _ _
  | exact ih2 _ _ _ _ _ _
  | exact ih3 _ _ _ _ _ _
  | exact incipitref1_Write.mono _ _
  | exact LeO.none _
  | refine LeO.ite ?_ ?_
  | refine LeO.bind ?_ (fun _ => ?_)
set_option maxHeartbeats 8000000 in
set_option maxRecDepth 100000 in
theorem incipitlaw6_KeyOrder.calls (k : Nat) (A0 : Option Addr) (c0 : Nat) (l0 : List Int) (A1 : Option Addr) (c1 : Nat) (l1 : List Int) (r : Bool) (w : World) (hr0 : Kd.C (Kd.int .i64) w A0 l0.length l0) (hc0 : l0.length ≤ c0) (hr1 : Kd.C (Kd.int .i64) w A1 l1.length l1) (hc1 : l1.length ≤ c1) (h : incipitlaw6_KeyOrder.f k l0 l1 = some r) :
 Calls Try.prog 11 #[.slice A0 l0.length c0, .slice A1 l1.length c1] w fun e w' => e = .returned (.bool r) ∧ Below w.heap.size w w' := by
 have HR0 := Aside0.mk hr0
 have HC0 := Aside0.mk hc0
 clear hr0 hc0
 have HR1 := Aside0.mk hr1
 have HC1 := Aside0.mk hc1
 clear hr1 hc1
 have HB := Aside0.mk (Below.refl w.heap.size w)
 have H : ((incipitlaw6_begun.f).bind fun t228 => (if t228 = true then (if (l0.length : Int) > 20 then (if 20 ≤ (l0.length : Int) then ((some (l0.take 20 : List Int)).bind fun y229 => (if (l1.length : Int) > 20 then (if 20 ≤ (l1.length : Int) then ((some (l1.take 20 : List Int)).bind fun y233 => ((incipitref1_Write.f k y229).bind fun bt237 => ((incipitref1_Write.f k y233).bind fun bt239 => (if bt237.2 = true then (if bt239.2 = true then (incipitlaw6_KeyOrder.l0 k y229 y233 bt237.1 bt239.1 0 0) else (some true)) else (some true))))) else (none)) else ((incipitref1_Write.f k y229).bind fun bt265 => ((incipitref1_Write.f k l1).bind fun bt267 => (if bt265.2 = true then (if bt267.2 = true then (incipitlaw6_KeyOrder.l101 k y229 l1 bt265.1 bt267.1 0 0) else (some true)) else (some true)))))) else (none)) else (if (l1.length : Int) > 20 then (if 20 ≤ (l1.length : Int) then ((some (l1.take 20 : List Int)).bind fun y293 => ((incipitref1_Write.f k l0).bind fun bt297 => ((incipitref1_Write.f k y293).bind fun bt299 => (if bt297.2 = true then (if bt299.2 = true then (incipitlaw6_KeyOrder.l102 k l0 y293 bt297.1 bt299.1 0 0) else (some true)) else (some true))))) else (none)) else ((incipitref1_Write.f k l0).bind fun bt325 => ((incipitref1_Write.f k l1).bind fun bt327 => (if bt325.2 = true then (if bt327.2 = true then (incipitlaw6_KeyOrder.l103 k l0 l1 bt325.1 bt327.1 0 0) else (some true)) else (some true)))))) else (none))) = some r := h
 clear h
 replace H := Option.bind_eq_some_iff.mp H
 obtain ⟨t228, A30, H⟩ := H
 replace H : (if t228 = true then (if (l0.length : Int) > 20 then (if 20 ≤ (l0.length : Int) then ((some (l0.take 20 : List Int)).bind fun y229 => (if (l1.length : Int) > 20 then (if 20 ≤ (l1.length : Int) then ((some (l1.take 20 : List Int)).bind fun y233 => ((incipitref1_Write.f k y229).bind fun bt237 => ((incipitref1_Write.f k y233).bind fun bt239 => (if bt237.2 = true then (if bt239.2 = true then (incipitlaw6_KeyOrder.l0 k y229 y233 bt237.1 bt239.1 0 0) else (some true)) else (some true))))) else (none)) else ((incipitref1_Write.f k y229).bind fun bt265 => ((incipitref1_Write.f k l1).bind fun bt267 => (if bt265.2 = true then (if bt267.2 = true then (incipitlaw6_KeyOrder.l101 k y229 l1 bt265.1 bt267.1 0 0) else (some true)) else (some true)))))) else (none)) else (if (l1.length : Int) > 20 then (if 20 ≤ (l1.length : Int) then ((some (l1.take 20 : List Int)).bind fun y293 => ((incipitref1_Write.f k l0).bind fun bt297 => ((incipitref1_Write.f k y293).bind fun bt299 => (if bt297.2 = true then (if bt299.2 = true then (incipitlaw6_KeyOrder.l102 k l0 y293 bt297.1 bt299.1 0 0) else (some true)) else (some true))))) else (none)) else ((incipitref1_Write.f k l0).bind fun bt325 => ((incipitref1_Write.f k l1).bind fun bt327 => (if bt325.2 = true then (if bt327.2 = true then (incipitlaw6_KeyOrder.l103 k l0 l1 bt325.1 bt327.1 0 0) else (some true)) else (some true)))))) else (none)) = some r := H
 have A3 := Aside0.mk A30
 clear A30
 by_cases c4 : t228 = true
 · subst c4
   have H1 : (if (l0.length : Int) > 20 then (if 20 ≤ (l0.length : Int) then ((some (l0.take 20 : List Int)).bind fun y229 => (if (l1.length : Int) > 20 then (if 20 ≤ (l1.length : Int) then ((some (l1.take 20 : List Int)).bind fun y233 => ((incipitref1_Write.f k y229).bind fun bt237 => ((incipitref1_Write.f k y233).bind fun bt239 => (if bt237.2 = true then (if bt239.2 = true then (incipitlaw6_KeyOrder.l0 k y229 y233 bt237.1 bt239.1 0 0) else (some true)) else (some true))))) else (none)) else ((incipitref1_Write.f k y229).bind fun bt265 => ((incipitref1_Write.f k l1).bind fun bt267 => (if bt265.2 = true then (if bt267.2 = true then (incipitlaw6_KeyOrder.l101 k y229 l1 bt265.1 bt267.1 0 0) else (some true)) else (some true)))))) else (none)) else (if (l1.length : Int) > 20 then (if 20 ≤ (l1.length : Int) then ((some (l1.take 20 : List Int)).bind fun y293 => ((incipitref1_Write.f k l0).bind fun bt297 => ((incipitref1_Write.f k y293).bind fun bt299 => (if bt297.2 = true then (if bt299.2 = true then (incipitlaw6_KeyOrder.l102 k l0 y293 bt297.1 bt299.1 0 0) else (some true)) else (some true))))) else (none)) else ((incipitref1_Write.f k l0).bind fun bt325 => ((incipitref1_Write.f k l1).bind fun bt327 => (if bt325.2 = true then (if bt327.2 = true then (incipitlaw6_KeyOrder.l103 k l0 l1 bt325.1 bt327.1 0 0) else (some true)) else (some true)))))) = some r := by rw [if_pos rfl] at H; exact H
   clear H
   have H := H1
   clear H1
   by_cases c5 : (l0.length : Int) > 20
   · as_aux_lemma =>
     rw [if_pos c5] at H
     have c5b0 : decide (20 < (l0.length : Int)) = true := decide_eq_true c5
     have c5b1 : decide (20 < l0.length) = true := decide_eq_true (by omega)
     clear c5
     by_cases c6 : 20 ≤ (l0.length : Int)
     · as_aux_lemma =>
       rw [if_pos c6] at H
       have c6b0 := eq_true c6
       have c6b1 : decide (20 ≤ (l0.length : Int)) = true := decide_eq_true c6
       clear c6
       obtain ⟨y229, hy229⟩ : ∃ y_ : List Int, y_ = (l0.take 20) := ⟨_, rfl⟩
       replace H : (if (l1.length : Int) > 20 then (if 20 ≤ (l1.length : Int) then ((some (l1.take 20 : List Int)).bind fun y233 => ((incipitref1_Write.f k y229).bind fun bt237 => ((incipitref1_Write.f k y233).bind fun bt239 => (if bt237.2 = true then (if bt239.2 = true then (incipitlaw6_KeyOrder.l0 k y229 y233 bt237.1 bt239.1 0 0) else (some true)) else (some true))))) else (none)) else ((incipitref1_Write.f k y229).bind fun bt265 => ((incipitref1_Write.f k l1).bind fun bt267 => (if bt265.2 = true then (if bt267.2 = true then (incipitlaw6_KeyOrder.l101 k y229 l1 bt265.1 bt267.1 0 0) else (some true)) else (some true))))) = some r := by first | (rw [hy229]; with_reducible exact H) | (have H2_ := (Option.bind_some _ _).symm.trans H; rw [hy229]; with_reducible exact H2_) | (have H2_ := (Option.bind_some _ _).symm.trans H; with_reducible exact H2_) | with_reducible exact H | (rw [hy229]; exact H) | exact H
       have Ny229 := Aside0.mk hy229
       clear hy229
       by_cases c7 : (l1.length : Int) > 20
       · as_aux_lemma =>
         rw [if_pos c7] at H
         have c7b0 : decide (20 < (l1.length : Int)) = true := decide_eq_true c7
         have c7b1 : decide (20 < l1.length) = true := decide_eq_true (by omega)
         clear c7
         by_cases c8 : 20 ≤ (l1.length : Int)
         · as_aux_lemma =>
           rw [if_pos c8] at H
           have c8b0 := eq_true c8
           have c8b1 : decide (20 ≤ (l1.length : Int)) = true := decide_eq_true c8
           clear c8
           obtain ⟨y233, hy233⟩ : ∃ y_ : List Int, y_ = (l1.take 20) := ⟨_, rfl⟩
           replace H : ((incipitref1_Write.f k y229).bind fun bt237 => ((incipitref1_Write.f k y233).bind fun bt239 => (if bt237.2 = true then (if bt239.2 = true then (incipitlaw6_KeyOrder.l0 k y229 y233 bt237.1 bt239.1 0 0) else (some true)) else (some true)))) = some r := by first | (rw [hy233]; with_reducible exact H) | (have H2_ := (Option.bind_some _ _).symm.trans H; rw [hy233]; with_reducible exact H2_) | (have H2_ := (Option.bind_some _ _).symm.trans H; with_reducible exact H2_) | with_reducible exact H | (rw [hy233]; exact H) | exact H
           have Ny233 := Aside0.mk hy233
           clear hy233
           replace H := Option.bind_eq_some_iff.mp H
           obtain ⟨⟨t237, t238⟩, A90, H⟩ := H
           replace H : ((incipitref1_Write.f k y233).bind fun bt239 => (if t238 = true then (if bt239.2 = true then (incipitlaw6_KeyOrder.l0 k y229 y233 t237 bt239.1 0 0) else (some true)) else (some true))) = some r := H
           have A9 := Aside0.mk A90
           clear A90
           replace H := Option.bind_eq_some_iff.mp H
           obtain ⟨⟨t239, t240⟩, A100, H⟩ := H
           replace H : (if t238 = true then (if t240 = true then (incipitlaw6_KeyOrder.l0 k y229 y233 t237 t239 0 0) else (some true)) else (some true)) = some r := H
           have A10 := Aside0.mk A100
           clear A100
           by_cases c11 : t238 = true
           · subst c11
             have H1 : (if t240 = true then (incipitlaw6_KeyOrder.l0 k y229 y233 t237 t239 0 0) else (some true)) = some r := by rw [if_pos rfl] at H; exact H
             clear H
             have H := H1
             clear H1
             by_cases c12 : t240 = true
             · subst c12
               have H1 : (incipitlaw6_KeyOrder.l0 k y229 y233 t237 t239 0 0) = some r := by rw [if_pos rfl] at H; exact H
               clear H
               have H := H1
               clear H1
               have H' := Aside0.mk H
               clear H
               go_enter Try.func11, Try.ntmps11
               go_wp2_with (first | (go_at_call 29; (with_reducible refine (incipitlaw6_begun.calls  true _ A3.out).mono ?_); rintro e w13 ⟨rfl, hb⟩; have n0_ := Aside0.mk (below_step (by repeat (first | (with_reducible first | exact HB.out | apply below_alloc | apply pw_below_drewN | apply below_drew1) | exact HB.out)) hb); clear HB; have HB := n0_; clear n0_; (try clear hb); (try clear hb2); (try clear hk); (try clear hi); have q14 : (20 : Int) ≤ ((l0.length : Int) : Int) := of_decide_eq_true (by first | (with_reducible assumption) | assumption); obtain ⟨i014, hi014, _, hsz14, _⟩ := info_parts info3; have hroom14 : l0.length ≤ c0 := HC0.out; have hC14 : Kd.C (Kd.int .i64) _ A0 l0.length l0 := HR0.out; have hcut14 := cut_to (P := Try.prog) 22 3 .i64 Try.underlying22 hi014 A0 l0.length c0 20 (by omega) q14 hroom14; have hr14 := Kd.C_take (m := 20) hC14 (by omega); have hy14 : y229.length = (20 : Int).toNat := (by rw [Ny229.out, List.length_take]; omega); rw [← Ny229.out] at hr14; rw [← hy14] at hcut14; have HR232 := Aside0.mk hr14; have HC232 := Aside0.mk (show y229.length ≤ c0 from by omega); clear hr14 hC14 hroom14 hi014 hsz14; have KY14 := Aside0.mk hy14; clear hy14; replace q14 := eq_true q14; have q15 : (20 : Int) ≤ ((l1.length : Int) : Int) := of_decide_eq_true (by first | (with_reducible assumption) | assumption); obtain ⟨i015, hi015, _, hsz15, _⟩ := info_parts info3; have hroom15 : l1.length ≤ c1 := HC1.out; have hC15 : Kd.C (Kd.int .i64) _ A1 l1.length l1 := HR1.out; have hcut15 := cut_to (P := Try.prog) 22 3 .i64 Try.underlying22 hi015 A1 l1.length c1 20 (by omega) q15 hroom15; have hr15 := Kd.C_take (m := 20) hC15 (by omega); have hy15 : y233.length = (20 : Int).toNat := (by rw [Ny233.out, List.length_take]; omega); rw [← Ny233.out] at hr15; rw [← hy15] at hcut15; have HR236 := Aside0.mk hr15; have HC236 := Aside0.mk (show y233.length ≤ c1 from by omega); clear hr15 hC15 hroom15 hi015 hsz15; have KY15 := Aside0.mk hy15; clear hy15; replace q15 := eq_true q15) | (go_at_call 34; (with_reducible refine (incipitref1_Write.calls k _ _ y229 t237 true _ ?side1 ?side2 A9.out).mono ?_); (case side1 => repeat (first | exact (Kd.C_below HR232.out HB.out) | (with_reducible refine Kd.C_alloc ?_ _) | (with_reducible refine Kd.C_drewN ?_ _) | (with_reducible refine Kd.C_drew ?_))); (case side2 => exact HC232.out); rintro e w16 ⟨rfl, hb⟩; have n0_ := Aside0.mk (below_step (by repeat (first | (with_reducible first | exact HB.out | apply below_alloc | apply pw_below_drewN | apply below_drew1) | exact HB.out)) hb); clear HB; have HB := n0_; clear n0_; (try clear hb); (try clear hb2); (try clear hk); (try clear hi)) | (go_at_call 34; (with_reducible refine (incipitref1_Write.calls k _ _ y233 t239 true _ ?side1 ?side2 A10.out).mono ?_); (case side1 => repeat (first | exact (Kd.C_below HR236.out HB.out) | (with_reducible refine Kd.C_alloc ?_ _) | (with_reducible refine Kd.C_drewN ?_ _) | (with_reducible refine Kd.C_drew ?_))); (case side2 => exact HC236.out); rintro e w17 ⟨rfl, hb⟩; have n0_ := Aside0.mk (below_step (by repeat (first | (with_reducible first | exact HB.out | apply below_alloc | apply pw_below_drewN | apply below_drew1) | exact HB.out)) hb); clear HB; have HB := n0_; clear n0_; (try clear hb); (try clear hb2); (try clear hk); (try clear hi)))
               repeat (go_quiet (fail); try go_wp2_with (fail))
               try simp only [Act.put, List.setIfInBounds_toArray, List.set_cons_succ, List.set_cons_zero]
               go_loopg [10, 11] k (fun kq v10 v11 w' => ∃ (x10_1 : Int) (x11_1 : Int), v10 = .int .i64 x10_1 ∧ v11 = .int .i64 x11_1 ∧ Aside0 (incipitlaw6_KeyOrder.l0 kq y229 y233 t237 t239 x10_1 x11_1 = some r) ∧ Aside0 (kq ≤ k) ∧ Aside0 (Below w.heap.size w w'))
               case atStart => exact ⟨(0), (0), (by first | rfl | (simp; done) | (simp [*]; done)), (by first | rfl | (simp; done) | (simp [*]; done)), H', ⟨Nat.le_refl _⟩, ⟨by repeat (first | (with_reducible first | exact HB.out | apply below_alloc | apply pw_below_drewN | apply below_drew1) | exact HB.out)⟩⟩
               case round =>
                clear H'
                (try clear c1); (try clear q1); (try clear p2); (try clear c4); (try clear c5); (try clear c5b0); (try clear c5b1); (try clear c6); (try clear c6b0); (try clear c6b1); (try clear c7); (try clear c7b0); (try clear c7b1); (try clear c8); (try clear c8b0); (try clear c8b1); (try clear c11); (try clear c12); (try clear q14); (try clear q15); (try clear q14); (try clear q15)
                obtain ⟨x10_1, x11_1, rfl, rfl, HA, HK1, HB⟩ := hrel
                cases gk with
                | zero => exact absurd HA.out (by simp [incipitlaw6_KeyOrder.l0])
                | succ k1 =>
                 have H := HA.out
                 clear HA
                 simp only [incipitlaw6_KeyOrder.l0] at H
                 by_cases c18 : x11_1 < (y229.length : Int)
                 · as_aux_lemma =>
                   rw [if_pos c18] at H
                   have c18b0 : decide (x11_1 < (y229.length : Int)) = true := decide_eq_true c18
                   clear c18
                   by_cases c19 : x11_1 < (y233.length : Int)
                   · as_aux_lemma =>
                     rw [if_pos c19] at H
                     have c19b0 : decide (x11_1 < (y233.length : Int)) = true := decide_eq_true c19
                     clear c19
                     by_cases c20 : x10_1 = 0
                     · as_aux_lemma =>
                       rw [if_pos c20] at H
                       have c20b0 : (x10_1 == 0) = true := beq_iff_eq.mpr c20
                       have c20b1 : (x10_1 != 0) = false := bne_eq_false_iff_eq.mpr c20
                       clear c20
                       by_cases c21 : 0 ≤ x11_1
                       · as_aux_lemma =>
                         rw [if_pos c21] at H
                         have c21b0 : decide (0 ≤ x11_1) = true := decide_eq_true c21
                         clear c21
                         by_cases c22 : (rd y229 x11_1) < (rd y233 x11_1)
                         · as_aux_lemma =>
                           rw [if_pos c22] at H
                           have c22b0 : decide ((rd y229 x11_1) < (rd y233 x11_1)) = true := decide_eq_true c22
                           clear c22
                           by_cases c23 : (rd y229 x11_1) > (rd y233 x11_1)
                           · rw [if_pos c23] at H
                             have c23b0 : decide ((rd y233 x11_1) < (rd y229 x11_1)) = true := decide_eq_true c23
                             clear c23
                             have H' := Aside0.mk H
                             clear H
                             have p241 : 0 ≤ (x11_1 : Int) := of_decide_eq_true (by first | (with_reducible assumption) | assumption)
                             have q241 : x11_1 < (y229.length : Int) := of_decide_eq_true (by first | (with_reducible assumption) | assumption)
                             obtain ⟨ad241, e241, hx241_0⟩ := Kd.at_int HR232.out x11_1 p241 q241
                             cases e241
                             replace hx241_0 := (HB.out.cell (World.block_lt_of_cell? w _ hx241_0)).trans hx241_0
                             replace p241 := eq_true p241
                             replace q241 := eq_true q241
                             have p242 : 0 ≤ (x11_1 : Int) := of_decide_eq_true (by first | (with_reducible assumption) | assumption)
                             have q242 : x11_1 < (y233.length : Int) := of_decide_eq_true (by first | (with_reducible assumption) | assumption)
                             obtain ⟨ad242, e242, hx242_0⟩ := Kd.at_int HR236.out x11_1 p242 q242
                             cases e242
                             replace hx242_0 := (HB.out.cell (World.block_lt_of_cell? w _ hx242_0)).trans hx242_0
                             replace p242 := eq_true p242
                             replace q242 := eq_true q242
                             have p243 : 0 ≤ (x11_1 : Int) := of_decide_eq_true (by first | (with_reducible assumption) | assumption)
                             have q243 : x11_1 < (y229.length : Int) := of_decide_eq_true (by first | (with_reducible assumption) | assumption)
                             obtain ⟨ad243, e243, hx243_0⟩ := Kd.at_int HR232.out x11_1 p243 q243
                             obtain rfl : ad241 = ad243 := (by injection e243)
                             replace hx243_0 := (HB.out.cell (World.block_lt_of_cell? w _ hx243_0)).trans hx243_0
                             replace p243 := eq_true p243
                             replace q243 := eq_true q243
                             have p244 : 0 ≤ (x11_1 : Int) := of_decide_eq_true (by first | (with_reducible assumption) | assumption)
                             have q244 : x11_1 < (y233.length : Int) := of_decide_eq_true (by first | (with_reducible assumption) | assumption)
                             obtain ⟨ad244, e244, hx244_0⟩ := Kd.at_int HR236.out x11_1 p244 q244
                             obtain rfl : ad242 = ad244 := (by injection e244)
                             replace hx244_0 := (HB.out.cell (World.block_lt_of_cell? w _ hx244_0)).trans hx244_0
                             replace p244 := eq_true p244
                             replace q244 := eq_true q244
                             go_wp2
                             repeat (go_quiet (fail); try go_wp2)
                             go_roundg k1
                             case measure => have := HK1.out; omega
                             case rel => exact ⟨(1), (wrap64 (x11_1 + 1)), (by first | rfl | (simp; done) | (simp [*]; done)), (by first | rfl | (simp; done) | (simp [*]; done)), H', ⟨by have := HK1.out; omega⟩, ⟨by repeat (first | (with_reducible first | exact HB.out | apply below_alloc | apply pw_below_drewN | apply below_drew1) | exact HB.out)⟩⟩
                           · rw [if_neg c23] at H
                             have c23b0 : decide ((rd y233 x11_1) < (rd y229 x11_1)) = false := decide_eq_false c23
                             clear c23
                             have H' := Aside0.mk H
                             clear H
                             have p241 : 0 ≤ (x11_1 : Int) := of_decide_eq_true (by first | (with_reducible assumption) | assumption)
                             have q241 : x11_1 < (y229.length : Int) := of_decide_eq_true (by first | (with_reducible assumption) | assumption)
                             obtain ⟨ad241, e241, hx241_0⟩ := Kd.at_int HR232.out x11_1 p241 q241
                             cases e241
                             replace hx241_0 := (HB.out.cell (World.block_lt_of_cell? w _ hx241_0)).trans hx241_0
                             replace p241 := eq_true p241
                             replace q241 := eq_true q241
                             have p242 : 0 ≤ (x11_1 : Int) := of_decide_eq_true (by first | (with_reducible assumption) | assumption)
                             have q242 : x11_1 < (y233.length : Int) := of_decide_eq_true (by first | (with_reducible assumption) | assumption)
                             obtain ⟨ad242, e242, hx242_0⟩ := Kd.at_int HR236.out x11_1 p242 q242
                             cases e242
                             replace hx242_0 := (HB.out.cell (World.block_lt_of_cell? w _ hx242_0)).trans hx242_0
                             replace p242 := eq_true p242
                             replace q242 := eq_true q242
                             have p243 : 0 ≤ (x11_1 : Int) := of_decide_eq_true (by first | (with_reducible assumption) | assumption)
                             have q243 : x11_1 < (y229.length : Int) := of_decide_eq_true (by first | (with_reducible assumption) | assumption)
                             obtain ⟨ad243, e243, hx243_0⟩ := Kd.at_int HR232.out x11_1 p243 q243
                             obtain rfl : ad241 = ad243 := (by injection e243)
                             replace hx243_0 := (HB.out.cell (World.block_lt_of_cell? w _ hx243_0)).trans hx243_0
                             replace p243 := eq_true p243
                             replace q243 := eq_true q243
                             have p244 : 0 ≤ (x11_1 : Int) := of_decide_eq_true (by first | (with_reducible assumption) | assumption)
                             have q244 : x11_1 < (y233.length : Int) := of_decide_eq_true (by first | (with_reducible assumption) | assumption)
                             obtain ⟨ad244, e244, hx244_0⟩ := Kd.at_int HR236.out x11_1 p244 q244
                             obtain rfl : ad242 = ad244 := (by injection e244)
                             replace hx244_0 := (HB.out.cell (World.block_lt_of_cell? w _ hx244_0)).trans hx244_0
                             replace p244 := eq_true p244
                             replace q244 := eq_true q244
                             go_wp2
                             repeat (go_quiet (fail); try go_wp2)
                             go_roundg k1
                             case measure => have := HK1.out; omega
                             case rel => exact ⟨((-1)), (wrap64 (x11_1 + 1)), (by first | rfl | (simp; done) | (simp [*]; done)), (by first | rfl | (simp; done) | (simp [*]; done)), H', ⟨by have := HK1.out; omega⟩, ⟨by repeat (first | (with_reducible first | exact HB.out | apply below_alloc | apply pw_below_drewN | apply below_drew1) | exact HB.out)⟩⟩
                         · as_aux_lemma =>
                           rw [if_neg c22] at H
                           have c22b0 : decide ((rd y229 x11_1) < (rd y233 x11_1)) = false := decide_eq_false c22
                           clear c22
                           by_cases c24 : (rd y229 x11_1) > (rd y233 x11_1)
                           · rw [if_pos c24] at H
                             have c24b0 : decide ((rd y233 x11_1) < (rd y229 x11_1)) = true := decide_eq_true c24
                             clear c24
                             have H' := Aside0.mk H
                             clear H
                             have p241 : 0 ≤ (x11_1 : Int) := of_decide_eq_true (by first | (with_reducible assumption) | assumption)
                             have q241 : x11_1 < (y229.length : Int) := of_decide_eq_true (by first | (with_reducible assumption) | assumption)
                             obtain ⟨ad241, e241, hx241_0⟩ := Kd.at_int HR232.out x11_1 p241 q241
                             cases e241
                             replace hx241_0 := (HB.out.cell (World.block_lt_of_cell? w _ hx241_0)).trans hx241_0
                             replace p241 := eq_true p241
                             replace q241 := eq_true q241
                             have p242 : 0 ≤ (x11_1 : Int) := of_decide_eq_true (by first | (with_reducible assumption) | assumption)
                             have q242 : x11_1 < (y233.length : Int) := of_decide_eq_true (by first | (with_reducible assumption) | assumption)
                             obtain ⟨ad242, e242, hx242_0⟩ := Kd.at_int HR236.out x11_1 p242 q242
                             cases e242
                             replace hx242_0 := (HB.out.cell (World.block_lt_of_cell? w _ hx242_0)).trans hx242_0
                             replace p242 := eq_true p242
                             replace q242 := eq_true q242
                             have p245 : 0 ≤ (x11_1 : Int) := of_decide_eq_true (by first | (with_reducible assumption) | assumption)
                             have q245 : x11_1 < (y229.length : Int) := of_decide_eq_true (by first | (with_reducible assumption) | assumption)
                             obtain ⟨ad245, e245, hx245_0⟩ := Kd.at_int HR232.out x11_1 p245 q245
                             obtain rfl : ad241 = ad245 := (by injection e245)
                             replace hx245_0 := (HB.out.cell (World.block_lt_of_cell? w _ hx245_0)).trans hx245_0
                             replace p245 := eq_true p245
                             replace q245 := eq_true q245
                             have p246 : 0 ≤ (x11_1 : Int) := of_decide_eq_true (by first | (with_reducible assumption) | assumption)
                             have q246 : x11_1 < (y233.length : Int) := of_decide_eq_true (by first | (with_reducible assumption) | assumption)
                             obtain ⟨ad246, e246, hx246_0⟩ := Kd.at_int HR236.out x11_1 p246 q246
                             obtain rfl : ad242 = ad246 := (by injection e246)
                             replace hx246_0 := (HB.out.cell (World.block_lt_of_cell? w _ hx246_0)).trans hx246_0
                             replace p246 := eq_true p246
                             replace q246 := eq_true q246
                             go_wp2
                             repeat (go_quiet (fail); try go_wp2)
                             go_roundg k1
                             case measure => have := HK1.out; omega
                             case rel => exact ⟨(1), (wrap64 (x11_1 + 1)), (by first | rfl | (simp; done) | (simp [*]; done)), (by first | rfl | (simp; done) | (simp [*]; done)), H', ⟨by have := HK1.out; omega⟩, ⟨by repeat (first | (with_reducible first | exact HB.out | apply below_alloc | apply pw_below_drewN | apply below_drew1) | exact HB.out)⟩⟩
                           · rw [if_neg c24] at H
                             have c24b0 : decide ((rd y233 x11_1) < (rd y229 x11_1)) = false := decide_eq_false c24
                             clear c24
                             have H' := Aside0.mk H
                             clear H
                             have p241 : 0 ≤ (x11_1 : Int) := of_decide_eq_true (by first | (with_reducible assumption) | assumption)
                             have q241 : x11_1 < (y229.length : Int) := of_decide_eq_true (by first | (with_reducible assumption) | assumption)
                             obtain ⟨ad241, e241, hx241_0⟩ := Kd.at_int HR232.out x11_1 p241 q241
                             cases e241
                             replace hx241_0 := (HB.out.cell (World.block_lt_of_cell? w _ hx241_0)).trans hx241_0
                             replace p241 := eq_true p241
                             replace q241 := eq_true q241
                             have p242 : 0 ≤ (x11_1 : Int) := of_decide_eq_true (by first | (with_reducible assumption) | assumption)
                             have q242 : x11_1 < (y233.length : Int) := of_decide_eq_true (by first | (with_reducible assumption) | assumption)
                             obtain ⟨ad242, e242, hx242_0⟩ := Kd.at_int HR236.out x11_1 p242 q242
                             cases e242
                             replace hx242_0 := (HB.out.cell (World.block_lt_of_cell? w _ hx242_0)).trans hx242_0
                             replace p242 := eq_true p242
                             replace q242 := eq_true q242
                             have p245 : 0 ≤ (x11_1 : Int) := of_decide_eq_true (by first | (with_reducible assumption) | assumption)
                             have q245 : x11_1 < (y229.length : Int) := of_decide_eq_true (by first | (with_reducible assumption) | assumption)
                             obtain ⟨ad245, e245, hx245_0⟩ := Kd.at_int HR232.out x11_1 p245 q245
                             obtain rfl : ad241 = ad245 := (by injection e245)
                             replace hx245_0 := (HB.out.cell (World.block_lt_of_cell? w _ hx245_0)).trans hx245_0
                             replace p245 := eq_true p245
                             replace q245 := eq_true q245
                             have p246 : 0 ≤ (x11_1 : Int) := of_decide_eq_true (by first | (with_reducible assumption) | assumption)
                             have q246 : x11_1 < (y233.length : Int) := of_decide_eq_true (by first | (with_reducible assumption) | assumption)
                             obtain ⟨ad246, e246, hx246_0⟩ := Kd.at_int HR236.out x11_1 p246 q246
                             obtain rfl : ad242 = ad246 := (by injection e246)
                             replace hx246_0 := (HB.out.cell (World.block_lt_of_cell? w _ hx246_0)).trans hx246_0
                             replace p246 := eq_true p246
                             replace q246 := eq_true q246
                             go_wp2
                             repeat (go_quiet (fail); try go_wp2)
                             go_roundg k1
                             case measure => have := HK1.out; omega
                             case rel => exact ⟨(x10_1), (wrap64 (x11_1 + 1)), (by first | rfl | (simp; done) | (simp [*]; done)), (by first | rfl | (simp; done) | (simp [*]; done)), H', ⟨by have := HK1.out; omega⟩, ⟨by repeat (first | (with_reducible first | exact HB.out | apply below_alloc | apply pw_below_drewN | apply below_drew1) | exact HB.out)⟩⟩
                       · rw [if_neg c21] at H
                         exact absurd H (by simp)
                     · rw [if_neg c20] at H
                       have c20b0 : (x10_1 == 0) = false := beq_eq_false_iff_ne.mpr c20
                       have c20b1 : (x10_1 != 0) = true := bne_iff_ne.mpr c20
                       replace H := Option.bind_eq_some_iff.mp H
                       obtain ⟨t247, A250, H⟩ := H
                       replace H : (if t247 = x10_1 then ((ckey_Compare.f t239 t237).bind fun t248 => (some (t248 == (wrap64 (-x10_1))))) else (none)) = some r := H
                       have A25 := Aside0.mk A250
                       clear A250
                       by_cases c26 : t247 = x10_1
                       · rw [if_pos c26] at H
                         have c26b0 : (t247 == x10_1) = true := beq_iff_eq.mpr c26
                         have c26b1 : (t247 != x10_1) = false := bne_eq_false_iff_eq.mpr c26
                         clear c26
                         replace H := Option.bind_eq_some_iff.mp H
                         obtain ⟨t248, A270, H⟩ := H
                         replace H : (some (t248 == (wrap64 (-x10_1)))) = some r := H
                         have A27 := Aside0.mk A270
                         clear A270
                         obtain rfl := Option.some.inj H
                         go_wp2_with (first | (go_at_call 35; (with_reducible refine (ckey_Compare.calls t237 t239 t247 _ A25.out).mono ?_); rintro e w' ⟨rfl, ⟨nd, rfl⟩⟩; (try first | exact ⟨rfl, _, World.drewN_drewN _ _ _⟩ | exact ⟨rfl, _, Eq.trans (World.drewN_drewN _ _ _) (congrArg (World.drewN _) (Nat.add_assoc _ _ _))⟩)) | (go_at_call 35; (with_reducible refine (ckey_Compare.calls t239 t237 t248 _ A27.out).mono ?_); rintro e w' ⟨rfl, ⟨nd, rfl⟩⟩; (try first | exact ⟨rfl, _, World.drewN_drewN _ _ _⟩ | exact ⟨rfl, _, Eq.trans (World.drewN_drewN _ _ _) (congrArg (World.drewN _) (Nat.add_assoc _ _ _))⟩)))
                         repeat (go_quiet (fail); try go_wp2_with (fail))
                         go_ret
                         exact ⟨by first | rfl | (simp [errW_none, errW_some] <;> rfl) | (simp [*, errW_none, errW_some] <;> rfl) | (first | (simp (disch := omega) [w64_s, errW_none, errW_some]; done) | (simp (disch := omega) [w64_s, errW_none, errW_some] <;> rfl)), by repeat (first | (with_reducible first | exact HB.out | apply below_alloc | apply pw_below_drewN | apply below_drew1) | exact HB.out)⟩
                       · rw [if_neg c26] at H
                         exact absurd H (by simp)
                   · as_aux_lemma =>
                     rw [if_neg c19] at H
                     have c19b0 : decide (x11_1 < (y233.length : Int)) = false := decide_eq_false c19
                     clear c19
                     by_cases c28 : x10_1 = 0
                     · as_aux_lemma =>
                       rw [if_pos c28] at H
                       have c28b0 : (x10_1 == 0) = true := beq_iff_eq.mpr c28
                       have c28b1 : (x10_1 != 0) = false := bne_eq_false_iff_eq.mpr c28
                       clear c28
                       by_cases c29 : (y229.length : Int) = (y233.length : Int)
                       · rw [if_pos c29] at H
                         have c29b0 : ((y229.length : Int) == (y233.length : Int)) = true := beq_iff_eq.mpr c29
                         have c29b1 : ((y229.length : Int) != (y233.length : Int)) = false := bne_eq_false_iff_eq.mpr c29
                         have c29b2 : (y229.length == y233.length) = true := by first | simpa using c29 | (simp at c29 ⊢; omega)
                         clear c29
                         replace H := Option.bind_eq_some_iff.mp H
                         obtain ⟨t249, A300, H⟩ := H
                         replace H : (if t249 = x10_1 then ((ckey_Compare.f t239 t237).bind fun t250 => (some (t250 == (wrap64 (-x10_1))))) else (none)) = some r := H
                         have A30 := Aside0.mk A300
                         clear A300
                         by_cases c31 : t249 = x10_1
                         · rw [if_pos c31] at H
                           have c31b0 : (t249 == x10_1) = true := beq_iff_eq.mpr c31
                           have c31b1 : (t249 != x10_1) = false := bne_eq_false_iff_eq.mpr c31
                           clear c31
                           replace H := Option.bind_eq_some_iff.mp H
                           obtain ⟨t250, A320, H⟩ := H
                           replace H : (some (t250 == (wrap64 (-x10_1)))) = some r := H
                           have A32 := Aside0.mk A320
                           clear A320
                           obtain rfl := Option.some.inj H
                           go_wp2_with (first | (go_at_call 35; (with_reducible refine (ckey_Compare.calls t237 t239 t249 _ A30.out).mono ?_); rintro e w' ⟨rfl, ⟨nd, rfl⟩⟩; (try first | exact ⟨rfl, _, World.drewN_drewN _ _ _⟩ | exact ⟨rfl, _, Eq.trans (World.drewN_drewN _ _ _) (congrArg (World.drewN _) (Nat.add_assoc _ _ _))⟩)) | (go_at_call 35; (with_reducible refine (ckey_Compare.calls t239 t237 t250 _ A32.out).mono ?_); rintro e w' ⟨rfl, ⟨nd, rfl⟩⟩; (try first | exact ⟨rfl, _, World.drewN_drewN _ _ _⟩ | exact ⟨rfl, _, Eq.trans (World.drewN_drewN _ _ _) (congrArg (World.drewN _) (Nat.add_assoc _ _ _))⟩)))
                           repeat (go_quiet (fail); try go_wp2_with (fail))
                           go_ret
                           exact ⟨by first | rfl | (simp [errW_none, errW_some] <;> rfl) | (simp [*, errW_none, errW_some] <;> rfl) | (first | (simp (disch := omega) [w64_s, errW_none, errW_some]; done) | (simp (disch := omega) [w64_s, errW_none, errW_some] <;> rfl)), by repeat (first | (with_reducible first | exact HB.out | apply below_alloc | apply pw_below_drewN | apply below_drew1) | exact HB.out)⟩
                         · rw [if_neg c31] at H
                           exact absurd H (by simp)
                       · rw [if_neg c29] at H
                         have c29b0 : ((y229.length : Int) == (y233.length : Int)) = false := beq_eq_false_iff_ne.mpr c29
                         have c29b1 : ((y229.length : Int) != (y233.length : Int)) = true := bne_iff_ne.mpr c29
                         have c29b2 : (y229.length == y233.length) = false := by first | simpa using c29 | (simp at c29 ⊢; omega)
                         by_cases c33 : (y229.length : Int) < (y233.length : Int)
                         · rw [if_pos c33] at H
                           have c33b0 : decide ((y229.length : Int) < (y233.length : Int)) = true := decide_eq_true c33
                           have c33b1 : decide (y229.length < y233.length) = true := decide_eq_true (Int.ofNat_lt.mp c33)
                           clear c33
                           replace H := Option.bind_eq_some_iff.mp H
                           obtain ⟨t251, A340, H⟩ := H
                           replace H : (if t251 = (-1) then ((ckey_Compare.f t239 t237).bind fun t252 => (some (t252 == (-(-1))))) else (none)) = some r := H
                           have A34 := Aside0.mk A340
                           clear A340
                           by_cases c35 : t251 = (-1)
                           · rw [if_pos c35] at H
                             have c35b0 : (t251 == (-1)) = true := beq_iff_eq.mpr c35
                             have c35b1 : (t251 != (-1)) = false := bne_eq_false_iff_eq.mpr c35
                             clear c35
                             replace H := Option.bind_eq_some_iff.mp H
                             obtain ⟨t252, A360, H⟩ := H
                             replace H : (some (t252 == (-(-1)))) = some r := H
                             have A36 := Aside0.mk A360
                             clear A360
                             obtain rfl := Option.some.inj H
                             go_wp2_with (first | (go_at_call 35; (with_reducible refine (ckey_Compare.calls t237 t239 t251 _ A34.out).mono ?_); rintro e w' ⟨rfl, ⟨nd, rfl⟩⟩; (try first | exact ⟨rfl, _, World.drewN_drewN _ _ _⟩ | exact ⟨rfl, _, Eq.trans (World.drewN_drewN _ _ _) (congrArg (World.drewN _) (Nat.add_assoc _ _ _))⟩)) | (go_at_call 35; (with_reducible refine (ckey_Compare.calls t239 t237 t252 _ A36.out).mono ?_); rintro e w' ⟨rfl, ⟨nd, rfl⟩⟩; (try first | exact ⟨rfl, _, World.drewN_drewN _ _ _⟩ | exact ⟨rfl, _, Eq.trans (World.drewN_drewN _ _ _) (congrArg (World.drewN _) (Nat.add_assoc _ _ _))⟩)))
                             repeat (go_quiet (fail); try go_wp2_with (fail))
                             go_ret
                             exact ⟨by first | rfl | (simp [errW_none, errW_some] <;> rfl) | (simp [*, errW_none, errW_some] <;> rfl) | (first | (simp (disch := omega) [w64_s, errW_none, errW_some]; done) | (simp (disch := omega) [w64_s, errW_none, errW_some] <;> rfl)), by repeat (first | (with_reducible first | exact HB.out | apply below_alloc | apply pw_below_drewN | apply below_drew1) | exact HB.out)⟩
                           · rw [if_neg c35] at H
                             exact absurd H (by simp)
                         · rw [if_neg c33] at H
                           have c33b0 : decide ((y229.length : Int) < (y233.length : Int)) = false := decide_eq_false c33
                           have c33b1 : decide (y229.length < y233.length) = false := decide_eq_false (fun h => c33 (Int.ofNat_lt.mpr h))
                           clear c33
                           replace H := Option.bind_eq_some_iff.mp H
                           obtain ⟨t253, A370, H⟩ := H
                           replace H : (if t253 = 1 then ((ckey_Compare.f t239 t237).bind fun t254 => (some (t254 == (-1)))) else (none)) = some r := H
                           have A37 := Aside0.mk A370
                           clear A370
                           by_cases c38 : t253 = 1
                           · rw [if_pos c38] at H
                             have c38b0 : (t253 == 1) = true := beq_iff_eq.mpr c38
                             have c38b1 : (t253 != 1) = false := bne_eq_false_iff_eq.mpr c38
                             clear c38
                             replace H := Option.bind_eq_some_iff.mp H
                             obtain ⟨t254, A390, H⟩ := H
                             replace H : (some (t254 == (-1))) = some r := H
                             have A39 := Aside0.mk A390
                             clear A390
                             obtain rfl := Option.some.inj H
                             go_wp2_with (first | (go_at_call 35; (with_reducible refine (ckey_Compare.calls t237 t239 t253 _ A37.out).mono ?_); rintro e w' ⟨rfl, ⟨nd, rfl⟩⟩; (try first | exact ⟨rfl, _, World.drewN_drewN _ _ _⟩ | exact ⟨rfl, _, Eq.trans (World.drewN_drewN _ _ _) (congrArg (World.drewN _) (Nat.add_assoc _ _ _))⟩)) | (go_at_call 35; (with_reducible refine (ckey_Compare.calls t239 t237 t254 _ A39.out).mono ?_); rintro e w' ⟨rfl, ⟨nd, rfl⟩⟩; (try first | exact ⟨rfl, _, World.drewN_drewN _ _ _⟩ | exact ⟨rfl, _, Eq.trans (World.drewN_drewN _ _ _) (congrArg (World.drewN _) (Nat.add_assoc _ _ _))⟩)))
                             repeat (go_quiet (fail); try go_wp2_with (fail))
                             go_ret
                             exact ⟨by first | rfl | (simp [errW_none, errW_some] <;> rfl) | (simp [*, errW_none, errW_some] <;> rfl) | (first | (simp (disch := omega) [w64_s, errW_none, errW_some]; done) | (simp (disch := omega) [w64_s, errW_none, errW_some] <;> rfl)), by repeat (first | (with_reducible first | exact HB.out | apply below_alloc | apply pw_below_drewN | apply below_drew1) | exact HB.out)⟩
                           · rw [if_neg c38] at H
                             exact absurd H (by simp)
                     · rw [if_neg c28] at H
                       have c28b0 : (x10_1 == 0) = false := beq_eq_false_iff_ne.mpr c28
                       have c28b1 : (x10_1 != 0) = true := bne_iff_ne.mpr c28
                       replace H := Option.bind_eq_some_iff.mp H
                       obtain ⟨t255, A400, H⟩ := H
                       replace H : (if t255 = x10_1 then ((ckey_Compare.f t239 t237).bind fun t256 => (some (t256 == (wrap64 (-x10_1))))) else (none)) = some r := H
                       have A40 := Aside0.mk A400
                       clear A400
                       by_cases c41 : t255 = x10_1
                       · rw [if_pos c41] at H
                         have c41b0 : (t255 == x10_1) = true := beq_iff_eq.mpr c41
                         have c41b1 : (t255 != x10_1) = false := bne_eq_false_iff_eq.mpr c41
                         clear c41
                         replace H := Option.bind_eq_some_iff.mp H
                         obtain ⟨t256, A420, H⟩ := H
                         replace H : (some (t256 == (wrap64 (-x10_1)))) = some r := H
                         have A42 := Aside0.mk A420
                         clear A420
                         obtain rfl := Option.some.inj H
                         go_wp2_with (first | (go_at_call 35; (with_reducible refine (ckey_Compare.calls t237 t239 t255 _ A40.out).mono ?_); rintro e w' ⟨rfl, ⟨nd, rfl⟩⟩; (try first | exact ⟨rfl, _, World.drewN_drewN _ _ _⟩ | exact ⟨rfl, _, Eq.trans (World.drewN_drewN _ _ _) (congrArg (World.drewN _) (Nat.add_assoc _ _ _))⟩)) | (go_at_call 35; (with_reducible refine (ckey_Compare.calls t239 t237 t256 _ A42.out).mono ?_); rintro e w' ⟨rfl, ⟨nd, rfl⟩⟩; (try first | exact ⟨rfl, _, World.drewN_drewN _ _ _⟩ | exact ⟨rfl, _, Eq.trans (World.drewN_drewN _ _ _) (congrArg (World.drewN _) (Nat.add_assoc _ _ _))⟩)))
                         repeat (go_quiet (fail); try go_wp2_with (fail))
                         go_ret
                         exact ⟨by first | rfl | (simp [errW_none, errW_some] <;> rfl) | (simp [*, errW_none, errW_some] <;> rfl) | (first | (simp (disch := omega) [w64_s, errW_none, errW_some]; done) | (simp (disch := omega) [w64_s, errW_none, errW_some] <;> rfl)), by repeat (first | (with_reducible first | exact HB.out | apply below_alloc | apply pw_below_drewN | apply below_drew1) | exact HB.out)⟩
                       · rw [if_neg c41] at H
                         exact absurd H (by simp)
                 · as_aux_lemma =>
                   rw [if_neg c18] at H
                   have c18b0 : decide (x11_1 < (y229.length : Int)) = false := decide_eq_false c18
                   clear c18
                   by_cases c43 : x10_1 = 0
                   · as_aux_lemma =>
                     rw [if_pos c43] at H
                     have c43b0 : (x10_1 == 0) = true := beq_iff_eq.mpr c43
                     have c43b1 : (x10_1 != 0) = false := bne_eq_false_iff_eq.mpr c43
                     clear c43
                     by_cases c44 : (y229.length : Int) = (y233.length : Int)
                     · rw [if_pos c44] at H
                       have c44b0 : ((y229.length : Int) == (y233.length : Int)) = true := beq_iff_eq.mpr c44
                       have c44b1 : ((y229.length : Int) != (y233.length : Int)) = false := bne_eq_false_iff_eq.mpr c44
                       have c44b2 : (y229.length == y233.length) = true := by first | simpa using c44 | (simp at c44 ⊢; omega)
                       clear c44
                       replace H := Option.bind_eq_some_iff.mp H
                       obtain ⟨t257, A450, H⟩ := H
                       replace H : (if t257 = x10_1 then ((ckey_Compare.f t239 t237).bind fun t258 => (some (t258 == (wrap64 (-x10_1))))) else (none)) = some r := H
                       have A45 := Aside0.mk A450
                       clear A450
                       by_cases c46 : t257 = x10_1
                       · rw [if_pos c46] at H
                         have c46b0 : (t257 == x10_1) = true := beq_iff_eq.mpr c46
                         have c46b1 : (t257 != x10_1) = false := bne_eq_false_iff_eq.mpr c46
                         clear c46
                         replace H := Option.bind_eq_some_iff.mp H
                         obtain ⟨t258, A470, H⟩ := H
                         replace H : (some (t258 == (wrap64 (-x10_1)))) = some r := H
                         have A47 := Aside0.mk A470
                         clear A470
                         obtain rfl := Option.some.inj H
                         go_wp2_with (first | (go_at_call 35; (with_reducible refine (ckey_Compare.calls t237 t239 t257 _ A45.out).mono ?_); rintro e w' ⟨rfl, ⟨nd, rfl⟩⟩; (try first | exact ⟨rfl, _, World.drewN_drewN _ _ _⟩ | exact ⟨rfl, _, Eq.trans (World.drewN_drewN _ _ _) (congrArg (World.drewN _) (Nat.add_assoc _ _ _))⟩)) | (go_at_call 35; (with_reducible refine (ckey_Compare.calls t239 t237 t258 _ A47.out).mono ?_); rintro e w' ⟨rfl, ⟨nd, rfl⟩⟩; (try first | exact ⟨rfl, _, World.drewN_drewN _ _ _⟩ | exact ⟨rfl, _, Eq.trans (World.drewN_drewN _ _ _) (congrArg (World.drewN _) (Nat.add_assoc _ _ _))⟩)))
                         repeat (go_quiet (fail); try go_wp2_with (fail))
                         go_ret
                         exact ⟨by first | rfl | (simp [errW_none, errW_some] <;> rfl) | (simp [*, errW_none, errW_some] <;> rfl) | (first | (simp (disch := omega) [w64_s, errW_none, errW_some]; done) | (simp (disch := omega) [w64_s, errW_none, errW_some] <;> rfl)), by repeat (first | (with_reducible first | exact HB.out | apply below_alloc | apply pw_below_drewN | apply below_drew1) | exact HB.out)⟩
                       · rw [if_neg c46] at H
                         exact absurd H (by simp)
                     · rw [if_neg c44] at H
                       have c44b0 : ((y229.length : Int) == (y233.length : Int)) = false := beq_eq_false_iff_ne.mpr c44
                       have c44b1 : ((y229.length : Int) != (y233.length : Int)) = true := bne_iff_ne.mpr c44
                       have c44b2 : (y229.length == y233.length) = false := by first | simpa using c44 | (simp at c44 ⊢; omega)
                       by_cases c48 : (y229.length : Int) < (y233.length : Int)
                       · rw [if_pos c48] at H
                         have c48b0 : decide ((y229.length : Int) < (y233.length : Int)) = true := decide_eq_true c48
                         have c48b1 : decide (y229.length < y233.length) = true := decide_eq_true (Int.ofNat_lt.mp c48)
                         clear c48
                         replace H := Option.bind_eq_some_iff.mp H
                         obtain ⟨t259, A490, H⟩ := H
                         replace H : (if t259 = (-1) then ((ckey_Compare.f t239 t237).bind fun t260 => (some (t260 == (-(-1))))) else (none)) = some r := H
                         have A49 := Aside0.mk A490
                         clear A490
                         by_cases c50 : t259 = (-1)
                         · rw [if_pos c50] at H
                           have c50b0 : (t259 == (-1)) = true := beq_iff_eq.mpr c50
                           have c50b1 : (t259 != (-1)) = false := bne_eq_false_iff_eq.mpr c50
                           clear c50
                           replace H := Option.bind_eq_some_iff.mp H
                           obtain ⟨t260, A510, H⟩ := H
                           replace H : (some (t260 == (-(-1)))) = some r := H
                           have A51 := Aside0.mk A510
                           clear A510
                           obtain rfl := Option.some.inj H
                           go_wp2_with (first | (go_at_call 35; (with_reducible refine (ckey_Compare.calls t237 t239 t259 _ A49.out).mono ?_); rintro e w' ⟨rfl, ⟨nd, rfl⟩⟩; (try first | exact ⟨rfl, _, World.drewN_drewN _ _ _⟩ | exact ⟨rfl, _, Eq.trans (World.drewN_drewN _ _ _) (congrArg (World.drewN _) (Nat.add_assoc _ _ _))⟩)) | (go_at_call 35; (with_reducible refine (ckey_Compare.calls t239 t237 t260 _ A51.out).mono ?_); rintro e w' ⟨rfl, ⟨nd, rfl⟩⟩; (try first | exact ⟨rfl, _, World.drewN_drewN _ _ _⟩ | exact ⟨rfl, _, Eq.trans (World.drewN_drewN _ _ _) (congrArg (World.drewN _) (Nat.add_assoc _ _ _))⟩)))
                           repeat (go_quiet (fail); try go_wp2_with (fail))
                           go_ret
                           exact ⟨by first | rfl | (simp [errW_none, errW_some] <;> rfl) | (simp [*, errW_none, errW_some] <;> rfl) | (first | (simp (disch := omega) [w64_s, errW_none, errW_some]; done) | (simp (disch := omega) [w64_s, errW_none, errW_some] <;> rfl)), by repeat (first | (with_reducible first | exact HB.out | apply below_alloc | apply pw_below_drewN | apply below_drew1) | exact HB.out)⟩
                         · rw [if_neg c50] at H
                           exact absurd H (by simp)
                       · rw [if_neg c48] at H
                         have c48b0 : decide ((y229.length : Int) < (y233.length : Int)) = false := decide_eq_false c48
                         have c48b1 : decide (y229.length < y233.length) = false := decide_eq_false (fun h => c48 (Int.ofNat_lt.mpr h))
                         clear c48
                         replace H := Option.bind_eq_some_iff.mp H
                         obtain ⟨t261, A520, H⟩ := H
                         replace H : (if t261 = 1 then ((ckey_Compare.f t239 t237).bind fun t262 => (some (t262 == (-1)))) else (none)) = some r := H
                         have A52 := Aside0.mk A520
                         clear A520
                         by_cases c53 : t261 = 1
                         · rw [if_pos c53] at H
                           have c53b0 : (t261 == 1) = true := beq_iff_eq.mpr c53
                           have c53b1 : (t261 != 1) = false := bne_eq_false_iff_eq.mpr c53
                           clear c53
                           replace H := Option.bind_eq_some_iff.mp H
                           obtain ⟨t262, A540, H⟩ := H
                           replace H : (some (t262 == (-1))) = some r := H
                           have A54 := Aside0.mk A540
                           clear A540
                           obtain rfl := Option.some.inj H
                           go_wp2_with (first | (go_at_call 35; (with_reducible refine (ckey_Compare.calls t237 t239 t261 _ A52.out).mono ?_); rintro e w' ⟨rfl, ⟨nd, rfl⟩⟩; (try first | exact ⟨rfl, _, World.drewN_drewN _ _ _⟩ | exact ⟨rfl, _, Eq.trans (World.drewN_drewN _ _ _) (congrArg (World.drewN _) (Nat.add_assoc _ _ _))⟩)) | (go_at_call 35; (with_reducible refine (ckey_Compare.calls t239 t237 t262 _ A54.out).mono ?_); rintro e w' ⟨rfl, ⟨nd, rfl⟩⟩; (try first | exact ⟨rfl, _, World.drewN_drewN _ _ _⟩ | exact ⟨rfl, _, Eq.trans (World.drewN_drewN _ _ _) (congrArg (World.drewN _) (Nat.add_assoc _ _ _))⟩)))
                           repeat (go_quiet (fail); try go_wp2_with (fail))
                           go_ret
                           exact ⟨by first | rfl | (simp [errW_none, errW_some] <;> rfl) | (simp [*, errW_none, errW_some] <;> rfl) | (first | (simp (disch := omega) [w64_s, errW_none, errW_some]; done) | (simp (disch := omega) [w64_s, errW_none, errW_some] <;> rfl)), by repeat (first | (with_reducible first | exact HB.out | apply below_alloc | apply pw_below_drewN | apply below_drew1) | exact HB.out)⟩
                         · rw [if_neg c53] at H
                           exact absurd H (by simp)
                   · rw [if_neg c43] at H
                     have c43b0 : (x10_1 == 0) = false := beq_eq_false_iff_ne.mpr c43
                     have c43b1 : (x10_1 != 0) = true := bne_iff_ne.mpr c43
                     replace H := Option.bind_eq_some_iff.mp H
                     obtain ⟨t263, A550, H⟩ := H
                     replace H : (if t263 = x10_1 then ((ckey_Compare.f t239 t237).bind fun t264 => (some (t264 == (wrap64 (-x10_1))))) else (none)) = some r := H
                     have A55 := Aside0.mk A550
                     clear A550
                     by_cases c56 : t263 = x10_1
                     · rw [if_pos c56] at H
                       have c56b0 : (t263 == x10_1) = true := beq_iff_eq.mpr c56
                       have c56b1 : (t263 != x10_1) = false := bne_eq_false_iff_eq.mpr c56
                       clear c56
                       replace H := Option.bind_eq_some_iff.mp H
                       obtain ⟨t264, A570, H⟩ := H
                       replace H : (some (t264 == (wrap64 (-x10_1)))) = some r := H
                       have A57 := Aside0.mk A570
                       clear A570
                       obtain rfl := Option.some.inj H
                       go_wp2_with (first | (go_at_call 35; (with_reducible refine (ckey_Compare.calls t237 t239 t263 _ A55.out).mono ?_); rintro e w' ⟨rfl, ⟨nd, rfl⟩⟩; (try first | exact ⟨rfl, _, World.drewN_drewN _ _ _⟩ | exact ⟨rfl, _, Eq.trans (World.drewN_drewN _ _ _) (congrArg (World.drewN _) (Nat.add_assoc _ _ _))⟩)) | (go_at_call 35; (with_reducible refine (ckey_Compare.calls t239 t237 t264 _ A57.out).mono ?_); rintro e w' ⟨rfl, ⟨nd, rfl⟩⟩; (try first | exact ⟨rfl, _, World.drewN_drewN _ _ _⟩ | exact ⟨rfl, _, Eq.trans (World.drewN_drewN _ _ _) (congrArg (World.drewN _) (Nat.add_assoc _ _ _))⟩)))
                       repeat (go_quiet (fail); try go_wp2_with (fail))
                       go_ret
                       exact ⟨by first | rfl | (simp [errW_none, errW_some] <;> rfl) | (simp [*, errW_none, errW_some] <;> rfl) | (first | (simp (disch := omega) [w64_s, errW_none, errW_some]; done) | (simp (disch := omega) [w64_s, errW_none, errW_some] <;> rfl)), by repeat (first | (with_reducible first | exact HB.out | apply below_alloc | apply pw_below_drewN | apply below_drew1) | exact HB.out)⟩
                     · rw [if_neg c56] at H
                       exact absurd H (by simp)
             · replace c12 := Bool.eq_false_iff.mpr c12
               subst c12
               have H1 : (some true) = some r := by rw [if_neg (show ¬ (false = true) by decide)] at H; exact H
               clear H
               have H := H1
               clear H1
               obtain rfl := Option.some.inj H
               go_enter Try.func11, Try.ntmps11
               go_wp2_with (first | (go_at_call 29; (with_reducible refine (incipitlaw6_begun.calls  true _ A3.out).mono ?_); rintro e w58 ⟨rfl, hb⟩; have n0_ := Aside0.mk (below_step (by repeat (first | (with_reducible first | exact HB.out | apply below_alloc | apply pw_below_drewN | apply below_drew1) | exact HB.out)) hb); clear HB; have HB := n0_; clear n0_; (try clear hb); (try clear hb2); (try clear hk); (try clear hi); have q59 : (20 : Int) ≤ ((l0.length : Int) : Int) := of_decide_eq_true (by first | (with_reducible assumption) | assumption); obtain ⟨i059, hi059, _, hsz59, _⟩ := info_parts info3; have hroom59 : l0.length ≤ c0 := HC0.out; have hC59 : Kd.C (Kd.int .i64) _ A0 l0.length l0 := HR0.out; have hcut59 := cut_to (P := Try.prog) 22 3 .i64 Try.underlying22 hi059 A0 l0.length c0 20 (by omega) q59 hroom59; have hr59 := Kd.C_take (m := 20) hC59 (by omega); have hy59 : y229.length = (20 : Int).toNat := (by rw [Ny229.out, List.length_take]; omega); rw [← Ny229.out] at hr59; rw [← hy59] at hcut59; have HR232 := Aside0.mk hr59; have HC232 := Aside0.mk (show y229.length ≤ c0 from by omega); clear hr59 hC59 hroom59 hi059 hsz59; have KY59 := Aside0.mk hy59; clear hy59; replace q59 := eq_true q59; have q60 : (20 : Int) ≤ ((l1.length : Int) : Int) := of_decide_eq_true (by first | (with_reducible assumption) | assumption); obtain ⟨i060, hi060, _, hsz60, _⟩ := info_parts info3; have hroom60 : l1.length ≤ c1 := HC1.out; have hC60 : Kd.C (Kd.int .i64) _ A1 l1.length l1 := HR1.out; have hcut60 := cut_to (P := Try.prog) 22 3 .i64 Try.underlying22 hi060 A1 l1.length c1 20 (by omega) q60 hroom60; have hr60 := Kd.C_take (m := 20) hC60 (by omega); have hy60 : y233.length = (20 : Int).toNat := (by rw [Ny233.out, List.length_take]; omega); rw [← Ny233.out] at hr60; rw [← hy60] at hcut60; have HR236 := Aside0.mk hr60; have HC236 := Aside0.mk (show y233.length ≤ c1 from by omega); clear hr60 hC60 hroom60 hi060 hsz60; have KY60 := Aside0.mk hy60; clear hy60; replace q60 := eq_true q60) | (go_at_call 34; (with_reducible refine (incipitref1_Write.calls k _ _ y229 t237 true _ ?side1 ?side2 A9.out).mono ?_); (case side1 => repeat (first | exact (Kd.C_below HR232.out HB.out) | (with_reducible refine Kd.C_alloc ?_ _) | (with_reducible refine Kd.C_drewN ?_ _) | (with_reducible refine Kd.C_drew ?_))); (case side2 => exact HC232.out); rintro e w61 ⟨rfl, hb⟩; have n0_ := Aside0.mk (below_step (by repeat (first | (with_reducible first | exact HB.out | apply below_alloc | apply pw_below_drewN | apply below_drew1) | exact HB.out)) hb); clear HB; have HB := n0_; clear n0_; (try clear hb); (try clear hb2); (try clear hk); (try clear hi)) | (go_at_call 34; (with_reducible refine (incipitref1_Write.calls k _ _ y233 t239 false _ ?side1 ?side2 A10.out).mono ?_); (case side1 => repeat (first | exact (Kd.C_below HR236.out HB.out) | (with_reducible refine Kd.C_alloc ?_ _) | (with_reducible refine Kd.C_drewN ?_ _) | (with_reducible refine Kd.C_drew ?_))); (case side2 => exact HC236.out); rintro e w62 ⟨rfl, hb⟩; have n0_ := Aside0.mk (below_step (by repeat (first | (with_reducible first | exact HB.out | apply below_alloc | apply pw_below_drewN | apply below_drew1) | exact HB.out)) hb); clear HB; have HB := n0_; clear n0_; (try clear hb); (try clear hb2); (try clear hk); (try clear hi)))
               repeat (go_quiet (fail); try go_wp2_with (fail))
               go_ret
               exact ⟨by first | rfl | (simp [errW_none, errW_some] <;> rfl) | (simp [*, errW_none, errW_some] <;> rfl) | (first | (simp (disch := omega) [w64_s, errW_none, errW_some]; done) | (simp (disch := omega) [w64_s, errW_none, errW_some] <;> rfl)), by repeat (first | (with_reducible first | exact HB.out | apply below_alloc | apply pw_below_drewN | apply below_drew1) | exact HB.out)⟩
           · replace c11 := Bool.eq_false_iff.mpr c11
             subst c11
             have H1 : (some true) = some r := by rw [if_neg (show ¬ (false = true) by decide)] at H; exact H
             clear H
             have H := H1
             clear H1
             obtain rfl := Option.some.inj H
             go_enter Try.func11, Try.ntmps11
             go_wp2_with (first | (go_at_call 29; (with_reducible refine (incipitlaw6_begun.calls  true _ A3.out).mono ?_); rintro e w63 ⟨rfl, hb⟩; have n0_ := Aside0.mk (below_step (by repeat (first | (with_reducible first | exact HB.out | apply below_alloc | apply pw_below_drewN | apply below_drew1) | exact HB.out)) hb); clear HB; have HB := n0_; clear n0_; (try clear hb); (try clear hb2); (try clear hk); (try clear hi); have q64 : (20 : Int) ≤ ((l0.length : Int) : Int) := of_decide_eq_true (by first | (with_reducible assumption) | assumption); obtain ⟨i064, hi064, _, hsz64, _⟩ := info_parts info3; have hroom64 : l0.length ≤ c0 := HC0.out; have hC64 : Kd.C (Kd.int .i64) _ A0 l0.length l0 := HR0.out; have hcut64 := cut_to (P := Try.prog) 22 3 .i64 Try.underlying22 hi064 A0 l0.length c0 20 (by omega) q64 hroom64; have hr64 := Kd.C_take (m := 20) hC64 (by omega); have hy64 : y229.length = (20 : Int).toNat := (by rw [Ny229.out, List.length_take]; omega); rw [← Ny229.out] at hr64; rw [← hy64] at hcut64; have HR232 := Aside0.mk hr64; have HC232 := Aside0.mk (show y229.length ≤ c0 from by omega); clear hr64 hC64 hroom64 hi064 hsz64; have KY64 := Aside0.mk hy64; clear hy64; replace q64 := eq_true q64; have q65 : (20 : Int) ≤ ((l1.length : Int) : Int) := of_decide_eq_true (by first | (with_reducible assumption) | assumption); obtain ⟨i065, hi065, _, hsz65, _⟩ := info_parts info3; have hroom65 : l1.length ≤ c1 := HC1.out; have hC65 : Kd.C (Kd.int .i64) _ A1 l1.length l1 := HR1.out; have hcut65 := cut_to (P := Try.prog) 22 3 .i64 Try.underlying22 hi065 A1 l1.length c1 20 (by omega) q65 hroom65; have hr65 := Kd.C_take (m := 20) hC65 (by omega); have hy65 : y233.length = (20 : Int).toNat := (by rw [Ny233.out, List.length_take]; omega); rw [← Ny233.out] at hr65; rw [← hy65] at hcut65; have HR236 := Aside0.mk hr65; have HC236 := Aside0.mk (show y233.length ≤ c1 from by omega); clear hr65 hC65 hroom65 hi065 hsz65; have KY65 := Aside0.mk hy65; clear hy65; replace q65 := eq_true q65) | (go_at_call 34; (with_reducible refine (incipitref1_Write.calls k _ _ y229 t237 false _ ?side1 ?side2 A9.out).mono ?_); (case side1 => repeat (first | exact (Kd.C_below HR232.out HB.out) | (with_reducible refine Kd.C_alloc ?_ _) | (with_reducible refine Kd.C_drewN ?_ _) | (with_reducible refine Kd.C_drew ?_))); (case side2 => exact HC232.out); rintro e w66 ⟨rfl, hb⟩; have n0_ := Aside0.mk (below_step (by repeat (first | (with_reducible first | exact HB.out | apply below_alloc | apply pw_below_drewN | apply below_drew1) | exact HB.out)) hb); clear HB; have HB := n0_; clear n0_; (try clear hb); (try clear hb2); (try clear hk); (try clear hi)) | (go_at_call 34; (with_reducible refine (incipitref1_Write.calls k _ _ y233 t239 t240 _ ?side1 ?side2 A10.out).mono ?_); (case side1 => repeat (first | exact (Kd.C_below HR236.out HB.out) | (with_reducible refine Kd.C_alloc ?_ _) | (with_reducible refine Kd.C_drewN ?_ _) | (with_reducible refine Kd.C_drew ?_))); (case side2 => exact HC236.out); rintro e w67 ⟨rfl, hb⟩; have n0_ := Aside0.mk (below_step (by repeat (first | (with_reducible first | exact HB.out | apply below_alloc | apply pw_below_drewN | apply below_drew1) | exact HB.out)) hb); clear HB; have HB := n0_; clear n0_; (try clear hb); (try clear hb2); (try clear hk); (try clear hi)))
             repeat (go_quiet (fail); try go_wp2_with (fail))
             go_ret
             exact ⟨by first | rfl | (simp [errW_none, errW_some] <;> rfl) | (simp [*, errW_none, errW_some] <;> rfl) | (first | (simp (disch := omega) [w64_s, errW_none, errW_some]; done) | (simp (disch := omega) [w64_s, errW_none, errW_some] <;> rfl)), by repeat (first | (with_reducible first | exact HB.out | apply below_alloc | apply pw_below_drewN | apply below_drew1) | exact HB.out)⟩
         · rw [if_neg c8] at H
           exact absurd H (by simp)
       · as_aux_lemma =>
         rw [if_neg c7] at H
         have c7b0 : decide (20 < (l1.length : Int)) = false := decide_eq_false c7
         have c7b1 : decide (20 < l1.length) = false := decide_eq_false (by omega)
         clear c7
         replace H := Option.bind_eq_some_iff.mp H
         obtain ⟨⟨t265, t266⟩, A680, H⟩ := H
         replace H : ((incipitref1_Write.f k l1).bind fun bt267 => (if t266 = true then (if bt267.2 = true then (incipitlaw6_KeyOrder.l101 k y229 l1 t265 bt267.1 0 0) else (some true)) else (some true))) = some r := H
         have A68 := Aside0.mk A680
         clear A680
         replace H := Option.bind_eq_some_iff.mp H
         obtain ⟨⟨t267, t268⟩, A690, H⟩ := H
         replace H : (if t266 = true then (if t268 = true then (incipitlaw6_KeyOrder.l101 k y229 l1 t265 t267 0 0) else (some true)) else (some true)) = some r := H
         have A69 := Aside0.mk A690
         clear A690
         by_cases c70 : t266 = true
         · subst c70
           have H1 : (if t268 = true then (incipitlaw6_KeyOrder.l101 k y229 l1 t265 t267 0 0) else (some true)) = some r := by rw [if_pos rfl] at H; exact H
           clear H
           have H := H1
           clear H1
           by_cases c71 : t268 = true
           · subst c71
             have H1 : (incipitlaw6_KeyOrder.l101 k y229 l1 t265 t267 0 0) = some r := by rw [if_pos rfl] at H; exact H
             clear H
             have H := H1
             clear H1
             have H' := Aside0.mk H
             clear H
             go_enter Try.func11, Try.ntmps11
             go_wp2_with (first | (go_at_call 29; (with_reducible refine (incipitlaw6_begun.calls  true _ A3.out).mono ?_); rintro e w72 ⟨rfl, hb⟩; have n0_ := Aside0.mk (below_step (by repeat (first | (with_reducible first | exact HB.out | apply below_alloc | apply pw_below_drewN | apply below_drew1) | exact HB.out)) hb); clear HB; have HB := n0_; clear n0_; (try clear hb); (try clear hb2); (try clear hk); (try clear hi); have q73 : (20 : Int) ≤ ((l0.length : Int) : Int) := of_decide_eq_true (by first | (with_reducible assumption) | assumption); obtain ⟨i073, hi073, _, hsz73, _⟩ := info_parts info3; have hroom73 : l0.length ≤ c0 := HC0.out; have hC73 : Kd.C (Kd.int .i64) _ A0 l0.length l0 := HR0.out; have hcut73 := cut_to (P := Try.prog) 22 3 .i64 Try.underlying22 hi073 A0 l0.length c0 20 (by omega) q73 hroom73; have hr73 := Kd.C_take (m := 20) hC73 (by omega); have hy73 : y229.length = (20 : Int).toNat := (by rw [Ny229.out, List.length_take]; omega); rw [← Ny229.out] at hr73; rw [← hy73] at hcut73; have HR232 := Aside0.mk hr73; have HC232 := Aside0.mk (show y229.length ≤ c0 from by omega); clear hr73 hC73 hroom73 hi073 hsz73; have KY73 := Aside0.mk hy73; clear hy73; replace q73 := eq_true q73) | (go_at_call 34; (with_reducible refine (incipitref1_Write.calls k _ _ y229 t265 true _ ?side1 ?side2 A68.out).mono ?_); (case side1 => repeat (first | exact (Kd.C_below HR232.out HB.out) | (with_reducible refine Kd.C_alloc ?_ _) | (with_reducible refine Kd.C_drewN ?_ _) | (with_reducible refine Kd.C_drew ?_))); (case side2 => exact HC232.out); rintro e w74 ⟨rfl, hb⟩; have n0_ := Aside0.mk (below_step (by repeat (first | (with_reducible first | exact HB.out | apply below_alloc | apply pw_below_drewN | apply below_drew1) | exact HB.out)) hb); clear HB; have HB := n0_; clear n0_; (try clear hb); (try clear hb2); (try clear hk); (try clear hi)) | (go_at_call 34; (with_reducible refine (incipitref1_Write.calls k _ _ l1 t267 true _ ?side1 ?side2 A69.out).mono ?_); (case side1 => repeat (first | exact (Kd.C_below HR1.out HB.out) | (with_reducible refine Kd.C_alloc ?_ _) | (with_reducible refine Kd.C_drewN ?_ _) | (with_reducible refine Kd.C_drew ?_))); (case side2 => exact HC1.out); rintro e w75 ⟨rfl, hb⟩; have n0_ := Aside0.mk (below_step (by repeat (first | (with_reducible first | exact HB.out | apply below_alloc | apply pw_below_drewN | apply below_drew1) | exact HB.out)) hb); clear HB; have HB := n0_; clear n0_; (try clear hb); (try clear hb2); (try clear hk); (try clear hi)))
             repeat (go_quiet (fail); try go_wp2_with (fail))
             try simp only [Act.put, List.setIfInBounds_toArray, List.set_cons_succ, List.set_cons_zero]
             go_loopg [10, 11] k (fun kq v10 v11 w' => ∃ (x10_1 : Int) (x11_1 : Int), v10 = .int .i64 x10_1 ∧ v11 = .int .i64 x11_1 ∧ Aside0 (incipitlaw6_KeyOrder.l101 kq y229 l1 t265 t267 x10_1 x11_1 = some r) ∧ Aside0 (kq ≤ k) ∧ Aside0 (Below w.heap.size w w'))
             case atStart => exact ⟨(0), (0), (by first | rfl | (simp; done) | (simp [*]; done)), (by first | rfl | (simp; done) | (simp [*]; done)), H', ⟨Nat.le_refl _⟩, ⟨by repeat (first | (with_reducible first | exact HB.out | apply below_alloc | apply pw_below_drewN | apply below_drew1) | exact HB.out)⟩⟩
             case round =>
              clear H'
              (try clear c1); (try clear q1); (try clear c2); (try clear p2); (try clear q2); (try clear hx2); (try clear c3); (try clear c4); (try clear c5); (try clear c5b0); (try clear c5b1); (try clear q5); (try clear c6); (try clear c6b0); (try clear c6b1); (try clear p6); (try clear q6); (try clear c7); (try clear c7b0); (try clear c7b1); (try clear q7); (try clear c8); (try clear c8b0); (try clear c8b1); (try clear c11); (try clear c12); (try clear q14); (try clear q15); (try clear c18); (try clear c18b0); (try clear c19); (try clear c19b0); (try clear c20); (try clear c20b0); (try clear c20b1); (try clear c21); (try clear c21b0); (try clear c22); (try clear c22b0); (try clear c23); (try clear c23b0); (try clear c24); (try clear c24b0); (try clear p24); (try clear q24); (try clear hx24); (try clear c26); (try clear c26b0); (try clear c26b1); (try clear c28); (try clear c28b0); (try clear c28b1); (try clear c29); (try clear c29b0); (try clear c29b1); (try clear c29b2); (try clear c31); (try clear c31b0); (try clear c31b1); (try clear c33); (try clear c33b0); (try clear c33b1); (try clear c35); (try clear c35b0); (try clear c35b1); (try clear c38); (try clear c38b0); (try clear c38b1); (try clear c41); (try clear c41b0); (try clear c41b1); (try clear c43); (try clear c43b0); (try clear c43b1); (try clear c44); (try clear c44b0); (try clear c44b1); (try clear c44b2); (try clear c46); (try clear c46b0); (try clear c46b1); (try clear c48); (try clear c48b0); (try clear c48b1); (try clear c50); (try clear c50b0); (try clear c50b1); (try clear c53); (try clear c53b0); (try clear c53b1); (try clear c56); (try clear c56b0); (try clear c56b1); (try clear q59); (try clear q60); (try clear p64); (try clear q64); (try clear q65); (try clear c70); (try clear c71); (try clear q73); (try clear hx241_0); (try clear hx242_0); (try clear hx243_0); (try clear hx244_0); (try clear hx245_0); (try clear hx246_0); (try clear p2); (try clear p241); (try clear p242); (try clear p243); (try clear p244); (try clear p245); (try clear p246); (try clear q1); (try clear q14); (try clear q15); (try clear q241); (try clear q242); (try clear q243); (try clear q244); (try clear q245); (try clear q246); (try clear q59); (try clear q60); (try clear q64); (try clear q65); (try clear q73)
              obtain ⟨x10_1, x11_1, rfl, rfl, HA, HK1, HB⟩ := hrel
              cases gk with
              | zero => exact absurd HA.out (by simp [incipitlaw6_KeyOrder.l101])
              | succ k1 =>
               have H := HA.out
               clear HA
               simp only [incipitlaw6_KeyOrder.l101] at H
               by_cases c76 : x11_1 < (y229.length : Int)
               · as_aux_lemma =>
                 rw [if_pos c76] at H
                 have c76b0 : decide (x11_1 < (y229.length : Int)) = true := decide_eq_true c76
                 clear c76
                 by_cases c77 : x11_1 < (l1.length : Int)
                 · as_aux_lemma =>
                   rw [if_pos c77] at H
                   have c77b0 : decide (x11_1 < (l1.length : Int)) = true := decide_eq_true c77
                   clear c77
                   by_cases c78 : x10_1 = 0
                   · as_aux_lemma =>
                     rw [if_pos c78] at H
                     have c78b0 : (x10_1 == 0) = true := beq_iff_eq.mpr c78
                     have c78b1 : (x10_1 != 0) = false := bne_eq_false_iff_eq.mpr c78
                     clear c78
                     by_cases c79 : 0 ≤ x11_1
                     · as_aux_lemma =>
                       rw [if_pos c79] at H
                       have c79b0 : decide (0 ≤ x11_1) = true := decide_eq_true c79
                       clear c79
                       by_cases c80 : (rd y229 x11_1) < (rd l1 x11_1)
                       · as_aux_lemma =>
                         rw [if_pos c80] at H
                         have c80b0 : decide ((rd y229 x11_1) < (rd l1 x11_1)) = true := decide_eq_true c80
                         clear c80
                         by_cases c81 : (rd y229 x11_1) > (rd l1 x11_1)
                         · rw [if_pos c81] at H
                           have c81b0 : decide ((rd l1 x11_1) < (rd y229 x11_1)) = true := decide_eq_true c81
                           clear c81
                           have H' := Aside0.mk H
                           clear H
                           have p269 : 0 ≤ (x11_1 : Int) := of_decide_eq_true (by first | (with_reducible assumption) | assumption)
                           have q269 : x11_1 < (y229.length : Int) := of_decide_eq_true (by first | (with_reducible assumption) | assumption)
                           obtain ⟨ad269, e269, hx269_0⟩ := Kd.at_int HR232.out x11_1 p269 q269
                           cases e269
                           replace hx269_0 := (HB.out.cell (World.block_lt_of_cell? w _ hx269_0)).trans hx269_0
                           replace p269 := eq_true p269
                           replace q269 := eq_true q269
                           have p270 : 0 ≤ (x11_1 : Int) := of_decide_eq_true (by first | (with_reducible assumption) | assumption)
                           have q270 : x11_1 < (l1.length : Int) := of_decide_eq_true (by first | (with_reducible assumption) | assumption)
                           obtain ⟨ad270, e270, hx270_0⟩ := Kd.at_int HR1.out x11_1 p270 q270
                           cases e270
                           replace hx270_0 := (HB.out.cell (World.block_lt_of_cell? w _ hx270_0)).trans hx270_0
                           replace p270 := eq_true p270
                           replace q270 := eq_true q270
                           have p271 : 0 ≤ (x11_1 : Int) := of_decide_eq_true (by first | (with_reducible assumption) | assumption)
                           have q271 : x11_1 < (y229.length : Int) := of_decide_eq_true (by first | (with_reducible assumption) | assumption)
                           obtain ⟨ad271, e271, hx271_0⟩ := Kd.at_int HR232.out x11_1 p271 q271
                           obtain rfl : ad269 = ad271 := (by injection e271)
                           replace hx271_0 := (HB.out.cell (World.block_lt_of_cell? w _ hx271_0)).trans hx271_0
                           replace p271 := eq_true p271
                           replace q271 := eq_true q271
                           have p272 : 0 ≤ (x11_1 : Int) := of_decide_eq_true (by first | (with_reducible assumption) | assumption)
                           have q272 : x11_1 < (l1.length : Int) := of_decide_eq_true (by first | (with_reducible assumption) | assumption)
                           obtain ⟨ad272, e272, hx272_0⟩ := Kd.at_int HR1.out x11_1 p272 q272
                           obtain rfl : ad270 = ad272 := (by injection e272)
                           replace hx272_0 := (HB.out.cell (World.block_lt_of_cell? w _ hx272_0)).trans hx272_0
                           replace p272 := eq_true p272
                           replace q272 := eq_true q272
                           go_wp2
                           repeat (go_quiet (fail); try go_wp2)
                           go_roundg k1
                           case measure => have := HK1.out; omega
                           case rel => exact ⟨(1), (wrap64 (x11_1 + 1)), (by first | rfl | (simp; done) | (simp [*]; done)), (by first | rfl | (simp; done) | (simp [*]; done)), H', ⟨by have := HK1.out; omega⟩, ⟨by repeat (first | (with_reducible first | exact HB.out | apply below_alloc | apply pw_below_drewN | apply below_drew1) | exact HB.out)⟩⟩
                         · rw [if_neg c81] at H
                           have c81b0 : decide ((rd l1 x11_1) < (rd y229 x11_1)) = false := decide_eq_false c81
                           clear c81
                           have H' := Aside0.mk H
                           clear H
                           have p269 : 0 ≤ (x11_1 : Int) := of_decide_eq_true (by first | (with_reducible assumption) | assumption)
                           have q269 : x11_1 < (y229.length : Int) := of_decide_eq_true (by first | (with_reducible assumption) | assumption)
                           obtain ⟨ad269, e269, hx269_0⟩ := Kd.at_int HR232.out x11_1 p269 q269
                           cases e269
                           replace hx269_0 := (HB.out.cell (World.block_lt_of_cell? w _ hx269_0)).trans hx269_0
                           replace p269 := eq_true p269
                           replace q269 := eq_true q269
                           have p270 : 0 ≤ (x11_1 : Int) := of_decide_eq_true (by first | (with_reducible assumption) | assumption)
                           have q270 : x11_1 < (l1.length : Int) := of_decide_eq_true (by first | (with_reducible assumption) | assumption)
                           obtain ⟨ad270, e270, hx270_0⟩ := Kd.at_int HR1.out x11_1 p270 q270
                           cases e270
                           replace hx270_0 := (HB.out.cell (World.block_lt_of_cell? w _ hx270_0)).trans hx270_0
                           replace p270 := eq_true p270
                           replace q270 := eq_true q270
                           have p271 : 0 ≤ (x11_1 : Int) := of_decide_eq_true (by first | (with_reducible assumption) | assumption)
                           have q271 : x11_1 < (y229.length : Int) := of_decide_eq_true (by first | (with_reducible assumption) | assumption)
                           obtain ⟨ad271, e271, hx271_0⟩ := Kd.at_int HR232.out x11_1 p271 q271
                           obtain rfl : ad269 = ad271 := (by injection e271)
                           replace hx271_0 := (HB.out.cell (World.block_lt_of_cell? w _ hx271_0)).trans hx271_0
                           replace p271 := eq_true p271
                           replace q271 := eq_true q271
                           have p272 : 0 ≤ (x11_1 : Int) := of_decide_eq_true (by first | (with_reducible assumption) | assumption)
                           have q272 : x11_1 < (l1.length : Int) := of_decide_eq_true (by first | (with_reducible assumption) | assumption)
                           obtain ⟨ad272, e272, hx272_0⟩ := Kd.at_int HR1.out x11_1 p272 q272
                           obtain rfl : ad270 = ad272 := (by injection e272)
                           replace hx272_0 := (HB.out.cell (World.block_lt_of_cell? w _ hx272_0)).trans hx272_0
                           replace p272 := eq_true p272
                           replace q272 := eq_true q272
                           go_wp2
                           repeat (go_quiet (fail); try go_wp2)
                           go_roundg k1
                           case measure => have := HK1.out; omega
                           case rel => exact ⟨((-1)), (wrap64 (x11_1 + 1)), (by first | rfl | (simp; done) | (simp [*]; done)), (by first | rfl | (simp; done) | (simp [*]; done)), H', ⟨by have := HK1.out; omega⟩, ⟨by repeat (first | (with_reducible first | exact HB.out | apply below_alloc | apply pw_below_drewN | apply below_drew1) | exact HB.out)⟩⟩
                       · as_aux_lemma =>
                         rw [if_neg c80] at H
                         have c80b0 : decide ((rd y229 x11_1) < (rd l1 x11_1)) = false := decide_eq_false c80
                         clear c80
                         by_cases c82 : (rd y229 x11_1) > (rd l1 x11_1)
                         · rw [if_pos c82] at H
                           have c82b0 : decide ((rd l1 x11_1) < (rd y229 x11_1)) = true := decide_eq_true c82
                           clear c82
                           have H' := Aside0.mk H
                           clear H
                           have p269 : 0 ≤ (x11_1 : Int) := of_decide_eq_true (by first | (with_reducible assumption) | assumption)
                           have q269 : x11_1 < (y229.length : Int) := of_decide_eq_true (by first | (with_reducible assumption) | assumption)
                           obtain ⟨ad269, e269, hx269_0⟩ := Kd.at_int HR232.out x11_1 p269 q269
                           cases e269
                           replace hx269_0 := (HB.out.cell (World.block_lt_of_cell? w _ hx269_0)).trans hx269_0
                           replace p269 := eq_true p269
                           replace q269 := eq_true q269
                           have p270 : 0 ≤ (x11_1 : Int) := of_decide_eq_true (by first | (with_reducible assumption) | assumption)
                           have q270 : x11_1 < (l1.length : Int) := of_decide_eq_true (by first | (with_reducible assumption) | assumption)
                           obtain ⟨ad270, e270, hx270_0⟩ := Kd.at_int HR1.out x11_1 p270 q270
                           cases e270
                           replace hx270_0 := (HB.out.cell (World.block_lt_of_cell? w _ hx270_0)).trans hx270_0
                           replace p270 := eq_true p270
                           replace q270 := eq_true q270
                           have p273 : 0 ≤ (x11_1 : Int) := of_decide_eq_true (by first | (with_reducible assumption) | assumption)
                           have q273 : x11_1 < (y229.length : Int) := of_decide_eq_true (by first | (with_reducible assumption) | assumption)
                           obtain ⟨ad273, e273, hx273_0⟩ := Kd.at_int HR232.out x11_1 p273 q273
                           obtain rfl : ad269 = ad273 := (by injection e273)
                           replace hx273_0 := (HB.out.cell (World.block_lt_of_cell? w _ hx273_0)).trans hx273_0
                           replace p273 := eq_true p273
                           replace q273 := eq_true q273
                           have p274 : 0 ≤ (x11_1 : Int) := of_decide_eq_true (by first | (with_reducible assumption) | assumption)
                           have q274 : x11_1 < (l1.length : Int) := of_decide_eq_true (by first | (with_reducible assumption) | assumption)
                           obtain ⟨ad274, e274, hx274_0⟩ := Kd.at_int HR1.out x11_1 p274 q274
                           obtain rfl : ad270 = ad274 := (by injection e274)
                           replace hx274_0 := (HB.out.cell (World.block_lt_of_cell? w _ hx274_0)).trans hx274_0
                           replace p274 := eq_true p274
                           replace q274 := eq_true q274
                           go_wp2
                           repeat (go_quiet (fail); try go_wp2)
                           go_roundg k1
                           case measure => have := HK1.out; omega
                           case rel => exact ⟨(1), (wrap64 (x11_1 + 1)), (by first | rfl | (simp; done) | (simp [*]; done)), (by first | rfl | (simp; done) | (simp [*]; done)), H', ⟨by have := HK1.out; omega⟩, ⟨by repeat (first | (with_reducible first | exact HB.out | apply below_alloc | apply pw_below_drewN | apply below_drew1) | exact HB.out)⟩⟩
                         · rw [if_neg c82] at H
                           have c82b0 : decide ((rd l1 x11_1) < (rd y229 x11_1)) = false := decide_eq_false c82
                           clear c82
                           have H' := Aside0.mk H
                           clear H
                           have p269 : 0 ≤ (x11_1 : Int) := of_decide_eq_true (by first | (with_reducible assumption) | assumption)
                           have q269 : x11_1 < (y229.length : Int) := of_decide_eq_true (by first | (with_reducible assumption) | assumption)
                           obtain ⟨ad269, e269, hx269_0⟩ := Kd.at_int HR232.out x11_1 p269 q269
                           cases e269
                           replace hx269_0 := (HB.out.cell (World.block_lt_of_cell? w _ hx269_0)).trans hx269_0
                           replace p269 := eq_true p269
                           replace q269 := eq_true q269
                           have p270 : 0 ≤ (x11_1 : Int) := of_decide_eq_true (by first | (with_reducible assumption) | assumption)
                           have q270 : x11_1 < (l1.length : Int) := of_decide_eq_true (by first | (with_reducible assumption) | assumption)
                           obtain ⟨ad270, e270, hx270_0⟩ := Kd.at_int HR1.out x11_1 p270 q270
                           cases e270
                           replace hx270_0 := (HB.out.cell (World.block_lt_of_cell? w _ hx270_0)).trans hx270_0
                           replace p270 := eq_true p270
                           replace q270 := eq_true q270
                           have p273 : 0 ≤ (x11_1 : Int) := of_decide_eq_true (by first | (with_reducible assumption) | assumption)
                           have q273 : x11_1 < (y229.length : Int) := of_decide_eq_true (by first | (with_reducible assumption) | assumption)
                           obtain ⟨ad273, e273, hx273_0⟩ := Kd.at_int HR232.out x11_1 p273 q273
                           obtain rfl : ad269 = ad273 := (by injection e273)
                           replace hx273_0 := (HB.out.cell (World.block_lt_of_cell? w _ hx273_0)).trans hx273_0
                           replace p273 := eq_true p273
                           replace q273 := eq_true q273
                           have p274 : 0 ≤ (x11_1 : Int) := of_decide_eq_true (by first | (with_reducible assumption) | assumption)
                           have q274 : x11_1 < (l1.length : Int) := of_decide_eq_true (by first | (with_reducible assumption) | assumption)
                           obtain ⟨ad274, e274, hx274_0⟩ := Kd.at_int HR1.out x11_1 p274 q274
                           obtain rfl : ad270 = ad274 := (by injection e274)
                           replace hx274_0 := (HB.out.cell (World.block_lt_of_cell? w _ hx274_0)).trans hx274_0
                           replace p274 := eq_true p274
                           replace q274 := eq_true q274
                           go_wp2
                           repeat (go_quiet (fail); try go_wp2)
                           go_roundg k1
                           case measure => have := HK1.out; omega
                           case rel => exact ⟨(x10_1), (wrap64 (x11_1 + 1)), (by first | rfl | (simp; done) | (simp [*]; done)), (by first | rfl | (simp; done) | (simp [*]; done)), H', ⟨by have := HK1.out; omega⟩, ⟨by repeat (first | (with_reducible first | exact HB.out | apply below_alloc | apply pw_below_drewN | apply below_drew1) | exact HB.out)⟩⟩
                     · rw [if_neg c79] at H
                       exact absurd H (by simp)
                   · rw [if_neg c78] at H
                     have c78b0 : (x10_1 == 0) = false := beq_eq_false_iff_ne.mpr c78
                     have c78b1 : (x10_1 != 0) = true := bne_iff_ne.mpr c78
                     replace H := Option.bind_eq_some_iff.mp H
                     obtain ⟨t275, A830, H⟩ := H
                     replace H : (if t275 = x10_1 then ((ckey_Compare.f t267 t265).bind fun t276 => (some (t276 == (wrap64 (-x10_1))))) else (none)) = some r := H
                     have A83 := Aside0.mk A830
                     clear A830
                     by_cases c84 : t275 = x10_1
                     · rw [if_pos c84] at H
                       have c84b0 : (t275 == x10_1) = true := beq_iff_eq.mpr c84
                       have c84b1 : (t275 != x10_1) = false := bne_eq_false_iff_eq.mpr c84
                       clear c84
                       replace H := Option.bind_eq_some_iff.mp H
                       obtain ⟨t276, A850, H⟩ := H
                       replace H : (some (t276 == (wrap64 (-x10_1)))) = some r := H
                       have A85 := Aside0.mk A850
                       clear A850
                       obtain rfl := Option.some.inj H
                       go_wp2_with (first | (go_at_call 35; (with_reducible refine (ckey_Compare.calls t265 t267 t275 _ A83.out).mono ?_); rintro e w' ⟨rfl, ⟨nd, rfl⟩⟩; (try first | exact ⟨rfl, _, World.drewN_drewN _ _ _⟩ | exact ⟨rfl, _, Eq.trans (World.drewN_drewN _ _ _) (congrArg (World.drewN _) (Nat.add_assoc _ _ _))⟩)) | (go_at_call 35; (with_reducible refine (ckey_Compare.calls t267 t265 t276 _ A85.out).mono ?_); rintro e w' ⟨rfl, ⟨nd, rfl⟩⟩; (try first | exact ⟨rfl, _, World.drewN_drewN _ _ _⟩ | exact ⟨rfl, _, Eq.trans (World.drewN_drewN _ _ _) (congrArg (World.drewN _) (Nat.add_assoc _ _ _))⟩)))
                       repeat (go_quiet (fail); try go_wp2_with (fail))
                       go_ret
                       exact ⟨by first | rfl | (simp [errW_none, errW_some] <;> rfl) | (simp [*, errW_none, errW_some] <;> rfl) | (first | (simp (disch := omega) [w64_s, errW_none, errW_some]; done) | (simp (disch := omega) [w64_s, errW_none, errW_some] <;> rfl)), by repeat (first | (with_reducible first | exact HB.out | apply below_alloc | apply pw_below_drewN | apply below_drew1) | exact HB.out)⟩
                     · rw [if_neg c84] at H
                       exact absurd H (by simp)
                 · as_aux_lemma =>
                   rw [if_neg c77] at H
                   have c77b0 : decide (x11_1 < (l1.length : Int)) = false := decide_eq_false c77
                   clear c77
                   by_cases c86 : x10_1 = 0
                   · as_aux_lemma =>
                     rw [if_pos c86] at H
                     have c86b0 : (x10_1 == 0) = true := beq_iff_eq.mpr c86
                     have c86b1 : (x10_1 != 0) = false := bne_eq_false_iff_eq.mpr c86
                     clear c86
                     by_cases c87 : (y229.length : Int) = (l1.length : Int)
                     · rw [if_pos c87] at H
                       have c87b0 : ((y229.length : Int) == (l1.length : Int)) = true := beq_iff_eq.mpr c87
                       have c87b1 : ((y229.length : Int) != (l1.length : Int)) = false := bne_eq_false_iff_eq.mpr c87
                       have c87b2 : (y229.length == l1.length) = true := by first | simpa using c87 | (simp at c87 ⊢; omega)
                       clear c87
                       replace H := Option.bind_eq_some_iff.mp H
                       obtain ⟨t277, A880, H⟩ := H
                       replace H : (if t277 = x10_1 then ((ckey_Compare.f t267 t265).bind fun t278 => (some (t278 == (wrap64 (-x10_1))))) else (none)) = some r := H
                       have A88 := Aside0.mk A880
                       clear A880
                       by_cases c89 : t277 = x10_1
                       · rw [if_pos c89] at H
                         have c89b0 : (t277 == x10_1) = true := beq_iff_eq.mpr c89
                         have c89b1 : (t277 != x10_1) = false := bne_eq_false_iff_eq.mpr c89
                         clear c89
                         replace H := Option.bind_eq_some_iff.mp H
                         obtain ⟨t278, A900, H⟩ := H
                         replace H : (some (t278 == (wrap64 (-x10_1)))) = some r := H
                         have A90 := Aside0.mk A900
                         clear A900
                         obtain rfl := Option.some.inj H
                         go_wp2_with (first | (go_at_call 35; (with_reducible refine (ckey_Compare.calls t265 t267 t277 _ A88.out).mono ?_); rintro e w' ⟨rfl, ⟨nd, rfl⟩⟩; (try first | exact ⟨rfl, _, World.drewN_drewN _ _ _⟩ | exact ⟨rfl, _, Eq.trans (World.drewN_drewN _ _ _) (congrArg (World.drewN _) (Nat.add_assoc _ _ _))⟩)) | (go_at_call 35; (with_reducible refine (ckey_Compare.calls t267 t265 t278 _ A90.out).mono ?_); rintro e w' ⟨rfl, ⟨nd, rfl⟩⟩; (try first | exact ⟨rfl, _, World.drewN_drewN _ _ _⟩ | exact ⟨rfl, _, Eq.trans (World.drewN_drewN _ _ _) (congrArg (World.drewN _) (Nat.add_assoc _ _ _))⟩)))
                         repeat (go_quiet (fail); try go_wp2_with (fail))
                         go_ret
                         exact ⟨by first | rfl | (simp [errW_none, errW_some] <;> rfl) | (simp [*, errW_none, errW_some] <;> rfl) | (first | (simp (disch := omega) [w64_s, errW_none, errW_some]; done) | (simp (disch := omega) [w64_s, errW_none, errW_some] <;> rfl)), by repeat (first | (with_reducible first | exact HB.out | apply below_alloc | apply pw_below_drewN | apply below_drew1) | exact HB.out)⟩
                       · rw [if_neg c89] at H
                         exact absurd H (by simp)
                     · rw [if_neg c87] at H
                       have c87b0 : ((y229.length : Int) == (l1.length : Int)) = false := beq_eq_false_iff_ne.mpr c87
                       have c87b1 : ((y229.length : Int) != (l1.length : Int)) = true := bne_iff_ne.mpr c87
                       have c87b2 : (y229.length == l1.length) = false := by first | simpa using c87 | (simp at c87 ⊢; omega)
                       by_cases c91 : (y229.length : Int) < (l1.length : Int)
                       · rw [if_pos c91] at H
                         have c91b0 : decide ((y229.length : Int) < (l1.length : Int)) = true := decide_eq_true c91
                         have c91b1 : decide (y229.length < l1.length) = true := decide_eq_true (Int.ofNat_lt.mp c91)
                         clear c91
                         replace H := Option.bind_eq_some_iff.mp H
                         obtain ⟨t279, A920, H⟩ := H
                         replace H : (if t279 = (-1) then ((ckey_Compare.f t267 t265).bind fun t280 => (some (t280 == (-(-1))))) else (none)) = some r := H
                         have A92 := Aside0.mk A920
                         clear A920
                         by_cases c93 : t279 = (-1)
                         · rw [if_pos c93] at H
                           have c93b0 : (t279 == (-1)) = true := beq_iff_eq.mpr c93
                           have c93b1 : (t279 != (-1)) = false := bne_eq_false_iff_eq.mpr c93
                           clear c93
                           replace H := Option.bind_eq_some_iff.mp H
                           obtain ⟨t280, A940, H⟩ := H
                           replace H : (some (t280 == (-(-1)))) = some r := H
                           have A94 := Aside0.mk A940
                           clear A940
                           obtain rfl := Option.some.inj H
                           go_wp2_with (first | (go_at_call 35; (with_reducible refine (ckey_Compare.calls t265 t267 t279 _ A92.out).mono ?_); rintro e w' ⟨rfl, ⟨nd, rfl⟩⟩; (try first | exact ⟨rfl, _, World.drewN_drewN _ _ _⟩ | exact ⟨rfl, _, Eq.trans (World.drewN_drewN _ _ _) (congrArg (World.drewN _) (Nat.add_assoc _ _ _))⟩)) | (go_at_call 35; (with_reducible refine (ckey_Compare.calls t267 t265 t280 _ A94.out).mono ?_); rintro e w' ⟨rfl, ⟨nd, rfl⟩⟩; (try first | exact ⟨rfl, _, World.drewN_drewN _ _ _⟩ | exact ⟨rfl, _, Eq.trans (World.drewN_drewN _ _ _) (congrArg (World.drewN _) (Nat.add_assoc _ _ _))⟩)))
                           repeat (go_quiet (fail); try go_wp2_with (fail))
                           go_ret
                           exact ⟨by first | rfl | (simp [errW_none, errW_some] <;> rfl) | (simp [*, errW_none, errW_some] <;> rfl) | (first | (simp (disch := omega) [w64_s, errW_none, errW_some]; done) | (simp (disch := omega) [w64_s, errW_none, errW_some] <;> rfl)), by repeat (first | (with_reducible first | exact HB.out | apply below_alloc | apply pw_below_drewN | apply below_drew1) | exact HB.out)⟩
                         · rw [if_neg c93] at H
                           exact absurd H (by simp)
                       · rw [if_neg c91] at H
                         have c91b0 : decide ((y229.length : Int) < (l1.length : Int)) = false := decide_eq_false c91
                         have c91b1 : decide (y229.length < l1.length) = false := decide_eq_false (fun h => c91 (Int.ofNat_lt.mpr h))
                         clear c91
                         replace H := Option.bind_eq_some_iff.mp H
                         obtain ⟨t281, A950, H⟩ := H
                         replace H : (if t281 = 1 then ((ckey_Compare.f t267 t265).bind fun t282 => (some (t282 == (-1)))) else (none)) = some r := H
                         have A95 := Aside0.mk A950
                         clear A950
                         by_cases c96 : t281 = 1
                         · rw [if_pos c96] at H
                           have c96b0 : (t281 == 1) = true := beq_iff_eq.mpr c96
                           have c96b1 : (t281 != 1) = false := bne_eq_false_iff_eq.mpr c96
                           clear c96
                           replace H := Option.bind_eq_some_iff.mp H
                           obtain ⟨t282, A970, H⟩ := H
                           replace H : (some (t282 == (-1))) = some r := H
                           have A97 := Aside0.mk A970
                           clear A970
                           obtain rfl := Option.some.inj H
                           go_wp2_with (first | (go_at_call 35; (with_reducible refine (ckey_Compare.calls t265 t267 t281 _ A95.out).mono ?_); rintro e w' ⟨rfl, ⟨nd, rfl⟩⟩; (try first | exact ⟨rfl, _, World.drewN_drewN _ _ _⟩ | exact ⟨rfl, _, Eq.trans (World.drewN_drewN _ _ _) (congrArg (World.drewN _) (Nat.add_assoc _ _ _))⟩)) | (go_at_call 35; (with_reducible refine (ckey_Compare.calls t267 t265 t282 _ A97.out).mono ?_); rintro e w' ⟨rfl, ⟨nd, rfl⟩⟩; (try first | exact ⟨rfl, _, World.drewN_drewN _ _ _⟩ | exact ⟨rfl, _, Eq.trans (World.drewN_drewN _ _ _) (congrArg (World.drewN _) (Nat.add_assoc _ _ _))⟩)))
                           repeat (go_quiet (fail); try go_wp2_with (fail))
                           go_ret
                           exact ⟨by first | rfl | (simp [errW_none, errW_some] <;> rfl) | (simp [*, errW_none, errW_some] <;> rfl) | (first | (simp (disch := omega) [w64_s, errW_none, errW_some]; done) | (simp (disch := omega) [w64_s, errW_none, errW_some] <;> rfl)), by repeat (first | (with_reducible first | exact HB.out | apply below_alloc | apply pw_below_drewN | apply below_drew1) | exact HB.out)⟩
                         · rw [if_neg c96] at H
                           exact absurd H (by simp)
                   · rw [if_neg c86] at H
                     have c86b0 : (x10_1 == 0) = false := beq_eq_false_iff_ne.mpr c86
                     have c86b1 : (x10_1 != 0) = true := bne_iff_ne.mpr c86
                     replace H := Option.bind_eq_some_iff.mp H
                     obtain ⟨t283, A980, H⟩ := H
                     replace H : (if t283 = x10_1 then ((ckey_Compare.f t267 t265).bind fun t284 => (some (t284 == (wrap64 (-x10_1))))) else (none)) = some r := H
                     have A98 := Aside0.mk A980
                     clear A980
                     by_cases c99 : t283 = x10_1
                     · rw [if_pos c99] at H
                       have c99b0 : (t283 == x10_1) = true := beq_iff_eq.mpr c99
                       have c99b1 : (t283 != x10_1) = false := bne_eq_false_iff_eq.mpr c99
                       clear c99
                       replace H := Option.bind_eq_some_iff.mp H
                       obtain ⟨t284, A1000, H⟩ := H
                       replace H : (some (t284 == (wrap64 (-x10_1)))) = some r := H
                       have A100 := Aside0.mk A1000
                       clear A1000
                       obtain rfl := Option.some.inj H
                       go_wp2_with (first | (go_at_call 35; (with_reducible refine (ckey_Compare.calls t265 t267 t283 _ A98.out).mono ?_); rintro e w' ⟨rfl, ⟨nd, rfl⟩⟩; (try first | exact ⟨rfl, _, World.drewN_drewN _ _ _⟩ | exact ⟨rfl, _, Eq.trans (World.drewN_drewN _ _ _) (congrArg (World.drewN _) (Nat.add_assoc _ _ _))⟩)) | (go_at_call 35; (with_reducible refine (ckey_Compare.calls t267 t265 t284 _ A100.out).mono ?_); rintro e w' ⟨rfl, ⟨nd, rfl⟩⟩; (try first | exact ⟨rfl, _, World.drewN_drewN _ _ _⟩ | exact ⟨rfl, _, Eq.trans (World.drewN_drewN _ _ _) (congrArg (World.drewN _) (Nat.add_assoc _ _ _))⟩)))
                       repeat (go_quiet (fail); try go_wp2_with (fail))
                       go_ret
                       exact ⟨by first | rfl | (simp [errW_none, errW_some] <;> rfl) | (simp [*, errW_none, errW_some] <;> rfl) | (first | (simp (disch := omega) [w64_s, errW_none, errW_some]; done) | (simp (disch := omega) [w64_s, errW_none, errW_some] <;> rfl)), by repeat (first | (with_reducible first | exact HB.out | apply below_alloc | apply pw_below_drewN | apply below_drew1) | exact HB.out)⟩
                     · rw [if_neg c99] at H
                       exact absurd H (by simp)
               · as_aux_lemma =>
                 rw [if_neg c76] at H
                 have c76b0 : decide (x11_1 < (y229.length : Int)) = false := decide_eq_false c76
                 clear c76
                 by_cases c101 : x10_1 = 0
                 · as_aux_lemma =>
                   rw [if_pos c101] at H
                   have c101b0 : (x10_1 == 0) = true := beq_iff_eq.mpr c101
                   have c101b1 : (x10_1 != 0) = false := bne_eq_false_iff_eq.mpr c101
                   clear c101
                   by_cases c102 : (y229.length : Int) = (l1.length : Int)
                   · rw [if_pos c102] at H
                     have c102b0 : ((y229.length : Int) == (l1.length : Int)) = true := beq_iff_eq.mpr c102
                     have c102b1 : ((y229.length : Int) != (l1.length : Int)) = false := bne_eq_false_iff_eq.mpr c102
                     have c102b2 : (y229.length == l1.length) = true := by first | simpa using c102 | (simp at c102 ⊢; omega)
                     clear c102
                     replace H := Option.bind_eq_some_iff.mp H
                     obtain ⟨t285, A1030, H⟩ := H
                     replace H : (if t285 = x10_1 then ((ckey_Compare.f t267 t265).bind fun t286 => (some (t286 == (wrap64 (-x10_1))))) else (none)) = some r := H
                     have A103 := Aside0.mk A1030
                     clear A1030
                     by_cases c104 : t285 = x10_1
                     · rw [if_pos c104] at H
                       have c104b0 : (t285 == x10_1) = true := beq_iff_eq.mpr c104
                       have c104b1 : (t285 != x10_1) = false := bne_eq_false_iff_eq.mpr c104
                       clear c104
                       replace H := Option.bind_eq_some_iff.mp H
                       obtain ⟨t286, A1050, H⟩ := H
                       replace H : (some (t286 == (wrap64 (-x10_1)))) = some r := H
                       have A105 := Aside0.mk A1050
                       clear A1050
                       obtain rfl := Option.some.inj H
                       go_wp2_with (first | (go_at_call 35; (with_reducible refine (ckey_Compare.calls t265 t267 t285 _ A103.out).mono ?_); rintro e w' ⟨rfl, ⟨nd, rfl⟩⟩; (try first | exact ⟨rfl, _, World.drewN_drewN _ _ _⟩ | exact ⟨rfl, _, Eq.trans (World.drewN_drewN _ _ _) (congrArg (World.drewN _) (Nat.add_assoc _ _ _))⟩)) | (go_at_call 35; (with_reducible refine (ckey_Compare.calls t267 t265 t286 _ A105.out).mono ?_); rintro e w' ⟨rfl, ⟨nd, rfl⟩⟩; (try first | exact ⟨rfl, _, World.drewN_drewN _ _ _⟩ | exact ⟨rfl, _, Eq.trans (World.drewN_drewN _ _ _) (congrArg (World.drewN _) (Nat.add_assoc _ _ _))⟩)))
                       repeat (go_quiet (fail); try go_wp2_with (fail))
                       go_ret
                       exact ⟨by first | rfl | (simp [errW_none, errW_some] <;> rfl) | (simp [*, errW_none, errW_some] <;> rfl) | (first | (simp (disch := omega) [w64_s, errW_none, errW_some]; done) | (simp (disch := omega) [w64_s, errW_none, errW_some] <;> rfl)), by repeat (first | (with_reducible first | exact HB.out | apply below_alloc | apply pw_below_drewN | apply below_drew1) | exact HB.out)⟩
                     · rw [if_neg c104] at H
                       exact absurd H (by simp)
                   · rw [if_neg c102] at H
                     have c102b0 : ((y229.length : Int) == (l1.length : Int)) = false := beq_eq_false_iff_ne.mpr c102
                     have c102b1 : ((y229.length : Int) != (l1.length : Int)) = true := bne_iff_ne.mpr c102
                     have c102b2 : (y229.length == l1.length) = false := by first | simpa using c102 | (simp at c102 ⊢; omega)
                     by_cases c106 : (y229.length : Int) < (l1.length : Int)
                     · rw [if_pos c106] at H
                       have c106b0 : decide ((y229.length : Int) < (l1.length : Int)) = true := decide_eq_true c106
                       have c106b1 : decide (y229.length < l1.length) = true := decide_eq_true (Int.ofNat_lt.mp c106)
                       clear c106
                       replace H := Option.bind_eq_some_iff.mp H
                       obtain ⟨t287, A1070, H⟩ := H
                       replace H : (if t287 = (-1) then ((ckey_Compare.f t267 t265).bind fun t288 => (some (t288 == (-(-1))))) else (none)) = some r := H
                       have A107 := Aside0.mk A1070
                       clear A1070
                       by_cases c108 : t287 = (-1)
                       · rw [if_pos c108] at H
                         have c108b0 : (t287 == (-1)) = true := beq_iff_eq.mpr c108
                         have c108b1 : (t287 != (-1)) = false := bne_eq_false_iff_eq.mpr c108
                         clear c108
                         replace H := Option.bind_eq_some_iff.mp H
                         obtain ⟨t288, A1090, H⟩ := H
                         replace H : (some (t288 == (-(-1)))) = some r := H
                         have A109 := Aside0.mk A1090
                         clear A1090
                         obtain rfl := Option.some.inj H
                         go_wp2_with (first | (go_at_call 35; (with_reducible refine (ckey_Compare.calls t265 t267 t287 _ A107.out).mono ?_); rintro e w' ⟨rfl, ⟨nd, rfl⟩⟩; (try first | exact ⟨rfl, _, World.drewN_drewN _ _ _⟩ | exact ⟨rfl, _, Eq.trans (World.drewN_drewN _ _ _) (congrArg (World.drewN _) (Nat.add_assoc _ _ _))⟩)) | (go_at_call 35; (with_reducible refine (ckey_Compare.calls t267 t265 t288 _ A109.out).mono ?_); rintro e w' ⟨rfl, ⟨nd, rfl⟩⟩; (try first | exact ⟨rfl, _, World.drewN_drewN _ _ _⟩ | exact ⟨rfl, _, Eq.trans (World.drewN_drewN _ _ _) (congrArg (World.drewN _) (Nat.add_assoc _ _ _))⟩)))
                         repeat (go_quiet (fail); try go_wp2_with (fail))
                         go_ret
                         exact ⟨by first | rfl | (simp [errW_none, errW_some] <;> rfl) | (simp [*, errW_none, errW_some] <;> rfl) | (first | (simp (disch := omega) [w64_s, errW_none, errW_some]; done) | (simp (disch := omega) [w64_s, errW_none, errW_some] <;> rfl)), by repeat (first | (with_reducible first | exact HB.out | apply below_alloc | apply pw_below_drewN | apply below_drew1) | exact HB.out)⟩
                       · rw [if_neg c108] at H
                         exact absurd H (by simp)
                     · rw [if_neg c106] at H
                       have c106b0 : decide ((y229.length : Int) < (l1.length : Int)) = false := decide_eq_false c106
                       have c106b1 : decide (y229.length < l1.length) = false := decide_eq_false (fun h => c106 (Int.ofNat_lt.mpr h))
                       clear c106
                       replace H := Option.bind_eq_some_iff.mp H
                       obtain ⟨t289, A1100, H⟩ := H
                       replace H : (if t289 = 1 then ((ckey_Compare.f t267 t265).bind fun t290 => (some (t290 == (-1)))) else (none)) = some r := H
                       have A110 := Aside0.mk A1100
                       clear A1100
                       by_cases c111 : t289 = 1
                       · rw [if_pos c111] at H
                         have c111b0 : (t289 == 1) = true := beq_iff_eq.mpr c111
                         have c111b1 : (t289 != 1) = false := bne_eq_false_iff_eq.mpr c111
                         clear c111
                         replace H := Option.bind_eq_some_iff.mp H
                         obtain ⟨t290, A1120, H⟩ := H
                         replace H : (some (t290 == (-1))) = some r := H
                         have A112 := Aside0.mk A1120
                         clear A1120
                         obtain rfl := Option.some.inj H
                         go_wp2_with (first | (go_at_call 35; (with_reducible refine (ckey_Compare.calls t265 t267 t289 _ A110.out).mono ?_); rintro e w' ⟨rfl, ⟨nd, rfl⟩⟩; (try first | exact ⟨rfl, _, World.drewN_drewN _ _ _⟩ | exact ⟨rfl, _, Eq.trans (World.drewN_drewN _ _ _) (congrArg (World.drewN _) (Nat.add_assoc _ _ _))⟩)) | (go_at_call 35; (with_reducible refine (ckey_Compare.calls t267 t265 t290 _ A112.out).mono ?_); rintro e w' ⟨rfl, ⟨nd, rfl⟩⟩; (try first | exact ⟨rfl, _, World.drewN_drewN _ _ _⟩ | exact ⟨rfl, _, Eq.trans (World.drewN_drewN _ _ _) (congrArg (World.drewN _) (Nat.add_assoc _ _ _))⟩)))
                         repeat (go_quiet (fail); try go_wp2_with (fail))
                         go_ret
                         exact ⟨by first | rfl | (simp [errW_none, errW_some] <;> rfl) | (simp [*, errW_none, errW_some] <;> rfl) | (first | (simp (disch := omega) [w64_s, errW_none, errW_some]; done) | (simp (disch := omega) [w64_s, errW_none, errW_some] <;> rfl)), by repeat (first | (with_reducible first | exact HB.out | apply below_alloc | apply pw_below_drewN | apply below_drew1) | exact HB.out)⟩
                       · rw [if_neg c111] at H
                         exact absurd H (by simp)
                 · rw [if_neg c101] at H
                   have c101b0 : (x10_1 == 0) = false := beq_eq_false_iff_ne.mpr c101
                   have c101b1 : (x10_1 != 0) = true := bne_iff_ne.mpr c101
                   replace H := Option.bind_eq_some_iff.mp H
                   obtain ⟨t291, A1130, H⟩ := H
                   replace H : (if t291 = x10_1 then ((ckey_Compare.f t267 t265).bind fun t292 => (some (t292 == (wrap64 (-x10_1))))) else (none)) = some r := H
                   have A113 := Aside0.mk A1130
                   clear A1130
                   by_cases c114 : t291 = x10_1
                   · rw [if_pos c114] at H
                     have c114b0 : (t291 == x10_1) = true := beq_iff_eq.mpr c114
                     have c114b1 : (t291 != x10_1) = false := bne_eq_false_iff_eq.mpr c114
                     clear c114
                     replace H := Option.bind_eq_some_iff.mp H
                     obtain ⟨t292, A1150, H⟩ := H
                     replace H : (some (t292 == (wrap64 (-x10_1)))) = some r := H
                     have A115 := Aside0.mk A1150
                     clear A1150
                     obtain rfl := Option.some.inj H
                     go_wp2_with (first | (go_at_call 35; (with_reducible refine (ckey_Compare.calls t265 t267 t291 _ A113.out).mono ?_); rintro e w' ⟨rfl, ⟨nd, rfl⟩⟩; (try first | exact ⟨rfl, _, World.drewN_drewN _ _ _⟩ | exact ⟨rfl, _, Eq.trans (World.drewN_drewN _ _ _) (congrArg (World.drewN _) (Nat.add_assoc _ _ _))⟩)) | (go_at_call 35; (with_reducible refine (ckey_Compare.calls t267 t265 t292 _ A115.out).mono ?_); rintro e w' ⟨rfl, ⟨nd, rfl⟩⟩; (try first | exact ⟨rfl, _, World.drewN_drewN _ _ _⟩ | exact ⟨rfl, _, Eq.trans (World.drewN_drewN _ _ _) (congrArg (World.drewN _) (Nat.add_assoc _ _ _))⟩)))
                     repeat (go_quiet (fail); try go_wp2_with (fail))
                     go_ret
                     exact ⟨by first | rfl | (simp [errW_none, errW_some] <;> rfl) | (simp [*, errW_none, errW_some] <;> rfl) | (first | (simp (disch := omega) [w64_s, errW_none, errW_some]; done) | (simp (disch := omega) [w64_s, errW_none, errW_some] <;> rfl)), by repeat (first | (with_reducible first | exact HB.out | apply below_alloc | apply pw_below_drewN | apply below_drew1) | exact HB.out)⟩
                   · rw [if_neg c114] at H
                     exact absurd H (by simp)
           · replace c71 := Bool.eq_false_iff.mpr c71
             subst c71
             have H1 : (some true) = some r := by rw [if_neg (show ¬ (false = true) by decide)] at H; exact H
             clear H
             have H := H1
             clear H1
             obtain rfl := Option.some.inj H
             go_enter Try.func11, Try.ntmps11
             go_wp2_with (first | (go_at_call 29; (with_reducible refine (incipitlaw6_begun.calls  true _ A3.out).mono ?_); rintro e w116 ⟨rfl, hb⟩; have n0_ := Aside0.mk (below_step (by repeat (first | (with_reducible first | exact HB.out | apply below_alloc | apply pw_below_drewN | apply below_drew1) | exact HB.out)) hb); clear HB; have HB := n0_; clear n0_; (try clear hb); (try clear hb2); (try clear hk); (try clear hi); have q117 : (20 : Int) ≤ ((l0.length : Int) : Int) := of_decide_eq_true (by first | (with_reducible assumption) | assumption); obtain ⟨i0117, hi0117, _, hsz117, _⟩ := info_parts info3; have hroom117 : l0.length ≤ c0 := HC0.out; have hC117 : Kd.C (Kd.int .i64) _ A0 l0.length l0 := HR0.out; have hcut117 := cut_to (P := Try.prog) 22 3 .i64 Try.underlying22 hi0117 A0 l0.length c0 20 (by omega) q117 hroom117; have hr117 := Kd.C_take (m := 20) hC117 (by omega); have hy117 : y229.length = (20 : Int).toNat := (by rw [Ny229.out, List.length_take]; omega); rw [← Ny229.out] at hr117; rw [← hy117] at hcut117; have HR232 := Aside0.mk hr117; have HC232 := Aside0.mk (show y229.length ≤ c0 from by omega); clear hr117 hC117 hroom117 hi0117 hsz117; have KY117 := Aside0.mk hy117; clear hy117; replace q117 := eq_true q117) | (go_at_call 34; (with_reducible refine (incipitref1_Write.calls k _ _ y229 t265 true _ ?side1 ?side2 A68.out).mono ?_); (case side1 => repeat (first | exact (Kd.C_below HR232.out HB.out) | (with_reducible refine Kd.C_alloc ?_ _) | (with_reducible refine Kd.C_drewN ?_ _) | (with_reducible refine Kd.C_drew ?_))); (case side2 => exact HC232.out); rintro e w118 ⟨rfl, hb⟩; have n0_ := Aside0.mk (below_step (by repeat (first | (with_reducible first | exact HB.out | apply below_alloc | apply pw_below_drewN | apply below_drew1) | exact HB.out)) hb); clear HB; have HB := n0_; clear n0_; (try clear hb); (try clear hb2); (try clear hk); (try clear hi)) | (go_at_call 34; (with_reducible refine (incipitref1_Write.calls k _ _ l1 t267 false _ ?side1 ?side2 A69.out).mono ?_); (case side1 => repeat (first | exact (Kd.C_below HR1.out HB.out) | (with_reducible refine Kd.C_alloc ?_ _) | (with_reducible refine Kd.C_drewN ?_ _) | (with_reducible refine Kd.C_drew ?_))); (case side2 => exact HC1.out); rintro e w119 ⟨rfl, hb⟩; have n0_ := Aside0.mk (below_step (by repeat (first | (with_reducible first | exact HB.out | apply below_alloc | apply pw_below_drewN | apply below_drew1) | exact HB.out)) hb); clear HB; have HB := n0_; clear n0_; (try clear hb); (try clear hb2); (try clear hk); (try clear hi)))
             repeat (go_quiet (fail); try go_wp2_with (fail))
             go_ret
             exact ⟨by first | rfl | (simp [errW_none, errW_some] <;> rfl) | (simp [*, errW_none, errW_some] <;> rfl) | (first | (simp (disch := omega) [w64_s, errW_none, errW_some]; done) | (simp (disch := omega) [w64_s, errW_none, errW_some] <;> rfl)), by repeat (first | (with_reducible first | exact HB.out | apply below_alloc | apply pw_below_drewN | apply below_drew1) | exact HB.out)⟩
         · replace c70 := Bool.eq_false_iff.mpr c70
           subst c70
           have H1 : (some true) = some r := by rw [if_neg (show ¬ (false = true) by decide)] at H; exact H
           clear H
           have H := H1
           clear H1
           obtain rfl := Option.some.inj H
           go_enter Try.func11, Try.ntmps11
           go_wp2_with (first | (go_at_call 29; (with_reducible refine (incipitlaw6_begun.calls  true _ A3.out).mono ?_); rintro e w120 ⟨rfl, hb⟩; have n0_ := Aside0.mk (below_step (by repeat (first | (with_reducible first | exact HB.out | apply below_alloc | apply pw_below_drewN | apply below_drew1) | exact HB.out)) hb); clear HB; have HB := n0_; clear n0_; (try clear hb); (try clear hb2); (try clear hk); (try clear hi); have q121 : (20 : Int) ≤ ((l0.length : Int) : Int) := of_decide_eq_true (by first | (with_reducible assumption) | assumption); obtain ⟨i0121, hi0121, _, hsz121, _⟩ := info_parts info3; have hroom121 : l0.length ≤ c0 := HC0.out; have hC121 : Kd.C (Kd.int .i64) _ A0 l0.length l0 := HR0.out; have hcut121 := cut_to (P := Try.prog) 22 3 .i64 Try.underlying22 hi0121 A0 l0.length c0 20 (by omega) q121 hroom121; have hr121 := Kd.C_take (m := 20) hC121 (by omega); have hy121 : y229.length = (20 : Int).toNat := (by rw [Ny229.out, List.length_take]; omega); rw [← Ny229.out] at hr121; rw [← hy121] at hcut121; have HR232 := Aside0.mk hr121; have HC232 := Aside0.mk (show y229.length ≤ c0 from by omega); clear hr121 hC121 hroom121 hi0121 hsz121; have KY121 := Aside0.mk hy121; clear hy121; replace q121 := eq_true q121) | (go_at_call 34; (with_reducible refine (incipitref1_Write.calls k _ _ y229 t265 false _ ?side1 ?side2 A68.out).mono ?_); (case side1 => repeat (first | exact (Kd.C_below HR232.out HB.out) | (with_reducible refine Kd.C_alloc ?_ _) | (with_reducible refine Kd.C_drewN ?_ _) | (with_reducible refine Kd.C_drew ?_))); (case side2 => exact HC232.out); rintro e w122 ⟨rfl, hb⟩; have n0_ := Aside0.mk (below_step (by repeat (first | (with_reducible first | exact HB.out | apply below_alloc | apply pw_below_drewN | apply below_drew1) | exact HB.out)) hb); clear HB; have HB := n0_; clear n0_; (try clear hb); (try clear hb2); (try clear hk); (try clear hi)) | (go_at_call 34; (with_reducible refine (incipitref1_Write.calls k _ _ l1 t267 t268 _ ?side1 ?side2 A69.out).mono ?_); (case side1 => repeat (first | exact (Kd.C_below HR1.out HB.out) | (with_reducible refine Kd.C_alloc ?_ _) | (with_reducible refine Kd.C_drewN ?_ _) | (with_reducible refine Kd.C_drew ?_))); (case side2 => exact HC1.out); rintro e w123 ⟨rfl, hb⟩; have n0_ := Aside0.mk (below_step (by repeat (first | (with_reducible first | exact HB.out | apply below_alloc | apply pw_below_drewN | apply below_drew1) | exact HB.out)) hb); clear HB; have HB := n0_; clear n0_; (try clear hb); (try clear hb2); (try clear hk); (try clear hi)))
           repeat (go_quiet (fail); try go_wp2_with (fail))
           go_ret
           exact ⟨by first | rfl | (simp [errW_none, errW_some] <;> rfl) | (simp [*, errW_none, errW_some] <;> rfl) | (first | (simp (disch := omega) [w64_s, errW_none, errW_some]; done) | (simp (disch := omega) [w64_s, errW_none, errW_some] <;> rfl)), by repeat (first | (with_reducible first | exact HB.out | apply below_alloc | apply pw_below_drewN | apply below_drew1) | exact HB.out)⟩
     · rw [if_neg c6] at H
       exact absurd H (by simp)
   · as_aux_lemma =>
     rw [if_neg c5] at H
     have c5b0 : decide (20 < (l0.length : Int)) = false := decide_eq_false c5
     have c5b1 : decide (20 < l0.length) = false := decide_eq_false (by omega)
     clear c5
     by_cases c124 : (l1.length : Int) > 20
     · as_aux_lemma =>
       rw [if_pos c124] at H
       have c124b0 : decide (20 < (l1.length : Int)) = true := decide_eq_true c124
       have c124b1 : decide (20 < l1.length) = true := decide_eq_true (by omega)
       clear c124
       by_cases c125 : 20 ≤ (l1.length : Int)
       · as_aux_lemma =>
         rw [if_pos c125] at H
         have c125b0 := eq_true c125
         have c125b1 : decide (20 ≤ (l1.length : Int)) = true := decide_eq_true c125
         clear c125
         obtain ⟨y293, hy293⟩ : ∃ y_ : List Int, y_ = (l1.take 20) := ⟨_, rfl⟩
         replace H : ((incipitref1_Write.f k l0).bind fun bt297 => ((incipitref1_Write.f k y293).bind fun bt299 => (if bt297.2 = true then (if bt299.2 = true then (incipitlaw6_KeyOrder.l102 k l0 y293 bt297.1 bt299.1 0 0) else (some true)) else (some true)))) = some r := by first | (rw [hy293]; with_reducible exact H) | (have H2_ := (Option.bind_some _ _).symm.trans H; rw [hy293]; with_reducible exact H2_) | (have H2_ := (Option.bind_some _ _).symm.trans H; with_reducible exact H2_) | with_reducible exact H | (rw [hy293]; exact H) | exact H
         have Ny293 := Aside0.mk hy293
         clear hy293
         replace H := Option.bind_eq_some_iff.mp H
         obtain ⟨⟨t297, t298⟩, A1260, H⟩ := H
         replace H : ((incipitref1_Write.f k y293).bind fun bt299 => (if t298 = true then (if bt299.2 = true then (incipitlaw6_KeyOrder.l102 k l0 y293 t297 bt299.1 0 0) else (some true)) else (some true))) = some r := H
         have A126 := Aside0.mk A1260
         clear A1260
         replace H := Option.bind_eq_some_iff.mp H
         obtain ⟨⟨t299, t300⟩, A1270, H⟩ := H
         replace H : (if t298 = true then (if t300 = true then (incipitlaw6_KeyOrder.l102 k l0 y293 t297 t299 0 0) else (some true)) else (some true)) = some r := H
         have A127 := Aside0.mk A1270
         clear A1270
         by_cases c128 : t298 = true
         · subst c128
           have H1 : (if t300 = true then (incipitlaw6_KeyOrder.l102 k l0 y293 t297 t299 0 0) else (some true)) = some r := by rw [if_pos rfl] at H; exact H
           clear H
           have H := H1
           clear H1
           by_cases c129 : t300 = true
           · subst c129
             have H1 : (incipitlaw6_KeyOrder.l102 k l0 y293 t297 t299 0 0) = some r := by rw [if_pos rfl] at H; exact H
             clear H
             have H := H1
             clear H1
             have H' := Aside0.mk H
             clear H
             go_enter Try.func11, Try.ntmps11
             go_wp2_with (first | (go_at_call 29; (with_reducible refine (incipitlaw6_begun.calls  true _ A3.out).mono ?_); rintro e w130 ⟨rfl, hb⟩; have n0_ := Aside0.mk (below_step (by repeat (first | (with_reducible first | exact HB.out | apply below_alloc | apply pw_below_drewN | apply below_drew1) | exact HB.out)) hb); clear HB; have HB := n0_; clear n0_; (try clear hb); (try clear hb2); (try clear hk); (try clear hi); have q131 : (20 : Int) ≤ ((l1.length : Int) : Int) := of_decide_eq_true (by first | (with_reducible assumption) | assumption); obtain ⟨i0131, hi0131, _, hsz131, _⟩ := info_parts info3; have hroom131 : l1.length ≤ c1 := HC1.out; have hC131 : Kd.C (Kd.int .i64) _ A1 l1.length l1 := HR1.out; have hcut131 := cut_to (P := Try.prog) 22 3 .i64 Try.underlying22 hi0131 A1 l1.length c1 20 (by omega) q131 hroom131; have hr131 := Kd.C_take (m := 20) hC131 (by omega); have hy131 : y293.length = (20 : Int).toNat := (by rw [Ny293.out, List.length_take]; omega); rw [← Ny293.out] at hr131; rw [← hy131] at hcut131; have HR296 := Aside0.mk hr131; have HC296 := Aside0.mk (show y293.length ≤ c1 from by omega); clear hr131 hC131 hroom131 hi0131 hsz131; have KY131 := Aside0.mk hy131; clear hy131; replace q131 := eq_true q131) | (go_at_call 34; (with_reducible refine (incipitref1_Write.calls k _ _ l0 t297 true _ ?side1 ?side2 A126.out).mono ?_); (case side1 => repeat (first | exact (Kd.C_below HR0.out HB.out) | (with_reducible refine Kd.C_alloc ?_ _) | (with_reducible refine Kd.C_drewN ?_ _) | (with_reducible refine Kd.C_drew ?_))); (case side2 => exact HC0.out); rintro e w132 ⟨rfl, hb⟩; have n0_ := Aside0.mk (below_step (by repeat (first | (with_reducible first | exact HB.out | apply below_alloc | apply pw_below_drewN | apply below_drew1) | exact HB.out)) hb); clear HB; have HB := n0_; clear n0_; (try clear hb); (try clear hb2); (try clear hk); (try clear hi)) | (go_at_call 34; (with_reducible refine (incipitref1_Write.calls k _ _ y293 t299 true _ ?side1 ?side2 A127.out).mono ?_); (case side1 => repeat (first | exact (Kd.C_below HR296.out HB.out) | (with_reducible refine Kd.C_alloc ?_ _) | (with_reducible refine Kd.C_drewN ?_ _) | (with_reducible refine Kd.C_drew ?_))); (case side2 => exact HC296.out); rintro e w133 ⟨rfl, hb⟩; have n0_ := Aside0.mk (below_step (by repeat (first | (with_reducible first | exact HB.out | apply below_alloc | apply pw_below_drewN | apply below_drew1) | exact HB.out)) hb); clear HB; have HB := n0_; clear n0_; (try clear hb); (try clear hb2); (try clear hk); (try clear hi)))
             repeat (go_quiet (fail); try go_wp2_with (fail))
             try simp only [Act.put, List.setIfInBounds_toArray, List.set_cons_succ, List.set_cons_zero]
             go_loopg [10, 11] k (fun kq v10 v11 w' => ∃ (x10_1 : Int) (x11_1 : Int), v10 = .int .i64 x10_1 ∧ v11 = .int .i64 x11_1 ∧ Aside0 (incipitlaw6_KeyOrder.l102 kq l0 y293 t297 t299 x10_1 x11_1 = some r) ∧ Aside0 (kq ≤ k) ∧ Aside0 (Below w.heap.size w w'))
             case atStart => exact ⟨(0), (0), (by first | rfl | (simp; done) | (simp [*]; done)), (by first | rfl | (simp; done) | (simp [*]; done)), H', ⟨Nat.le_refl _⟩, ⟨by repeat (first | (with_reducible first | exact HB.out | apply below_alloc | apply pw_below_drewN | apply below_drew1) | exact HB.out)⟩⟩
             case round =>
              clear H'
              (try clear c1); (try clear q1); (try clear c2); (try clear p2); (try clear q2); (try clear hx2); (try clear c3); (try clear c4); (try clear c5); (try clear c5b0); (try clear c5b1); (try clear q5); (try clear c6); (try clear p6); (try clear q6); (try clear c7); (try clear q7); (try clear c8); (try clear c9); (try clear c10); (try clear c11); (try clear q11); (try clear c12); (try clear q12); (try clear q13); (try clear q14); (try clear q15); (try clear p24); (try clear q24); (try clear hx24); (try clear p26); (try clear q26); (try clear hx26); (try clear p27); (try clear q27); (try clear hx27); (try clear c29); (try clear c29b0); (try clear c29b1); (try clear c29b2); (try clear c31); (try clear c31b0); (try clear c31b1); (try clear c33); (try clear c33b0); (try clear c33b1); (try clear c35); (try clear c35b0); (try clear c35b1); (try clear c38); (try clear c38b0); (try clear c38b1); (try clear c41); (try clear c41b0); (try clear c41b1); (try clear c43); (try clear c43b0); (try clear c43b1); (try clear c44); (try clear c44b0); (try clear c44b1); (try clear c44b2); (try clear c46); (try clear c46b0); (try clear c46b1); (try clear c48); (try clear c48b0); (try clear c48b1); (try clear c50); (try clear c50b0); (try clear c50b1); (try clear c53); (try clear c53b0); (try clear c53b1); (try clear c56); (try clear c56b0); (try clear c56b1); (try clear q59); (try clear q60); (try clear p64); (try clear q64); (try clear q65); (try clear c70); (try clear c71); (try clear q73); (try clear c76); (try clear c76b0); (try clear c77); (try clear c77b0); (try clear c78); (try clear c78b0); (try clear c78b1); (try clear c79); (try clear c79b0); (try clear c80); (try clear c80b0); (try clear c81); (try clear c81b0); (try clear c82); (try clear c82b0); (try clear c84); (try clear c84b0); (try clear c84b1); (try clear c86); (try clear c86b0); (try clear c86b1); (try clear c87); (try clear c87b0); (try clear c87b1); (try clear c87b2); (try clear c89); (try clear c89b0); (try clear c89b1); (try clear c91); (try clear c91b0); (try clear c91b1); (try clear c93); (try clear c93b0); (try clear c93b1); (try clear c96); (try clear c96b0); (try clear c96b1); (try clear c99); (try clear c99b0); (try clear c99b1); (try clear c101); (try clear c101b0); (try clear c101b1); (try clear c102); (try clear c102b0); (try clear c102b1); (try clear c102b2); (try clear c104); (try clear c104b0); (try clear c104b1); (try clear c106); (try clear c106b0); (try clear c106b1); (try clear c108); (try clear c108b0); (try clear c108b1); (try clear c111); (try clear c111b0); (try clear c111b1); (try clear c114); (try clear c114b0); (try clear c114b1); (try clear q117); (try clear q121); (try clear c124); (try clear c124b0); (try clear c124b1); (try clear c125); (try clear c125b0); (try clear c125b1); (try clear c128); (try clear c129); (try clear q131); (try clear hx241_0); (try clear hx242_0); (try clear hx243_0); (try clear hx244_0); (try clear hx245_0); (try clear hx246_0); (try clear hx269_0); (try clear hx270_0); (try clear hx271_0); (try clear hx272_0); (try clear hx273_0); (try clear hx274_0); (try clear p2); (try clear p241); (try clear p242); (try clear p243); (try clear p244); (try clear p245); (try clear p246); (try clear p269); (try clear p270); (try clear p271); (try clear p272); (try clear p273); (try clear p274); (try clear p64); (try clear q1); (try clear q117); (try clear q121); (try clear q131); (try clear q14); (try clear q15); (try clear q241); (try clear q242); (try clear q243); (try clear q244); (try clear q245); (try clear q246); (try clear q269); (try clear q270); (try clear q271); (try clear q272); (try clear q273); (try clear q274); (try clear q59); (try clear q60); (try clear q64); (try clear q65); (try clear q73)
              obtain ⟨x10_1, x11_1, rfl, rfl, HA, HK1, HB⟩ := hrel
              cases gk with
              | zero => exact absurd HA.out (by simp [incipitlaw6_KeyOrder.l102])
              | succ k1 =>
               have H := HA.out
               clear HA
               simp only [incipitlaw6_KeyOrder.l102] at H
               by_cases c134 : x11_1 < (l0.length : Int)
               · as_aux_lemma =>
                 rw [if_pos c134] at H
                 have c134b0 : decide (x11_1 < (l0.length : Int)) = true := decide_eq_true c134
                 clear c134
                 by_cases c135 : x11_1 < (y293.length : Int)
                 · as_aux_lemma =>
                   rw [if_pos c135] at H
                   have c135b0 : decide (x11_1 < (y293.length : Int)) = true := decide_eq_true c135
                   clear c135
                   by_cases c136 : x10_1 = 0
                   · as_aux_lemma =>
                     rw [if_pos c136] at H
                     have c136b0 : (x10_1 == 0) = true := beq_iff_eq.mpr c136
                     have c136b1 : (x10_1 != 0) = false := bne_eq_false_iff_eq.mpr c136
                     clear c136
                     by_cases c137 : 0 ≤ x11_1
                     · as_aux_lemma =>
                       rw [if_pos c137] at H
                       have c137b0 : decide (0 ≤ x11_1) = true := decide_eq_true c137
                       clear c137
                       by_cases c138 : (rd l0 x11_1) < (rd y293 x11_1)
                       · as_aux_lemma =>
                         rw [if_pos c138] at H
                         have c138b0 : decide ((rd l0 x11_1) < (rd y293 x11_1)) = true := decide_eq_true c138
                         clear c138
                         by_cases c139 : (rd l0 x11_1) > (rd y293 x11_1)
                         · rw [if_pos c139] at H
                           have c139b0 : decide ((rd y293 x11_1) < (rd l0 x11_1)) = true := decide_eq_true c139
                           clear c139
                           have H' := Aside0.mk H
                           clear H
                           have p301 : 0 ≤ (x11_1 : Int) := of_decide_eq_true (by first | (with_reducible assumption) | assumption)
                           have q301 : x11_1 < (l0.length : Int) := of_decide_eq_true (by first | (with_reducible assumption) | assumption)
                           obtain ⟨ad301, e301, hx301_0⟩ := Kd.at_int HR0.out x11_1 p301 q301
                           cases e301
                           replace hx301_0 := (HB.out.cell (World.block_lt_of_cell? w _ hx301_0)).trans hx301_0
                           replace p301 := eq_true p301
                           replace q301 := eq_true q301
                           have p302 : 0 ≤ (x11_1 : Int) := of_decide_eq_true (by first | (with_reducible assumption) | assumption)
                           have q302 : x11_1 < (y293.length : Int) := of_decide_eq_true (by first | (with_reducible assumption) | assumption)
                           obtain ⟨ad302, e302, hx302_0⟩ := Kd.at_int HR296.out x11_1 p302 q302
                           cases e302
                           replace hx302_0 := (HB.out.cell (World.block_lt_of_cell? w _ hx302_0)).trans hx302_0
                           replace p302 := eq_true p302
                           replace q302 := eq_true q302
                           have p303 : 0 ≤ (x11_1 : Int) := of_decide_eq_true (by first | (with_reducible assumption) | assumption)
                           have q303 : x11_1 < (l0.length : Int) := of_decide_eq_true (by first | (with_reducible assumption) | assumption)
                           obtain ⟨ad303, e303, hx303_0⟩ := Kd.at_int HR0.out x11_1 p303 q303
                           obtain rfl : ad301 = ad303 := (by injection e303)
                           replace hx303_0 := (HB.out.cell (World.block_lt_of_cell? w _ hx303_0)).trans hx303_0
                           replace p303 := eq_true p303
                           replace q303 := eq_true q303
                           have p304 : 0 ≤ (x11_1 : Int) := of_decide_eq_true (by first | (with_reducible assumption) | assumption)
                           have q304 : x11_1 < (y293.length : Int) := of_decide_eq_true (by first | (with_reducible assumption) | assumption)
                           obtain ⟨ad304, e304, hx304_0⟩ := Kd.at_int HR296.out x11_1 p304 q304
                           obtain rfl : ad302 = ad304 := (by injection e304)
                           replace hx304_0 := (HB.out.cell (World.block_lt_of_cell? w _ hx304_0)).trans hx304_0
                           replace p304 := eq_true p304
                           replace q304 := eq_true q304
                           go_wp2
                           repeat (go_quiet (fail); try go_wp2)
                           go_roundg k1
                           case measure => have := HK1.out; omega
                           case rel => exact ⟨(1), (wrap64 (x11_1 + 1)), (by first | rfl | (simp; done) | (simp [*]; done)), (by first | rfl | (simp; done) | (simp [*]; done)), H', ⟨by have := HK1.out; omega⟩, ⟨by repeat (first | (with_reducible first | exact HB.out | apply below_alloc | apply pw_below_drewN | apply below_drew1) | exact HB.out)⟩⟩
                         · rw [if_neg c139] at H
                           have c139b0 : decide ((rd y293 x11_1) < (rd l0 x11_1)) = false := decide_eq_false c139
                           clear c139
                           have H' := Aside0.mk H
                           clear H
                           have p301 : 0 ≤ (x11_1 : Int) := of_decide_eq_true (by first | (with_reducible assumption) | assumption)
                           have q301 : x11_1 < (l0.length : Int) := of_decide_eq_true (by first | (with_reducible assumption) | assumption)
                           obtain ⟨ad301, e301, hx301_0⟩ := Kd.at_int HR0.out x11_1 p301 q301
                           cases e301
                           replace hx301_0 := (HB.out.cell (World.block_lt_of_cell? w _ hx301_0)).trans hx301_0
                           replace p301 := eq_true p301
                           replace q301 := eq_true q301
                           have p302 : 0 ≤ (x11_1 : Int) := of_decide_eq_true (by first | (with_reducible assumption) | assumption)
                           have q302 : x11_1 < (y293.length : Int) := of_decide_eq_true (by first | (with_reducible assumption) | assumption)
                           obtain ⟨ad302, e302, hx302_0⟩ := Kd.at_int HR296.out x11_1 p302 q302
                           cases e302
                           replace hx302_0 := (HB.out.cell (World.block_lt_of_cell? w _ hx302_0)).trans hx302_0
                           replace p302 := eq_true p302
                           replace q302 := eq_true q302
                           have p303 : 0 ≤ (x11_1 : Int) := of_decide_eq_true (by first | (with_reducible assumption) | assumption)
                           have q303 : x11_1 < (l0.length : Int) := of_decide_eq_true (by first | (with_reducible assumption) | assumption)
                           obtain ⟨ad303, e303, hx303_0⟩ := Kd.at_int HR0.out x11_1 p303 q303
                           obtain rfl : ad301 = ad303 := (by injection e303)
                           replace hx303_0 := (HB.out.cell (World.block_lt_of_cell? w _ hx303_0)).trans hx303_0
                           replace p303 := eq_true p303
                           replace q303 := eq_true q303
                           have p304 : 0 ≤ (x11_1 : Int) := of_decide_eq_true (by first | (with_reducible assumption) | assumption)
                           have q304 : x11_1 < (y293.length : Int) := of_decide_eq_true (by first | (with_reducible assumption) | assumption)
                           obtain ⟨ad304, e304, hx304_0⟩ := Kd.at_int HR296.out x11_1 p304 q304
                           obtain rfl : ad302 = ad304 := (by injection e304)
                           replace hx304_0 := (HB.out.cell (World.block_lt_of_cell? w _ hx304_0)).trans hx304_0
                           replace p304 := eq_true p304
                           replace q304 := eq_true q304
                           go_wp2
                           repeat (go_quiet (fail); try go_wp2)
                           go_roundg k1
                           case measure => have := HK1.out; omega
                           case rel => exact ⟨((-1)), (wrap64 (x11_1 + 1)), (by first | rfl | (simp; done) | (simp [*]; done)), (by first | rfl | (simp; done) | (simp [*]; done)), H', ⟨by have := HK1.out; omega⟩, ⟨by repeat (first | (with_reducible first | exact HB.out | apply below_alloc | apply pw_below_drewN | apply below_drew1) | exact HB.out)⟩⟩
                       · as_aux_lemma =>
                         rw [if_neg c138] at H
                         have c138b0 : decide ((rd l0 x11_1) < (rd y293 x11_1)) = false := decide_eq_false c138
                         clear c138
                         by_cases c140 : (rd l0 x11_1) > (rd y293 x11_1)
                         · rw [if_pos c140] at H
                           have c140b0 : decide ((rd y293 x11_1) < (rd l0 x11_1)) = true := decide_eq_true c140
                           clear c140
                           have H' := Aside0.mk H
                           clear H
                           have p301 : 0 ≤ (x11_1 : Int) := of_decide_eq_true (by first | (with_reducible assumption) | assumption)
                           have q301 : x11_1 < (l0.length : Int) := of_decide_eq_true (by first | (with_reducible assumption) | assumption)
                           obtain ⟨ad301, e301, hx301_0⟩ := Kd.at_int HR0.out x11_1 p301 q301
                           cases e301
                           replace hx301_0 := (HB.out.cell (World.block_lt_of_cell? w _ hx301_0)).trans hx301_0
                           replace p301 := eq_true p301
                           replace q301 := eq_true q301
                           have p302 : 0 ≤ (x11_1 : Int) := of_decide_eq_true (by first | (with_reducible assumption) | assumption)
                           have q302 : x11_1 < (y293.length : Int) := of_decide_eq_true (by first | (with_reducible assumption) | assumption)
                           obtain ⟨ad302, e302, hx302_0⟩ := Kd.at_int HR296.out x11_1 p302 q302
                           cases e302
                           replace hx302_0 := (HB.out.cell (World.block_lt_of_cell? w _ hx302_0)).trans hx302_0
                           replace p302 := eq_true p302
                           replace q302 := eq_true q302
                           have p305 : 0 ≤ (x11_1 : Int) := of_decide_eq_true (by first | (with_reducible assumption) | assumption)
                           have q305 : x11_1 < (l0.length : Int) := of_decide_eq_true (by first | (with_reducible assumption) | assumption)
                           obtain ⟨ad305, e305, hx305_0⟩ := Kd.at_int HR0.out x11_1 p305 q305
                           obtain rfl : ad301 = ad305 := (by injection e305)
                           replace hx305_0 := (HB.out.cell (World.block_lt_of_cell? w _ hx305_0)).trans hx305_0
                           replace p305 := eq_true p305
                           replace q305 := eq_true q305
                           have p306 : 0 ≤ (x11_1 : Int) := of_decide_eq_true (by first | (with_reducible assumption) | assumption)
                           have q306 : x11_1 < (y293.length : Int) := of_decide_eq_true (by first | (with_reducible assumption) | assumption)
                           obtain ⟨ad306, e306, hx306_0⟩ := Kd.at_int HR296.out x11_1 p306 q306
                           obtain rfl : ad302 = ad306 := (by injection e306)
                           replace hx306_0 := (HB.out.cell (World.block_lt_of_cell? w _ hx306_0)).trans hx306_0
                           replace p306 := eq_true p306
                           replace q306 := eq_true q306
                           go_wp2
                           repeat (go_quiet (fail); try go_wp2)
                           go_roundg k1
                           case measure => have := HK1.out; omega
                           case rel => exact ⟨(1), (wrap64 (x11_1 + 1)), (by first | rfl | (simp; done) | (simp [*]; done)), (by first | rfl | (simp; done) | (simp [*]; done)), H', ⟨by have := HK1.out; omega⟩, ⟨by repeat (first | (with_reducible first | exact HB.out | apply below_alloc | apply pw_below_drewN | apply below_drew1) | exact HB.out)⟩⟩
                         · rw [if_neg c140] at H
                           have c140b0 : decide ((rd y293 x11_1) < (rd l0 x11_1)) = false := decide_eq_false c140
                           clear c140
                           have H' := Aside0.mk H
                           clear H
                           have p301 : 0 ≤ (x11_1 : Int) := of_decide_eq_true (by first | (with_reducible assumption) | assumption)
                           have q301 : x11_1 < (l0.length : Int) := of_decide_eq_true (by first | (with_reducible assumption) | assumption)
                           obtain ⟨ad301, e301, hx301_0⟩ := Kd.at_int HR0.out x11_1 p301 q301
                           cases e301
                           replace hx301_0 := (HB.out.cell (World.block_lt_of_cell? w _ hx301_0)).trans hx301_0
                           replace p301 := eq_true p301
                           replace q301 := eq_true q301
                           have p302 : 0 ≤ (x11_1 : Int) := of_decide_eq_true (by first | (with_reducible assumption) | assumption)
                           have q302 : x11_1 < (y293.length : Int) := of_decide_eq_true (by first | (with_reducible assumption) | assumption)
                           obtain ⟨ad302, e302, hx302_0⟩ := Kd.at_int HR296.out x11_1 p302 q302
                           cases e302
                           replace hx302_0 := (HB.out.cell (World.block_lt_of_cell? w _ hx302_0)).trans hx302_0
                           replace p302 := eq_true p302
                           replace q302 := eq_true q302
                           have p305 : 0 ≤ (x11_1 : Int) := of_decide_eq_true (by first | (with_reducible assumption) | assumption)
                           have q305 : x11_1 < (l0.length : Int) := of_decide_eq_true (by first | (with_reducible assumption) | assumption)
                           obtain ⟨ad305, e305, hx305_0⟩ := Kd.at_int HR0.out x11_1 p305 q305
                           obtain rfl : ad301 = ad305 := (by injection e305)
                           replace hx305_0 := (HB.out.cell (World.block_lt_of_cell? w _ hx305_0)).trans hx305_0
                           replace p305 := eq_true p305
                           replace q305 := eq_true q305
                           have p306 : 0 ≤ (x11_1 : Int) := of_decide_eq_true (by first | (with_reducible assumption) | assumption)
                           have q306 : x11_1 < (y293.length : Int) := of_decide_eq_true (by first | (with_reducible assumption) | assumption)
                           obtain ⟨ad306, e306, hx306_0⟩ := Kd.at_int HR296.out x11_1 p306 q306
                           obtain rfl : ad302 = ad306 := (by injection e306)
                           replace hx306_0 := (HB.out.cell (World.block_lt_of_cell? w _ hx306_0)).trans hx306_0
                           replace p306 := eq_true p306
                           replace q306 := eq_true q306
                           go_wp2
                           repeat (go_quiet (fail); try go_wp2)
                           go_roundg k1
                           case measure => have := HK1.out; omega
                           case rel => exact ⟨(x10_1), (wrap64 (x11_1 + 1)), (by first | rfl | (simp; done) | (simp [*]; done)), (by first | rfl | (simp; done) | (simp [*]; done)), H', ⟨by have := HK1.out; omega⟩, ⟨by repeat (first | (with_reducible first | exact HB.out | apply below_alloc | apply pw_below_drewN | apply below_drew1) | exact HB.out)⟩⟩
                     · rw [if_neg c137] at H
                       exact absurd H (by simp)
                   · rw [if_neg c136] at H
                     have c136b0 : (x10_1 == 0) = false := beq_eq_false_iff_ne.mpr c136
                     have c136b1 : (x10_1 != 0) = true := bne_iff_ne.mpr c136
                     replace H := Option.bind_eq_some_iff.mp H
                     obtain ⟨t307, A1410, H⟩ := H
                     replace H : (if t307 = x10_1 then ((ckey_Compare.f t299 t297).bind fun t308 => (some (t308 == (wrap64 (-x10_1))))) else (none)) = some r := H
                     have A141 := Aside0.mk A1410
                     clear A1410
                     by_cases c142 : t307 = x10_1
                     · rw [if_pos c142] at H
                       have c142b0 : (t307 == x10_1) = true := beq_iff_eq.mpr c142
                       have c142b1 : (t307 != x10_1) = false := bne_eq_false_iff_eq.mpr c142
                       clear c142
                       replace H := Option.bind_eq_some_iff.mp H
                       obtain ⟨t308, A1430, H⟩ := H
                       replace H : (some (t308 == (wrap64 (-x10_1)))) = some r := H
                       have A143 := Aside0.mk A1430
                       clear A1430
                       obtain rfl := Option.some.inj H
                       go_wp2_with (first | (go_at_call 35; (with_reducible refine (ckey_Compare.calls t297 t299 t307 _ A141.out).mono ?_); rintro e w' ⟨rfl, ⟨nd, rfl⟩⟩; (try first | exact ⟨rfl, _, World.drewN_drewN _ _ _⟩ | exact ⟨rfl, _, Eq.trans (World.drewN_drewN _ _ _) (congrArg (World.drewN _) (Nat.add_assoc _ _ _))⟩)) | (go_at_call 35; (with_reducible refine (ckey_Compare.calls t299 t297 t308 _ A143.out).mono ?_); rintro e w' ⟨rfl, ⟨nd, rfl⟩⟩; (try first | exact ⟨rfl, _, World.drewN_drewN _ _ _⟩ | exact ⟨rfl, _, Eq.trans (World.drewN_drewN _ _ _) (congrArg (World.drewN _) (Nat.add_assoc _ _ _))⟩)))
                       repeat (go_quiet (fail); try go_wp2_with (fail))
                       go_ret
                       exact ⟨by first | rfl | (simp [errW_none, errW_some] <;> rfl) | (simp [*, errW_none, errW_some] <;> rfl) | (first | (simp (disch := omega) [w64_s, errW_none, errW_some]; done) | (simp (disch := omega) [w64_s, errW_none, errW_some] <;> rfl)), by repeat (first | (with_reducible first | exact HB.out | apply below_alloc | apply pw_below_drewN | apply below_drew1) | exact HB.out)⟩
                     · rw [if_neg c142] at H
                       exact absurd H (by simp)
                 · as_aux_lemma =>
                   rw [if_neg c135] at H
                   have c135b0 : decide (x11_1 < (y293.length : Int)) = false := decide_eq_false c135
                   clear c135
                   by_cases c144 : x10_1 = 0
                   · as_aux_lemma =>
                     rw [if_pos c144] at H
                     have c144b0 : (x10_1 == 0) = true := beq_iff_eq.mpr c144
                     have c144b1 : (x10_1 != 0) = false := bne_eq_false_iff_eq.mpr c144
                     clear c144
                     by_cases c145 : (l0.length : Int) = (y293.length : Int)
                     · rw [if_pos c145] at H
                       have c145b0 : ((l0.length : Int) == (y293.length : Int)) = true := beq_iff_eq.mpr c145
                       have c145b1 : ((l0.length : Int) != (y293.length : Int)) = false := bne_eq_false_iff_eq.mpr c145
                       have c145b2 : (l0.length == y293.length) = true := by first | simpa using c145 | (simp at c145 ⊢; omega)
                       clear c145
                       replace H := Option.bind_eq_some_iff.mp H
                       obtain ⟨t309, A1460, H⟩ := H
                       replace H : (if t309 = x10_1 then ((ckey_Compare.f t299 t297).bind fun t310 => (some (t310 == (wrap64 (-x10_1))))) else (none)) = some r := H
                       have A146 := Aside0.mk A1460
                       clear A1460
                       by_cases c147 : t309 = x10_1
                       · rw [if_pos c147] at H
                         have c147b0 : (t309 == x10_1) = true := beq_iff_eq.mpr c147
                         have c147b1 : (t309 != x10_1) = false := bne_eq_false_iff_eq.mpr c147
                         clear c147
                         replace H := Option.bind_eq_some_iff.mp H
                         obtain ⟨t310, A1480, H⟩ := H
                         replace H : (some (t310 == (wrap64 (-x10_1)))) = some r := H
                         have A148 := Aside0.mk A1480
                         clear A1480
                         obtain rfl := Option.some.inj H
                         go_wp2_with (first | (go_at_call 35; (with_reducible refine (ckey_Compare.calls t297 t299 t309 _ A146.out).mono ?_); rintro e w' ⟨rfl, ⟨nd, rfl⟩⟩; (try first | exact ⟨rfl, _, World.drewN_drewN _ _ _⟩ | exact ⟨rfl, _, Eq.trans (World.drewN_drewN _ _ _) (congrArg (World.drewN _) (Nat.add_assoc _ _ _))⟩)) | (go_at_call 35; (with_reducible refine (ckey_Compare.calls t299 t297 t310 _ A148.out).mono ?_); rintro e w' ⟨rfl, ⟨nd, rfl⟩⟩; (try first | exact ⟨rfl, _, World.drewN_drewN _ _ _⟩ | exact ⟨rfl, _, Eq.trans (World.drewN_drewN _ _ _) (congrArg (World.drewN _) (Nat.add_assoc _ _ _))⟩)))
                         repeat (go_quiet (fail); try go_wp2_with (fail))
                         go_ret
                         exact ⟨by first | rfl | (simp [errW_none, errW_some] <;> rfl) | (simp [*, errW_none, errW_some] <;> rfl) | (first | (simp (disch := omega) [w64_s, errW_none, errW_some]; done) | (simp (disch := omega) [w64_s, errW_none, errW_some] <;> rfl)), by repeat (first | (with_reducible first | exact HB.out | apply below_alloc | apply pw_below_drewN | apply below_drew1) | exact HB.out)⟩
                       · rw [if_neg c147] at H
                         exact absurd H (by simp)
                     · rw [if_neg c145] at H
                       have c145b0 : ((l0.length : Int) == (y293.length : Int)) = false := beq_eq_false_iff_ne.mpr c145
                       have c145b1 : ((l0.length : Int) != (y293.length : Int)) = true := bne_iff_ne.mpr c145
                       have c145b2 : (l0.length == y293.length) = false := by first | simpa using c145 | (simp at c145 ⊢; omega)
                       by_cases c149 : (l0.length : Int) < (y293.length : Int)
                       · rw [if_pos c149] at H
                         have c149b0 : decide ((l0.length : Int) < (y293.length : Int)) = true := decide_eq_true c149
                         have c149b1 : decide (l0.length < y293.length) = true := decide_eq_true (Int.ofNat_lt.mp c149)
                         clear c149
                         replace H := Option.bind_eq_some_iff.mp H
                         obtain ⟨t311, A1500, H⟩ := H
                         replace H : (if t311 = (-1) then ((ckey_Compare.f t299 t297).bind fun t312 => (some (t312 == (-(-1))))) else (none)) = some r := H
                         have A150 := Aside0.mk A1500
                         clear A1500
                         by_cases c151 : t311 = (-1)
                         · rw [if_pos c151] at H
                           have c151b0 : (t311 == (-1)) = true := beq_iff_eq.mpr c151
                           have c151b1 : (t311 != (-1)) = false := bne_eq_false_iff_eq.mpr c151
                           clear c151
                           replace H := Option.bind_eq_some_iff.mp H
                           obtain ⟨t312, A1520, H⟩ := H
                           replace H : (some (t312 == (-(-1)))) = some r := H
                           have A152 := Aside0.mk A1520
                           clear A1520
                           obtain rfl := Option.some.inj H
                           go_wp2_with (first | (go_at_call 35; (with_reducible refine (ckey_Compare.calls t297 t299 t311 _ A150.out).mono ?_); rintro e w' ⟨rfl, ⟨nd, rfl⟩⟩; (try first | exact ⟨rfl, _, World.drewN_drewN _ _ _⟩ | exact ⟨rfl, _, Eq.trans (World.drewN_drewN _ _ _) (congrArg (World.drewN _) (Nat.add_assoc _ _ _))⟩)) | (go_at_call 35; (with_reducible refine (ckey_Compare.calls t299 t297 t312 _ A152.out).mono ?_); rintro e w' ⟨rfl, ⟨nd, rfl⟩⟩; (try first | exact ⟨rfl, _, World.drewN_drewN _ _ _⟩ | exact ⟨rfl, _, Eq.trans (World.drewN_drewN _ _ _) (congrArg (World.drewN _) (Nat.add_assoc _ _ _))⟩)))
                           repeat (go_quiet (fail); try go_wp2_with (fail))
                           go_ret
                           exact ⟨by first | rfl | (simp [errW_none, errW_some] <;> rfl) | (simp [*, errW_none, errW_some] <;> rfl) | (first | (simp (disch := omega) [w64_s, errW_none, errW_some]; done) | (simp (disch := omega) [w64_s, errW_none, errW_some] <;> rfl)), by repeat (first | (with_reducible first | exact HB.out | apply below_alloc | apply pw_below_drewN | apply below_drew1) | exact HB.out)⟩
                         · rw [if_neg c151] at H
                           exact absurd H (by simp)
                       · rw [if_neg c149] at H
                         have c149b0 : decide ((l0.length : Int) < (y293.length : Int)) = false := decide_eq_false c149
                         have c149b1 : decide (l0.length < y293.length) = false := decide_eq_false (fun h => c149 (Int.ofNat_lt.mpr h))
                         clear c149
                         replace H := Option.bind_eq_some_iff.mp H
                         obtain ⟨t313, A1530, H⟩ := H
                         replace H : (if t313 = 1 then ((ckey_Compare.f t299 t297).bind fun t314 => (some (t314 == (-1)))) else (none)) = some r := H
                         have A153 := Aside0.mk A1530
                         clear A1530
                         by_cases c154 : t313 = 1
                         · rw [if_pos c154] at H
                           have c154b0 : (t313 == 1) = true := beq_iff_eq.mpr c154
                           have c154b1 : (t313 != 1) = false := bne_eq_false_iff_eq.mpr c154
                           clear c154
                           replace H := Option.bind_eq_some_iff.mp H
                           obtain ⟨t314, A1550, H⟩ := H
                           replace H : (some (t314 == (-1))) = some r := H
                           have A155 := Aside0.mk A1550
                           clear A1550
                           obtain rfl := Option.some.inj H
                           go_wp2_with (first | (go_at_call 35; (with_reducible refine (ckey_Compare.calls t297 t299 t313 _ A153.out).mono ?_); rintro e w' ⟨rfl, ⟨nd, rfl⟩⟩; (try first | exact ⟨rfl, _, World.drewN_drewN _ _ _⟩ | exact ⟨rfl, _, Eq.trans (World.drewN_drewN _ _ _) (congrArg (World.drewN _) (Nat.add_assoc _ _ _))⟩)) | (go_at_call 35; (with_reducible refine (ckey_Compare.calls t299 t297 t314 _ A155.out).mono ?_); rintro e w' ⟨rfl, ⟨nd, rfl⟩⟩; (try first | exact ⟨rfl, _, World.drewN_drewN _ _ _⟩ | exact ⟨rfl, _, Eq.trans (World.drewN_drewN _ _ _) (congrArg (World.drewN _) (Nat.add_assoc _ _ _))⟩)))
                           repeat (go_quiet (fail); try go_wp2_with (fail))
                           go_ret
                           exact ⟨by first | rfl | (simp [errW_none, errW_some] <;> rfl) | (simp [*, errW_none, errW_some] <;> rfl) | (first | (simp (disch := omega) [w64_s, errW_none, errW_some]; done) | (simp (disch := omega) [w64_s, errW_none, errW_some] <;> rfl)), by repeat (first | (with_reducible first | exact HB.out | apply below_alloc | apply pw_below_drewN | apply below_drew1) | exact HB.out)⟩
                         · rw [if_neg c154] at H
                           exact absurd H (by simp)
                   · rw [if_neg c144] at H
                     have c144b0 : (x10_1 == 0) = false := beq_eq_false_iff_ne.mpr c144
                     have c144b1 : (x10_1 != 0) = true := bne_iff_ne.mpr c144
                     replace H := Option.bind_eq_some_iff.mp H
                     obtain ⟨t315, A1560, H⟩ := H
                     replace H : (if t315 = x10_1 then ((ckey_Compare.f t299 t297).bind fun t316 => (some (t316 == (wrap64 (-x10_1))))) else (none)) = some r := H
                     have A156 := Aside0.mk A1560
                     clear A1560
                     by_cases c157 : t315 = x10_1
                     · rw [if_pos c157] at H
                       have c157b0 : (t315 == x10_1) = true := beq_iff_eq.mpr c157
                       have c157b1 : (t315 != x10_1) = false := bne_eq_false_iff_eq.mpr c157
                       clear c157
                       replace H := Option.bind_eq_some_iff.mp H
                       obtain ⟨t316, A1580, H⟩ := H
                       replace H : (some (t316 == (wrap64 (-x10_1)))) = some r := H
                       have A158 := Aside0.mk A1580
                       clear A1580
                       obtain rfl := Option.some.inj H
                       go_wp2_with (first | (go_at_call 35; (with_reducible refine (ckey_Compare.calls t297 t299 t315 _ A156.out).mono ?_); rintro e w' ⟨rfl, ⟨nd, rfl⟩⟩; (try first | exact ⟨rfl, _, World.drewN_drewN _ _ _⟩ | exact ⟨rfl, _, Eq.trans (World.drewN_drewN _ _ _) (congrArg (World.drewN _) (Nat.add_assoc _ _ _))⟩)) | (go_at_call 35; (with_reducible refine (ckey_Compare.calls t299 t297 t316 _ A158.out).mono ?_); rintro e w' ⟨rfl, ⟨nd, rfl⟩⟩; (try first | exact ⟨rfl, _, World.drewN_drewN _ _ _⟩ | exact ⟨rfl, _, Eq.trans (World.drewN_drewN _ _ _) (congrArg (World.drewN _) (Nat.add_assoc _ _ _))⟩)))
                       repeat (go_quiet (fail); try go_wp2_with (fail))
                       go_ret
                       exact ⟨by first | rfl | (simp [errW_none, errW_some] <;> rfl) | (simp [*, errW_none, errW_some] <;> rfl) | (first | (simp (disch := omega) [w64_s, errW_none, errW_some]; done) | (simp (disch := omega) [w64_s, errW_none, errW_some] <;> rfl)), by repeat (first | (with_reducible first | exact HB.out | apply below_alloc | apply pw_below_drewN | apply below_drew1) | exact HB.out)⟩
                     · rw [if_neg c157] at H
                       exact absurd H (by simp)
               · as_aux_lemma =>
                 rw [if_neg c134] at H
                 have c134b0 : decide (x11_1 < (l0.length : Int)) = false := decide_eq_false c134
                 clear c134
                 by_cases c159 : x10_1 = 0
                 · as_aux_lemma =>
                   rw [if_pos c159] at H
                   have c159b0 : (x10_1 == 0) = true := beq_iff_eq.mpr c159
                   have c159b1 : (x10_1 != 0) = false := bne_eq_false_iff_eq.mpr c159
                   clear c159
                   by_cases c160 : (l0.length : Int) = (y293.length : Int)
                   · rw [if_pos c160] at H
                     have c160b0 : ((l0.length : Int) == (y293.length : Int)) = true := beq_iff_eq.mpr c160
                     have c160b1 : ((l0.length : Int) != (y293.length : Int)) = false := bne_eq_false_iff_eq.mpr c160
                     have c160b2 : (l0.length == y293.length) = true := by first | simpa using c160 | (simp at c160 ⊢; omega)
                     clear c160
                     replace H := Option.bind_eq_some_iff.mp H
                     obtain ⟨t317, A1610, H⟩ := H
                     replace H : (if t317 = x10_1 then ((ckey_Compare.f t299 t297).bind fun t318 => (some (t318 == (wrap64 (-x10_1))))) else (none)) = some r := H
                     have A161 := Aside0.mk A1610
                     clear A1610
                     by_cases c162 : t317 = x10_1
                     · rw [if_pos c162] at H
                       have c162b0 : (t317 == x10_1) = true := beq_iff_eq.mpr c162
                       have c162b1 : (t317 != x10_1) = false := bne_eq_false_iff_eq.mpr c162
                       clear c162
                       replace H := Option.bind_eq_some_iff.mp H
                       obtain ⟨t318, A1630, H⟩ := H
                       replace H : (some (t318 == (wrap64 (-x10_1)))) = some r := H
                       have A163 := Aside0.mk A1630
                       clear A1630
                       obtain rfl := Option.some.inj H
                       go_wp2_with (first | (go_at_call 35; (with_reducible refine (ckey_Compare.calls t297 t299 t317 _ A161.out).mono ?_); rintro e w' ⟨rfl, ⟨nd, rfl⟩⟩; (try first | exact ⟨rfl, _, World.drewN_drewN _ _ _⟩ | exact ⟨rfl, _, Eq.trans (World.drewN_drewN _ _ _) (congrArg (World.drewN _) (Nat.add_assoc _ _ _))⟩)) | (go_at_call 35; (with_reducible refine (ckey_Compare.calls t299 t297 t318 _ A163.out).mono ?_); rintro e w' ⟨rfl, ⟨nd, rfl⟩⟩; (try first | exact ⟨rfl, _, World.drewN_drewN _ _ _⟩ | exact ⟨rfl, _, Eq.trans (World.drewN_drewN _ _ _) (congrArg (World.drewN _) (Nat.add_assoc _ _ _))⟩)))
                       repeat (go_quiet (fail); try go_wp2_with (fail))
                       go_ret
                       exact ⟨by first | rfl | (simp [errW_none, errW_some] <;> rfl) | (simp [*, errW_none, errW_some] <;> rfl) | (first | (simp (disch := omega) [w64_s, errW_none, errW_some]; done) | (simp (disch := omega) [w64_s, errW_none, errW_some] <;> rfl)), by repeat (first | (with_reducible first | exact HB.out | apply below_alloc | apply pw_below_drewN | apply below_drew1) | exact HB.out)⟩
                     · rw [if_neg c162] at H
                       exact absurd H (by simp)
                   · rw [if_neg c160] at H
                     have c160b0 : ((l0.length : Int) == (y293.length : Int)) = false := beq_eq_false_iff_ne.mpr c160
                     have c160b1 : ((l0.length : Int) != (y293.length : Int)) = true := bne_iff_ne.mpr c160
                     have c160b2 : (l0.length == y293.length) = false := by first | simpa using c160 | (simp at c160 ⊢; omega)
                     by_cases c164 : (l0.length : Int) < (y293.length : Int)
                     · rw [if_pos c164] at H
                       have c164b0 : decide ((l0.length : Int) < (y293.length : Int)) = true := decide_eq_true c164
                       have c164b1 : decide (l0.length < y293.length) = true := decide_eq_true (Int.ofNat_lt.mp c164)
                       clear c164
                       replace H := Option.bind_eq_some_iff.mp H
                       obtain ⟨t319, A1650, H⟩ := H
                       replace H : (if t319 = (-1) then ((ckey_Compare.f t299 t297).bind fun t320 => (some (t320 == (-(-1))))) else (none)) = some r := H
                       have A165 := Aside0.mk A1650
                       clear A1650
                       by_cases c166 : t319 = (-1)
                       · rw [if_pos c166] at H
                         have c166b0 : (t319 == (-1)) = true := beq_iff_eq.mpr c166
                         have c166b1 : (t319 != (-1)) = false := bne_eq_false_iff_eq.mpr c166
                         clear c166
                         replace H := Option.bind_eq_some_iff.mp H
                         obtain ⟨t320, A1670, H⟩ := H
                         replace H : (some (t320 == (-(-1)))) = some r := H
                         have A167 := Aside0.mk A1670
                         clear A1670
                         obtain rfl := Option.some.inj H
                         go_wp2_with (first | (go_at_call 35; (with_reducible refine (ckey_Compare.calls t297 t299 t319 _ A165.out).mono ?_); rintro e w' ⟨rfl, ⟨nd, rfl⟩⟩; (try first | exact ⟨rfl, _, World.drewN_drewN _ _ _⟩ | exact ⟨rfl, _, Eq.trans (World.drewN_drewN _ _ _) (congrArg (World.drewN _) (Nat.add_assoc _ _ _))⟩)) | (go_at_call 35; (with_reducible refine (ckey_Compare.calls t299 t297 t320 _ A167.out).mono ?_); rintro e w' ⟨rfl, ⟨nd, rfl⟩⟩; (try first | exact ⟨rfl, _, World.drewN_drewN _ _ _⟩ | exact ⟨rfl, _, Eq.trans (World.drewN_drewN _ _ _) (congrArg (World.drewN _) (Nat.add_assoc _ _ _))⟩)))
                         repeat (go_quiet (fail); try go_wp2_with (fail))
                         go_ret
                         exact ⟨by first | rfl | (simp [errW_none, errW_some] <;> rfl) | (simp [*, errW_none, errW_some] <;> rfl) | (first | (simp (disch := omega) [w64_s, errW_none, errW_some]; done) | (simp (disch := omega) [w64_s, errW_none, errW_some] <;> rfl)), by repeat (first | (with_reducible first | exact HB.out | apply below_alloc | apply pw_below_drewN | apply below_drew1) | exact HB.out)⟩
                       · rw [if_neg c166] at H
                         exact absurd H (by simp)
                     · rw [if_neg c164] at H
                       have c164b0 : decide ((l0.length : Int) < (y293.length : Int)) = false := decide_eq_false c164
                       have c164b1 : decide (l0.length < y293.length) = false := decide_eq_false (fun h => c164 (Int.ofNat_lt.mpr h))
                       clear c164
                       replace H := Option.bind_eq_some_iff.mp H
                       obtain ⟨t321, A1680, H⟩ := H
                       replace H : (if t321 = 1 then ((ckey_Compare.f t299 t297).bind fun t322 => (some (t322 == (-1)))) else (none)) = some r := H
                       have A168 := Aside0.mk A1680
                       clear A1680
                       by_cases c169 : t321 = 1
                       · rw [if_pos c169] at H
                         have c169b0 : (t321 == 1) = true := beq_iff_eq.mpr c169
                         have c169b1 : (t321 != 1) = false := bne_eq_false_iff_eq.mpr c169
                         clear c169
                         replace H := Option.bind_eq_some_iff.mp H
                         obtain ⟨t322, A1700, H⟩ := H
                         replace H : (some (t322 == (-1))) = some r := H
                         have A170 := Aside0.mk A1700
                         clear A1700
                         obtain rfl := Option.some.inj H
                         go_wp2_with (first | (go_at_call 35; (with_reducible refine (ckey_Compare.calls t297 t299 t321 _ A168.out).mono ?_); rintro e w' ⟨rfl, ⟨nd, rfl⟩⟩; (try first | exact ⟨rfl, _, World.drewN_drewN _ _ _⟩ | exact ⟨rfl, _, Eq.trans (World.drewN_drewN _ _ _) (congrArg (World.drewN _) (Nat.add_assoc _ _ _))⟩)) | (go_at_call 35; (with_reducible refine (ckey_Compare.calls t299 t297 t322 _ A170.out).mono ?_); rintro e w' ⟨rfl, ⟨nd, rfl⟩⟩; (try first | exact ⟨rfl, _, World.drewN_drewN _ _ _⟩ | exact ⟨rfl, _, Eq.trans (World.drewN_drewN _ _ _) (congrArg (World.drewN _) (Nat.add_assoc _ _ _))⟩)))
                         repeat (go_quiet (fail); try go_wp2_with (fail))
                         go_ret
                         exact ⟨by first | rfl | (simp [errW_none, errW_some] <;> rfl) | (simp [*, errW_none, errW_some] <;> rfl) | (first | (simp (disch := omega) [w64_s, errW_none, errW_some]; done) | (simp (disch := omega) [w64_s, errW_none, errW_some] <;> rfl)), by repeat (first | (with_reducible first | exact HB.out | apply below_alloc | apply pw_below_drewN | apply below_drew1) | exact HB.out)⟩
                       · rw [if_neg c169] at H
                         exact absurd H (by simp)
                 · rw [if_neg c159] at H
                   have c159b0 : (x10_1 == 0) = false := beq_eq_false_iff_ne.mpr c159
                   have c159b1 : (x10_1 != 0) = true := bne_iff_ne.mpr c159
                   replace H := Option.bind_eq_some_iff.mp H
                   obtain ⟨t323, A1710, H⟩ := H
                   replace H : (if t323 = x10_1 then ((ckey_Compare.f t299 t297).bind fun t324 => (some (t324 == (wrap64 (-x10_1))))) else (none)) = some r := H
                   have A171 := Aside0.mk A1710
                   clear A1710
                   by_cases c172 : t323 = x10_1
                   · rw [if_pos c172] at H
                     have c172b0 : (t323 == x10_1) = true := beq_iff_eq.mpr c172
                     have c172b1 : (t323 != x10_1) = false := bne_eq_false_iff_eq.mpr c172
                     clear c172
                     replace H := Option.bind_eq_some_iff.mp H
                     obtain ⟨t324, A1730, H⟩ := H
                     replace H : (some (t324 == (wrap64 (-x10_1)))) = some r := H
                     have A173 := Aside0.mk A1730
                     clear A1730
                     obtain rfl := Option.some.inj H
                     go_wp2_with (first | (go_at_call 35; (with_reducible refine (ckey_Compare.calls t297 t299 t323 _ A171.out).mono ?_); rintro e w' ⟨rfl, ⟨nd, rfl⟩⟩; (try first | exact ⟨rfl, _, World.drewN_drewN _ _ _⟩ | exact ⟨rfl, _, Eq.trans (World.drewN_drewN _ _ _) (congrArg (World.drewN _) (Nat.add_assoc _ _ _))⟩)) | (go_at_call 35; (with_reducible refine (ckey_Compare.calls t299 t297 t324 _ A173.out).mono ?_); rintro e w' ⟨rfl, ⟨nd, rfl⟩⟩; (try first | exact ⟨rfl, _, World.drewN_drewN _ _ _⟩ | exact ⟨rfl, _, Eq.trans (World.drewN_drewN _ _ _) (congrArg (World.drewN _) (Nat.add_assoc _ _ _))⟩)))
                     repeat (go_quiet (fail); try go_wp2_with (fail))
                     go_ret
                     exact ⟨by first | rfl | (simp [errW_none, errW_some] <;> rfl) | (simp [*, errW_none, errW_some] <;> rfl) | (first | (simp (disch := omega) [w64_s, errW_none, errW_some]; done) | (simp (disch := omega) [w64_s, errW_none, errW_some] <;> rfl)), by repeat (first | (with_reducible first | exact HB.out | apply below_alloc | apply pw_below_drewN | apply below_drew1) | exact HB.out)⟩
                   · rw [if_neg c172] at H
                     exact absurd H (by simp)
           · replace c129 := Bool.eq_false_iff.mpr c129
             subst c129
             have H1 : (some true) = some r := by rw [if_neg (show ¬ (false = true) by decide)] at H; exact H
             clear H
             have H := H1
             clear H1
             obtain rfl := Option.some.inj H
             go_enter Try.func11, Try.ntmps11
             go_wp2_with (first | (go_at_call 29; (with_reducible refine (incipitlaw6_begun.calls  true _ A3.out).mono ?_); rintro e w174 ⟨rfl, hb⟩; have n0_ := Aside0.mk (below_step (by repeat (first | (with_reducible first | exact HB.out | apply below_alloc | apply pw_below_drewN | apply below_drew1) | exact HB.out)) hb); clear HB; have HB := n0_; clear n0_; (try clear hb); (try clear hb2); (try clear hk); (try clear hi); have q175 : (20 : Int) ≤ ((l1.length : Int) : Int) := of_decide_eq_true (by first | (with_reducible assumption) | assumption); obtain ⟨i0175, hi0175, _, hsz175, _⟩ := info_parts info3; have hroom175 : l1.length ≤ c1 := HC1.out; have hC175 : Kd.C (Kd.int .i64) _ A1 l1.length l1 := HR1.out; have hcut175 := cut_to (P := Try.prog) 22 3 .i64 Try.underlying22 hi0175 A1 l1.length c1 20 (by omega) q175 hroom175; have hr175 := Kd.C_take (m := 20) hC175 (by omega); have hy175 : y293.length = (20 : Int).toNat := (by rw [Ny293.out, List.length_take]; omega); rw [← Ny293.out] at hr175; rw [← hy175] at hcut175; have HR296 := Aside0.mk hr175; have HC296 := Aside0.mk (show y293.length ≤ c1 from by omega); clear hr175 hC175 hroom175 hi0175 hsz175; have KY175 := Aside0.mk hy175; clear hy175; replace q175 := eq_true q175) | (go_at_call 34; (with_reducible refine (incipitref1_Write.calls k _ _ l0 t297 true _ ?side1 ?side2 A126.out).mono ?_); (case side1 => repeat (first | exact (Kd.C_below HR0.out HB.out) | (with_reducible refine Kd.C_alloc ?_ _) | (with_reducible refine Kd.C_drewN ?_ _) | (with_reducible refine Kd.C_drew ?_))); (case side2 => exact HC0.out); rintro e w176 ⟨rfl, hb⟩; have n0_ := Aside0.mk (below_step (by repeat (first | (with_reducible first | exact HB.out | apply below_alloc | apply pw_below_drewN | apply below_drew1) | exact HB.out)) hb); clear HB; have HB := n0_; clear n0_; (try clear hb); (try clear hb2); (try clear hk); (try clear hi)) | (go_at_call 34; (with_reducible refine (incipitref1_Write.calls k _ _ y293 t299 false _ ?side1 ?side2 A127.out).mono ?_); (case side1 => repeat (first | exact (Kd.C_below HR296.out HB.out) | (with_reducible refine Kd.C_alloc ?_ _) | (with_reducible refine Kd.C_drewN ?_ _) | (with_reducible refine Kd.C_drew ?_))); (case side2 => exact HC296.out); rintro e w177 ⟨rfl, hb⟩; have n0_ := Aside0.mk (below_step (by repeat (first | (with_reducible first | exact HB.out | apply below_alloc | apply pw_below_drewN | apply below_drew1) | exact HB.out)) hb); clear HB; have HB := n0_; clear n0_; (try clear hb); (try clear hb2); (try clear hk); (try clear hi)))
             repeat (go_quiet (fail); try go_wp2_with (fail))
             go_ret
             exact ⟨by first | rfl | (simp [errW_none, errW_some] <;> rfl) | (simp [*, errW_none, errW_some] <;> rfl) | (first | (simp (disch := omega) [w64_s, errW_none, errW_some]; done) | (simp (disch := omega) [w64_s, errW_none, errW_some] <;> rfl)), by repeat (first | (with_reducible first | exact HB.out | apply below_alloc | apply pw_below_drewN | apply below_drew1) | exact HB.out)⟩
         · replace c128 := Bool.eq_false_iff.mpr c128
           subst c128
           have H1 : (some true) = some r := by rw [if_neg (show ¬ (false = true) by decide)] at H; exact H
           clear H
           have H := H1
           clear H1
           obtain rfl := Option.some.inj H
           go_enter Try.func11, Try.ntmps11
           go_wp2_with (first | (go_at_call 29; (with_reducible refine (incipitlaw6_begun.calls  true _ A3.out).mono ?_); rintro e w178 ⟨rfl, hb⟩; have n0_ := Aside0.mk (below_step (by repeat (first | (with_reducible first | exact HB.out | apply below_alloc | apply pw_below_drewN | apply below_drew1) | exact HB.out)) hb); clear HB; have HB := n0_; clear n0_; (try clear hb); (try clear hb2); (try clear hk); (try clear hi); have q179 : (20 : Int) ≤ ((l1.length : Int) : Int) := of_decide_eq_true (by first | (with_reducible assumption) | assumption); obtain ⟨i0179, hi0179, _, hsz179, _⟩ := info_parts info3; have hroom179 : l1.length ≤ c1 := HC1.out; have hC179 : Kd.C (Kd.int .i64) _ A1 l1.length l1 := HR1.out; have hcut179 := cut_to (P := Try.prog) 22 3 .i64 Try.underlying22 hi0179 A1 l1.length c1 20 (by omega) q179 hroom179; have hr179 := Kd.C_take (m := 20) hC179 (by omega); have hy179 : y293.length = (20 : Int).toNat := (by rw [Ny293.out, List.length_take]; omega); rw [← Ny293.out] at hr179; rw [← hy179] at hcut179; have HR296 := Aside0.mk hr179; have HC296 := Aside0.mk (show y293.length ≤ c1 from by omega); clear hr179 hC179 hroom179 hi0179 hsz179; have KY179 := Aside0.mk hy179; clear hy179; replace q179 := eq_true q179) | (go_at_call 34; (with_reducible refine (incipitref1_Write.calls k _ _ l0 t297 false _ ?side1 ?side2 A126.out).mono ?_); (case side1 => repeat (first | exact (Kd.C_below HR0.out HB.out) | (with_reducible refine Kd.C_alloc ?_ _) | (with_reducible refine Kd.C_drewN ?_ _) | (with_reducible refine Kd.C_drew ?_))); (case side2 => exact HC0.out); rintro e w180 ⟨rfl, hb⟩; have n0_ := Aside0.mk (below_step (by repeat (first | (with_reducible first | exact HB.out | apply below_alloc | apply pw_below_drewN | apply below_drew1) | exact HB.out)) hb); clear HB; have HB := n0_; clear n0_; (try clear hb); (try clear hb2); (try clear hk); (try clear hi)) | (go_at_call 34; (with_reducible refine (incipitref1_Write.calls k _ _ y293 t299 t300 _ ?side1 ?side2 A127.out).mono ?_); (case side1 => repeat (first | exact (Kd.C_below HR296.out HB.out) | (with_reducible refine Kd.C_alloc ?_ _) | (with_reducible refine Kd.C_drewN ?_ _) | (with_reducible refine Kd.C_drew ?_))); (case side2 => exact HC296.out); rintro e w181 ⟨rfl, hb⟩; have n0_ := Aside0.mk (below_step (by repeat (first | (with_reducible first | exact HB.out | apply below_alloc | apply pw_below_drewN | apply below_drew1) | exact HB.out)) hb); clear HB; have HB := n0_; clear n0_; (try clear hb); (try clear hb2); (try clear hk); (try clear hi)))
           repeat (go_quiet (fail); try go_wp2_with (fail))
           go_ret
           exact ⟨by first | rfl | (simp [errW_none, errW_some] <;> rfl) | (simp [*, errW_none, errW_some] <;> rfl) | (first | (simp (disch := omega) [w64_s, errW_none, errW_some]; done) | (simp (disch := omega) [w64_s, errW_none, errW_some] <;> rfl)), by repeat (first | (with_reducible first | exact HB.out | apply below_alloc | apply pw_below_drewN | apply below_drew1) | exact HB.out)⟩
       · rw [if_neg c125] at H
         exact absurd H (by simp)
     · as_aux_lemma =>
       rw [if_neg c124] at H
       have c124b0 : decide (20 < (l1.length : Int)) = false := decide_eq_false c124
       have c124b1 : decide (20 < l1.length) = false := decide_eq_false (by omega)
       clear c124
       replace H := Option.bind_eq_some_iff.mp H
       obtain ⟨⟨t325, t326⟩, A1820, H⟩ := H
       replace H : ((incipitref1_Write.f k l1).bind fun bt327 => (if t326 = true then (if bt327.2 = true then (incipitlaw6_KeyOrder.l103 k l0 l1 t325 bt327.1 0 0) else (some true)) else (some true))) = some r := H
       have A182 := Aside0.mk A1820
       clear A1820
       replace H := Option.bind_eq_some_iff.mp H
       obtain ⟨⟨t327, t328⟩, A1830, H⟩ := H
       replace H : (if t326 = true then (if t328 = true then (incipitlaw6_KeyOrder.l103 k l0 l1 t325 t327 0 0) else (some true)) else (some true)) = some r := H
       have A183 := Aside0.mk A1830
       clear A1830
       by_cases c184 : t326 = true
       · subst c184
         have H1 : (if t328 = true then (incipitlaw6_KeyOrder.l103 k l0 l1 t325 t327 0 0) else (some true)) = some r := by rw [if_pos rfl] at H; exact H
         clear H
         have H := H1
         clear H1
         by_cases c185 : t328 = true
         · subst c185
           have H1 : (incipitlaw6_KeyOrder.l103 k l0 l1 t325 t327 0 0) = some r := by rw [if_pos rfl] at H; exact H
           clear H
           have H := H1
           clear H1
           have H' := Aside0.mk H
           clear H
           go_enter Try.func11, Try.ntmps11
           go_wp2_with (first | (go_at_call 29; (with_reducible refine (incipitlaw6_begun.calls  true _ A3.out).mono ?_); rintro e w186 ⟨rfl, hb⟩; have n0_ := Aside0.mk (below_step (by repeat (first | (with_reducible first | exact HB.out | apply below_alloc | apply pw_below_drewN | apply below_drew1) | exact HB.out)) hb); clear HB; have HB := n0_; clear n0_; (try clear hb); (try clear hb2); (try clear hk); (try clear hi)) | (go_at_call 34; (with_reducible refine (incipitref1_Write.calls k _ _ l0 t325 true _ ?side1 ?side2 A182.out).mono ?_); (case side1 => repeat (first | exact (Kd.C_below HR0.out HB.out) | (with_reducible refine Kd.C_alloc ?_ _) | (with_reducible refine Kd.C_drewN ?_ _) | (with_reducible refine Kd.C_drew ?_))); (case side2 => exact HC0.out); rintro e w187 ⟨rfl, hb⟩; have n0_ := Aside0.mk (below_step (by repeat (first | (with_reducible first | exact HB.out | apply below_alloc | apply pw_below_drewN | apply below_drew1) | exact HB.out)) hb); clear HB; have HB := n0_; clear n0_; (try clear hb); (try clear hb2); (try clear hk); (try clear hi)) | (go_at_call 34; (with_reducible refine (incipitref1_Write.calls k _ _ l1 t327 true _ ?side1 ?side2 A183.out).mono ?_); (case side1 => repeat (first | exact (Kd.C_below HR1.out HB.out) | (with_reducible refine Kd.C_alloc ?_ _) | (with_reducible refine Kd.C_drewN ?_ _) | (with_reducible refine Kd.C_drew ?_))); (case side2 => exact HC1.out); rintro e w188 ⟨rfl, hb⟩; have n0_ := Aside0.mk (below_step (by repeat (first | (with_reducible first | exact HB.out | apply below_alloc | apply pw_below_drewN | apply below_drew1) | exact HB.out)) hb); clear HB; have HB := n0_; clear n0_; (try clear hb); (try clear hb2); (try clear hk); (try clear hi)))
           repeat (go_quiet (fail); try go_wp2_with (fail))
           try simp only [Act.put, List.setIfInBounds_toArray, List.set_cons_succ, List.set_cons_zero]
           go_loopg [10, 11] k (fun kq v10 v11 w' => ∃ (x10_1 : Int) (x11_1 : Int), v10 = .int .i64 x10_1 ∧ v11 = .int .i64 x11_1 ∧ Aside0 (incipitlaw6_KeyOrder.l103 kq l0 l1 t325 t327 x10_1 x11_1 = some r) ∧ Aside0 (kq ≤ k) ∧ Aside0 (Below w.heap.size w w'))
           case atStart => exact ⟨(0), (0), (by first | rfl | (simp; done) | (simp [*]; done)), (by first | rfl | (simp; done) | (simp [*]; done)), H', ⟨Nat.le_refl _⟩, ⟨by repeat (first | (with_reducible first | exact HB.out | apply below_alloc | apply pw_below_drewN | apply below_drew1) | exact HB.out)⟩⟩
           case round =>
            clear H'
            (try clear c1); (try clear q1); (try clear p2); (try clear q2); (try clear hx2); (try clear p3); (try clear q3); (try clear hx3); (try clear q5); (try clear p6); (try clear q6); (try clear q7); (try clear c9); (try clear c10); (try clear c11); (try clear q11); (try clear c12); (try clear q12); (try clear c13); (try clear q13); (try clear c14); (try clear q14); (try clear c15); (try clear q15); (try clear c16); (try clear c17); (try clear q17); (try clear c18); (try clear p24); (try clear q24); (try clear hx24); (try clear p26); (try clear q26); (try clear hx26); (try clear p27); (try clear q27); (try clear hx27); (try clear p30); (try clear q30); (try clear hx30); (try clear q59); (try clear q60); (try clear p64); (try clear q64); (try clear q65); (try clear q73); (try clear c93); (try clear c93b0); (try clear c93b1); (try clear c96); (try clear c96b0); (try clear c96b1); (try clear c99); (try clear c99b0); (try clear c99b1); (try clear c101); (try clear c101b0); (try clear c101b1); (try clear c102); (try clear c102b0); (try clear c102b1); (try clear c102b2); (try clear c104); (try clear c104b0); (try clear c104b1); (try clear c106); (try clear c106b0); (try clear c106b1); (try clear c108); (try clear c108b0); (try clear c108b1); (try clear c111); (try clear c111b0); (try clear c111b1); (try clear c114); (try clear c114b0); (try clear c114b1); (try clear q117); (try clear q121); (try clear c124); (try clear c124b0); (try clear c124b1); (try clear c125); (try clear c125b0); (try clear c125b1); (try clear c128); (try clear c129); (try clear q131); (try clear c134); (try clear c134b0); (try clear c135); (try clear c135b0); (try clear c136); (try clear c136b0); (try clear c136b1); (try clear c137); (try clear c137b0); (try clear c138); (try clear c138b0); (try clear c139); (try clear c139b0); (try clear c140); (try clear c140b0); (try clear c142); (try clear c142b0); (try clear c142b1); (try clear c144); (try clear c144b0); (try clear c144b1); (try clear c145); (try clear c145b0); (try clear c145b1); (try clear c145b2); (try clear c147); (try clear c147b0); (try clear c147b1); (try clear c149); (try clear c149b0); (try clear c149b1); (try clear c151); (try clear c151b0); (try clear c151b1); (try clear c154); (try clear c154b0); (try clear c154b1); (try clear c157); (try clear c157b0); (try clear c157b1); (try clear c159); (try clear c159b0); (try clear c159b1); (try clear c160); (try clear c160b0); (try clear c160b1); (try clear c160b2); (try clear c162); (try clear c162b0); (try clear c162b1); (try clear c164); (try clear c164b0); (try clear c164b1); (try clear c166); (try clear c166b0); (try clear c166b1); (try clear c169); (try clear c169b0); (try clear c169b1); (try clear c172); (try clear c172b0); (try clear c172b1); (try clear q175); (try clear q179); (try clear c184); (try clear c185); (try clear hx241_0); (try clear hx242_0); (try clear hx243_0); (try clear hx244_0); (try clear hx245_0); (try clear hx246_0); (try clear hx269_0); (try clear hx270_0); (try clear hx271_0); (try clear hx272_0); (try clear hx273_0); (try clear hx274_0); (try clear hx301_0); (try clear hx302_0); (try clear hx303_0); (try clear hx304_0); (try clear hx305_0); (try clear hx306_0); (try clear p2); (try clear p241); (try clear p242); (try clear p243); (try clear p244); (try clear p245); (try clear p246); (try clear p269); (try clear p270); (try clear p271); (try clear p272); (try clear p273); (try clear p274); (try clear p301); (try clear p302); (try clear p303); (try clear p304); (try clear p305); (try clear p306); (try clear p64); (try clear q1); (try clear q117); (try clear q121); (try clear q131); (try clear q14); (try clear q15); (try clear q175); (try clear q179); (try clear q241); (try clear q242); (try clear q243); (try clear q244); (try clear q245); (try clear q246); (try clear q269); (try clear q270); (try clear q271); (try clear q272); (try clear q273); (try clear q274); (try clear q301); (try clear q302); (try clear q303); (try clear q304); (try clear q305); (try clear q306); (try clear q59); (try clear q60); (try clear q64); (try clear q65); (try clear q73)
            obtain ⟨x10_1, x11_1, rfl, rfl, HA, HK1, HB⟩ := hrel
            cases gk with
            | zero => exact absurd HA.out (by simp [incipitlaw6_KeyOrder.l103])
            | succ k1 =>
             have H := HA.out
             clear HA
             simp only [incipitlaw6_KeyOrder.l103] at H
             by_cases c189 : x11_1 < (l0.length : Int)
             · as_aux_lemma =>
               rw [if_pos c189] at H
               have c189b0 : decide (x11_1 < (l0.length : Int)) = true := decide_eq_true c189
               clear c189
               by_cases c190 : x11_1 < (l1.length : Int)
               · as_aux_lemma =>
                 rw [if_pos c190] at H
                 have c190b0 : decide (x11_1 < (l1.length : Int)) = true := decide_eq_true c190
                 clear c190
                 by_cases c191 : x10_1 = 0
                 · as_aux_lemma =>
                   rw [if_pos c191] at H
                   have c191b0 : (x10_1 == 0) = true := beq_iff_eq.mpr c191
                   have c191b1 : (x10_1 != 0) = false := bne_eq_false_iff_eq.mpr c191
                   clear c191
                   by_cases c192 : 0 ≤ x11_1
                   · as_aux_lemma =>
                     rw [if_pos c192] at H
                     have c192b0 : decide (0 ≤ x11_1) = true := decide_eq_true c192
                     clear c192
                     by_cases c193 : (rd l0 x11_1) < (rd l1 x11_1)
                     · as_aux_lemma =>
                       rw [if_pos c193] at H
                       have c193b0 : decide ((rd l0 x11_1) < (rd l1 x11_1)) = true := decide_eq_true c193
                       clear c193
                       by_cases c194 : (rd l0 x11_1) > (rd l1 x11_1)
                       · rw [if_pos c194] at H
                         have c194b0 : decide ((rd l1 x11_1) < (rd l0 x11_1)) = true := decide_eq_true c194
                         clear c194
                         have H' := Aside0.mk H
                         clear H
                         have p329 : 0 ≤ (x11_1 : Int) := of_decide_eq_true (by first | (with_reducible assumption) | assumption)
                         have q329 : x11_1 < (l0.length : Int) := of_decide_eq_true (by first | (with_reducible assumption) | assumption)
                         obtain ⟨ad329, e329, hx329_0⟩ := Kd.at_int HR0.out x11_1 p329 q329
                         cases e329
                         replace hx329_0 := (HB.out.cell (World.block_lt_of_cell? w _ hx329_0)).trans hx329_0
                         replace p329 := eq_true p329
                         replace q329 := eq_true q329
                         have p330 : 0 ≤ (x11_1 : Int) := of_decide_eq_true (by first | (with_reducible assumption) | assumption)
                         have q330 : x11_1 < (l1.length : Int) := of_decide_eq_true (by first | (with_reducible assumption) | assumption)
                         obtain ⟨ad330, e330, hx330_0⟩ := Kd.at_int HR1.out x11_1 p330 q330
                         cases e330
                         replace hx330_0 := (HB.out.cell (World.block_lt_of_cell? w _ hx330_0)).trans hx330_0
                         replace p330 := eq_true p330
                         replace q330 := eq_true q330
                         have p331 : 0 ≤ (x11_1 : Int) := of_decide_eq_true (by first | (with_reducible assumption) | assumption)
                         have q331 : x11_1 < (l0.length : Int) := of_decide_eq_true (by first | (with_reducible assumption) | assumption)
                         obtain ⟨ad331, e331, hx331_0⟩ := Kd.at_int HR0.out x11_1 p331 q331
                         obtain rfl : ad329 = ad331 := (by injection e331)
                         replace hx331_0 := (HB.out.cell (World.block_lt_of_cell? w _ hx331_0)).trans hx331_0
                         replace p331 := eq_true p331
                         replace q331 := eq_true q331
                         have p332 : 0 ≤ (x11_1 : Int) := of_decide_eq_true (by first | (with_reducible assumption) | assumption)
                         have q332 : x11_1 < (l1.length : Int) := of_decide_eq_true (by first | (with_reducible assumption) | assumption)
                         obtain ⟨ad332, e332, hx332_0⟩ := Kd.at_int HR1.out x11_1 p332 q332
                         obtain rfl : ad330 = ad332 := (by injection e332)
                         replace hx332_0 := (HB.out.cell (World.block_lt_of_cell? w _ hx332_0)).trans hx332_0
                         replace p332 := eq_true p332
                         replace q332 := eq_true q332
                         go_wp2
                         repeat (go_quiet (fail); try go_wp2)
                         go_roundg k1
                         case measure => have := HK1.out; omega
                         case rel => exact ⟨(1), (wrap64 (x11_1 + 1)), (by first | rfl | (simp; done) | (simp [*]; done)), (by first | rfl | (simp; done) | (simp [*]; done)), H', ⟨by have := HK1.out; omega⟩, ⟨by repeat (first | (with_reducible first | exact HB.out | apply below_alloc | apply pw_below_drewN | apply below_drew1) | exact HB.out)⟩⟩
                       · rw [if_neg c194] at H
                         have c194b0 : decide ((rd l1 x11_1) < (rd l0 x11_1)) = false := decide_eq_false c194
                         clear c194
                         have H' := Aside0.mk H
                         clear H
                         have p329 : 0 ≤ (x11_1 : Int) := of_decide_eq_true (by first | (with_reducible assumption) | assumption)
                         have q329 : x11_1 < (l0.length : Int) := of_decide_eq_true (by first | (with_reducible assumption) | assumption)
                         obtain ⟨ad329, e329, hx329_0⟩ := Kd.at_int HR0.out x11_1 p329 q329
                         cases e329
                         replace hx329_0 := (HB.out.cell (World.block_lt_of_cell? w _ hx329_0)).trans hx329_0
                         replace p329 := eq_true p329
                         replace q329 := eq_true q329
                         have p330 : 0 ≤ (x11_1 : Int) := of_decide_eq_true (by first | (with_reducible assumption) | assumption)
                         have q330 : x11_1 < (l1.length : Int) := of_decide_eq_true (by first | (with_reducible assumption) | assumption)
                         obtain ⟨ad330, e330, hx330_0⟩ := Kd.at_int HR1.out x11_1 p330 q330
                         cases e330
                         replace hx330_0 := (HB.out.cell (World.block_lt_of_cell? w _ hx330_0)).trans hx330_0
                         replace p330 := eq_true p330
                         replace q330 := eq_true q330
                         have p331 : 0 ≤ (x11_1 : Int) := of_decide_eq_true (by first | (with_reducible assumption) | assumption)
                         have q331 : x11_1 < (l0.length : Int) := of_decide_eq_true (by first | (with_reducible assumption) | assumption)
                         obtain ⟨ad331, e331, hx331_0⟩ := Kd.at_int HR0.out x11_1 p331 q331
                         obtain rfl : ad329 = ad331 := (by injection e331)
                         replace hx331_0 := (HB.out.cell (World.block_lt_of_cell? w _ hx331_0)).trans hx331_0
                         replace p331 := eq_true p331
                         replace q331 := eq_true q331
                         have p332 : 0 ≤ (x11_1 : Int) := of_decide_eq_true (by first | (with_reducible assumption) | assumption)
                         have q332 : x11_1 < (l1.length : Int) := of_decide_eq_true (by first | (with_reducible assumption) | assumption)
                         obtain ⟨ad332, e332, hx332_0⟩ := Kd.at_int HR1.out x11_1 p332 q332
                         obtain rfl : ad330 = ad332 := (by injection e332)
                         replace hx332_0 := (HB.out.cell (World.block_lt_of_cell? w _ hx332_0)).trans hx332_0
                         replace p332 := eq_true p332
                         replace q332 := eq_true q332
                         go_wp2
                         repeat (go_quiet (fail); try go_wp2)
                         go_roundg k1
                         case measure => have := HK1.out; omega
                         case rel => exact ⟨((-1)), (wrap64 (x11_1 + 1)), (by first | rfl | (simp; done) | (simp [*]; done)), (by first | rfl | (simp; done) | (simp [*]; done)), H', ⟨by have := HK1.out; omega⟩, ⟨by repeat (first | (with_reducible first | exact HB.out | apply below_alloc | apply pw_below_drewN | apply below_drew1) | exact HB.out)⟩⟩
                     · as_aux_lemma =>
                       rw [if_neg c193] at H
                       have c193b0 : decide ((rd l0 x11_1) < (rd l1 x11_1)) = false := decide_eq_false c193
                       clear c193
                       by_cases c195 : (rd l0 x11_1) > (rd l1 x11_1)
                       · rw [if_pos c195] at H
                         have c195b0 : decide ((rd l1 x11_1) < (rd l0 x11_1)) = true := decide_eq_true c195
                         clear c195
                         have H' := Aside0.mk H
                         clear H
                         have p329 : 0 ≤ (x11_1 : Int) := of_decide_eq_true (by first | (with_reducible assumption) | assumption)
                         have q329 : x11_1 < (l0.length : Int) := of_decide_eq_true (by first | (with_reducible assumption) | assumption)
                         obtain ⟨ad329, e329, hx329_0⟩ := Kd.at_int HR0.out x11_1 p329 q329
                         cases e329
                         replace hx329_0 := (HB.out.cell (World.block_lt_of_cell? w _ hx329_0)).trans hx329_0
                         replace p329 := eq_true p329
                         replace q329 := eq_true q329
                         have p330 : 0 ≤ (x11_1 : Int) := of_decide_eq_true (by first | (with_reducible assumption) | assumption)
                         have q330 : x11_1 < (l1.length : Int) := of_decide_eq_true (by first | (with_reducible assumption) | assumption)
                         obtain ⟨ad330, e330, hx330_0⟩ := Kd.at_int HR1.out x11_1 p330 q330
                         cases e330
                         replace hx330_0 := (HB.out.cell (World.block_lt_of_cell? w _ hx330_0)).trans hx330_0
                         replace p330 := eq_true p330
                         replace q330 := eq_true q330
                         have p333 : 0 ≤ (x11_1 : Int) := of_decide_eq_true (by first | (with_reducible assumption) | assumption)
                         have q333 : x11_1 < (l0.length : Int) := of_decide_eq_true (by first | (with_reducible assumption) | assumption)
                         obtain ⟨ad333, e333, hx333_0⟩ := Kd.at_int HR0.out x11_1 p333 q333
                         obtain rfl : ad329 = ad333 := (by injection e333)
                         replace hx333_0 := (HB.out.cell (World.block_lt_of_cell? w _ hx333_0)).trans hx333_0
                         replace p333 := eq_true p333
                         replace q333 := eq_true q333
                         have p334 : 0 ≤ (x11_1 : Int) := of_decide_eq_true (by first | (with_reducible assumption) | assumption)
                         have q334 : x11_1 < (l1.length : Int) := of_decide_eq_true (by first | (with_reducible assumption) | assumption)
                         obtain ⟨ad334, e334, hx334_0⟩ := Kd.at_int HR1.out x11_1 p334 q334
                         obtain rfl : ad330 = ad334 := (by injection e334)
                         replace hx334_0 := (HB.out.cell (World.block_lt_of_cell? w _ hx334_0)).trans hx334_0
                         replace p334 := eq_true p334
                         replace q334 := eq_true q334
                         go_wp2
                         repeat (go_quiet (fail); try go_wp2)
                         go_roundg k1
                         case measure => have := HK1.out; omega
                         case rel => exact ⟨(1), (wrap64 (x11_1 + 1)), (by first | rfl | (simp; done) | (simp [*]; done)), (by first | rfl | (simp; done) | (simp [*]; done)), H', ⟨by have := HK1.out; omega⟩, ⟨by repeat (first | (with_reducible first | exact HB.out | apply below_alloc | apply pw_below_drewN | apply below_drew1) | exact HB.out)⟩⟩
                       · rw [if_neg c195] at H
                         have c195b0 : decide ((rd l1 x11_1) < (rd l0 x11_1)) = false := decide_eq_false c195
                         clear c195
                         have H' := Aside0.mk H
                         clear H
                         have p329 : 0 ≤ (x11_1 : Int) := of_decide_eq_true (by first | (with_reducible assumption) | assumption)
                         have q329 : x11_1 < (l0.length : Int) := of_decide_eq_true (by first | (with_reducible assumption) | assumption)
                         obtain ⟨ad329, e329, hx329_0⟩ := Kd.at_int HR0.out x11_1 p329 q329
                         cases e329
                         replace hx329_0 := (HB.out.cell (World.block_lt_of_cell? w _ hx329_0)).trans hx329_0
                         replace p329 := eq_true p329
                         replace q329 := eq_true q329
                         have p330 : 0 ≤ (x11_1 : Int) := of_decide_eq_true (by first | (with_reducible assumption) | assumption)
                         have q330 : x11_1 < (l1.length : Int) := of_decide_eq_true (by first | (with_reducible assumption) | assumption)
                         obtain ⟨ad330, e330, hx330_0⟩ := Kd.at_int HR1.out x11_1 p330 q330
                         cases e330
                         replace hx330_0 := (HB.out.cell (World.block_lt_of_cell? w _ hx330_0)).trans hx330_0
                         replace p330 := eq_true p330
                         replace q330 := eq_true q330
                         have p333 : 0 ≤ (x11_1 : Int) := of_decide_eq_true (by first | (with_reducible assumption) | assumption)
                         have q333 : x11_1 < (l0.length : Int) := of_decide_eq_true (by first | (with_reducible assumption) | assumption)
                         obtain ⟨ad333, e333, hx333_0⟩ := Kd.at_int HR0.out x11_1 p333 q333
                         obtain rfl : ad329 = ad333 := (by injection e333)
                         replace hx333_0 := (HB.out.cell (World.block_lt_of_cell? w _ hx333_0)).trans hx333_0
                         replace p333 := eq_true p333
                         replace q333 := eq_true q333
                         have p334 : 0 ≤ (x11_1 : Int) := of_decide_eq_true (by first | (with_reducible assumption) | assumption)
                         have q334 : x11_1 < (l1.length : Int) := of_decide_eq_true (by first | (with_reducible assumption) | assumption)
                         obtain ⟨ad334, e334, hx334_0⟩ := Kd.at_int HR1.out x11_1 p334 q334
                         obtain rfl : ad330 = ad334 := (by injection e334)
                         replace hx334_0 := (HB.out.cell (World.block_lt_of_cell? w _ hx334_0)).trans hx334_0
                         replace p334 := eq_true p334
                         replace q334 := eq_true q334
                         go_wp2
                         repeat (go_quiet (fail); try go_wp2)
                         go_roundg k1
                         case measure => have := HK1.out; omega
                         case rel => exact ⟨(x10_1), (wrap64 (x11_1 + 1)), (by first | rfl | (simp; done) | (simp [*]; done)), (by first | rfl | (simp; done) | (simp [*]; done)), H', ⟨by have := HK1.out; omega⟩, ⟨by repeat (first | (with_reducible first | exact HB.out | apply below_alloc | apply pw_below_drewN | apply below_drew1) | exact HB.out)⟩⟩
                   · rw [if_neg c192] at H
                     exact absurd H (by simp)
                 · rw [if_neg c191] at H
                   have c191b0 : (x10_1 == 0) = false := beq_eq_false_iff_ne.mpr c191
                   have c191b1 : (x10_1 != 0) = true := bne_iff_ne.mpr c191
                   replace H := Option.bind_eq_some_iff.mp H
                   obtain ⟨t335, A1960, H⟩ := H
                   replace H : (if t335 = x10_1 then ((ckey_Compare.f t327 t325).bind fun t336 => (some (t336 == (wrap64 (-x10_1))))) else (none)) = some r := H
                   have A196 := Aside0.mk A1960
                   clear A1960
                   by_cases c197 : t335 = x10_1
                   · rw [if_pos c197] at H
                     have c197b0 : (t335 == x10_1) = true := beq_iff_eq.mpr c197
                     have c197b1 : (t335 != x10_1) = false := bne_eq_false_iff_eq.mpr c197
                     clear c197
                     replace H := Option.bind_eq_some_iff.mp H
                     obtain ⟨t336, A1980, H⟩ := H
                     replace H : (some (t336 == (wrap64 (-x10_1)))) = some r := H
                     have A198 := Aside0.mk A1980
                     clear A1980
                     obtain rfl := Option.some.inj H
                     go_wp2_with (first | (go_at_call 35; (with_reducible refine (ckey_Compare.calls t325 t327 t335 _ A196.out).mono ?_); rintro e w' ⟨rfl, ⟨nd, rfl⟩⟩; (try first | exact ⟨rfl, _, World.drewN_drewN _ _ _⟩ | exact ⟨rfl, _, Eq.trans (World.drewN_drewN _ _ _) (congrArg (World.drewN _) (Nat.add_assoc _ _ _))⟩)) | (go_at_call 35; (with_reducible refine (ckey_Compare.calls t327 t325 t336 _ A198.out).mono ?_); rintro e w' ⟨rfl, ⟨nd, rfl⟩⟩; (try first | exact ⟨rfl, _, World.drewN_drewN _ _ _⟩ | exact ⟨rfl, _, Eq.trans (World.drewN_drewN _ _ _) (congrArg (World.drewN _) (Nat.add_assoc _ _ _))⟩)))
                     repeat (go_quiet (fail); try go_wp2_with (fail))
                     go_ret
                     exact ⟨by first | rfl | (simp [errW_none, errW_some] <;> rfl) | (simp [*, errW_none, errW_some] <;> rfl) | (first | (simp (disch := omega) [w64_s, errW_none, errW_some]; done) | (simp (disch := omega) [w64_s, errW_none, errW_some] <;> rfl)), by repeat (first | (with_reducible first | exact HB.out | apply below_alloc | apply pw_below_drewN | apply below_drew1) | exact HB.out)⟩
                   · rw [if_neg c197] at H
                     exact absurd H (by simp)
               · as_aux_lemma =>
                 rw [if_neg c190] at H
                 have c190b0 : decide (x11_1 < (l1.length : Int)) = false := decide_eq_false c190
                 clear c190
                 by_cases c199 : x10_1 = 0
                 · as_aux_lemma =>
                   rw [if_pos c199] at H
                   have c199b0 : (x10_1 == 0) = true := beq_iff_eq.mpr c199
                   have c199b1 : (x10_1 != 0) = false := bne_eq_false_iff_eq.mpr c199
                   clear c199
                   by_cases c200 : (l0.length : Int) = (l1.length : Int)
                   · rw [if_pos c200] at H
                     have c200b0 : ((l0.length : Int) == (l1.length : Int)) = true := beq_iff_eq.mpr c200
                     have c200b1 : ((l0.length : Int) != (l1.length : Int)) = false := bne_eq_false_iff_eq.mpr c200
                     have c200b2 : (l0.length == l1.length) = true := by first | simpa using c200 | (simp at c200 ⊢; omega)
                     clear c200
                     replace H := Option.bind_eq_some_iff.mp H
                     obtain ⟨t337, A2010, H⟩ := H
                     replace H : (if t337 = x10_1 then ((ckey_Compare.f t327 t325).bind fun t338 => (some (t338 == (wrap64 (-x10_1))))) else (none)) = some r := H
                     have A201 := Aside0.mk A2010
                     clear A2010
                     by_cases c202 : t337 = x10_1
                     · rw [if_pos c202] at H
                       have c202b0 : (t337 == x10_1) = true := beq_iff_eq.mpr c202
                       have c202b1 : (t337 != x10_1) = false := bne_eq_false_iff_eq.mpr c202
                       clear c202
                       replace H := Option.bind_eq_some_iff.mp H
                       obtain ⟨t338, A2030, H⟩ := H
                       replace H : (some (t338 == (wrap64 (-x10_1)))) = some r := H
                       have A203 := Aside0.mk A2030
                       clear A2030
                       obtain rfl := Option.some.inj H
                       go_wp2_with (first | (go_at_call 35; (with_reducible refine (ckey_Compare.calls t325 t327 t337 _ A201.out).mono ?_); rintro e w' ⟨rfl, ⟨nd, rfl⟩⟩; (try first | exact ⟨rfl, _, World.drewN_drewN _ _ _⟩ | exact ⟨rfl, _, Eq.trans (World.drewN_drewN _ _ _) (congrArg (World.drewN _) (Nat.add_assoc _ _ _))⟩)) | (go_at_call 35; (with_reducible refine (ckey_Compare.calls t327 t325 t338 _ A203.out).mono ?_); rintro e w' ⟨rfl, ⟨nd, rfl⟩⟩; (try first | exact ⟨rfl, _, World.drewN_drewN _ _ _⟩ | exact ⟨rfl, _, Eq.trans (World.drewN_drewN _ _ _) (congrArg (World.drewN _) (Nat.add_assoc _ _ _))⟩)))
                       repeat (go_quiet (fail); try go_wp2_with (fail))
                       go_ret
                       exact ⟨by first | rfl | (simp [errW_none, errW_some] <;> rfl) | (simp [*, errW_none, errW_some] <;> rfl) | (first | (simp (disch := omega) [w64_s, errW_none, errW_some]; done) | (simp (disch := omega) [w64_s, errW_none, errW_some] <;> rfl)), by repeat (first | (with_reducible first | exact HB.out | apply below_alloc | apply pw_below_drewN | apply below_drew1) | exact HB.out)⟩
                     · rw [if_neg c202] at H
                       exact absurd H (by simp)
                   · rw [if_neg c200] at H
                     have c200b0 : ((l0.length : Int) == (l1.length : Int)) = false := beq_eq_false_iff_ne.mpr c200
                     have c200b1 : ((l0.length : Int) != (l1.length : Int)) = true := bne_iff_ne.mpr c200
                     have c200b2 : (l0.length == l1.length) = false := by first | simpa using c200 | (simp at c200 ⊢; omega)
                     by_cases c204 : (l0.length : Int) < (l1.length : Int)
                     · rw [if_pos c204] at H
                       have c204b0 : decide ((l0.length : Int) < (l1.length : Int)) = true := decide_eq_true c204
                       have c204b1 : decide (l0.length < l1.length) = true := decide_eq_true (Int.ofNat_lt.mp c204)
                       clear c204
                       replace H := Option.bind_eq_some_iff.mp H
                       obtain ⟨t339, A2050, H⟩ := H
                       replace H : (if t339 = (-1) then ((ckey_Compare.f t327 t325).bind fun t340 => (some (t340 == (-(-1))))) else (none)) = some r := H
                       have A205 := Aside0.mk A2050
                       clear A2050
                       by_cases c206 : t339 = (-1)
                       · rw [if_pos c206] at H
                         have c206b0 : (t339 == (-1)) = true := beq_iff_eq.mpr c206
                         have c206b1 : (t339 != (-1)) = false := bne_eq_false_iff_eq.mpr c206
                         clear c206
                         replace H := Option.bind_eq_some_iff.mp H
                         obtain ⟨t340, A2070, H⟩ := H
                         replace H : (some (t340 == (-(-1)))) = some r := H
                         have A207 := Aside0.mk A2070
                         clear A2070
                         obtain rfl := Option.some.inj H
                         go_wp2_with (first | (go_at_call 35; (with_reducible refine (ckey_Compare.calls t325 t327 t339 _ A205.out).mono ?_); rintro e w' ⟨rfl, ⟨nd, rfl⟩⟩; (try first | exact ⟨rfl, _, World.drewN_drewN _ _ _⟩ | exact ⟨rfl, _, Eq.trans (World.drewN_drewN _ _ _) (congrArg (World.drewN _) (Nat.add_assoc _ _ _))⟩)) | (go_at_call 35; (with_reducible refine (ckey_Compare.calls t327 t325 t340 _ A207.out).mono ?_); rintro e w' ⟨rfl, ⟨nd, rfl⟩⟩; (try first | exact ⟨rfl, _, World.drewN_drewN _ _ _⟩ | exact ⟨rfl, _, Eq.trans (World.drewN_drewN _ _ _) (congrArg (World.drewN _) (Nat.add_assoc _ _ _))⟩)))
                         repeat (go_quiet (fail); try go_wp2_with (fail))
                         go_ret
                         exact ⟨by first | rfl | (simp [errW_none, errW_some] <;> rfl) | (simp [*, errW_none, errW_some] <;> rfl) | (first | (simp (disch := omega) [w64_s, errW_none, errW_some]; done) | (simp (disch := omega) [w64_s, errW_none, errW_some] <;> rfl)), by repeat (first | (with_reducible first | exact HB.out | apply below_alloc | apply pw_below_drewN | apply below_drew1) | exact HB.out)⟩
                       · rw [if_neg c206] at H
                         exact absurd H (by simp)
                     · rw [if_neg c204] at H
                       have c204b0 : decide ((l0.length : Int) < (l1.length : Int)) = false := decide_eq_false c204
                       have c204b1 : decide (l0.length < l1.length) = false := decide_eq_false (fun h => c204 (Int.ofNat_lt.mpr h))
                       clear c204
                       replace H := Option.bind_eq_some_iff.mp H
                       obtain ⟨t341, A2080, H⟩ := H
                       replace H : (if t341 = 1 then ((ckey_Compare.f t327 t325).bind fun t342 => (some (t342 == (-1)))) else (none)) = some r := H
                       have A208 := Aside0.mk A2080
                       clear A2080
                       by_cases c209 : t341 = 1
                       · rw [if_pos c209] at H
                         have c209b0 : (t341 == 1) = true := beq_iff_eq.mpr c209
                         have c209b1 : (t341 != 1) = false := bne_eq_false_iff_eq.mpr c209
                         clear c209
                         replace H := Option.bind_eq_some_iff.mp H
                         obtain ⟨t342, A2100, H⟩ := H
                         replace H : (some (t342 == (-1))) = some r := H
                         have A210 := Aside0.mk A2100
                         clear A2100
                         obtain rfl := Option.some.inj H
                         go_wp2_with (first | (go_at_call 35; (with_reducible refine (ckey_Compare.calls t325 t327 t341 _ A208.out).mono ?_); rintro e w' ⟨rfl, ⟨nd, rfl⟩⟩; (try first | exact ⟨rfl, _, World.drewN_drewN _ _ _⟩ | exact ⟨rfl, _, Eq.trans (World.drewN_drewN _ _ _) (congrArg (World.drewN _) (Nat.add_assoc _ _ _))⟩)) | (go_at_call 35; (with_reducible refine (ckey_Compare.calls t327 t325 t342 _ A210.out).mono ?_); rintro e w' ⟨rfl, ⟨nd, rfl⟩⟩; (try first | exact ⟨rfl, _, World.drewN_drewN _ _ _⟩ | exact ⟨rfl, _, Eq.trans (World.drewN_drewN _ _ _) (congrArg (World.drewN _) (Nat.add_assoc _ _ _))⟩)))
                         repeat (go_quiet (fail); try go_wp2_with (fail))
                         go_ret
                         exact ⟨by first | rfl | (simp [errW_none, errW_some] <;> rfl) | (simp [*, errW_none, errW_some] <;> rfl) | (first | (simp (disch := omega) [w64_s, errW_none, errW_some]; done) | (simp (disch := omega) [w64_s, errW_none, errW_some] <;> rfl)), by repeat (first | (with_reducible first | exact HB.out | apply below_alloc | apply pw_below_drewN | apply below_drew1) | exact HB.out)⟩
                       · rw [if_neg c209] at H
                         exact absurd H (by simp)
                 · rw [if_neg c199] at H
                   have c199b0 : (x10_1 == 0) = false := beq_eq_false_iff_ne.mpr c199
                   have c199b1 : (x10_1 != 0) = true := bne_iff_ne.mpr c199
                   replace H := Option.bind_eq_some_iff.mp H
                   obtain ⟨t343, A2110, H⟩ := H
                   replace H : (if t343 = x10_1 then ((ckey_Compare.f t327 t325).bind fun t344 => (some (t344 == (wrap64 (-x10_1))))) else (none)) = some r := H
                   have A211 := Aside0.mk A2110
                   clear A2110
                   by_cases c212 : t343 = x10_1
                   · rw [if_pos c212] at H
                     have c212b0 : (t343 == x10_1) = true := beq_iff_eq.mpr c212
                     have c212b1 : (t343 != x10_1) = false := bne_eq_false_iff_eq.mpr c212
                     clear c212
                     replace H := Option.bind_eq_some_iff.mp H
                     obtain ⟨t344, A2130, H⟩ := H
                     replace H : (some (t344 == (wrap64 (-x10_1)))) = some r := H
                     have A213 := Aside0.mk A2130
                     clear A2130
                     obtain rfl := Option.some.inj H
                     go_wp2_with (first | (go_at_call 35; (with_reducible refine (ckey_Compare.calls t325 t327 t343 _ A211.out).mono ?_); rintro e w' ⟨rfl, ⟨nd, rfl⟩⟩; (try first | exact ⟨rfl, _, World.drewN_drewN _ _ _⟩ | exact ⟨rfl, _, Eq.trans (World.drewN_drewN _ _ _) (congrArg (World.drewN _) (Nat.add_assoc _ _ _))⟩)) | (go_at_call 35; (with_reducible refine (ckey_Compare.calls t327 t325 t344 _ A213.out).mono ?_); rintro e w' ⟨rfl, ⟨nd, rfl⟩⟩; (try first | exact ⟨rfl, _, World.drewN_drewN _ _ _⟩ | exact ⟨rfl, _, Eq.trans (World.drewN_drewN _ _ _) (congrArg (World.drewN _) (Nat.add_assoc _ _ _))⟩)))
                     repeat (go_quiet (fail); try go_wp2_with (fail))
                     go_ret
                     exact ⟨by first | rfl | (simp [errW_none, errW_some] <;> rfl) | (simp [*, errW_none, errW_some] <;> rfl) | (first | (simp (disch := omega) [w64_s, errW_none, errW_some]; done) | (simp (disch := omega) [w64_s, errW_none, errW_some] <;> rfl)), by repeat (first | (with_reducible first | exact HB.out | apply below_alloc | apply pw_below_drewN | apply below_drew1) | exact HB.out)⟩
                   · rw [if_neg c212] at H
                     exact absurd H (by simp)
             · as_aux_lemma =>
               rw [if_neg c189] at H
               have c189b0 : decide (x11_1 < (l0.length : Int)) = false := decide_eq_false c189
               clear c189
               by_cases c214 : x10_1 = 0
               · as_aux_lemma =>
                 rw [if_pos c214] at H
                 have c214b0 : (x10_1 == 0) = true := beq_iff_eq.mpr c214
                 have c214b1 : (x10_1 != 0) = false := bne_eq_false_iff_eq.mpr c214
                 clear c214
                 by_cases c215 : (l0.length : Int) = (l1.length : Int)
                 · rw [if_pos c215] at H
                   have c215b0 : ((l0.length : Int) == (l1.length : Int)) = true := beq_iff_eq.mpr c215
                   have c215b1 : ((l0.length : Int) != (l1.length : Int)) = false := bne_eq_false_iff_eq.mpr c215
                   have c215b2 : (l0.length == l1.length) = true := by first | simpa using c215 | (simp at c215 ⊢; omega)
                   clear c215
                   replace H := Option.bind_eq_some_iff.mp H
                   obtain ⟨t345, A2160, H⟩ := H
                   replace H : (if t345 = x10_1 then ((ckey_Compare.f t327 t325).bind fun t346 => (some (t346 == (wrap64 (-x10_1))))) else (none)) = some r := H
                   have A216 := Aside0.mk A2160
                   clear A2160
                   by_cases c217 : t345 = x10_1
                   · rw [if_pos c217] at H
                     have c217b0 : (t345 == x10_1) = true := beq_iff_eq.mpr c217
                     have c217b1 : (t345 != x10_1) = false := bne_eq_false_iff_eq.mpr c217
                     clear c217
                     replace H := Option.bind_eq_some_iff.mp H
                     obtain ⟨t346, A2180, H⟩ := H
                     replace H : (some (t346 == (wrap64 (-x10_1)))) = some r := H
                     have A218 := Aside0.mk A2180
                     clear A2180
                     obtain rfl := Option.some.inj H
                     go_wp2_with (first | (go_at_call 35; (with_reducible refine (ckey_Compare.calls t325 t327 t345 _ A216.out).mono ?_); rintro e w' ⟨rfl, ⟨nd, rfl⟩⟩; (try first | exact ⟨rfl, _, World.drewN_drewN _ _ _⟩ | exact ⟨rfl, _, Eq.trans (World.drewN_drewN _ _ _) (congrArg (World.drewN _) (Nat.add_assoc _ _ _))⟩)) | (go_at_call 35; (with_reducible refine (ckey_Compare.calls t327 t325 t346 _ A218.out).mono ?_); rintro e w' ⟨rfl, ⟨nd, rfl⟩⟩; (try first | exact ⟨rfl, _, World.drewN_drewN _ _ _⟩ | exact ⟨rfl, _, Eq.trans (World.drewN_drewN _ _ _) (congrArg (World.drewN _) (Nat.add_assoc _ _ _))⟩)))
                     repeat (go_quiet (fail); try go_wp2_with (fail))
                     go_ret
                     exact ⟨by first | rfl | (simp [errW_none, errW_some] <;> rfl) | (simp [*, errW_none, errW_some] <;> rfl) | (first | (simp (disch := omega) [w64_s, errW_none, errW_some]; done) | (simp (disch := omega) [w64_s, errW_none, errW_some] <;> rfl)), by repeat (first | (with_reducible first | exact HB.out | apply below_alloc | apply pw_below_drewN | apply below_drew1) | exact HB.out)⟩
                   · rw [if_neg c217] at H
                     exact absurd H (by simp)
                 · rw [if_neg c215] at H
                   have c215b0 : ((l0.length : Int) == (l1.length : Int)) = false := beq_eq_false_iff_ne.mpr c215
                   have c215b1 : ((l0.length : Int) != (l1.length : Int)) = true := bne_iff_ne.mpr c215
                   have c215b2 : (l0.length == l1.length) = false := by first | simpa using c215 | (simp at c215 ⊢; omega)
                   by_cases c219 : (l0.length : Int) < (l1.length : Int)
                   · rw [if_pos c219] at H
                     have c219b0 : decide ((l0.length : Int) < (l1.length : Int)) = true := decide_eq_true c219
                     have c219b1 : decide (l0.length < l1.length) = true := decide_eq_true (Int.ofNat_lt.mp c219)
                     clear c219
                     replace H := Option.bind_eq_some_iff.mp H
                     obtain ⟨t347, A2200, H⟩ := H
                     replace H : (if t347 = (-1) then ((ckey_Compare.f t327 t325).bind fun t348 => (some (t348 == (-(-1))))) else (none)) = some r := H
                     have A220 := Aside0.mk A2200
                     clear A2200
                     by_cases c221 : t347 = (-1)
                     · rw [if_pos c221] at H
                       have c221b0 : (t347 == (-1)) = true := beq_iff_eq.mpr c221
                       have c221b1 : (t347 != (-1)) = false := bne_eq_false_iff_eq.mpr c221
                       clear c221
                       replace H := Option.bind_eq_some_iff.mp H
                       obtain ⟨t348, A2220, H⟩ := H
                       replace H : (some (t348 == (-(-1)))) = some r := H
                       have A222 := Aside0.mk A2220
                       clear A2220
                       obtain rfl := Option.some.inj H
                       go_wp2_with (first | (go_at_call 35; (with_reducible refine (ckey_Compare.calls t325 t327 t347 _ A220.out).mono ?_); rintro e w' ⟨rfl, ⟨nd, rfl⟩⟩; (try first | exact ⟨rfl, _, World.drewN_drewN _ _ _⟩ | exact ⟨rfl, _, Eq.trans (World.drewN_drewN _ _ _) (congrArg (World.drewN _) (Nat.add_assoc _ _ _))⟩)) | (go_at_call 35; (with_reducible refine (ckey_Compare.calls t327 t325 t348 _ A222.out).mono ?_); rintro e w' ⟨rfl, ⟨nd, rfl⟩⟩; (try first | exact ⟨rfl, _, World.drewN_drewN _ _ _⟩ | exact ⟨rfl, _, Eq.trans (World.drewN_drewN _ _ _) (congrArg (World.drewN _) (Nat.add_assoc _ _ _))⟩)))
                       repeat (go_quiet (fail); try go_wp2_with (fail))
                       go_ret
                       exact ⟨by first | rfl | (simp [errW_none, errW_some] <;> rfl) | (simp [*, errW_none, errW_some] <;> rfl) | (first | (simp (disch := omega) [w64_s, errW_none, errW_some]; done) | (simp (disch := omega) [w64_s, errW_none, errW_some] <;> rfl)), by repeat (first | (with_reducible first | exact HB.out | apply below_alloc | apply pw_below_drewN | apply below_drew1) | exact HB.out)⟩
                     · rw [if_neg c221] at H
                       exact absurd H (by simp)
                   · rw [if_neg c219] at H
                     have c219b0 : decide ((l0.length : Int) < (l1.length : Int)) = false := decide_eq_false c219
                     have c219b1 : decide (l0.length < l1.length) = false := decide_eq_false (fun h => c219 (Int.ofNat_lt.mpr h))
                     clear c219
                     replace H := Option.bind_eq_some_iff.mp H
                     obtain ⟨t349, A2230, H⟩ := H
                     replace H : (if t349 = 1 then ((ckey_Compare.f t327 t325).bind fun t350 => (some (t350 == (-1)))) else (none)) = some r := H
                     have A223 := Aside0.mk A2230
                     clear A2230
                     by_cases c224 : t349 = 1
                     · rw [if_pos c224] at H
                       have c224b0 : (t349 == 1) = true := beq_iff_eq.mpr c224
                       have c224b1 : (t349 != 1) = false := bne_eq_false_iff_eq.mpr c224
                       clear c224
                       replace H := Option.bind_eq_some_iff.mp H
                       obtain ⟨t350, A2250, H⟩ := H
                       replace H : (some (t350 == (-1))) = some r := H
                       have A225 := Aside0.mk A2250
                       clear A2250
                       obtain rfl := Option.some.inj H
                       go_wp2_with (first | (go_at_call 35; (with_reducible refine (ckey_Compare.calls t325 t327 t349 _ A223.out).mono ?_); rintro e w' ⟨rfl, ⟨nd, rfl⟩⟩; (try first | exact ⟨rfl, _, World.drewN_drewN _ _ _⟩ | exact ⟨rfl, _, Eq.trans (World.drewN_drewN _ _ _) (congrArg (World.drewN _) (Nat.add_assoc _ _ _))⟩)) | (go_at_call 35; (with_reducible refine (ckey_Compare.calls t327 t325 t350 _ A225.out).mono ?_); rintro e w' ⟨rfl, ⟨nd, rfl⟩⟩; (try first | exact ⟨rfl, _, World.drewN_drewN _ _ _⟩ | exact ⟨rfl, _, Eq.trans (World.drewN_drewN _ _ _) (congrArg (World.drewN _) (Nat.add_assoc _ _ _))⟩)))
                       repeat (go_quiet (fail); try go_wp2_with (fail))
                       go_ret
                       exact ⟨by first | rfl | (simp [errW_none, errW_some] <;> rfl) | (simp [*, errW_none, errW_some] <;> rfl) | (first | (simp (disch := omega) [w64_s, errW_none, errW_some]; done) | (simp (disch := omega) [w64_s, errW_none, errW_some] <;> rfl)), by repeat (first | (with_reducible first | exact HB.out | apply below_alloc | apply pw_below_drewN | apply below_drew1) | exact HB.out)⟩
                     · rw [if_neg c224] at H
                       exact absurd H (by simp)
               · rw [if_neg c214] at H
                 have c214b0 : (x10_1 == 0) = false := beq_eq_false_iff_ne.mpr c214
                 have c214b1 : (x10_1 != 0) = true := bne_iff_ne.mpr c214
                 replace H := Option.bind_eq_some_iff.mp H
                 obtain ⟨t351, A2260, H⟩ := H
                 replace H : (if t351 = x10_1 then ((ckey_Compare.f t327 t325).bind fun t352 => (some (t352 == (wrap64 (-x10_1))))) else (none)) = some r := H
                 have A226 := Aside0.mk A2260
                 clear A2260
                 by_cases c227 : t351 = x10_1
                 · rw [if_pos c227] at H
                   have c227b0 : (t351 == x10_1) = true := beq_iff_eq.mpr c227
                   have c227b1 : (t351 != x10_1) = false := bne_eq_false_iff_eq.mpr c227
                   clear c227
                   replace H := Option.bind_eq_some_iff.mp H
                   obtain ⟨t352, A2280, H⟩ := H
                   replace H : (some (t352 == (wrap64 (-x10_1)))) = some r := H
                   have A228 := Aside0.mk A2280
                   clear A2280
                   obtain rfl := Option.some.inj H
                   go_wp2_with (first | (go_at_call 35; (with_reducible refine (ckey_Compare.calls t325 t327 t351 _ A226.out).mono ?_); rintro e w' ⟨rfl, ⟨nd, rfl⟩⟩; (try first | exact ⟨rfl, _, World.drewN_drewN _ _ _⟩ | exact ⟨rfl, _, Eq.trans (World.drewN_drewN _ _ _) (congrArg (World.drewN _) (Nat.add_assoc _ _ _))⟩)) | (go_at_call 35; (with_reducible refine (ckey_Compare.calls t327 t325 t352 _ A228.out).mono ?_); rintro e w' ⟨rfl, ⟨nd, rfl⟩⟩; (try first | exact ⟨rfl, _, World.drewN_drewN _ _ _⟩ | exact ⟨rfl, _, Eq.trans (World.drewN_drewN _ _ _) (congrArg (World.drewN _) (Nat.add_assoc _ _ _))⟩)))
                   repeat (go_quiet (fail); try go_wp2_with (fail))
                   go_ret
                   exact ⟨by first | rfl | (simp [errW_none, errW_some] <;> rfl) | (simp [*, errW_none, errW_some] <;> rfl) | (first | (simp (disch := omega) [w64_s, errW_none, errW_some]; done) | (simp (disch := omega) [w64_s, errW_none, errW_some] <;> rfl)), by repeat (first | (with_reducible first | exact HB.out | apply below_alloc | apply pw_below_drewN | apply below_drew1) | exact HB.out)⟩
                 · rw [if_neg c227] at H
                   exact absurd H (by simp)
         · replace c185 := Bool.eq_false_iff.mpr c185
           subst c185
           have H1 : (some true) = some r := by rw [if_neg (show ¬ (false = true) by decide)] at H; exact H
           clear H
           have H := H1
           clear H1
           obtain rfl := Option.some.inj H
           go_enter Try.func11, Try.ntmps11
           go_wp2_with (first | (go_at_call 29; (with_reducible refine (incipitlaw6_begun.calls  true _ A3.out).mono ?_); rintro e w229 ⟨rfl, hb⟩; have n0_ := Aside0.mk (below_step (by repeat (first | (with_reducible first | exact HB.out | apply below_alloc | apply pw_below_drewN | apply below_drew1) | exact HB.out)) hb); clear HB; have HB := n0_; clear n0_; (try clear hb); (try clear hb2); (try clear hk); (try clear hi)) | (go_at_call 34; (with_reducible refine (incipitref1_Write.calls k _ _ l0 t325 true _ ?side1 ?side2 A182.out).mono ?_); (case side1 => repeat (first | exact (Kd.C_below HR0.out HB.out) | (with_reducible refine Kd.C_alloc ?_ _) | (with_reducible refine Kd.C_drewN ?_ _) | (with_reducible refine Kd.C_drew ?_))); (case side2 => exact HC0.out); rintro e w230 ⟨rfl, hb⟩; have n0_ := Aside0.mk (below_step (by repeat (first | (with_reducible first | exact HB.out | apply below_alloc | apply pw_below_drewN | apply below_drew1) | exact HB.out)) hb); clear HB; have HB := n0_; clear n0_; (try clear hb); (try clear hb2); (try clear hk); (try clear hi)) | (go_at_call 34; (with_reducible refine (incipitref1_Write.calls k _ _ l1 t327 false _ ?side1 ?side2 A183.out).mono ?_); (case side1 => repeat (first | exact (Kd.C_below HR1.out HB.out) | (with_reducible refine Kd.C_alloc ?_ _) | (with_reducible refine Kd.C_drewN ?_ _) | (with_reducible refine Kd.C_drew ?_))); (case side2 => exact HC1.out); rintro e w231 ⟨rfl, hb⟩; have n0_ := Aside0.mk (below_step (by repeat (first | (with_reducible first | exact HB.out | apply below_alloc | apply pw_below_drewN | apply below_drew1) | exact HB.out)) hb); clear HB; have HB := n0_; clear n0_; (try clear hb); (try clear hb2); (try clear hk); (try clear hi)))
           repeat (go_quiet (fail); try go_wp2_with (fail))
           go_ret
           exact ⟨by first | rfl | (simp [errW_none, errW_some] <;> rfl) | (simp [*, errW_none, errW_some] <;> rfl) | (first | (simp (disch := omega) [w64_s, errW_none, errW_some]; done) | (simp (disch := omega) [w64_s, errW_none, errW_some] <;> rfl)), by repeat (first | (with_reducible first | exact HB.out | apply below_alloc | apply pw_below_drewN | apply below_drew1) | exact HB.out)⟩
       · replace c184 := Bool.eq_false_iff.mpr c184
         subst c184
         have H1 : (some true) = some r := by rw [if_neg (show ¬ (false = true) by decide)] at H; exact H
         clear H
         have H := H1
         clear H1
         obtain rfl := Option.some.inj H
         go_enter Try.func11, Try.ntmps11
         go_wp2_with (first | (go_at_call 29; (with_reducible refine (incipitlaw6_begun.calls  true _ A3.out).mono ?_); rintro e w232 ⟨rfl, hb⟩; have n0_ := Aside0.mk (below_step (by repeat (first | (with_reducible first | exact HB.out | apply below_alloc | apply pw_below_drewN | apply below_drew1) | exact HB.out)) hb); clear HB; have HB := n0_; clear n0_; (try clear hb); (try clear hb2); (try clear hk); (try clear hi)) | (go_at_call 34; (with_reducible refine (incipitref1_Write.calls k _ _ l0 t325 false _ ?side1 ?side2 A182.out).mono ?_); (case side1 => repeat (first | exact (Kd.C_below HR0.out HB.out) | (with_reducible refine Kd.C_alloc ?_ _) | (with_reducible refine Kd.C_drewN ?_ _) | (with_reducible refine Kd.C_drew ?_))); (case side2 => exact HC0.out); rintro e w233 ⟨rfl, hb⟩; have n0_ := Aside0.mk (below_step (by repeat (first | (with_reducible first | exact HB.out | apply below_alloc | apply pw_below_drewN | apply below_drew1) | exact HB.out)) hb); clear HB; have HB := n0_; clear n0_; (try clear hb); (try clear hb2); (try clear hk); (try clear hi)) | (go_at_call 34; (with_reducible refine (incipitref1_Write.calls k _ _ l1 t327 t328 _ ?side1 ?side2 A183.out).mono ?_); (case side1 => repeat (first | exact (Kd.C_below HR1.out HB.out) | (with_reducible refine Kd.C_alloc ?_ _) | (with_reducible refine Kd.C_drewN ?_ _) | (with_reducible refine Kd.C_drew ?_))); (case side2 => exact HC1.out); rintro e w234 ⟨rfl, hb⟩; have n0_ := Aside0.mk (below_step (by repeat (first | (with_reducible first | exact HB.out | apply below_alloc | apply pw_below_drewN | apply below_drew1) | exact HB.out)) hb); clear HB; have HB := n0_; clear n0_; (try clear hb); (try clear hb2); (try clear hk); (try clear hi)))
         repeat (go_quiet (fail); try go_wp2_with (fail))
         go_ret
         exact ⟨by first | rfl | (simp [errW_none, errW_some] <;> rfl) | (simp [*, errW_none, errW_some] <;> rfl) | (first | (simp (disch := omega) [w64_s, errW_none, errW_some]; done) | (simp (disch := omega) [w64_s, errW_none, errW_some] <;> rfl)), by repeat (first | (with_reducible first | exact HB.out | apply below_alloc | apply pw_below_drewN | apply below_drew1) | exact HB.out)⟩
 · replace c4 := Bool.eq_false_iff.mpr c4
   subst c4
   have H1 : (none) = some r := by rw [if_neg (show ¬ (false = true) by decide)] at H; exact H
   clear H
   have H := H1
   clear H1
   exact absurd H (by simp)

/-- THE ONE PURE STATEMENT of incipitlaw6_KeyOrder: yours. -/
def incipitlaw6_KeyOrder.Pure : Prop := ∀ (l0 : List Int) (l1 : List Int), l0.length ≤ maxLen → l0.length * 8 ≤ 140737488351232 → (∀ x ∈ l0, (Lit.int .i64 x).wf = true) → l1.length ≤ maxLen → l1.length * 8 ≤ 140737488351232 → (∀ x ∈ l1, (Lit.int .i64 x).wf = true) → ∃ k, incipitlaw6_KeyOrder.f k l0 l1 = some true
theorem incipitlaw6_KeyOrder.walk (P : incipitlaw6_KeyOrder.Pure) (a0 : Option Addr) (len0 cap0 : Nat) (z0 : List Int) (a1 : Option Addr) (len1 cap1 : Nat) (z1 : List Int) (w : World) (w0 : (a0 = none ∧ len0 = 0 ∧ cap0 = 0 ∧ z0 = []) ∨ ∃ x, a0 = some x ∧ len0 ≤ cap0 ∧ cap0 ≤ maxLen ∧ z0.length = cap0 ∧ (∀ i, i < z0.length → w.cell? (x.add i) = some (.int .i64 (z0.getD i 0))) ∧ ∀ n ∈ z0, (Lit.int .i64 n).wf = true) (y0 : len0 * 8 ≤ 140737488351232) (w1 : (a1 = none ∧ len1 = 0 ∧ cap1 = 0 ∧ z1 = []) ∨ ∃ x, a1 = some x ∧ len1 ≤ cap1 ∧ cap1 ≤ maxLen ∧ z1.length = cap1 ∧ (∀ i, i < z1.length → w.cell? (x.add i) = some (.int .i64 (z1.getD i 0))) ∧ ∀ n ∈ z1, (Lit.int .i64 n).wf = true) (y1 : len1 * 8 ≤ 140737488351232) :
 Calls Try.prog 11 #[.slice a0 len0 cap0, .slice a1 len1 cap1] w fun e w' => e = .returned (.bool true) ∧ Below w.heap.size w w' := by
 obtain ⟨l0, rfl, hr0, hm0, hw0, hc0⟩ := ReadsInt.ofRowC w0
 obtain ⟨l1, rfl, hr1, hm1, hw1, hc1⟩ := ReadsInt.ofRowC w1
 obtain ⟨k, h⟩ := P l0 l1 hm0 y0 hw0 hm1 y1 hw1
 refine (incipitlaw6_KeyOrder.calls k _ _ l0 _ _ l1 true w (Kd.C_of_reads (d := (0 : Int)) (h1 := fun _ => rfl) hr0) hc0 (Kd.C_of_reads (d := (0 : Int)) (h1 := fun _ => rfl) hr1) hc1 h).mono ?_
 rintro e w' ⟨rfl, hd⟩
 exact ⟨rfl, hd⟩

end Go.Proofs.Ytklggdenloenlaa.MKo
