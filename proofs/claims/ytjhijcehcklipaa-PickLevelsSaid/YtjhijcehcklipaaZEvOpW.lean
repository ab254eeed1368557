/-
  Operations that write.
-/
import Derived.Test.YtjhijcehcklipaaZEvOpR
import Derived.Deep.AppendSrc
import Derived.Deep.DeepAppendWide
import Derived.Deep.Upon
set_option linter.unusedVariables false
set_option linter.unusedSimpArgs false
namespace Go.Proofs.Ytjhijcehcklipaa.Ev
open Go.RowKit (Below)

section
variable {P : Program} {φ : Ph}
theorem all_one {cs : List AV} {vs : List Value} (h : VRs φ cs vs) (h1 : cs.all oneCell = true) : ∀ v ∈ vs, v.oneCell' = true := fun v hv => by
  have := VRs.oneCell h h1 v hv
  cases v <;> first | rfl | (simp [oneV] at this)
theorem storeV_rel {H H' : AH} {w : World} {B : Nat} (hH : HR φ H w B) {t : TypeId} {a : Pl} {v : AV} {vx : Value} (hv : VR φ v vx) {L : Lo} (hp : φ a.o a.v = some L) (hd : L.d ≤ a.i) (h : storeV P H t a v = some H') :
    ∃ w', (storeVar t ⟨L.blk, a.i - L.d + (L.s - 1), none⟩ vx).run P w = .ok () w' ∧ HR φ H' w' B ∧ Ext φ φ H H' ∧ Below B w w' := by
  unfold storeV at h
  split at h
  · rename_i n hn
    split at h
    · rename_i hc
      have hcs := hv.cells hc.2
      obtain ⟨w', p1, p2, p3, p4⟩ := hH.write (P := P) h hp hd hcs (all_one hcs hc.2)
      refine ⟨w', ?_, p2, p3, p4⟩
      unfold storeVar
      have hl : vx.cells.size = n := (Array.length_toList (xs := vx.cells)).symm.trans (hcs.length.symm.trans hc.1)
      rw [Sem.run_bind, run_sz hn, Result.andThen_ok]
      simp only [hl, ne_eq, not_true_eq_false, if_false]
      exact p1
    · cases h
  · cases h
theorem lenA_rel {x : AV} {vx : Value} {n : Nat} (h : lenA x = some n) (hx : VR φ x vx) : ∀ w, (Builtin.lenOf vx).run P w = .ok n w := by
  unfold lenA at h
  split at h
  · rename_i a n' c
    obtain rfl := Option.some.inj h
    cases a with
    | none => obtain ⟨rfl, rfl, rfl⟩ := hx; exact fun _ => rfl
    | some a => obtain ⟨L, off, c, _, rfl, _⟩ := hx; exact fun _ => rfl
  · obtain rfl := Option.some.inj h
    obtain ⟨s, rfl, rfl⟩ := hx
    intro w; rw [size_bytes]; rfl
  · cases h
/-- The cells of what is appended. -/
theorem firstA_cells {H : AH} {w : World} {B : Nat} (hH : HR φ H w B) {size n : Nat} {x : AV} {vx : Value} {cs : List AV} (h : firstA H size n x = some cs) (hx : VR φ x vx) :
    ∃ vs : List Value, VRs φ cs vs ∧ vs.length = n * size ∧ (Builtin.firstCells size n vx).run P w = .ok vs.toArray w ∧
      (∀ q m c, vx = .slice (some q) m c → ∀ (j : Nat) u, vs[j]? = some u → w.cell? (q.add j) = some u) ∧ (∀ s, vx = .string s → vs = (byteCells s).take n ∧ size = 1) := by
  unfold firstA at h
  split at h
  · rename_i a len c
    split at h
    · rename_i hn
      obtain ⟨L, off, c', x1, rfl, x2, x3, x4, x5, x6⟩ := hx
      rcases x6 with ⟨y1, y2⟩ | ⟨y1, y2⟩
      · obtain ⟨vs, p, q, r⟩ := hH.cells x1 y1 _ 0 h
        have hc : ∀ (j : Nat) u, vs[j]? = some u → w.cell? ((⟨L.blk, off, none⟩ : Addr).add j) = some u := fun j u hu => by rw [add_at, y2]; exact r j u hu
        refine ⟨vs, p, q, run_firstCells_some w size n _ _ _ vs q hc, fun q' m' c'' e => ?_, fun s e => by cases e⟩
        obtain ⟨e1, _, _⟩ := Value.slice.inj e
        obtain rfl := Option.some.inj e1
        exact hc
      · have hn0 : n = 0 := by omega
        subst hn0
        rw [Nat.zero_mul, AH.reads] at h; obtain rfl := Option.some.inj h
        refine ⟨[], trivial, by simp, ?_, fun _ _ _ _ j u hu => by simp at hu, fun s e => by cases e⟩
        exact run_firstCells_some w size 0 _ _ _ [] (by simp) fun j v hj => by simp at hj
    · cases h
  · split at h
    · rename_i hn; subst hn
      obtain rfl := Option.some.inj h
      obtain ⟨rfl, rfl, rfl⟩ := hx
      exact ⟨[], trivial, by simp, run_firstCells_none w size 0 0 0, (fun _ _ _ e => by cases e), fun s e => by cases e⟩
    · cases h
  · rename_i l
    split at h
    · rename_i hc
      obtain ⟨rfl, hn⟩ := hc
      obtain rfl := Option.some.inj h
      obtain ⟨s, rfl, rfl⟩ := hx
      rw [size_bytes] at hn
      refine ⟨(byteCells s).take n, ?_, ?_, ?_, fun _ _ _ e => (by cases e), fun s' e => ?_⟩
      · refine VRs.mk ?_ fun i a v ha hv => ?_
        · unfold bytesOf byteCells; simp
        · unfold bytesOf at ha; unfold byteCells at hv
          rw [← List.map_take, List.map_map, List.getElem?_map] at ha
          rw [← List.map_take, List.getElem?_map] at hv
          obtain ⟨b, b1, rfl⟩ := Option.map_eq_some_iff.1 ha
          rw [b1] at hv
          obtain rfl := Option.some.inj hv
          rfl
      · rw [List.length_take, byteCells_length]; omega
      · unfold Builtin.firstCells byteCells
        simp only [Sem.run_pure]
        congr 1
        apply Array.ext'
        simp [List.extract_eq_take_drop]
      · cases e; exact ⟨rfl, rfl⟩
    · cases h
  · cases h
theorem drew_HR {H : AH} {w : World} {B : Nat} (h : HR φ H w B) : HR φ H w.drew B := ⟨h.inv.of fun _ _ => rfl, h.base, h.low, h.inj, h.nx, h.ob⟩
theorem append_rel {H H' : AH} {w : World} {B : Nat} (hH : HR φ H w B) {ts : Array TypeId} {s x v : AV} {vs vx : Value} (h : appendA P ts s x H = some (v, H')) (hs : VR φ s vs) (hx : VR φ x vx) (ty : TypeId) :
    ∃ φ' w' u, (Builtin.append_ ts ty #[vs, vx]).run P w = .ok u w' ∧ VR φ' v u ∧ HR φ' H' w' B ∧ Ext φ φ' H H' ∧ Below B w w' := by
  unfold appendA at h
  split at h
  · rename_i t tx base len cap hts
    obtain rfl : ts = #[t, tx] := Array.ext' hts
    split at h
    · rename_i e xt n hu hux hn
      split at h
      · rename_i i z hi hz
        split at h
        · cases h
        rename_i hc
        simp only [not_or] at hc
        obtain ⟨c1, c2, c3, c4, c5⟩ := hc
        split at h
        · rename_i new hnew
          split at h
          · cases h
          rename_i hone
          have hone' : new.all oneCell = true := by simpa using hone
          obtain ⟨i', zv, i1, i2, i3⟩ := zero_parts hz
          rw [hi] at i1; obtain rfl := Option.some.inj i1
          have hzv : zv.cells.size = i.size := by
            have := (toAV_cells φ i3).length
            rw [Array.length_toList (xs := zv.cells)] at this
            omega
          obtain ⟨nv, n1, n2, n3, n4, n5⟩ := firstA_cells (P := P) hH hnew hx
          obtain ⟨nv', m1, m2, m3, m4, m5⟩ := firstA_cells (P := P) (drew_HR hH) hnew hx
          have hnl := n1.length
          have hsrc : Src P i.size tx vx n nv w := by
            have h5 : goodSrc xt i.size x = true := by simpa using c5
            unfold goodSrc at h5
            have hone2 := all_one n1 hone'
            split at h5
            · rename_i e' al ll lc
              have hll : ll = n := by unfold lenA at hn; simpa using hn
              subst hll
              cases al with
              | none =>
                obtain ⟨rfl, rfl, rfl⟩ := hx
                have : nv = [] := List.eq_nil_of_length_eq_zero (by rw [n2, Nat.zero_mul])
                rw [this]
                exact Src.ofNil w hux 0
              | some al =>
                obtain ⟨L, off, c, x1, rfl, x2, x3, x4, x5, x6⟩ := hx
                exact Src.ofSlice w hux _ _ c nv n2 (n4 _ _ _ rfl) hone2
            · rename_i l
              obtain ⟨st, rfl, rfl⟩ := hx
              obtain ⟨k1, k2⟩ := n5 st rfl
              have hln : n = st.size := by unfold lenA at hn; rw [← size_bytes]; simpa using hn.symm
              have : nv = byteCells st := by rw [k1, List.take_of_length_le (by rw [byteCells_length, hln]; exact Nat.le_refl _)]
              rw [this, hln, k2]
              exact Src.ofString w hux st
            · cases h5
          have hslice : ∃ q c, vs = .slice q len c ∧ len ≤ c := by
            cases base with
            | none => obtain ⟨rfl, rfl, rfl⟩ := hs; exact ⟨none, 0, rfl, Nat.le_refl _⟩
            | some a => obtain ⟨L, off, c, x1, rfl, x2, _⟩ := hs; exact ⟨_, c, rfl, x2⟩
          split at h
          · rename_i hn0
            obtain ⟨rfl, rfl⟩ := Prod.mk.inj (Option.some.inj h)
            obtain ⟨q, c, rfl, hlc⟩ := hslice
            have hv0 : nv = [] := List.eq_nil_of_length_eq_zero (by rw [n2, hn0, Nat.zero_mul])
            rw [hn0, hv0] at hsrc
            exact ⟨φ, w, _, run_append_nothing w t tx ty e i hu hi q len c hlc vx hsrc, hs, hH, Ext.refl _ _, Below.refl _ _⟩
          · rename_i hn0
            -- a new row
            have hfit : ∀ c, c < len + n → Builtin.nextslicecap (len + n) c * i.bytes ≤ 281474976710656 := fun c hc => by
              refine growslice_fits_wide hc ?_
              have h1 : (len + n + (len + n) / 4 + 192) * i.bytes ≤ (len + n + (len + n) / 4 + 192) * 1000000 := Nat.mul_le_mul_left _ (by omega)
              omega
            have hgc : ∀ c, len + n ≤ grownCap w (len + n) c e := fun c => by unfold grownCap; show len + n ≤ len + n + _; omega
            have hnew' : ∀ (olds : List Value) (c : Nat) (old : List AV), VRs φ old olds → old.length = len * i.size → okNew H (old ++ new) = true →
                ∀ (u : Value) , u = .slice (some ⟨w.heap.size, 0, none⟩) (len + n) (grownCap w (len + n) c e) →
                ∃ φ' , VR φ' (.l (some ⟨H.next, (old ++ new).length, 0⟩) (len + n) (inf + i.size)) u ∧ HR φ' (H.new (old ++ new) i.size) (w.drew.alloc (.cells ((olds ++ nv).toArray ++ Builtin.zeroCells zv.cells (grownCap w (len + n) c e - (len + n))) e)) B ∧
                  Ext φ φ' H (H.new (old ++ new) i.size) ∧ Below B w (w.drew.alloc (.cells ((olds ++ nv).toArray ++ Builtin.zeroCells zv.cells (grownCap w (len + n) c e - (len + n))) e)) := by
              intro olds c old ho hol hok u hue
              have hok2 := okNew_spec hok
              have hsz : ((olds ++ nv).toArray ++ Builtin.zeroCells zv.cells (grownCap w (len + n) c e - (len + n))).size = grownCap w (len + n) c e * i.size := by
                rw [Array.size_append]
                have e1 : (olds ++ nv).toArray.size = (len + n) * i.size := by
                  show (olds ++ nv).length = _
                  rw [List.length_append, ← ho.length, hol, n2, Nat.add_mul]
                have e2 : (Builtin.zeroCells zv.cells (grownCap w (len + n) c e - (len + n))).size = (grownCap w (len + n) c e - (len + n)) * i.size := by
                  unfold Builtin.zeroCells
                  rw [Array.size_map, Array.size_range, hzv]
                rw [e1, e2, ← Nat.add_mul]
                congr 1
                have := hgc c
                omega
              obtain ⟨r1, r2⟩ := (drew_HR hH).make (w' := w.drew.alloc (.cells ((olds ++ nv).toArray ++ Builtin.zeroCells zv.cells (grownCap w (len + n) c e - (len + n))) e)) (z := i.size) hok (elem := e) (lo := 0) (hi := 0) rfl (.inl rfl) (fun j a ha => by
                obtain ⟨cv, q1, q2⟩ := (ho.append n1).get ha
                refine ⟨cv, ?_, q2⟩
                have hlt : j < (olds ++ nv).length := (List.getElem?_eq_some_iff.1 q1).1
                rw [Array.getElem?_append_left (by simpa using hlt)]
                simpa using q1)
              refine ⟨_, ?_, r1, r2, ⟨rfl, rfl, rfl, by show w.heap.size ≤ (w.heap.push _).size; rw [Array.size_push]; omega, fun k hk => ?_⟩⟩
              · subst hue
                refine ⟨_, 0, _, upd_same _ _ _ _, rfl, hgc c, by unfold inf; omega, fun q => by omega, fun _ => ⟨rfl, ?_⟩, .inl ⟨Nat.le_refl _, rfl⟩⟩
                dsimp only; rw [hsz]; omega
              · show (w.heap.push _)[k]? = w.heap[k]?
                have := hH.base
                rw [Array.getElem?_push, if_neg (by omega)]
            split at h
            · split at h
              · rename_i hok
                obtain ⟨rfl, rfl⟩ := Prod.mk.inj (Option.some.inj h)
                obtain ⟨rfl, rfl, rfl⟩ := hs
                have hrun := run_append_grow_src w t tx ty e i zv hu hi i2 none 0 0 [] (run_firstCells_none w.drew i.size 0 0 0) vx n nv hsrc (by omega) (by omega) (hfit 0 (by omega))
                obtain ⟨φ', r1, r2, r3, r4⟩ := hnew' [] 0 [] trivial (by simp) hok _ rfl
                refine ⟨φ', _, _, hrun, ?_, r2, r3, r4⟩
                have r1' := r1
                simp only [List.nil_append, Nat.zero_add] at r1' ⊢
                exact r1'
              · cases h
            · rename_i a
              obtain ⟨L, off, c, x1, rfl, x2, x3, x4, x5, x6⟩ := hs
              obtain ⟨ao, g1, gn, gob⟩ := hH.ob _ _ _ x1
              split at h
              · rename_i hcap
                have hcc := x4 hcap
                split at h
                · rename_i hroom
                  obtain ⟨H'', hw, e2⟩ := Option.map_eq_some_iff.1 h
                  obtain ⟨rfl, rfl⟩ := Prod.mk.inj e2
                  rcases x6 with ⟨y1, y2⟩ | ⟨y1, y2⟩
                  · obtain ⟨w', p1, p2, p3, p4⟩ := hH.write (P := P) (a := a.add (len * i.size)) hw x1 (by show L.d ≤ a.i + len * i.size; omega) n1 (all_one n1 hone')
                    have hoff : (a.add (len * i.size)).i - L.d + (L.s - 1) = off + len * i.size := by show a.i + len * i.size - L.d + (L.s - 1) = _; omega
                    rw [hoff] at p1
                    -- the cells are there
                    have hlies : ∃ arr elem lo hi', w.heap[L.blk]? = some (.cells arr elem (lo, hi')) ∧ (lo = hi' ∨ arr.size ≤ lo) ∧ off + len * i.size + nv.length ≤ arr.size := by
                      unfold AH.write at hw
                      rw [show (a.add (len * i.size)).o = a.o from rfl, g1] at hw
                      cases ao with
                      | mp es => cases hw
                      | row cells size minv z0 =>
                      obtain ⟨g3, g4, g5, g6, g7⟩ := gob
                      simp only at hw
                      split at hw
                      · rename_i q
                        obtain ⟨q1, q2, q3⟩ := q
                        obtain ⟨arr, elem, lo, hi', e1, e2', e3, e4⟩ := g7 q1
                        have hs := hH.own x1 g1 q2
                        have hr := HR.room (w := w) (elem := elem) (lo := lo) (hi := hi') hs e4 (e := a.i + len * i.size + new.length) (by
                          have q3' : a.i + len * i.size + new.length ≤ size := q3
                          have q2' : a.v = size := q2
                          omega) (by omega)
                        exact ⟨arr, elem, lo, hi', e1, by rw [e2']; exact e3 hs, by omega⟩
                      · cases hw
                    obtain ⟨arr, elem, lo, hi', l1, l2, l3⟩ := hlies
                    have hrun := run_append_room_src w t tx ty e i hu hi L.blk off len c vx n nv hsrc (by omega) (fun j hj => by rw [cell_at l1, Array.getElem?_eq_getElem (by omega)]; rfl) (fun j hj => free_at l1 l2 (by omega))
                    have hst := run_storeCells_cells (P := P) L.blk (off + len * i.size) nv 0 w (fun j hj => by rw [Nat.add_zero, cell_at l1, Array.getElem?_eq_getElem (by omega)]; rfl) (fun j hj => by rw [Nat.add_zero]; exact free_at l1 l2 (by omega)) (all_one n1 hone')
                    rw [Nat.add_zero] at hst
                    have hww : w' = w.setCells L.blk (off + len * i.size) nv := by
                      rw [hst] at p1
                      exact ((Result.ok.inj p1).2).symm
                    subst hww
                    exact ⟨φ, _, _, hrun, ⟨L, off, c, x1, rfl, by omega, by omega, fun _ => hcc, fun q => by omega, .inl ⟨y1, y2⟩⟩, p2, p3, p4⟩
                  · omega
                · rename_i hroom
                  split at h
                  · rename_i old hold
                    split at h
                    · rename_i hok
                      obtain ⟨rfl, rfl⟩ := Prod.mk.inj (Option.some.inj h)
                      have hol : ∃ olds : List Value, VRs φ old olds ∧ olds.length = len * i.size ∧ (Builtin.firstCells i.size len (.slice (some ⟨L.blk, off, none⟩) len c)).run P w.drew = .ok olds.toArray w.drew := by
                        rcases x6 with ⟨y1, y2⟩ | ⟨y1, y2⟩
                        · obtain ⟨olds, p, q, r⟩ := (drew_HR hH).cells x1 y1 _ 0 hold
                          exact ⟨olds, p, q, run_firstCells_some w.drew i.size len _ _ _ olds q fun j u hu => by rw [add_at, y2]; exact r j u hu⟩
                        · subst y1
                          rw [Nat.zero_mul, AH.reads] at hold; obtain rfl := Option.some.inj hold
                          exact ⟨[], trivial, by simp, run_firstCells_some w.drew i.size 0 _ _ _ [] (by simp) fun j v hj => by simp at hj⟩
                      obtain ⟨olds, p, q, r⟩ := hol
                      have hrun := run_append_grow_src w t tx ty e i zv hu hi i2 (some ⟨L.blk, off, none⟩) len c olds r vx n nv hsrc (by omega) (by omega) (hfit c (by omega))
                      obtain ⟨φ', r1, r2, r3, r4⟩ := hnew' olds c old p (p.length.trans q) hok _ rfl
                      exact ⟨φ', _, _, hrun, r1, r2, r3, r4⟩
                    · cases h
                  · cases h
              · rename_i hcap
                split at h
                · rename_i hcz
                  obtain ⟨⟨v', H''⟩, hw, e2⟩ := Option.map_eq_some_iff.1 h
                  obtain ⟨rfl, rfl⟩ := Prod.mk.inj e2
                  obtain ⟨z1, z2⟩ := x5 (by omega)
                  have hLz : L.z = i.size := by omega
                  rw [hLz] at z2
                  have hpos : 0 < new.length := by
                    rw [hnl, n2]
                    exact Nat.mul_pos (by omega) (by omega)
                  by_cases hroom : len + n ≤ c
                  · rcases x6 with ⟨y1, y2⟩ | ⟨y1, y2⟩
                    · have hmul : (len + n) * i.size ≤ c * i.size := Nat.mul_le_mul_right _ hroom
                      rw [Nat.add_mul] at hmul
                      obtain ⟨w', p1, p2, p3, p4⟩ := hH.growIn (P := P) hw hpos x1 y1 (by rw [hnl, n2]; omega) n1 (all_one n1 hone')
                      rw [← y2] at p1
                      have hlies : ∃ arr elem lo hi', w.heap[L.blk]? = some (.cells arr elem (lo, hi')) ∧ (lo = hi' ∨ arr.size ≤ lo) ∧ arr.size = L.cap := by
                        unfold AH.grow at hw
                        rw [g1] at hw
                        cases ao with
                        | mp es => cases hw
                        | row cells size minv z0 =>
                        obtain ⟨g3, g4, g5, g6, g7⟩ := gob
                        simp only at hw
                        split at hw
                        · rename_i q
                          obtain ⟨arr, elem, lo, hi', e1, e2', e3, e4⟩ := g7 q.1
                          exact ⟨arr, elem, lo, hi', e1, by rw [e2']; exact e3 (hH.own x1 g1 q.2.1), e2'⟩
                        · cases hw
                      obtain ⟨arr, elem, lo, hi', l1, l2, l3⟩ := hlies
                      have hrun := run_append_room_src w t tx ty e i hu hi L.blk off len c vx n nv hsrc hroom (fun j hj => by rw [cell_at l1, Array.getElem?_eq_getElem (by omega)]; rfl) (fun j hj => free_at l1 l2 (by omega))
                      have hst := run_storeCells_cells (P := P) L.blk (off + len * i.size) nv 0 w (fun j hj => by rw [Nat.add_zero, cell_at l1, Array.getElem?_eq_getElem (by omega)]; rfl) (fun j hj => by rw [Nat.add_zero]; exact free_at l1 l2 (by omega)) (all_one n1 hone')
                      rw [Nat.add_zero] at hst
                      have hww : w' = w.setCells L.blk (off + len * i.size) nv := by
                        rw [hst] at p1
                        exact ((Result.ok.inj p1).2).symm
                      subst hww
                      exact ⟨_, _, _, hrun, ⟨L, off, c, upd_same _ _ _ _, rfl, hroom, by unfold inf; omega, fun q => by omega, fun _ => ⟨by omega, by rw [hLz]; exact z2⟩, .inl ⟨y1, y2⟩⟩, p2, p3, p4⟩
                    · omega
                  · have hol : ∃ olds : List Value, olds.length = len * i.size ∧ (∀ (j : Nat) u, olds[j]? = some u → w.drew.cell? ⟨L.blk, off + j, none⟩ = some u) ∧ (∀ (j : Nat) cv, j < len * i.size → olds[j]? = some cv → ∃ x, ∀ cells size minv z, H.objs.get a.o = some (.row cells size minv z) → cells.get (a.i + j) = some x ∧ VR φ x cv) := by
                      rcases x6 with ⟨y1, y2⟩ | ⟨y1, y2⟩
                      · unfold AH.grow at hw
                        rw [g1] at hw
                        cases ao with
                        | mp es => cases hw
                        | row cells size minv z0 =>
                        obtain ⟨g3, g4, g5, g6, g7⟩ := gob
                        simp only at hw
                        split at hw
                        · rename_i q
                          obtain ⟨q1, q2, q3, _⟩ := q
                          obtain ⟨arr, elem, lo, hi', e1, e2', e3, e4⟩ := g7 q1
                          have hs := hH.own x1 g1 q2
                          have hr := HR.room (w := w) (elem := elem) (lo := lo) (hi := hi') hs e4 (e := a.i + len * i.size) (by omega) (by omega)
                          refine ⟨(arr.toList.drop off).take (len * i.size), ?_, fun j u hu => ?_, fun j cv hj hcv => ?_⟩
                          · rw [List.length_take, List.length_drop, Array.length_toList (xs := arr)]; omega
                          · have hj : j < len * i.size := by
                              have := (List.getElem?_eq_some_iff.1 hu).1
                              rw [List.length_take] at this; omega
                            rw [List.getElem?_take, if_pos hj, List.getElem?_drop, Array.getElem?_toList] at hu
                            rw [cell_at (w := w.drew) e1]; exact hu
                          · rw [List.getElem?_take, if_pos hj, List.getElem?_drop, Array.getElem?_toList] at hcv
                            obtain ⟨x, cv', t1, t2, t3⟩ := e4 (a.i + j) (by omega) (by omega)
                            refine ⟨x, fun cells2 size2 minv2 z2 hg => ?_⟩
                            rw [g1] at hg
                            obtain ⟨rfl, rfl, rfl, rfl⟩ := AO.row.inj (Option.some.inj hg)
                            rw [show a.i + j - L.d + (L.s - 1) = off + j by omega, hcv] at t2
                            obtain rfl := Option.some.inj t2
                            exact ⟨t1, t3⟩
                        · cases hw
                      · subst y1
                        exact ⟨[], by simp, fun j u hu => by simp at hu, fun j cv hj => by omega⟩
                    obtain ⟨olds, o1, o2, o3⟩ := hol
                    have hrun := run_append_grow_src w t tx ty e i zv hu hi i2 (some ⟨L.blk, off, none⟩) len c olds (run_firstCells_some w.drew i.size len _ _ _ olds o1 fun j u hu => by rw [add_at]; exact o2 j u hu) vx n nv hsrc (by omega) (by omega) (hfit c (by omega))
                    have hsz : ((olds ++ nv).toArray ++ Builtin.zeroCells zv.cells (grownCap w (len + n) c e - (len + n))).size = grownCap w (len + n) c e * i.size := by
                      rw [Array.size_append]
                      have e1 : (olds ++ nv).toArray.size = (len + n) * i.size := by
                        show (olds ++ nv).length = _
                        rw [List.length_append, o1, n2, Nat.add_mul]
                      have e2 : (Builtin.zeroCells zv.cells (grownCap w (len + n) c e - (len + n))).size = (grownCap w (len + n) c e - (len + n)) * i.size := by
                        unfold Builtin.zeroCells
                        rw [Array.size_map, Array.size_range, hzv]
                      rw [e1, e2, ← Nat.add_mul]
                      congr 1
                      have := hgc c
                      omega
                    obtain ⟨r1, r2⟩ := (drew_HR hH).growOut (w' := w.drew.alloc (.cells ((olds ++ nv).toArray ++ Builtin.zeroCells zv.cells (grownCap w (len + n) c e - (len + n))) e)) hw hpos x1 (by rcases x6 with ⟨y1, _⟩ | ⟨y1, _⟩; exact .inl y1; exact .inr (by rw [y1, Nat.zero_mul])) (elem := e) (lo := 0) (hi := 0) rfl (.inl rfl) n1 o1 o3 (fun j hj => by
                      rw [Array.getElem?_append_left (by show j < (olds ++ nv).length; rw [List.length_append, o1]; omega)]
                      simp)
                    refine ⟨_, _, _, hrun, ⟨_, 0, _, upd_same _ _ _ _, rfl, hgc c, by unfold inf; omega, fun q => by omega, fun _ => ⟨by omega, ?_⟩, .inl ⟨Nat.le_refl _, (Nat.sub_self _).symm⟩⟩, r1, r2, ⟨rfl, rfl, rfl, by show w.heap.size ≤ (w.heap.push _).size; rw [Array.size_push]; omega, fun k hk => ?_⟩⟩
                    · dsimp only; rw [hsz]; omega
                    · show (w.heap.push _)[k]? = w.heap[k]?
                      have := hH.base
                      rw [Array.getElem?_push, if_neg (by omega)]
                · cases h
        · cases h
      · cases h
    · cases h
  · cases h
end
end Go.Proofs.Ytjhijcehcklipaa.Ev
