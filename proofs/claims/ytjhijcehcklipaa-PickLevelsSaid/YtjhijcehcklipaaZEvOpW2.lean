/-
  Operations that write: all of them; calls.
-/
import Derived.Test.YtjhijcehcklipaaZEvOpW
set_option linter.unusedVariables false
set_option linter.unusedSimpArgs false
namespace Go.Proofs.Ytjhijcehcklipaa.Ev
open Go.RowKit (Below)

section
variable {P : Program} {φ : Ph}
theorem copy_rel {H H' : AH} {w : World} {B : Nat} (hH : HR φ H w B) {ts : Array TypeId} {d x v : AV} {vd vx : Value} (h : copyA P ts d x H = some (v, H')) (hd : VR φ d vd) (hx : VR φ x vx) (ty : TypeId) :
    ∃ w' u, (Builtin.copy_ ts ty #[vd, vx]).run P w = .ok u w' ∧ VR φ v u ∧ HR φ H' w' B ∧ Ext φ φ H H' ∧ Below B w w' := by
  unfold copyA at h
  split at h
  · rename_i e base dl dcap hu
    obtain ⟨t, t1, t2⟩ := Option.bind_eq_some_iff.1 hu
    split at h
    · rename_i z n hz hn
      split at h
      · rename_i cs hcs
        split at h
        · cases h
        rename_i hc
        simp only [not_or] at hc
        obtain ⟨c1, c2⟩ := hc
        have hone : cs.all oneCell = true := by simpa using c1
        obtain ⟨nv, n1, n2, n3, n4, n5⟩ := firstA_cells (P := P) hH hcs hx
        have hlen := lenA_rel (P := P) hn hx
        have run : ∀ (b : Option Addr) (c : Nat) (w' : World), vd = .slice b dl c → (∀ q, b = some q → (storeCells q nv).run P w = .ok () w') → (b = none → w' = w) → (Builtin.copy_ ts ty #[vd, vx]).run P w = .ok (goInt (Nat.min n dl : Nat)) w' := by
          intro b c w' e1 e2 e3
          subst e1
          unfold Builtin.copy_
          simp [t1, run_underlying t2, hlen, run_sz hz, n3]
          cases b with
          | none => simp [e3 rfl]
          | some q => simp [e2 q rfl]
        cases base with
        | none =>
          simp only at h
          split at h
          · rename_i hm
            obtain ⟨rfl, rfl⟩ := Prod.mk.inj (Option.some.inj h)
            obtain ⟨rfl, rfl, rfl⟩ := hd
            exact ⟨w, _, run none 0 w rfl (fun q e => by cases e) (fun _ => rfl), by rw [hm]; rfl, hH, Ext.refl _ _, Below.refl _ _⟩
          · cases h
        | some a =>
          simp only at h
          obtain ⟨L, off, c, x1, rfl, x2, x3, x4, x5, x6⟩ := hd
          split at h
          · rename_i hm
            obtain ⟨rfl, rfl⟩ := Prod.mk.inj (Option.some.inj h)
            have hv0 : nv = [] := List.eq_nil_of_length_eq_zero (by rw [n2, hm, Nat.zero_mul])
            refine ⟨w, _, run _ c w rfl (fun q e => by rw [hv0]; rfl) (fun e => by cases e), by rw [hm]; rfl, hH, Ext.refl _ _, Below.refl _ _⟩
          · rename_i hm
            obtain ⟨H'', hw, e2⟩ := Option.map_eq_some_iff.1 h
            obtain ⟨rfl, rfl⟩ := Prod.mk.inj e2
            rcases x6 with ⟨y1, y2⟩ | ⟨y1, y2⟩
            · obtain ⟨w', p1, p2, p3, p4⟩ := hH.write (P := P) hw x1 y1 n1 (all_one n1 hone)
              rw [← y2] at p1
              exact ⟨w', _, run _ c w' rfl (fun q e => by obtain rfl := Option.some.inj e; exact p1) (fun e => by cases e), rfl, p2, p3, p4⟩
            · subst y1; exact absurd (Nat.min_eq_right (Nat.zero_le n)) hm
      · cases h
    · cases h
  · cases h
theorem zeroCells_made (z : Array Value) (n : Nat) : Builtin.zeroCells z n = madeCells z (n * z.size) := rfl
theorem clear_rel {H H' : AH} {w : World} {B : Nat} (hH : HR φ H w B) {ts : Array TypeId} {d v : AV} {vd : Value} (h : clearA P ts d H = some (v, H')) (hd : VR φ d vd) (ty : TypeId) :
    ∃ w' u, (Builtin.clear_ ts ty #[vd]).run P w = .ok u w' ∧ VR φ v u ∧ HR φ H' w' B ∧ Ext φ φ H H' ∧ Below B w w' := by
  unfold clearA at h
  split at h
  · rename_i e base n cap hu
    obtain ⟨t, t1, t2⟩ := Option.bind_eq_some_iff.1 hu
    split at h
    · rename_i hn0
      subst hn0
      obtain ⟨rfl, rfl⟩ := Prod.mk.inj (Option.some.inj h)
      refine ⟨w, .tuple #[], ?_, ⟨[], rfl, trivial⟩, hH, Ext.refl _ _, Below.refl _ _⟩
      unfold Builtin.clear_
      cases base with
      | none => obtain ⟨_, rfl, rfl⟩ := hd; simp [t1, run_underlying t2]
      | some a => obtain ⟨L, off, c, x1, rfl, _⟩ := hd; simp [t1, run_underlying t2]
    · rename_i hn0
      split at h
      · rename_i a z hz
        split at h
        · rename_i hc
          obtain ⟨H'', hw, e2⟩ := Option.map_eq_some_iff.1 h
          obtain ⟨rfl, rfl⟩ := Prod.mk.inj e2
          obtain ⟨i, zv, i1, i2, i3⟩ := zero_parts hz
          have hm := repl_made (toAV_cells φ i3) (fun q => hc.2 (by rw [q]; rfl)) n
          have hzl : z.cells.length = zv.cells.size := (toAV_cells φ i3).length.trans Array.length_toList
          have hone : (repl z.cells n).all oneCell = true := by
            rw [List.all_eq_true]
            intro x hx
            obtain ⟨j, hj, rfl⟩ := List.mem_iff_getElem.1 hx
            have hj' : j < n * z.cells.length := by rw [repl_len] at hj; exact hj
            have hg := repl_get z.cells n j hj'
            rw [List.getElem?_eq_getElem hj] at hg
            have hmod : j % z.cells.length < z.cells.length := Nat.mod_lt _ (Nat.pos_of_ne_zero hc.2)
            rw [List.getElem?_eq_getElem hmod] at hg
            rw [Option.some.inj hg]
            exact List.all_eq_true.1 hc.1 _ (List.getElem_mem _)
          obtain ⟨L, off, c, x1, rfl, x2, x3, x4, x5, x6⟩ := hd
          rcases x6 with ⟨y1, y2⟩ | ⟨y1, y2⟩
          · obtain ⟨w', p1, p2, p3, p4⟩ := hH.write (P := P) hw x1 y1 hm (all_one hm hone)
            rw [← y2, hzl] at p1
            refine ⟨w', .tuple #[], ?_, ⟨[], rfl, trivial⟩, p2, p3, p4⟩
            have hz0 : (zeroValue e).run P w = .ok zv w := by
              unfold zeroValue
              rw [Sem.run_bind, run_typeInfo w i1, Result.andThen_ok, i2]; rfl
            unfold Builtin.clear_
            obtain ⟨k, rfl⟩ : ∃ k, n = k + 1 := ⟨n - 1, by omega⟩
            simp [t1, run_underlying t2, hz0, zeroCells_made, p1]
          · exact absurd y1 hn0
        · cases h
      · cases h
  · cases h
theorem last_spec {H : AH} {a : Pl} (h : H.last a = true) : ∃ c s m z, H.objs.get a.o = some (.row c s m z) ∧ a.v = s := by
  unfold AH.last at h
  split at h
  · rename_i c s m z e; exact ⟨c, s, m, z, e, Nat.eq_of_beq_eq_true h⟩
  · cases h
theorem HR.mark {H : AH} {w : World} {B : Nat} (hH : HR φ H w B) {L : Lo} {a : Pl} (hp : φ a.o a.v = some L) (hla : H.last a = true) {arr : Array Value} {elem lo hi : Nat} (hb : w.heap[L.blk]? = some (.cells arr elem (lo, hi))) (hs : arr.size = L.cap) :
    HR φ H (w.freeze ⟨L.blk, arr.size, none⟩ 1) B ∧ Below B w (w.freeze ⟨L.blk, arr.size, none⟩ 1) := by
  have hheap : ∀ k, (w.freeze ⟨L.blk, arr.size, none⟩ 1).heap[k]? = if k = L.blk then some (.cells arr elem (if lo == hi then (arr.size, arr.size + 1) else (min lo arr.size, max hi (arr.size + 1)))) else w.heap[k]? := by
    intro k
    unfold World.freeze
    simp only [Nat.one_ne_zero, if_false]
    rw [Array.getElem?_modify]
    by_cases q : L.blk = k
    · subst q; simp [hb]
    · rw [if_neg q, if_neg (fun e => q e.symm)]
  have hsz : (w.freeze ⟨L.blk, arr.size, none⟩ 1).heap.size = w.heap.size := by unfold World.freeze; simp
  refine ⟨⟨hH.inv.of fun k hk => by rw [hheap, if_neg (by obtain ⟨_, _, _, _, e1, e2⟩ := last_spec hla; have := hH.above hp e1 e2; omega)], by rw [hsz]; exact hH.base, fun o v L' e => by rw [hsz]; exact hH.low o v L' e, hH.inj, hH.nx, fun o v L' e => ?_⟩, ⟨rfl, rfl, rfl, by rw [hsz]; exact Nat.le_refl _, fun k hk => ?_⟩⟩
  · obtain ⟨ao, g1, g2, hob⟩ := hH.ob _ _ _ e
    refine ⟨ao, g1, g2, ?_⟩
    cases ao with
    | mp es =>
      obtain ⟨h0, arr2, clock, y1, y2⟩ := hob
      refine ⟨h0, arr2, clock, ?_, y2⟩
      rw [hheap, if_neg (fun q => by rw [q, hb] at y1; cases y1)]; exact y1
    | row cells size minv z =>
    obtain ⟨g3, g4, g5, g6, g7⟩ := hob
    refine OB.mkRow ⟨g3, g4, g5, g6, fun hm => ?_⟩
    obtain ⟨arr2, elem2, lo2, hi2, y1, y2, y3, y4⟩ := g7 hm
    by_cases q : L'.blk = L.blk
    · rw [q, hb] at y1
      obtain ⟨rfl, rfl, yy⟩ := Obj.cells.inj (Option.some.inj y1)
      obtain ⟨rfl, rfl⟩ := Prod.mk.inj yy
      by_cases r : (lo == hi) = true
      · refine ⟨arr, elem, arr.size, arr.size + 1, ?_, y2, fun _ => .inr (by omega), y4⟩
        rw [hheap, if_pos q, if_pos r]
      · refine ⟨arr, elem, min lo arr.size, max hi (arr.size + 1), ?_, y2, fun hz => .inr ?_, y4⟩
        · rw [hheap, if_pos q, if_neg r]
        · rcases y3 hz with y3 | y3
          · exact absurd (by simpa using y3) r
          · omega
    · exact ⟨arr2, elem2, lo2, hi2, by rw [hheap, if_neg q]; exact y1, y2, y3, y4⟩
  · rw [hheap, if_neg (by obtain ⟨_, _, _, _, e1, e2⟩ := last_spec hla; have := hH.above hp e1 e2; omega)]
theorem convW_rel {H H' : AH} {w : World} {B : Nat} (hH : HR φ H w B) {src dst : TypeId} {x v : AV} {vx : Value} (h : convW P H src dst x = some (v, H')) (hx : VR φ x vx) :
    ∃ w' u, (convert src dst vx).run P w = .ok u w' ∧ VR φ v u ∧ HR φ H' w' B ∧ Ext φ φ H H' ∧ Below B w w' := by
  unfold convW at h
  split at h
  · rename_i e0 e a len cap hs hd
    split at h
    · rename_i hel
      split at h
      · rename_i hsd
        split at h
        · rename_i hr
          obtain ⟨rfl, rfl⟩ := Prod.mk.inj (Option.some.inj h)
          rw [Bool.and_eq_true] at hr
          obtain ⟨c, hc⟩ := Option.isSome_iff_exists.1 hr.1
          have hx' := hx
          obtain ⟨L, off, c', x1, rfl, x2⟩ := hx
          obtain ⟨cells, size, minv, z, h1, h2, h3, h4, h5, arr, elem, lo, hi, g1, g2, g3, g4⟩ := hH.held x1 hc
          obtain ⟨k1, k2⟩ := hH.mark x1 hr.2 g1 g2
          refine ⟨w.freeze ⟨L.blk, arr.size, none⟩ 1, _, ?_, hx', k1, Ext.refl _ _, k2⟩
          subst hsd
          unfold convert
          rw [Sem.run_bind, run_underlying hs, Result.andThen_ok, Sem.run_bind, run_underlying hd, Result.andThen_ok]
          show (do match src == src, ← underlying e with | true, .int .u8 => do markStringish ⟨L.blk, off, none⟩; pure (Value.slice (some ⟨L.blk, off, none⟩) len c') | _, _ => unsupported (.noEntry "convert/other") : Sem Value).run P w = _
          rw [Sem.run_bind, run_underlying hel, Result.andThen_ok]
          have hb : (src == src) = true := beq_self_eq_true src
          rw [hb]
          show (do markStringish ⟨L.blk, off, none⟩; pure (Value.slice (some ⟨L.blk, off, none⟩) len c') : Sem Value).run P w = _
          have hsh : w.shape? L.blk = some (elem, arr.size) := by unfold World.shape?; rw [g1]
          unfold markStringish
          simp [hsh]
        · cases h
      · cases h
    · cases h
  · cases h
theorem wrap_nought : IntKind.i64.wrap 0 = 0 := by simp [IntKind.wrap, IntKind.bits, IntKind.signed]
theorem appendZ_rel {ts : Array TypeId} {s x : AV} {vs vx : Value} (h : appendZ P ts s x = true) (hs : VR φ s vs) (hx : VR φ x vx) (ty : TypeId) (w : World) : (Builtin.append_ ts ty #[vs, vx]).run P w = .ok vs w := by
  unfold appendZ at h
  split at h
  · rename_i t tx base len cap k hts
    split at h
    · rename_i e q h1 h2
      obtain ⟨n, hn⟩ := Option.isSome_iff_exists.1 h
      obtain ⟨i, hi, hsz⟩ := Option.map_eq_some_iff.1 hn
      rw [VR] at hx; subst hx
      have h3 : ts = #[t, tx] := Array.ext' hts
      subst h3
      have hw : k.wrap 0 = 0 ∨ True := .inr trivial
      obtain ⟨b, c, rfl, hc⟩ : ∃ b c, vs = .slice b len c ∧ len ≤ c := by
        cases base with
        | none => obtain ⟨rfl, _, rfl⟩ := hs; exact ⟨_, _, rfl, Nat.le_refl _⟩
        | some a => obtain ⟨L, off, c, _, rfl, hc, _⟩ := hs; exact ⟨_, _, rfl, hc⟩
      unfold Builtin.append_
      have hwr : IntKind.i64.wrap 0 = 0 := wrap_nought
      cases b with
      | none => simp [run_underlying h1, run_underlying h2, run_sz hn, asInt, asIntOf, hwr, run_typeInfo w hi, hc]
      | some b => simp [run_underlying h1, run_underlying h2, run_sz hn, asInt, asIntOf, hwr, run_typeInfo w hi, hc, storeCells]
    · cases h
  · cases h
theorem opW_ok {T : Fr} {a : Act} {H H' : AH} {w : World} {B : Nat} (h : Evals φ T a) (hH : HR φ H w B) {o : Oper} {v : AV} (e : opW P T H o.op = some (v, H')) :
    ∃ φ' w' nx u, (execOp a.eval o).run P w = .ok nx w' ∧ (nx = .value u ∨ (nx = .skip ∧ u = undef)) ∧ VR φ' v u ∧ HR φ' H' w' B ∧ Ext φ φ' H H' ∧ Below B w w' := by
  cases hop : o.op with
  | store t x y =>
    rw [hop, opW] at e
    split at e
    · rename_i pl vv hx hy
      obtain ⟨H'', h1, h2⟩ := Option.map_eq_some_iff.1 e
      obtain ⟨rfl, rfl⟩ := Prod.mk.inj h2
      obtain ⟨L, x1, x2, hv⟩ := ev_rel h hx
      obtain ⟨w', p1, p2, p3, p4⟩ := storeV_rel hH (ev_rel h hy) x1 x2 h1
      refine ⟨φ, w', .skip, undef, ?_, .inr ⟨rfl, rfl⟩, trivial, p2, p3, p4⟩
      simp only [execOp, hop, hv, Instr.storeAt, Instr.sureAddr, pure_bind]
      rw [Sem.run_bind, p1, Result.andThen_ok]; rfl
    · cases e
  | convert src dst x =>
    rw [hop, opW] at e
    split at e
    · rename_i p hp
      obtain ⟨w', u, p1, p2, p3, p4, p5⟩ := convW_rel hH e (ev_rel h hp)
      exact ⟨φ, w', .value u, u, by simp only [execOp, hop]; exact run_v p1, .inl rfl, p2, p3, p4, p5⟩
    · cases e
  | call c =>
    rw [hop, opW] at e
    have hargs : ∀ as, evs T c.args.toList = some as → VRs φ as (c.args.map a.eval).toList := fun as ha => by rw [Array.toList_map]; exact evs_rel h ha
    split at e
    · rename_i s x ha hb
      have hr := hargs _ ha
      obtain ⟨vs, vx, hvx, hs, hx⟩ : ∃ vs vx, (c.args.map a.eval) = #[vs, vx] ∧ VR φ s vs ∧ VR φ x vx := by
        match hl : (c.args.map a.eval).toList, hr with
        | [vs, vx], ⟨hs, hx, _⟩ => exact ⟨vs, vx, Array.ext' hl, hs, hx⟩
      split at e
      · rename_i hz
        obtain ⟨rfl, rfl⟩ := Prod.mk.inj (Option.some.inj e)
        refine ⟨φ, w, .value vs, vs, ?_, .inl rfl, hs, hH, Ext.refl _ _, Below.refl _ _⟩
        simp only [execOp, hop, resolve, hb, pure_bind, hvx, invoke, builtin]
        exact run_v (appendZ_rel hz hs hx o.type w)
      obtain ⟨φ', w', u, p1, p2, p3, p4, p5⟩ := append_rel hH e hs hx o.type
      refine ⟨φ', w', .value u, u, ?_, .inl rfl, p2, p3, p4, p5⟩
      simp only [execOp, hop, resolve, hb, pure_bind, hvx, invoke, builtin]
      exact run_v p1
    · rename_i s x ha hb
      have hr := hargs _ ha
      obtain ⟨vs, vx, hvx, hs, hx⟩ : ∃ vs vx, (c.args.map a.eval) = #[vs, vx] ∧ VR φ s vs ∧ VR φ x vx := by
        match hl : (c.args.map a.eval).toList, hr with
        | [vs, vx], ⟨hs, hx, _⟩ => exact ⟨vs, vx, Array.ext' hl, hs, hx⟩
      obtain ⟨w', u, p1, p2, p3, p4, p5⟩ := copy_rel hH e hs hx o.type
      refine ⟨φ, w', .value u, u, ?_, .inl rfl, p2, p3, p4, p5⟩
      simp only [execOp, hop, resolve, hb, pure_bind, hvx, invoke, builtin]
      exact run_v p1
    · rename_i s ha hb
      have hr := hargs _ ha
      obtain ⟨vs, hvx, hs⟩ : ∃ vs, (c.args.map a.eval) = #[vs] ∧ VR φ s vs := by
        match hl : (c.args.map a.eval).toList, hr with
        | [vs], ⟨hs, _⟩ => exact ⟨vs, Array.ext' hl, hs⟩
      obtain ⟨w', u, p1, p2, p3, p4, p5⟩ := clear_rel hH e hs o.type
      refine ⟨φ, w', .value u, u, ?_, .inl rfl, p2, p3, p4, p5⟩
      simp only [execOp, hop, resolve, hb, pure_bind, hvx, invoke, builtin]
      exact run_v p1
    · rename_i m k ha hb
      have hr := hargs _ ha
      obtain ⟨vm, vk, hvx, hm, hk⟩ : ∃ vm vk, (c.args.map a.eval) = #[vm, vk] ∧ VR φ m vm ∧ VR φ k vk := by
        match hl : (c.args.map a.eval).toList, hr with
        | [vm, vk], ⟨hm, hk, _⟩ => exact ⟨vm, vk, Array.ext' hl, hm, hk⟩
      split at e
      · rename_i t ht
        obtain ⟨H'', h1, h2⟩ := Option.map_eq_some_iff.1 e
        obtain ⟨rfl, rfl⟩ := Prod.mk.inj h2
        obtain ⟨w', p1, p3, p4, p5⟩ := del_rel hH ht h1 hm hk o.type
        refine ⟨φ, w', .value (.tuple #[]), .tuple #[], ?_, .inl rfl, ⟨[], rfl, trivial⟩, p3, p4, p5⟩
        simp only [execOp, hop, resolve, hb, pure_bind, hvx, invoke, builtin]
        exact run_v p1
      · cases e
    · cases e
  | mapUpdate t m k x =>
    rw [hop, opW] at e
    split at e
    · rename_i am ak av hm hk hx
      obtain ⟨H'', h1, h2⟩ := Option.map_eq_some_iff.1 e
      obtain ⟨rfl, rfl⟩ := Prod.mk.inj h2
      obtain ⟨w', p1, p3, p4, p5⟩ := upd_rel hH h1 (ev_rel h hm) (ev_rel h hk) (ev_rel h hx)
      refine ⟨φ, w', .skip, undef, ?_, .inr ⟨rfl, rfl⟩, trivial, p3, p4, p5⟩
      simp only [execOp, hop]
      rw [Sem.run_bind, p1, Result.andThen_ok]; rfl
    · cases e
  | makeMap t r =>
    rw [hop] at e
    cases r with
    | some r => simp [opW] at e
    | none =>
      rw [opW] at e
      obtain ⟨φ', w', u, p1, p2, p3, p4, p5⟩ := mkMap_rel (P := P) hH e t
      exact ⟨φ', w', .value u, u, by simp only [execOp, hop]; exact run_v p1, .inl rfl, p2, p3, p4, p5⟩
  | _ => rw [hop] at e; simp [opW] at e
theorem callFunc_ok {g : Nat} {fn : Func} (hf : P.funcs[g]? = some fn) (hb : fn.body.isSome = true) (hn : (fn.name == "runtime.NumGoroutine") = false) (args : Array Value) (w : World) : (callFunc g args).run P w = .ok (.enter g args) w := by
  simp only [callFunc, Sem.run_bind, run_program, Result.andThen_ok, hf, hn]
  cases hbd : fn.body with
  | none => rw [hbd] at hb; cases hb
  | some b => simp
theorem invoke_method (name : String) (r : Value) (args : List Value) (w : World) : (invoke (.fn (.method name) #[]) ⟨r :: args⟩).run P w = (callMethod r name ⟨args⟩).run P w := by
  have h1 : ((⟨r :: args⟩ : Array Value).extract 1 (⟨r :: args⟩ : Array Value).size) = ⟨args⟩ := by apply Array.ext'; simp
  simp only [invoke]
  rw [h1]; rfl
theorem opC_ok [MethsOk P] {T : Fr} {a : Act} {H : AH} {w : World} {B : Nat} (h : Evals φ T a) (hH : HR φ H w B) {o : Oper} {g : Nat} {as : List AV} (e : opC P T H o.op = some (g, as)) {fn : Func} (hf : P.funcs[g]? = some fn) (hb : fn.body.isSome = true) (hn : (fn.name == "runtime.NumGoroutine") = false) :
    ∃ vs : List Value, (execOp a.eval o).run P w = .ok (.enter g ⟨vs⟩) w ∧ VRs φ as vs := by
  cases hop : o.op with
  | call c =>
    rw [hop, opC] at e
    split at e
    · rename_i as' x ha hc
      split at e
      · rename_i g' cs hx
        obtain ⟨rfl, rfl⟩ := Prod.mk.inj (Option.some.inj e)
        obtain ⟨vs, hv, r⟩ := ev_rel h hx
        have hr := evs_rel h ha
        refine ⟨c.args.toList.map a.eval ++ vs, ?_, hr.append r⟩
        simp only [execOp, hop, resolve, hc, hv, Deferred.ofValue, pure_bind, invoke, callFunc, Sem.run_bind, run_program, Result.andThen_ok, hf, hn]
        cases hbd : fn.body with
        | none => rw [hbd] at hb; cases hb
        | some b => simp
      · rename_i g' fs hx
        obtain ⟨rfl, rfl⟩ := Prod.mk.inj (Option.some.inj e)
        obtain ⟨vs, hv, r⟩ := ev_rel h hx
        have hr := evs_rel h ha
        refine ⟨vs ++ c.args.toList.map a.eval, ?_, r.append hr⟩
        rcases hv with hv | ⟨t, name, u, rfl, hm, hv⟩
        · simp only [execOp, hop, resolve, hc, hv, Deferred.ofValue, pure_bind, invoke, callFunc, Sem.run_bind, run_program, Result.andThen_ok, hf, hn]
          cases hbd : fn.body with
          | none => rw [hbd] at hb; cases hb
          | some b => simp
        · simp only [execOp, hop, resolve, hc, hv, Deferred.ofValue, pure_bind]
          rw [show (#[Value.iface t u] ++ Array.map a.eval c.args : Array Value) = ⟨.iface t u :: c.args.toList.map a.eval⟩ by apply Array.ext'; simp]
          rw [invoke_method]
          simp only [callMethod, Sem.run_bind, run_program, Result.andThen_ok, (MethsOk.ptr (P := P) t name _ hm).1 u w]
          rw [callFunc_ok hf hb hn]
          congr 2
          apply Array.ext'; simp
      · cases e
    · rename_i as' r name ha hc
      split at e
      · rename_i v hx
        have hv := ev_rel h hx
        have hr := evs_rel h ha
        unfold opI at e
        split at e
        · rename_i t b
          obtain ⟨u, hu, hb2⟩ := hv
          have start : (execOp a.eval o).run P w = (callMethod (.iface t u) name ⟨c.args.toList.map a.eval⟩).run P w := by
            simp only [execOp, hop, resolve, hc, hu, pure_bind]
            rw [show (#[Value.iface t u] ++ Array.map a.eval c.args : Array Value) = ⟨.iface t u :: c.args.toList.map a.eval⟩ by apply Array.ext'; simp]
            exact invoke_method _ _ _ _
          split at e
          · rename_i g' hm
            obtain ⟨rfl, rfl⟩ := Prod.mk.inj (Option.some.inj e)
            refine ⟨u :: c.args.toList.map a.eval, ?_, hb2, hr⟩
            rw [start]
            simp only [callMethod, Sem.run_bind, run_program, Result.andThen_ok, (MethsOk.ptr (P := P) t name _ hm).1 u w]
            rw [callFunc_ok hf hb hn]
            congr 2
            apply Array.ext'; simp
          · rename_i g' el hm
            split at e
            · rename_i pl
              split at e
              · rename_i cv hl
                obtain ⟨rfl, rfl⟩ := Prod.mk.inj (Option.some.inj e)
                obtain ⟨L, x1, x2, rfl⟩ := hb2
                obtain ⟨v, y1, y2⟩ := hH.loadV (P := P) x1 x2 hl
                refine ⟨v :: c.args.toList.map a.eval, ?_, y2, hr⟩
                rw [start]
                simp only [callMethod, Sem.run_bind, run_program, Result.andThen_ok, MethsOk.val (P := P) t name _ _ hm L.blk (pl.i - L.d + (L.s - 1)) w _ _ y1]
                rw [callFunc_ok hf hb hn]
                congr 2
                apply Array.ext'; simp
              · cases e
            · cases e
          · cases e
        · cases e
      · cases e
    · cases e
  | _ => rw [hop] at e; simp [opC] at e
end
end Go.Proofs.Ytjhijcehcklipaa.Ev
