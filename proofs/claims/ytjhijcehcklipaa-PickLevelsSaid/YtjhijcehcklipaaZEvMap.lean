/-
  Maps: what the second reading tells of them, and what the model's run does.
-/
import Derived.Test.YtjhijcehcklipaaZEvOpP2
import Derived.MapKept
set_option linter.unusedVariables false
set_option linter.unusedSimpArgs false
namespace Go.Proofs.Ytjhijcehcklipaa.Ev
open Go.RowKit (Below)
open Go.MapKept (run_findKey bytes_beq)

section
variable {P : Program} {φ : Ph}
theorem bytes_eq {s t : ByteArray} (h : s.data.toList.map UInt8.toNat = t.data.toList.map UInt8.toNat) : s = t := by
  have : s.data.toList = t.data.toList := List.map_inj_right (fun x y e => UInt8.toNat_inj.1 e) |>.1 h
  obtain ⟨⟨l⟩⟩ := s; obtain ⟨⟨m⟩⟩ := t
  simp at this; rw [this]
theorem sameA_rel {kd : TypeDesc} {x y : AV} {vx vy : Value} {b : Bool} (h : sameA kd x y = some b) (hx : VR φ x vx) (hy : VR φ y vy) : Instr.sameNow kd vx vy = some b := by
  unfold sameA at h
  split at h
  · rename_i k0 k a k' c
    rw [VR] at hx hy; subst hx hy
    split at h
    · rename_i hk
      obtain rfl := Option.some.inj h
      simp only [Instr.sameNow, hk, if_true]
      congr 1
    · cases h
  · rename_i a c
    obtain ⟨s, rfl, rfl⟩ := hx
    obtain ⟨t, rfl, rfl⟩ := hy
    obtain rfl := Option.some.inj h
    rw [eqN_eq]
    simp only [Instr.sameNow]
    congr 1
    rw [Bool.eq_iff_iff, bytes_beq, decide_eq_true_eq]
    exact ⟨fun e => by rw [e], bytes_eq⟩
  · cases h
theorem goMap {w : World} {r : Nat} {es : Array MapEntry} {clock : Nat} (hb : w.heap[r]? = some (.map es clock)) : (getObj r).run P w = .ok (.map es clock) w := by simp [getObj, Sem.run, hb]
theorem setMapRun {w : World} {r : Nat} {es : Array MapEntry} {clock : Nat} (o : Obj) (hb : w.heap[r]? = some (.map es clock)) : (setObj r o).run P w = .ok () { w with heap := w.heap.setIfInBounds r o } := by simp [setObj, Sem.run, hb]
/-- What a search finds. -/
theorem findA_rel {kd : TypeDesc} {k : AV} {vk : Value} (hk : VR φ k vk) : ∀ (es : List (AV × AV)) (l : List MapEntry) (i : Nat) (r : Option (Nat × AV)), VRs φ (es.map (·.1)) (l.map (·.key)) → VRs φ (es.map (·.2)) (l.map (·.val)) → findA kd k es i = some r →
    ∃ r', Instr.findNow kd vk l i = some r' ∧ (r = none ∧ r' = none ∨ ∃ j v u e e', r = some (i + j, v) ∧ r' = some (i + j, u) ∧ VR φ v u ∧ es[j]? = some e ∧ l[j]? = some e' ∧ Instr.sameNow kd vk e'.key = some true)
  | [], [], i, r, _, _, h => by
    rw [findA] at h; obtain rfl := Option.some.inj h
    exact ⟨none, rfl, .inl ⟨rfl, rfl⟩⟩
  | e :: es, e' :: l, i, r, ⟨h1, h2⟩, ⟨h3, h4⟩, h => by
    rw [findA] at h
    split at h
    · rename_i hs
      obtain rfl := Option.some.inj h
      have := sameA_rel hs hk h1
      exact ⟨some (i, e'.val), by simp [Instr.findNow, this], .inr ⟨0, e.2, e'.val, e, e', rfl, rfl, h3, rfl, rfl, this⟩⟩
    · rename_i hs
      have := sameA_rel hs hk h1
      obtain ⟨r', p, q⟩ := findA_rel hk es l (i + 1) r h2 h4 h
      refine ⟨r', by simp [Instr.findNow, this, p], ?_⟩
      rcases q with q | ⟨j, v, u, a, b, q1, q2, q3, q4, q5, q6⟩
      · exact .inl q
      · exact .inr ⟨j + 1, v, u, a, b, by rw [q1]; congr 2; omega, by rw [q2]; congr 2; omega, q3, by simpa using q4, by simpa using q5, q6⟩
    · cases h
  | [], _ :: _, _, _, h, _, _ => h.elim
  | _ :: _, [], _, _, h, _, _ => h.elim
theorem mapTy_spec {t : TypeId} {kd : TypeDesc} {elem : TypeId} (h : mapTy P t = some (kd, elem)) : ∃ key, P.underlying t = some (.map key elem) ∧ P.underlying key = some kd ∧ (kd = .string ∨ ∃ k, kd = .int k) := by
  unfold mapTy at h
  split at h
  · rename_i k e hu
    obtain ⟨d, h1, h2⟩ := Option.map_eq_some_iff.1 h
    obtain ⟨rfl, rfl⟩ := Prod.mk.inj h2
    unfold keyKd at h1
    split at h1
    · rename_i q hq; obtain rfl := Option.some.inj h1; exact ⟨_, hu, hq, .inr ⟨_, rfl⟩⟩
    · rename_i hq; obtain rfl := Option.some.inj h1; exact ⟨_, hu, hq, .inl rfl⟩
    · cases h1
  · cases h
theorem run_checkPlain {key : TypeId} {kd : TypeDesc} (hk : P.underlying key = some kd) (hd : kd = .string ∨ ∃ k, kd = .int k) (e : Bool) (v : Value) (w : World) : (Instr.checkKey e 10000 key v).run P w = .ok () w := by
  unfold Instr.checkKey
  simp only [Sem.run_bind, run_underlying hk, Result.andThen]
  rcases hd with rfl | ⟨k, rfl⟩ <;> cases v <;> rfl
/-- A map's block. -/
theorem HR.map {H : AH} {w : World} {B : Nat} (h : HR φ H w B) {o : Nat} {L : Lo} (hp : φ o 0 = some L) {es : List (AV × AV)} (he : H.entries (some o) = some es) : H.objs.get o = some (.mp es) ∧ MHeld φ es L w := by
  obtain ⟨ao, h1, h2, h3⟩ := h.ob _ _ _ hp
  unfold AH.entries at he
  dsimp only at he
  rw [h1] at he
  cases ao with
  | row => cases he
  | mp es' => obtain rfl := Option.some.inj he; exact ⟨h1, h3.2⟩
theorem run_look {t key elem : TypeId} {kd : TypeDesc} {w : World} (hu : P.underlying t = some (.map key elem)) (hk : P.underlying key = some kd) (hd : kd = .string ∨ ∃ k, kd = .int k) {vx vi : Value} {l : Array MapEntry}
    (hl : (vx = .map none ∧ l = #[]) ∨ ∃ b c, vx = .map (some b) ∧ w.heap[b]? = some (.map l c)) {f : Option (Nat × Value)} (hf : Instr.findNow kd vi l.toList 0 = some f) {z : Value} (hz : f = none → (zeroValue elem).run P w = .ok z w) (ok : Bool) :
    (Instr.lookup t vx vi ok).run P w = .ok (match f with
      | some (_, v) => if ok then .tuple #[v, .bool true] else v
      | none => if ok then .tuple #[z, .bool false] else z) w := by
  rcases hl with ⟨rfl, rfl⟩ | ⟨b, c, rfl, hb⟩
  · cases f with
    | none => simp [Instr.lookup, run_underlying hu, run_checkPlain hk hd, run_findKey hk hf, hz rfl]
    | some f => simp [Instr.lookup, run_underlying hu, run_checkPlain hk hd, run_findKey hk hf]
  · cases f with
    | none => simp [Instr.lookup, run_underlying hu, run_checkPlain hk hd, run_findKey hk hf, hz rfl, goMap hb]
    | some f => simp [Instr.lookup, run_underlying hu, run_checkPlain hk hd, run_findKey hk hf, goMap hb]
theorem look_rel {H : AH} {w : World} {B : Nat} (hH : HR φ H w B) {t : TypeId} {x i v : AV} {ok : Bool} {vx vi : Value} (h : lookA P H t x i ok = some v) (hx : VR φ x vx) (hi : VR φ i vi) :
    ∃ u, (Instr.lookup t vx vi ok).run P w = .ok u w ∧ VR φ v u := by
  unfold lookA at h
  split at h
  · rename_i kd elem r hm
    obtain ⟨key, hu, hk, hd⟩ := mapTy_spec hm
    split at h
    · rename_i es hes
      have hbk : ∃ l : Array MapEntry, VRs φ (es.map (·.1)) (l.toList.map (·.key)) ∧ VRs φ (es.map (·.2)) (l.toList.map (·.val)) ∧
          ((vx = .map none ∧ l = #[]) ∨ ∃ b c, vx = .map (some b) ∧ w.heap[b]? = some (.map l c)) := by
        cases r with
        | none =>
          rw [VR] at hx; subst hx
          obtain rfl := Option.some.inj hes
          exact ⟨#[], trivial, trivial, .inl ⟨rfl, rfl⟩⟩
        | some o =>
          obtain ⟨L, x1, rfl⟩ := hx
          obtain ⟨_, arr, clock, g1, g2, g3, _⟩ := hH.map x1 hes
          exact ⟨arr, g2, g3, .inr ⟨_, _, rfl, g1⟩⟩
      obtain ⟨l, l1, l2, l3⟩ := hbk
      split at h
      · rename_i j v' hf
        obtain ⟨r', p, q⟩ := findA_rel hi es l.toList 0 _ l1 l2 hf
        rcases q with ⟨q, _⟩ | ⟨j', v2, u, a, b, q1, q2, q3, _⟩
        · cases q
        · obtain ⟨_, rfl⟩ := Prod.mk.inj (Option.some.inj q1)
          obtain rfl := Option.some.inj h
          rw [q2] at p
          refine ⟨_, run_look hu hk hd l3 p (z := undef) (fun e => by cases e) ok, ?_⟩
          cases ok with
          | true => exact ⟨_, rfl, q3, rfl, trivial⟩
          | false => exact q3
      · rename_i hf
        obtain ⟨r', p, q⟩ := findA_rel hi es l.toList 0 _ l1 l2 hf
        rcases q with ⟨_, rfl⟩ | ⟨j', v2, u, a, b, q1, _⟩
        · obtain ⟨z, hz, rfl⟩ := Option.map_eq_some_iff.1 h
          obtain ⟨zv, z1, z2⟩ := run_zero (w := w) (φ := φ) hz
          refine ⟨_, run_look hu hk hd l3 p (z := zv) (fun _ => z1) ok, ?_⟩
          cases ok with
          | true => exact ⟨_, rfl, z2, rfl, trivial⟩
          | false => exact z2
        · cases q1
      · cases h
    · cases h
  · cases h
theorem mlen_rel {H : AH} {w : World} {B : Nat} (hH : HR φ H w B) {ts : Array TypeId} {x v : AV} {vx : Value} (h : mlenA P H ts x = some v) (hx : VR φ x vx) (ty : TypeId) :
    ∃ u, (Builtin.len_ ts ty #[vx]).run P w = .ok u w ∧ VR φ v u := by
  unfold mlenA at h
  split at h
  · rename_i k e r hu
    obtain ⟨t, t1, t2⟩ := Option.bind_eq_some_iff.1 hu
    obtain ⟨es, he, rfl⟩ := Option.map_eq_some_iff.1 h
    cases r with
    | none =>
      rw [VR] at hx; subst hx
      obtain rfl := Option.some.inj he
      refine ⟨goInt 0, ?_, rfl⟩
      unfold Builtin.len_
      simp [t1, run_underlying t2]
    | some o =>
      obtain ⟨L, x1, rfl⟩ := hx
      obtain ⟨_, arr, clock, g1, g2, g3, _⟩ := hH.map x1 he
      have hl : es.length = arr.size := by
        have := g2.length
        simpa using this
      refine ⟨goInt arr.size, ?_, by rw [hl]; rfl⟩
      unfold Builtin.len_
      simp [t1, run_underlying t2, goMap g1]
  · cases h
/-- A map's block is written anew. -/
theorem HR.putMap {H : AH} {w : World} {B : Nat} (h : HR φ H w B) {o : Nat} {L : Lo} (hp : φ o 0 = some L) {es es' : List (AV × AV)} (he : H.objs.get o = some (.mp es)) {arr : Array MapEntry} {clock : Nat}
    (h1 : VRs φ (es'.map (·.1)) (arr.toList.map (·.key))) (h2 : VRs φ (es'.map (·.2)) (arr.toList.map (·.val))) (h3 : ∀ e ∈ arr.toList, e.born < clock) (h4 : (arr.toList.map (·.born)).Nodup) :
    HR φ (H.setMap o es') { w with heap := w.heap.setIfInBounds L.blk (.map arr clock) } B ∧ Ext φ φ H (H.setMap o es') ∧ Below B w { w with heap := w.heap.setIfInBounds L.blk (.map arr clock) } := by
  obtain ⟨l0, l2⟩ := h.low _ _ _ hp
  have l1 : B ≤ L.blk := by
    rcases l0 with q | ⟨_, _, _, _, q, _⟩
    · exact q.1
    · rw [he] at q; cases q
  have ho : o < H.next := by obtain ⟨ao, _, h2, _⟩ := h.ob _ _ _ hp; exact h2
  have hg : ∀ o', (H.setMap o es').objs.get o' = if o' = o then some (.mp es') else H.objs.get o' := fun o' => Tr.at_set _ _ _ _ (by have := h.nx; omega)
  have hheap : ∀ k, ({ w with heap := w.heap.setIfInBounds L.blk (.map arr clock) } : World).heap[k]? = if k = L.blk then some (.map arr clock) else w.heap[k]? := by
    intro k
    show (w.heap.setIfInBounds L.blk (.map arr clock))[k]? = _
    rw [Array.getElem?_setIfInBounds]
    by_cases q : L.blk = k
    · subst q; rw [if_pos rfl, if_pos rfl, if_pos l2]
    · rw [if_neg q, if_neg (fun e => q e.symm)]
  have hsz : ({ w with heap := w.heap.setIfInBounds L.blk (.map arr clock) } : World).heap.size = w.heap.size := by simp
  refine ⟨⟨h.inv.of fun k hk => by rw [hheap, if_neg (by omega)], by rw [hsz]; exact h.base, fun o' v L' e => by rw [hsz]; exact ⟨(h.low o' v L' e).1.imp id fun f => f.get ((hg o').trans (if_neg fun q => by obtain ⟨_, _, _, _, q2, _⟩ := f; rw [q, he] at q2; cases q2)), (h.low o' v L' e).2⟩, h.inj, h.nx, fun o' v L' e => ?_⟩, ⟨Le.refl _, fun _ v L h => .inl ⟨v, L, h⟩, Nat.le_refl _⟩, ⟨rfl, rfl, rfl, by rw [hsz]; exact Nat.le_refl _, fun k hk => ?_⟩⟩
  · obtain ⟨ao, k1, k2, kob⟩ := h.ob _ _ _ e
    by_cases qo : o' = o
    · subst qo
      rw [he] at k1
      obtain rfl := Option.some.inj k1
      have hv : v = 0 := kob.1
      subst hv
      rw [hp] at e
      obtain rfl := Option.some.inj e
      exact ⟨_, (hg _).trans (if_pos rfl), k2, show OB φ (.mp es') 0 L _ from ⟨rfl, arr, clock, by rw [hheap, if_pos rfl], h1, h2, h3, h4⟩⟩
    · exact ⟨ao, (hg _).trans ((if_neg qo).trans k1), k2, kob.mono (Le.refl _) (by rw [hheap, if_neg (fun q => qo (h.inj _ _ _ _ _ _ e hp q).1)])⟩
  · rw [hheap, if_neg (by omega)]
theorem same_bits {kd : TypeDesc} {a b : Value} (h : Instr.sameNow kd a b = some true) : Instr.sameBits 10000 b a = true := by
  unfold Instr.sameNow at h
  split at h
  · split at h
    · rename_i hk
      have := Option.some.inj h
      subst hk
      rw [beq_iff_eq] at this; subst this
      simp [Instr.sameBits]
    · cases h
  · have := Option.some.inj h
    rw [bytes_beq] at this; subst this
    simp [Instr.sameBits, bytes_beq]
  · have := Option.some.inj h
    rw [beq_iff_eq] at this; subst this
    simp [Instr.sameBits]
  · cases h
theorem map_erase {α β : Type} (f : α → β) : ∀ (l : List α) (i : Nat), (l.eraseIdx i).map f = (l.map f).eraseIdx i
  | [], _ => rfl
  | _ :: _, 0 => rfl
  | a :: l, i + 1 => by simp [List.eraseIdx, map_erase f l i]
theorem VRs.erase : ∀ (i : Nat) {as : List AV} {vs : List Value}, VRs φ as vs → VRs φ (as.eraseIdx i) (vs.eraseIdx i)
  | _, [], [], _ => by simp [VRs]
  | 0, _ :: _, _ :: _, ⟨_, q⟩ => q
  | i + 1, _ :: _, _ :: _, ⟨p, q⟩ => ⟨p, VRs.erase i q⟩
  | _, [], _ :: _, e => e.elim
  | _, _ :: _, [], e => e.elim
theorem VRs.put : ∀ (i : Nat) {as : List AV} {vs : List Value} {a : AV} {v : Value}, VRs φ as vs → VR φ a v → VRs φ (as.set i a) (vs.set i v)
  | _, [], [], _, _, _, _ => by simp [VRs]
  | 0, _ :: _, _ :: _, _, _, ⟨_, q⟩, h => ⟨h, q⟩
  | i + 1, _ :: _, _ :: _, _, _, ⟨p, q⟩, h => ⟨p, VRs.put i q h⟩
  | _, [], _ :: _, _, _, e, _ => e.elim
  | _, _ :: _, [], _, _, e, _ => e.elim
theorem upd_rel {H H' : AH} {w : World} {B : Nat} (hH : HR φ H w B) {t : TypeId} {x k v : AV} {vx vk vv : Value} (h : updA P H t x k v = some H') (hx : VR φ x vx) (hk : VR φ k vk) (hv : VR φ v vv) :
    ∃ w', (Instr.mapUpdate t vx vk vv).run P w = .ok () w' ∧ HR φ H' w' B ∧ Ext φ φ H H' ∧ Below B w w' := by
  unfold updA at h
  split at h
  · rename_i kd elem o hm
    obtain ⟨key, hu, hkk, hd⟩ := mapTy_spec hm
    obtain ⟨L, x1, rfl⟩ := hx
    split at h
    · rename_i es hes
      obtain ⟨e1, arr, clock, g1, g2, g3, g4, g5⟩ := hH.map x1 hes
      have hrun : (Instr.mapUpdate t (.map (some L.blk)) vk vv).run P w = ((Instr.findKey key vk arr.toList).run P w).andThen fun f w' => (match f with
          | some (i, _) => (do
            let key ← Instr.keyThatStays (((arr[i]?).map MapEntry.key).getD vk) vk
            setObj L.blk (.map (arr.modify i fun e => { e with key, val := vv }) clock) : Sem Unit)
          | none => setObj L.blk (.map (arr.push { key := vk, val := vv, born := clock }) (clock + 1))).run P w' := by
        unfold Instr.mapUpdate
        rw [Sem.run_bind, run_underlying hu, Result.andThen_ok]
        show (do
          let .map es clock ← getObj L.blk | stuck "MapUpdate: map expected"
          Instr.checkKey false 10000 key vk
          match ← Instr.findKey key vk es.toList with
          | some (i, _) => do
            let key ← Instr.keyThatStays (((es[i]?).map (·.key)).getD vk) vk
            setObj L.blk (.map (es.modify i fun e => { e with key, val := vv }) clock)
          | none => setObj L.blk (.map (es.push { key := vk, val := vv, born := clock }) (clock + 1)) : Sem Unit).run P w = _
        rw [Sem.run_bind, goMap g1, Result.andThen_ok]
        refine (Sem.run_bind _ _ _ _).trans ?_
        rw [run_checkPlain hkk hd, Result.andThen_ok]
        refine (Sem.run_bind _ _ _ _).trans ?_
        congr 1
      split at h
      · rename_i j v' hf
        obtain ⟨r', p, q⟩ := findA_rel hk es arr.toList 0 _ g2 g3 hf
        rcases q with ⟨q, _⟩ | ⟨j', v2, u, a, b, q1, q2, q3, q4, q5, q6⟩
        · cases q
        · obtain ⟨rfl, rfl⟩ := Prod.mk.inj (Option.some.inj q1)
          obtain rfl := Option.some.inj h
          rw [q2] at p
          rw [Nat.zero_add] at *
          rw [Array.getElem?_toList] at q5
          have hlist : (arr.modify j' fun e => { e with key := vk, val := vv }).toList = arr.toList.set j' { b with key := vk, val := vv } := by
            apply List.ext_getElem?
            intro n
            rw [Array.getElem?_toList, Array.getElem?_modify, List.getElem?_set, Array.getElem?_toList, Array.length_toList]
            by_cases hn : j' = n
            · subst hn
              have := (Array.getElem?_eq_some_iff.1 q5).1
              rw [if_pos rfl, if_pos rfl, if_pos this, q5]; rfl
            · rw [if_neg hn, if_neg hn]
          refine ⟨{ w with heap := w.heap.setIfInBounds L.blk (.map (arr.modify j' fun e => { e with key := vk, val := vv }) clock) }, ?_, hH.putMap x1 e1 ?_ ?_ ?_ ?_⟩
          · rw [hrun, run_findKey hkk p, Result.andThen_ok]
            show (do
              let key ← Instr.keyThatStays (((arr[j']?).map (·.key)).getD vk) vk
              setObj L.blk (.map (arr.modify j' fun e => { e with key, val := vv }) clock) : Sem Unit).run P w = _
            rw [q5]
            simp only [Option.map_some, Option.getD_some, Instr.keyThatStays, same_bits q6, if_true, pure_bind]
            exact setMapRun _ g1
          · rw [hlist, List.map_set, List.map_set]; exact g2.put _ hk
          · rw [hlist, List.map_set, List.map_set]; exact g3.put _ hv
          · rw [hlist]
            intro e he
            rcases List.mem_or_eq_of_mem_set he with he | rfl
            · exact g4 e he
            · exact g4 b (Array.mem_toList_iff.2 (Array.mem_of_getElem? q5))
          · rw [hlist, List.map_set]
            have : (arr.toList.map (·.born)).set j' b.born = arr.toList.map (·.born) := by
              apply List.ext_getElem?
              intro n
              rw [List.getElem?_set]
              by_cases hn : j' = n
              · subst hn
                have := (Array.getElem?_eq_some_iff.1 q5).1
                rw [if_pos rfl, List.length_map, Array.length_toList, if_pos this, List.getElem?_map, Array.getElem?_toList, q5]; rfl
              · rw [if_neg hn]
            show ((arr.toList.map (·.born)).set j' b.born).Nodup
            rw [this]; exact g5
      · rename_i hf
        obtain ⟨r', p, q⟩ := findA_rel hk es arr.toList 0 _ g2 g3 hf
        rcases q with ⟨_, rfl⟩ | ⟨j', v2, u, a, b, q1, _⟩
        · obtain rfl := Option.some.inj h
          refine ⟨{ w with heap := w.heap.setIfInBounds L.blk (.map (arr.push { key := vk, val := vv, born := clock }) (clock + 1)) }, ?_, hH.putMap x1 e1 ?_ ?_ ?_ ?_⟩
          · rw [hrun, run_findKey hkk p, Result.andThen_ok]
            exact setMapRun _ g1
          · rw [Array.toList_push, List.map_append, List.map_append]; exact g2.append ⟨hk, trivial⟩
          · rw [Array.toList_push, List.map_append, List.map_append]; exact g3.append ⟨hv, trivial⟩
          · rw [Array.toList_push]
            intro e he
            rcases List.mem_append.1 he with he | he
            · have := g4 e he; omega
            · rw [List.mem_singleton] at he; subst he; exact Nat.lt_succ_self _
          · rw [Array.toList_push, List.map_append, List.nodup_append]
            refine ⟨g5, by simp, fun a ha b hb => ?_⟩
            obtain ⟨e, he, rfl⟩ := List.mem_map.1 ha
            simp at hb; subst hb
            exact Nat.ne_of_lt (g4 e he)
        · cases q1
      · cases h
    · cases h
  · cases h
theorem del_rel {H H' : AH} {w : World} {B : Nat} (hH : HR φ H w B) {ts : Array TypeId} {t : TypeId} (ht : ts[0]? = some t) {x k : AV} {vx vk : Value} (h : delA P H t x k = some H') (hx : VR φ x vx) (hk : VR φ k vk) (ty : TypeId) :
    ∃ w', (Builtin.delete_ ts ty #[vx, vk]).run P w = .ok (.tuple #[]) w' ∧ HR φ H' w' B ∧ Ext φ φ H H' ∧ Below B w w' := by
  unfold delA at h
  split at h
  · rename_i kd elem hm
    obtain ⟨key, hu, hkk, hd⟩ := mapTy_spec hm
    rw [VR] at hx; subst hx
    obtain rfl := Option.some.inj h
    refine ⟨w, ?_, hH, Ext.refl _ _, Below.refl _ _⟩
    unfold Builtin.delete_
    simp [ht, run_underlying hu, run_checkPlain hkk hd]
  · rename_i kd elem o hm
    obtain ⟨key, hu, hkk, hd⟩ := mapTy_spec hm
    obtain ⟨L, x1, rfl⟩ := hx
    split at h
    · rename_i es hes
      obtain ⟨e1, arr, clock, g1, g2, g3, g4, g5⟩ := hH.map x1 hes
      have hrun : (Builtin.delete_ ts ty #[.map (some L.blk), vk]).run P w = ((Instr.findKey key vk arr.toList).run P w).andThen fun f w' => ((match f with
          | some (i, _) => setObj L.blk (.map (arr.eraseIdxIfInBounds i) clock)
          | none => setObj L.blk (.map arr clock) : Sem Unit).run P w').andThen fun _ w'' => .ok (.tuple #[]) w'' := by
        unfold Builtin.delete_
        simp only [ht, List.getElem?_toArray, List.getElem?_cons_zero, List.getElem?_cons_succ]
        rw [Sem.run_bind, run_underlying hu, Result.andThen_ok]
        show (do
          let .map es clock ← getObj L.blk | stuck "delete: map expected"
          Instr.checkKey es.isEmpty 10000 key vk
          match ← Instr.findKey key vk es.toList with
          | some (i, _) => setObj L.blk (.map (es.eraseIdxIfInBounds i) clock)
          | none => setObj L.blk (.map es clock)
          pure (Value.tuple #[]) : Sem Value).run P w = _
        rw [Sem.run_bind, goMap g1, Result.andThen_ok]
        refine (Sem.run_bind _ _ _ _).trans ?_
        rw [run_checkPlain hkk hd, Result.andThen_ok]
        refine (Sem.run_bind _ _ _ _).trans ?_
        congr 1
        funext f w'
        cases f with
        | none => exact Sem.run_bind _ _ _ _
        | some f => exact Sem.run_bind _ _ _ _
      split at h
      · rename_i j v' hf
        obtain ⟨r', p, q⟩ := findA_rel hk es arr.toList 0 _ g2 g3 hf
        rcases q with ⟨q, _⟩ | ⟨j', v2, u, a, b, q1, q2, q3, q4, q5, q6⟩
        · cases q
        · obtain ⟨rfl, rfl⟩ := Prod.mk.inj (Option.some.inj q1)
          obtain rfl := Option.some.inj h
          rw [q2] at p
          rw [Nat.zero_add] at *
          rw [Array.getElem?_toList] at q5
          have hj := (Array.getElem?_eq_some_iff.1 q5).1
          have hlist : (arr.eraseIdxIfInBounds j').toList = arr.toList.eraseIdx j' := by
            unfold Array.eraseIdxIfInBounds
            rw [dif_pos hj, Array.toList_eraseIdx]
          refine ⟨{ w with heap := w.heap.setIfInBounds L.blk (.map (arr.eraseIdxIfInBounds j') clock) }, ?_, hH.putMap x1 e1 ?_ ?_ ?_ ?_⟩
          · rw [hrun, run_findKey hkk p, Result.andThen_ok]
            show ((setObj L.blk (.map (arr.eraseIdxIfInBounds j') clock)).run P w).andThen _ = _
            rw [setMapRun _ g1]; rfl
          · rw [hlist, map_erase, map_erase]; exact g2.erase _
          · rw [hlist, map_erase, map_erase]; exact g3.erase _
          · rw [hlist]; intro e he; exact g4 e (List.mem_of_mem_eraseIdx he)
          · rw [hlist, map_erase]; exact g5.sublist (List.eraseIdx_sublist _ _)
      · rename_i hf
        obtain ⟨r', p, q⟩ := findA_rel hk es arr.toList 0 _ g2 g3 hf
        rcases q with ⟨_, rfl⟩ | ⟨j', v2, u, a, b, q1, _⟩
        · obtain rfl := Option.some.inj h
          have hsame : ({ w with heap := w.heap.setIfInBounds L.blk (.map arr clock) } : World) = w := by
            have : w.heap.setIfInBounds L.blk (.map arr clock) = w.heap := by
              apply Array.ext_getElem?
              intro n
              rw [Array.getElem?_setIfInBounds]
              by_cases hn : L.blk = n
              · subst hn; rw [if_pos rfl, if_pos (hH.low _ _ _ x1).2, g1]
              · rw [if_neg hn]
            rw [this]
          refine ⟨w, ?_, hH, Ext.refl _ _, Below.refl _ _⟩
          rw [hrun, run_findKey hkk p, Result.andThen_ok]
          show ((setObj L.blk (.map arr clock)).run P w).andThen _ = _
          rw [setMapRun _ g1, hsame]; rfl
        · cases q1
      · cases h
    · cases h
  · cases h
theorem mkMap_rel {H H' : AH} {w : World} {B : Nat} (hH : HR φ H w B) {v : AV} (h : mkMap H = some (v, H')) (t : TypeId) :
    ∃ φ' w' u, (Instr.makeMap t none).run P w = .ok u w' ∧ VR φ' v u ∧ HR φ' H' w' B ∧ Ext φ φ' H H' ∧ Below B w w' := by
  unfold mkMap at h
  split at h
  · rename_i hn
    rw [Nat.blt_eq] at hn
    obtain ⟨rfl, rfl⟩ := Prod.mk.inj (Option.some.inj h)
    have hg : ∀ o, (H.objs.set deep H.next (.mp [])).get o = if o = H.next then some (.mp []) else H.objs.get o := fun o => Tr.at_set _ _ _ _ (by omega)
    have hle : Le φ (upd φ H.next 0 ⟨w.heap.size, 0, 0, 0, 0⟩) := upd_le (hH.free _)
    have hheap : ∀ k, k < w.heap.size → ({ w with heap := w.heap.push (.map #[] 0) } : World).heap[k]? = w.heap[k]? := fun k hk => by
      show (w.heap.push _)[k]? = _
      rw [Array.getElem?_push, if_neg (by omega)]
    refine ⟨upd φ H.next 0 ⟨w.heap.size, 0, 0, 0, 0⟩, { w with heap := w.heap.push (.map #[] 0) }, .map (some w.heap.size), ?_, ⟨_, upd_same _ _ _ _, rfl⟩, ⟨hH.inv.of fun k hk => hheap k (by have := hH.base; omega), ?_, ?_, ?_, by show H.next + 1 < _; omega, ?_⟩, ⟨hle, ?_, Nat.le_succ _⟩, ⟨rfl, rfl, rfl, by show w.heap.size ≤ (w.heap.push _).size; rw [Array.size_push]; omega, fun k hk => hheap k (by have := hH.base; omega)⟩⟩
    · rfl
    · show B ≤ (w.heap.push _).size; rw [Array.size_push]; have := hH.base; omega
    · intro o v L e
      show ((B ≤ L.blk ∧ L.s = 0) ∨ Frz _ o v) ∧ L.blk < (w.heap.push _).size
      rw [Array.size_push]
      unfold upd at e
      by_cases q : o = H.next ∧ v = 0
      · rw [if_pos q] at e; obtain rfl := Option.some.inj e
        exact ⟨.inl ⟨hH.base, rfl⟩, Nat.lt_succ_self _⟩
      · rw [if_neg q] at e; have := hH.low _ _ _ e
        obtain ⟨ao, k1, k2, kob⟩ := hH.ob _ _ _ e
        exact ⟨this.1.imp id fun f => f.get ((hg _).trans (if_neg (by omega))), by omega⟩
    · intro o1 v1 L1 o2 v2 L2 e1 e2 e
      unfold upd at e1 e2
      by_cases q1 : o1 = H.next ∧ v1 = 0 <;> by_cases q2 : o2 = H.next ∧ v2 = 0
      · rw [if_pos q1] at e1; rw [if_pos q2] at e2; obtain rfl := Option.some.inj e1; obtain rfl := Option.some.inj e2; exact ⟨by rw [q1.1, q2.1], rfl⟩
      · rw [if_pos q1] at e1; rw [if_neg q2] at e2; obtain rfl := Option.some.inj e1
        have := (hH.low _ _ _ e2).2; change w.heap.size = _ at e; omega
      · rw [if_neg q1] at e1; rw [if_pos q2] at e2; obtain rfl := Option.some.inj e2
        have := (hH.low _ _ _ e1).2; change _ = w.heap.size at e; omega
      · rw [if_neg q1] at e1; rw [if_neg q2] at e2; exact hH.inj _ _ _ _ _ _ e1 e2 e
    · intro o v L e
      unfold upd at e
      by_cases q : o = H.next ∧ v = 0
      · rw [if_pos q] at e; obtain rfl := Option.some.inj e
        obtain ⟨rfl, rfl⟩ := q
        refine ⟨_, (hg _).trans (if_pos rfl), Nat.lt_succ_self _, show OB _ (.mp []) 0 _ _ from ⟨rfl, #[], 0, ?_, trivial, trivial, fun e he => by simp at he, by simp⟩⟩
        show (w.heap.push _)[w.heap.size]? = _
        rw [Array.getElem?_push, if_pos rfl]
      · rw [if_neg q] at e
        obtain ⟨ao, k1, k2, kob⟩ := hH.ob _ _ _ e
        exact ⟨ao, (hg _).trans ((if_neg (by omega)).trans k1), by show o < H.next + 1; omega, kob.mono hle (hheap _ (hH.low _ _ _ e).2)⟩
    · intro o v L e
      unfold upd at e
      by_cases q : o = H.next ∧ v = 0
      · exact .inr ⟨by omega, by rw [q.1]; exact Nat.lt_succ_self _⟩
      · rw [if_neg q] at e; exact .inl ⟨v, L, e⟩
  · cases h
end
end Go.Proofs.Ytjhijcehcklipaa.Ev
