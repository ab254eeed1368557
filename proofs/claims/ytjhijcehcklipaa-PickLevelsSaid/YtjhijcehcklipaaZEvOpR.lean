/-
  Operations that read, and those that make memory.
-/
import Derived.Test.YtjhijcehcklipaaZEvMap
import Derived.Laws.BytesString
import Derived.Laws.MakeOwn
set_option linter.unusedVariables false
set_option linter.unusedSimpArgs false
namespace Go.Proofs.Ytjhijcehcklipaa.Ev

section
variable {P : Program} {φ : Ph}
theorem push_bytes : ∀ (ns : List Int) (s : ByteArray), (ns.foldl (fun r n => r.push (UInt8.ofNat n.toNat)) s).data.toList = s.data.toList ++ ns.map fun n => UInt8.ofNat n.toNat
  | [], s => by simp
  | n :: ns, s => by rw [List.foldl_cons, push_bytes ns]; simp
theorem toBytes_rel : ∀ {cs : List AV} {vs : List Value} {l : List Nat}, VRs φ cs vs → toBytes cs = some l → ∃ ns : List Int, vs = ns.map (Value.int .u8) ∧ (ns.map fun n => UInt8.ofNat n.toNat).map UInt8.toNat = l
  | [], [], l, _, h => by rw [toBytes] at h; obtain rfl := Option.some.inj h; exact ⟨[], rfl, rfl⟩
  | c :: cs, v :: vs, l, ⟨h1, h2⟩, h => by
    unfold toBytes at h
    split at h
    · rename_i e; cases e
    · rename_i c' cs' e
      obtain ⟨rfl, rfl⟩ := List.cons.inj e
      split at h
      · rename_i hb
        obtain ⟨l', h3, rfl⟩ := Option.map_eq_some_iff.1 h
        obtain ⟨ns, rfl, q⟩ := toBytes_rel h2 h3
        rw [VR] at h1; subst h1
        refine ⟨c' :: ns, rfl, ?_⟩
        rw [List.map_cons, List.map_cons, q]
        congr 1
        rw [UInt8.toNat_ofNat']
        omega
      · cases h
    · cases h
  | [], _ :: _, _, e, _ => e.elim
  | _ :: _, [], _, e, _ => e.elim
theorem opR_ok {T : Fr} {a : Act} {H : AH} {w : World} {B : Nat} (h : Evals φ T a) (hH : HR φ H w B) {o : Oper} {v : AV} (e : opR P T H o.op = some v) : ∃ u, (execOp a.eval o).run P w = .ok (.value u) w ∧ VR φ v u := by
  cases hop : o.op with
  | load t x =>
    rw [hop, opR] at e
    split at e
    · rename_i pl hx
      obtain ⟨L, x1, x2, hv⟩ := ev_rel h hx
      obtain ⟨u, u1, u2⟩ := hH.loadV x1 x2 e
      refine ⟨u, ?_, u2⟩
      simp only [execOp, hop, hv, Instr.loadAt, Instr.sureAddr, pure_bind]
      exact run_v u1
    · cases e
  | convert src dst x =>
    rw [hop, opR] at e
    split at e
    · rename_i p hp
      have hx := ev_rel h hp
      suffices hs : ∃ u, (convert src dst (a.eval x)).run P w = .ok u w ∧ VR φ v u by
        obtain ⟨u, u1, u2⟩ := hs
        exact ⟨u, by simp only [execOp, hop]; exact run_v u1, u2⟩
      unfold convR at e
      split at e
      · rename_i el al len cap hs hd
        split at e
        · rename_i hel
          have hconv : ∀ vx, (∃ q m n, vx = Value.slice q m n) → (convert src dst vx).run P w = (Conv.bytesToString vx).run P w := by
            rintro vx ⟨q, m, n, rfl⟩
            unfold convert
            rw [Sem.run_bind, run_underlying hs, Result.andThen_ok, Sem.run_bind, run_underlying hd, Result.andThen_ok]
            show (do match ← underlying el with | .int .u8 => Conv.bytesToString (.slice q m n) | .int .i32 => Conv.runesToString (.slice q m n) | _ => stuck "Convert: a slice of what to string?" : Sem Value).run P w = _
            rw [Sem.run_bind, run_underlying hel, Result.andThen_ok]
          split at e
          · obtain rfl := Option.some.inj e
            obtain ⟨_, _, hv⟩ := hx
            refine ⟨.string .empty, ?_, _, rfl, rfl⟩
            rw [hv, hconv _ ⟨_, _, _, rfl⟩]; rfl
          · rename_i al
            obtain ⟨l, h1, rfl⟩ := Option.map_eq_some_iff.1 e
            obtain ⟨cs, h2, h3⟩ := Option.bind_eq_some_iff.1 h1
            obtain ⟨L, off, c, x1, hv, x2, x3, x4, x5, x6⟩ := hx
            have hl : ∃ vs : List Value, VRs φ cs vs ∧ (loadCells ⟨L.blk, off, none⟩ len).run P w = .ok vs.toArray w := by
              rcases x6 with ⟨y1, y2⟩ | ⟨y1, y2⟩
              · obtain ⟨vs, p, q, r⟩ := hH.loads (P := P) x1 y1 h2
                exact ⟨vs, p, by rw [y2]; exact r⟩
              · subst y1
                rw [AH.reads] at h2; obtain rfl := Option.some.inj h2
                exact ⟨[], trivial, rfl⟩
            obtain ⟨vs, p, r⟩ := hl
            obtain ⟨ns, rfl, q⟩ := toBytes_rel p h3
            refine ⟨_, by rw [hv, hconv _ ⟨_, _, _, rfl⟩]; exact run_bytesToString w _ len c ns r, _, rfl, ?_⟩
            rw [push_bytes, ← q]; rfl
        · cases e
      · cases e
    · cases e
  | lookup t x i ok =>
    rw [hop, opR] at e
    split at e
    · rename_i p k hp hk
      obtain ⟨u, u1, u2⟩ := look_rel hH e (ev_rel h hp) (ev_rel h hk)
      exact ⟨u, by simp only [execOp, hop]; exact run_v u1, u2⟩
    · cases e
  | call c =>
    rw [hop, opR] at e
    split at e
    · rename_i x ha hb
      have hr : VRs φ [x] (c.args.map a.eval).toList := by rw [Array.toList_map]; exact evs_rel h ha
      obtain ⟨vx, hvx, hx⟩ : ∃ vx, (c.args.map a.eval) = #[vx] ∧ VR φ x vx := by
        match hl : (c.args.map a.eval).toList, hr with
        | [vx], ⟨hx, _⟩ => exact ⟨vx, Array.ext' hl, hx⟩
      obtain ⟨u, u1, u2⟩ := mlen_rel hH e hx o.type
      refine ⟨u, ?_, u2⟩
      simp only [execOp, hop, resolve, hb, pure_bind, hvx, invoke, builtin]
      exact run_v u1
    · cases e
  | _ => rw [hop] at e; simp [opR] at e

theorem repl_len (z : List AV) : ∀ n, (repl z n).length = n * z.length
  | 0 => by simp [repl]
  | n + 1 => by rw [repl, List.length_append, repl_len z n, Nat.add_mul]; omega
theorem repl_get (z : List AV) : ∀ (n j : Nat), j < n * z.length → (repl z n)[j]? = z[j % z.length]?
  | 0, j, h => by simp at h
  | n + 1, j, h => by
    rw [repl]
    have h' : j < n * z.length + z.length := by rw [Nat.add_mul] at h; omega
    by_cases q : j < z.length
    · rw [List.getElem?_append_left q, Nat.mod_eq_of_lt q]
    · rw [List.getElem?_append_right (by omega), repl_get z n (j - z.length) (by omega), ← Nat.mod_eq_sub_mod (by omega)]
theorem repl_made {z : List AV} {zv : Array Value} (h : VRs φ z zv.toList) (hz : z ≠ []) (n : Nat) : VRs φ (repl z n) (madeCells zv (n * z.length)).toList := by
  have hl : z.length = zv.size := h.length.trans Array.length_toList
  have hp : 0 < z.length := List.length_pos_iff.2 hz
  refine VRs.mk (by rw [repl_len]; exact ((Array.length_toList (xs := madeCells zv (n * z.length))).trans (size_madeCells zv _)).symm) fun i a v ha hv => ?_
  have hi : i < n * z.length := by
    by_cases q : i < n * z.length
    · exact q
    · rw [List.getElem?_eq_none (by rw [repl_len]; omega)] at ha; cases ha
  rw [repl_get z n i hi] at ha
  obtain ⟨u, u1, u2⟩ := h.get ha
  have hm := Nat.mod_lt i hp
  have : v = u := by
    unfold madeCells at hv
    rw [Array.getElem?_toList, Array.getElem?_map, Array.getElem?_range, if_pos hi] at hv
    have := Option.some.inj hv
    rw [← this, ← hl]
    rw [Array.getElem?_toList] at u1
    show zv[i % z.length]! = u
    rw [getElem!_def, u1]
  rw [this]; exact u2

/-- What an operation that makes memory leaves. -/
def Makes (P : Program) (φ : Ph) (s : Sem Value) (q : Mk) (w : World) : Prop :=
  ∃ w' arr elem lo hi u, s.run P w = .ok u w' ∧ w'.heap = w.heap.push (.cells arr elem (lo, hi)) ∧ (lo = hi ∨ arr.size ≤ lo) ∧ w'.os = w.os ∧ w'.tape = w.tape ∧ w'.output = w.output ∧
    (∀ (i : Nat) c, q.cs[i]? = some c → ∃ cv, arr[i]? = some cv ∧ VR φ c cv) ∧
    ∀ (φ' : Ph) (o : Nat), φ' o q.cs.length = some ⟨w.heap.size, 0, arr.size, q.z, 0⟩ → VR φ' (q.val ⟨o, q.cs.length, 0⟩) u
theorem makes_var {t : TypeId} {cs : List AV} {v : Value} (h : VRs φ cs v.cells.toList) (w : World) : Makes P φ (do pure (.pointer (some (← newVar t v)))) ⟨cs, 0, fun a => .p (some a)⟩ w := by
  refine ⟨{ w with heap := w.heap.push (.cells v.cells t) }, v.cells, t, 0, 0, .pointer (some ⟨w.heap.size, 0, none⟩), rfl, rfl, .inl rfl, rfl, rfl, rfl, fun i c hc => ?_, fun φ' o hφ => ⟨_, hφ, Nat.le_refl _, rfl⟩⟩
  obtain ⟨u, u1, u2⟩ := h.get hc
  exact ⟨u, by rw [← Array.getElem?_toList]; exact u1, u2⟩
theorem forced_cap (n m : Nat) (e : TypeId) : (Question.appendCap n m e).forced = false := rfl
theorem opA_ok {T : Fr} {a : Act} (h : Evals φ T a) {o : Oper} {q : Mk} (e : opA P T o.op = some q) (w : World) (hs : q.cs.length < 1000000000) : ∃ s, execOp a.eval o = (do pure (Next.value (← s))) ∧ Makes P φ s q w := by
  cases hop : o.op with
  | alloc el =>
    rw [hop, opA] at e
    obtain ⟨z, h1, rfl⟩ := Option.map_eq_some_iff.1 e
    obtain ⟨i, v, i1, i2, i3⟩ := zero_parts h1
    refine ⟨Instr.alloc el true (.tuple #[]), by simp only [execOp, hop], ?_⟩
    have hm := makes_var (P := P) (φ := φ) (t := el) (toAV_cells φ i3) w
    obtain ⟨w', arr, elem, lo, hi, u, m1, m2⟩ := hm
    refine ⟨w', arr, elem, lo, hi, u, ?_, m2⟩
    rw [← m1]
    unfold Instr.alloc
    have : (zeroValue el).run P w = .ok v w := by
      unfold zeroValue
      rw [Sem.run_bind, run_typeInfo w i1, Result.andThen_ok, i2]; rfl
    rw [Sem.run_bind, this, Result.andThen_ok]
  | box el x =>
    rw [hop, opA] at e
    split at e
    · rename_i v hv
      split at e
      · rename_i hu
        obtain rfl := Option.some.inj e
        refine ⟨Instr.box el (a.eval x), by simp only [execOp, hop], ?_⟩
        exact makes_var (VR.cells (ev_rel h hv) hu) w
      · cases e
    · cases e
  | buildSlice t len ps =>
    rw [hop, opA] at e
    split at e
    · rename_i as ha
      unfold buildSl at e
      split at e
      · rename_i el hu
        split at e
        · rename_i n z hn hz
          split at e
          · cases e
          · rename_i hc
            simp only [not_or] at hc
            obtain ⟨c1, c2, c3⟩ := hc
            obtain ⟨cs, h1, rfl⟩ := Option.map_eq_some_iff.1 e
            obtain ⟨i, zv, i1, i2, i3⟩ := zero_parts hz
            have hzr := toAV_cells φ i3
            have hzl : z.cells.length = n := by omega
            have hne : z.cells ≠ [] := fun q => by rw [q] at hzl; simp at hzl; omega
            have hm := repl_made hzr hne len
            rw [hzl] at hm
            obtain ⟨us, u1, u2⟩ := fill_rel _ (evp_rel h ha) hm h1
            have hul : us.size = cs.length := by rw [← Array.length_toList]; exact u2.length.symm
            refine ⟨Instr.buildSlice t len (ps.map fun x => (x.1, a.eval x.2)), by simp only [execOp, hop], { w with heap := w.heap.push (.cells us el) }, us, el, 0, 0, .slice (some ⟨w.heap.size, 0, none⟩) len len, ?_, rfl, .inl rfl, rfl, rfl, rfl, fun i c hc => ?_, fun φ' ob hφ => ?_⟩
            · unfold Instr.buildSlice
              rw [Sem.run_bind, run_underlying hu, Result.andThen_ok]
              show (do let size ← sizeOf el; _ : Sem Value).run P w = _
              rw [Sem.run_bind, run_sz hn, Result.andThen_ok]
              have hz0 : (zeroValue el).run P w = .ok zv w := by
                unfold zeroValue
                rw [Sem.run_bind, run_typeInfo w i1, Result.andThen_ok, i2]; rfl
              have u1' := u1
              unfold madeCells at u1'
              rw [if_neg (by omega)]
              by_cases hl0 : len * n = 0
              · rw [hl0] at u1'
                simp only [hl0, Array.range_zero', Array.map_empty] at u1' ⊢
                simp [u1', newRow]
              · simp [hl0, hz0, u1', newRow]
            · obtain ⟨u, v1, v2⟩ := u2.get hc
              exact ⟨u, by rw [← Array.getElem?_toList]; exact v1, v2⟩
            · have hlen : len ≤ len * n := Nat.le_mul_of_pos_right _ (by omega)
              exact ⟨_, 0, len, hφ, rfl, Nat.le_refl _, by unfold inf; omega, fun _ => rfl, fun w => by unfold inf at w; omega, .inl ⟨Nat.le_refl _, rfl⟩⟩
        · cases e
      · cases e
    · cases e
  | makeSlice t l c =>
    rw [hop, opA] at e
    split at e
    · rename_i al ac hl hc
      unfold makeSl at e
      split at e
      · rename_i el kl l' kc c' hu
        split at e
        · rename_i i z hi hz
          split at e
          · cases e
          · rename_i hx
            simp only [not_or] at hx
            obtain ⟨x1, x2, x3, x4, x5, x6, x7⟩ := hx
            obtain rfl := Option.some.inj e
            obtain ⟨i', zv, i1, i2, i3⟩ := zero_parts hz
            rw [hi] at i1; obtain rfl := Option.some.inj i1
            have hl' := ev_rel h hl
            have hc' := ev_rel h hc
            rw [VR] at hl' hc'
            have hzl : z.cells.length = i.size := by omega
            have hne : z.cells ≠ [] := fun q => by rw [q] at hzl; simp at hzl; omega
            have hm := repl_made (toAV_cells φ i3) hne c'.toNat
            rw [hzl] at hm
            have hb : (i.bytes : Int) * c' ≤ 281474976710656 := by
              have h1 : (i.bytes : Int) * c' ≤ 1000000 * c' := Int.mul_le_mul_of_nonneg_right (by omega) (by omega)
              omega
            refine ⟨Instr.makeSlice t (a.eval l) (a.eval c), by simp only [execOp, hop], w.alloc (.cells (madeCells zv.cells (c'.toNat * i.size)) el), _, el, 0, 0, .slice (some ⟨w.heap.size, 0, none⟩) l'.toNat c'.toNat, ?_, rfl, .inl rfl, rfl, rfl, rfl, fun j x hxj => ?_, fun φ' ob hφ => ?_⟩
            · rw [hl', hc']
              exact run_make w t el i zv hu hi i2 kl kc l' c' (by omega) (by omega) hb (by omega)
            · obtain ⟨u, v1, v2⟩ := hm.get hxj
              exact ⟨u, by rw [← Array.getElem?_toList]; exact v1, v2⟩
            · exact ⟨_, 0, c'.toNat, hφ, rfl, by omega, by unfold inf; omega, fun _ => rfl, fun w => by unfold inf at w; omega, .inl ⟨Nat.le_refl _, rfl⟩⟩
        · cases e
      · cases e
    · cases e
  | convert src dst x =>
    rw [hop, opA] at e
    split at e
    · rename_i p hp
      have hx := ev_rel h hp
      unfold convA at e
      split at e
      · rename_i d el l hs' hd
        split at e
        · rename_i hel
          split at e
          · rename_i hlen
            obtain rfl := Option.some.inj e
            obtain ⟨s, hv, rfl⟩ := hx
            rw [size_bytes] at hlen
            have hcap : ∃ cap, s.size ≤ cap ∧ (choose (Question.appendCap s.size 0 el)).run P w = .ok cap { w with drawn := w.drawn + 1 } := by
              refine ⟨(Question.appendCap s.size 0 el).cut (w.tape w.drawn (Question.appendCap s.size 0 el)), ?_, ?_⟩
              · show s.size ≤ s.size + _; omega
              · rw [run_choose, forced_cap]; rfl
            obtain ⟨cap, hc1, hc2⟩ := hcap
            let arr : Array Value := (s.data.map fun (b : UInt8) => Value.int .u8 b.toNat) ++ Array.replicate (cap - s.size) (Value.int .u8 0)
            have harr : arr.size = cap := by
              show ((s.data.map fun (b : UInt8) => Value.int .u8 b.toNat) ++ Array.replicate (cap - s.size) (Value.int .u8 0)).size = cap
              rw [Array.size_append, Array.size_map, Array.size_replicate]
              have : s.data.size = s.size := rfl
              omega
            refine ⟨convert src dst (a.eval x), by simp only [execOp, hop], { w with heap := w.heap.push (.cells arr el (cap, cap + 1)), drawn := w.drawn + 1 }, arr, el, cap, cap + 1, .slice (some ⟨w.heap.size, 0, none⟩) s.size cap, ?_, rfl, .inr (Nat.le_of_eq harr), rfl, rfl, rfl, fun j c hc => ?_, fun φ' ob hφ => ?_⟩
            · rw [hv]
              unfold convert
              rw [Sem.run_bind, run_underlying hs', Result.andThen_ok, Sem.run_bind, run_underlying hd, Result.andThen_ok]
              have hst : (Conv.stringToBytes el s).run P w = .ok (.slice (some ⟨w.heap.size, 0, none⟩) s.size cap) { w with heap := w.heap.push (.cells arr el (cap, cap + 1)), drawn := w.drawn + 1 } := by
                unfold Conv.stringToBytes
                rw [Sem.run_bind, hc2, Result.andThen_ok]
                simp only [newRow, Sem.run_bind, run_newObj, Result.andThen_ok, Sem.run_pure, markStringish, run_shape, pure_bind]
                have hsh : World.shape? { heap := w.heap.push (.cells arr el), tape := w.tape, drawn := w.drawn + 1, os := w.os, output := w.output } w.heap.size = some (el, cap) := by
                  unfold World.shape?
                  simp [harr]
                rw [show ({ heap := w.heap.push (.cells ((s.data.map fun (b : UInt8) => Value.int .u8 b.toNat) ++ Array.replicate (cap - s.size) (Value.int .u8 0)) el), tape := w.tape, drawn := w.drawn + 1, os := w.os, output := w.output } : World) = { heap := w.heap.push (.cells arr el), tape := w.tape, drawn := w.drawn + 1, os := w.os, output := w.output } from rfl, hsh]
                simp only [run_freeze, Result.andThen_ok, Sem.run_pure]
                congr 1
                unfold World.freeze
                simp only [Nat.one_ne_zero, if_false]
                congr 1
                apply Array.ext
                · simp
                · intro k k1 k2
                  simp only [Array.getElem_modify]
                  by_cases hk : w.heap.size = k
                  · subst hk; simp
                  · have : k < w.heap.size := by simp at k2; omega
                    simp [hk, Array.getElem_push, this]
              cases d <;> first
                | (show (do match ← underlying el with | .int .u8 => Conv.stringToBytes el s | .int .i32 => Conv.stringToRunes el s | _ => stuck "Convert: string to a slice of what?" : Sem Value).run P w = _
                   rw [Sem.run_bind, run_underlying hel, Result.andThen_ok]; exact hst)
            · unfold bytesOf at hc
              rw [List.map_map, List.getElem?_map] at hc
              obtain ⟨b, b1, rfl⟩ := Option.map_eq_some_iff.1 hc
              refine ⟨.int .u8 b.toNat, ?_, rfl⟩
              have hj : j < s.data.size := by rw [← Array.length_toList]; exact (List.getElem?_eq_some_iff.1 b1).1
              show ((s.data.map fun (b : UInt8) => Value.int .u8 b.toNat) ++ Array.replicate (cap - s.size) (Value.int .u8 0))[j]? = _
              rw [Array.getElem?_append_left (by rw [Array.size_map]; exact hj), Array.getElem?_map]
              rw [Array.getElem?_toList] at b1
              rw [b1]; rfl
            · rw [size_bytes]
              refine ⟨_, 0, cap, hφ, rfl, hc1, by unfold inf; omega, fun w => by unfold inf at w; omega, fun _ => ⟨rfl, by show 0 + cap * 1 ≤ arr.size; omega⟩, .inl ⟨Nat.le_refl _, rfl⟩⟩
          · cases e
        · cases e
      · cases e
    · cases e
  | _ => rw [hop] at e; simp [opA] at e
end
end Go.Proofs.Ytjhijcehcklipaa.Ev
