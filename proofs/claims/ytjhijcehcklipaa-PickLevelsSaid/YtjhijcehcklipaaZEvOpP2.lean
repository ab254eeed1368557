/-
  Plain operations: all of them.
-/
import Derived.Test.YtjhijcehcklipaaZEvOpP
set_option linter.unusedVariables false
set_option linter.unusedSimpArgs false
namespace Go.Proofs.Ytjhijcehcklipaa.Ev

section
variable {P : Program} {φ : Ph}
theorem run_v {s : Sem Value} {u : Value} {w w' : World} (h : s.run P w = .ok u w') : (do pure (Next.value (← s)) : Sem Next).run P w = .ok (.value u) w' := by
  rw [Sem.run_bind, h, Result.andThen_ok]; rfl
theorem convP_rel {src dst : TypeId} {x : AV} {vx : Value} {v : AV} (h : convP P src dst x = some v) (hx : VR φ x vx) : ∃ u, (∀ w, (convert src dst vx).run P w = .ok u w) ∧ VR φ v u := by
  unfold convP at h
  split at h
  · rename_i d k k' c hs hd
    rw [VR] at hx; subst hx
    obtain ⟨u, u1, u2⟩ := pureOf_spec (φ := φ) h
    refine ⟨u, fun w => ?_, u2⟩
    unfold convert
    rw [Sem.run_bind, run_underlying hs, Result.andThen_ok, Sem.run_bind, run_underlying hd, Result.andThen_ok]
    exact (congrArg (fun z => Sem.run P z w) u1).trans rfl
  · rename_i d l hs hd
    obtain rfl := Option.some.inj h
    have hx' := hx
    obtain ⟨s, rfl, _⟩ := hx
    refine ⟨.string s, fun w => ?_, hx'⟩
    unfold convert
    rw [Sem.run_bind, run_underlying hs, Result.andThen_ok, Sem.run_bind, run_underlying hd, Result.andThen_ok]
    cases d <;> rfl
  · cases h
theorem indexAd_rel {t : TypeId} {x i : AV} {vx vi : Value} {v : AV} (h : indexAd P t x i = some v) (hx : VR φ x vx) (hi : VR φ i vi) : ∃ u, (∀ w, (Instr.indexAt t vx vi).run P w = .ok u w) ∧ VR φ v u := by
  unfold indexAd at h
  split at h
  · rename_i e a len cap k i hu
    rw [VR] at hi; subst hi
    split at h
    · rename_i n hn
      split at h
      · rename_i hb
        obtain rfl := Option.some.inj h
        obtain ⟨L, off, c, x1, rfl, x2, x3, x4, x5, x6⟩ := hx
        rcases x6 with ⟨y1, y2⟩ | ⟨y1, y2⟩
        · refine ⟨.pointer (some ⟨L.blk, off + i.toNat * n, none⟩), fun w => ?_, L, x1, ?_, ?_⟩
          · unfold Instr.indexAt
            simp [asIntOf, run_underlying hu, hb, run_sz hn, add_at]
          · show L.d ≤ a.i + i.toNat * n; omega
          · show Value.pointer (some ⟨L.blk, off + i.toNat * n, none⟩) = .pointer (some ⟨L.blk, a.i + i.toNat * n - L.d + (L.s - 1), none⟩)
            rw [show a.i + i.toNat * n - L.d + (L.s - 1) = off + i.toNat * n by omega]
        · omega
      · cases h
    · cases h
  · rename_i len e a k i hu
    rw [VR] at hi; subst hi
    split at h
    · rename_i n hn
      split at h
      · rename_i hb
        obtain rfl := Option.some.inj h
        obtain ⟨L, x1, x2, rfl⟩ := hx
        refine ⟨.pointer (some ⟨L.blk, a.i - L.d + (L.s - 1) + i.toNat * n, none⟩), fun w => ?_, L, x1, ?_, ?_⟩
        · unfold Instr.indexAt
          simp [asIntOf, run_underlying hu, hb, run_sz hn, add_at, Instr.sureAddr]
        · show L.d ≤ a.i + i.toNat * n; omega
        · show Value.pointer (some ⟨L.blk, a.i - L.d + (L.s - 1) + i.toNat * n, none⟩) = .pointer (some ⟨L.blk, a.i + i.toNat * n - L.d + (L.s - 1), none⟩)
          rw [show a.i + i.toNat * n - L.d + (L.s - 1) = a.i - L.d + (L.s - 1) + i.toNat * n by omega]
      · cases h
    · cases h
  · cases h
theorem part_rel {t : TypeId} {cs : List AV} {vs : Array Value} {off : Nat} {v : AV} (h : partA P t cs off = some v) (hx : VRs φ cs vs.toList) : ∃ u, (∀ w, (part t vs off).run P w = .ok u w) ∧ VR φ v u := by
  unfold partA at h
  split at h
  · rename_i ha
    split at h
    · rename_i n hn
      split at h
      · obtain rfl := Option.some.inj h
        refine ⟨.agg (vs.extract off (off + n)), fun w => ?_, ((vs.toList.drop off).take n), ?_, (hx.drop off).take n⟩
        · unfold part
          rw [Sem.run_bind, run_isAg ha, Result.andThen_ok]
          simp [run_sz hn]
        · congr 1
          apply Array.ext'
          simp [List.extract_eq_take_drop]
      · cases h
    · cases h
  · rename_i ha
    obtain ⟨u, u1, u2⟩ := hx.get h
    refine ⟨u, fun w => ?_, u2⟩
    unfold part
    rw [Sem.run_bind, run_isAg ha, Result.andThen_ok]
    have : vs[off]? = some u := by rw [← u1]; simp
    simp [this]
  · cases h
theorem indexA_rel {t : TypeId} {x i : AV} {vx vi : Value} {v : AV} (h : indexA P t x i = some v) (hx : VR φ x vx) (hi : VR φ i vi) : ∃ u, (∀ w, (Instr.index t vx vi).run P w = .ok u w) ∧ VR φ v u := by
  unfold indexA at h
  split at h
  · rename_i l k i hu
    rw [VR] at hi; subst hi
    split at h
    · rename_i hb
      obtain ⟨c, h1, rfl⟩ := Option.map_eq_some_iff.1 h
      obtain ⟨s, rfl, rfl⟩ := hx
      rw [List.getElem?_map] at h1
      obtain ⟨b, h2, rfl⟩ := Option.map_eq_some_iff.1 h1
      refine ⟨.int .u8 b.toNat, fun w => ?_, rfl⟩
      have hs : s[i.toNat]? = some b := by
        have hlt : i.toNat < s.data.toList.length := (List.getElem?_eq_some_iff.1 h2).1
        have hv := (List.getElem?_eq_some_iff.1 h2).2
        have hlt' : i.toNat < s.size := by rw [Array.length_toList] at hlt; exact hlt
        rw [getElem?_pos s i.toNat hlt']
        congr 1
      unfold Instr.index
      simp [asIntOf, run_underlying hu, hb, hs]
    · cases h
  · rename_i len e cs k i hu
    rw [VR] at hi; subst hi
    split at h
    · rename_i n hn
      split at h
      · rename_i hb
        obtain ⟨vs, rfl, r⟩ := hx
        obtain ⟨u, u1, u2⟩ := part_rel (φ := φ) (vs := ⟨vs⟩) h r
        refine ⟨u, fun w => ?_, u2⟩
        unfold Instr.index
        simp [asIntOf, run_underlying hu, hb, run_sz hn, u1]
      · cases h
    · cases h
  · cases h
theorem fieldAd_rel {t : TypeId} {x : AV} {vx : Value} {f : Nat} {v : AV} (h : fieldAd P t x f = some v) (hx : VR φ x vx) : ∃ u, (∀ w, (Instr.fieldAt t vx f).run P w = .ok u w) ∧ VR φ v u := by
  unfold fieldAd at h
  split at h
  · rename_i fs a hu
    split at h
    · rename_i fd hf
      split at h
      · rename_i n hn
        split at h
        · cases h
        · rename_i hn0
          obtain rfl := Option.some.inj h
          obtain ⟨L, x1, x2, rfl⟩ := hx
          refine ⟨.pointer (some ⟨L.blk, a.i - L.d + (L.s - 1) + fd.offset, none⟩), fun w => ?_, L, x1, ?_, ?_⟩
          · unfold Instr.fieldAt
            simp [run_underlying hu, hf, Instr.sureAddr, fieldPlace, run_sz hn, hn0, add_at]
          · show L.d ≤ a.i + fd.offset; omega
          · show Value.pointer (some ⟨L.blk, a.i - L.d + (L.s - 1) + fd.offset, none⟩) = .pointer (some ⟨L.blk, a.i + fd.offset - L.d + (L.s - 1), none⟩)
            rw [show a.i + fd.offset - L.d + (L.s - 1) = a.i - L.d + (L.s - 1) + fd.offset by omega]
      · cases h
    · cases h
  · cases h
theorem fieldA_rel {t : TypeId} {x : AV} {vx : Value} {f : Nat} {v : AV} (h : fieldA P t x f = some v) (hx : VR φ x vx) : ∃ u, (∀ w, (Instr.field t vx f).run P w = .ok u w) ∧ VR φ v u := by
  unfold fieldA at h
  split at h
  · rename_i fs cs hu
    split at h
    · rename_i fd hf
      obtain ⟨vs, rfl, r⟩ := hx
      obtain ⟨u, u1, u2⟩ := part_rel (φ := φ) (vs := ⟨vs⟩) h r
      refine ⟨u, fun w => ?_, u2⟩
      unfold Instr.field
      simp [run_underlying hu, hf, asAgg, u1]
    · cases h
  · cases h
theorem lenB_rel {ts : Array TypeId} {x : AV} {vx : Value} {v : AV} (h : lenB P ts x = some v) (hx : VR φ x vx) (ty : TypeId) : ∃ u, (∀ w, (Builtin.len_ ts ty #[vx]).run P w = .ok u w) ∧ VR φ v u := by
  unfold lenB at h
  have ht : ∀ {d}, (ts[0]?).bind P.underlying = some d → ∃ t, ts[0]? = some t ∧ P.underlying t = some d := fun e => Option.bind_eq_some_iff.1 e
  split at h
  · rename_i l hu
    obtain ⟨t, t1, t2⟩ := ht hu
    obtain rfl := Option.some.inj h
    obtain ⟨s, rfl, rfl⟩ := hx
    refine ⟨_, fun w => ?_, by rw [size_bytes]; rfl⟩
    unfold Builtin.len_
    simp [t1, run_underlying t2]
    rfl
  · rename_i n e hu
    obtain ⟨t, t1, t2⟩ := ht hu
    obtain rfl := Option.some.inj h
    refine ⟨_, fun w => ?_, rfl⟩
    unfold Builtin.len_
    simp [t1, run_underlying t2]
    cases vx <;> rfl
  · rename_i e hu
    obtain ⟨t, t1, t2⟩ := ht hu
    split at h
    · rename_i n e' hu'
      obtain rfl := Option.some.inj h
      refine ⟨_, fun w => ?_, rfl⟩
      unfold Builtin.len_
      simp [t1, run_underlying t2]
      cases vx <;> simp [run_underlying hu'] <;> rfl
    · cases h
  · rename_i e a n c hu
    obtain ⟨t, t1, t2⟩ := ht hu
    obtain rfl := Option.some.inj h
    refine ⟨_, fun w => ?_, rfl⟩
    cases a with
    | none => obtain ⟨rfl, rfl, rfl⟩ := hx; unfold Builtin.len_; simp [t1, run_underlying t2]; rfl
    | some a => obtain ⟨L, off, c, x1, rfl, _⟩ := hx; unfold Builtin.len_; simp [t1, run_underlying t2]; rfl
  · rename_i k e hu
    obtain ⟨t, t1, t2⟩ := ht hu
    obtain rfl := Option.some.inj h
    rw [VR] at hx; subst hx
    refine ⟨_, fun w => ?_, rfl⟩
    unfold Builtin.len_
    simp [t1, run_underlying t2]
    rfl
  · cases h
theorem minmax_rel {mx : Bool} {as : List AV} {vs : List Value} {v : AV} (h : minmax mx as = some v) (hx : VRs φ as vs) (ts : Array TypeId) (ty : TypeId) :
    ∃ u, (∀ w, (if mx then Builtin.max_ ts ty ⟨vs⟩ else Builtin.min_ ts ty ⟨vs⟩).run P w = .ok u w) ∧ VR φ v u := by
  unfold minmax at h
  simp only [ltI_iff] at h
  split at h
  · rename_i k x k' y
    obtain rfl := Option.some.inj h
    match vs, hx with
    | [v1, v2], ⟨h1, h2, _⟩ =>
      rw [VR] at h1 h2; subst h1 h2
      cases mx
      · exact ⟨_, fun w => by simp [Builtin.min_, Builtin.min2], rfl⟩
      · exact ⟨_, fun w => by simp [Builtin.max_, Builtin.max2], rfl⟩
  · rename_i k k' y
    split at h
    · cases h
    rename_i hy
    obtain rfl := Option.some.inj h
    match vs, hx with
    | [v1, v2], ⟨h1, h2, _⟩ =>
      obtain ⟨x, rfl, hx⟩ := h1
      rw [VR] at h2; subst h2
      have hx : 0 < x := hx
      cases mx
      · refine ⟨.int k y, fun w => ?_, rfl⟩
        simp [Builtin.min_, Builtin.min2]; intro q; omega
      · refine ⟨.int k x, fun w => ?_, x, rfl, hx⟩
        simp [Builtin.max_, Builtin.max2]; intro q; omega
  · rename_i k k' y
    split at h
    · cases h
    rename_i hy
    obtain rfl := Option.some.inj h
    match vs, hx with
    | [v1, v2], ⟨h1, h2, _⟩ =>
      obtain ⟨x, rfl, hx⟩ := h1
      rw [VR] at h2; subst h2
      have hx : x < 0 := hx
      cases mx
      · refine ⟨.int k x, fun w => ?_, x, rfl, hx⟩
        simp [Builtin.min_, Builtin.min2]; intro q; omega
      · refine ⟨.int k y, fun w => ?_, rfl⟩
        simp [Builtin.max_, Builtin.max2]; intro q; omega
  · rename_i x y
    obtain rfl := Option.some.inj h
    match vs, hx with
    | [v1, v2], ⟨h1, h2, _⟩ =>
      obtain ⟨s, rfl, rfl⟩ := h1
      obtain ⟨t, rfl, rfl⟩ := h2
      cases mx
      · refine ⟨.string (if Op.bytesLess s.toList t.toList || s.toList == t.toList then s else t), fun w => by simp [Builtin.min_, Builtin.min2, Op.stringOp, asBool], ?_⟩
        simp only [Bool.false_eq_true, if_false, lessN_bytes, eqN_bytes]
        split <;> exact ⟨_, rfl, rfl⟩
      · refine ⟨.string (if Op.bytesLess s.toList t.toList then t else s), fun w => ?_, ?_⟩
        · cases hl : Op.bytesLess s.toList t.toList <;> simp [Builtin.max_, Builtin.max2, Op.stringOp, asBool, hl]
        · simp only [if_true, lessN_bytes]
          split <;> exact ⟨_, rfl, rfl⟩
  · cases h
theorem opP_ok [MethsOk P] {T : Fr} {a : Act} (h : Evals φ T a) {o : Oper} {v : AV} (e : opP P T o.op = some v) (hk : kind P o.op = .p) : ∃ u, (∀ w, (execOp a.eval o).run P w = .ok (.value u) w) ∧ VR φ v u := by
  cases hop : o.op with
  | move x => rw [hop] at e; exact ⟨_, fun w => by simp only [execOp, hop]; rfl, ev_rel h e⟩
  | assign x => rw [hop] at e; exact ⟨_, fun w => by simp only [execOp, hop]; rfl, ev_rel h e⟩
  | pick c x y =>
    rw [hop, opP] at e
    split at e
    · rename_i hc
      have := ev_rel h hc
      rw [VR] at this
      exact ⟨_, fun w => by simp only [execOp, hop, this]; rfl, ev_rel h e⟩
    · rename_i hc
      have := ev_rel h hc
      rw [VR] at this
      exact ⟨_, fun w => by simp only [execOp, hop, this]; rfl, ev_rel h e⟩
    · cases e
  | build t ps =>
    rw [hop, opP] at e
    split at e
    · rename_i as ha
      obtain ⟨us, u1, u2⟩ := build_rel (evp_rel h ha) e
      refine ⟨.agg us, fun w => ?_, u2⟩
      simp only [execOp, hop]
      refine run_v (run_build w t _ us ?_)
      rw [← u1]; congr 1; simp
    · cases e
  | nilCheck x =>
    rw [hop, opP] at e
    split at e
    · rename_i pl hx
      obtain rfl := Option.some.inj e
      have hv := ev_rel h hx
      have hv' := hv
      obtain ⟨L, _, _, hv⟩ := hv
      refine ⟨_, fun w => by simp only [execOp, hop, hv]; rfl, by rw [← hv]; exact hv'⟩
    · rename_i t b hx
      obtain rfl := Option.some.inj e
      have hv := ev_rel h hx
      have hv' := hv
      obtain ⟨u, hv, _⟩ := hv
      refine ⟨_, fun w => by simp only [execOp, hop, hv]; rfl, by rw [← hv]; exact hv'⟩
    · rename_i g cs hx
      obtain rfl := Option.some.inj e
      have hv := ev_rel h hx
      have hv' := hv
      obtain ⟨vs, hv, _⟩ := hv
      refine ⟨_, fun w => by simp only [execOp, hop, hv]; rfl, by rw [← hv]; exact hv'⟩
    · rename_i g cs hx
      obtain rfl := Option.some.inj e
      have hv := ev_rel h hx
      have hv' := hv
      obtain ⟨vs, hv, _⟩ := hv
      rcases hv with hv | ⟨t, name, u, rfl, hm, hv⟩
      · refine ⟨_, fun w => by simp only [execOp, hop, hv]; rfl, by rw [← hv]; exact hv'⟩
      · refine ⟨a.eval x, fun w => ?_, hv'⟩
        simp only [execOp, hop, hv]
        show ((do
          if (← nilAhead ((← program).types.size + Made.depth) t u name) != some false then
            unsupported _
          pure (Next.value (.func (.method name) #[.iface t u] #[]))) : Sem Next).run P w = _
        simp only [Sem.run_bind, run_program, Result.andThen_ok, (MethsOk.ptr (P := P) t name g hm).2 u w]
        rfl
    · cases e
  | binOp op t x y yt =>
    rw [hop, opP] at e
    split at e
    · rename_i p q hp hq
      obtain ⟨u, u1, u2⟩ := binE_rel e (ev_rel h hp) (ev_rel h hq) x y rfl
      exact ⟨u, fun w => by simp only [execOp, hop]; exact run_v (u1 w), u2⟩
    · cases e
  | makeInterface t x =>
    rw [hop, opP] at e
    split at e
    · rename_i p hp
      obtain ⟨u, u1, u2⟩ := mkIf_rel e (ev_rel h hp)
      exact ⟨u, fun w => by simp only [execOp, hop]; exact run_v (u1 w), u2⟩
    · cases e
  | unOp op t x =>
    rw [hop, opP] at e
    split at e
    · rename_i k i hx
      have hv := ev_rel h hx
      rw [VR] at hv
      obtain ⟨u, u1, u2⟩ := pureOf_spec (φ := φ) e
      exact ⟨u, fun w => by simp only [execOp, hop, hv, u1]; rfl, u2⟩
    · rename_i i hx
      have hv := ev_rel h hx
      rw [VR] at hv
      obtain ⟨u, u1, u2⟩ := pureOf_spec (φ := φ) e
      exact ⟨u, fun w => by simp only [execOp, hop, hv, u1]; rfl, u2⟩
    · cases e
  | convert src dst x =>
    rw [hop, opP] at e
    split at e
    · rename_i p hp
      obtain ⟨u, u1, u2⟩ := convP_rel e (ev_rel h hp)
      exact ⟨u, fun w => by simp only [execOp, hop]; exact run_v (u1 w), u2⟩
    · cases e
  | makeFunc fn fst cs =>
    rw [hop] at e
    cases fn with
    | func g =>
      rw [opP] at e
      split at e
      · rename_i h0
        obtain ⟨as, h1, rfl⟩ := Option.map_eq_some_iff.1 e
        have hr := evs_rel h h1
        refine ⟨.func (.func g) #[] ⟨cs.toList.map a.eval⟩, fun w => ?_, _, rfl, hr⟩
        simp only [execOp, hop, Instr.makeFunc]
        have e1 : fst = #[] := Array.eq_empty_of_size_eq_zero h0
        have e2 : cs.map a.eval = ⟨cs.toList.map a.eval⟩ := by apply Array.ext'; simp
        rw [e1, e2, Array.map_empty]; rfl
      · split at e
        · rename_i h0
          obtain ⟨as, h1, rfl⟩ := Option.map_eq_some_iff.1 e
          have hr := evs_rel h h1
          refine ⟨.func (.func g) ⟨fst.toList.map a.eval⟩ #[], fun w => ?_, _, .inl rfl, hr⟩
          simp only [execOp, hop, Instr.makeFunc]
          have e1 : cs = #[] := Array.eq_empty_of_size_eq_zero h0
          have e2 : fst.map a.eval = ⟨fst.toList.map a.eval⟩ := by apply Array.ext'; simp
          rw [e1, e2, Array.map_empty]; rfl
        · cases e
    | method name =>
      rw [opP] at e
      split at e
      · rename_i h0
        split at e
        · rename_i as ha
          unfold methF at e
          split at e
          · rename_i t b
            split at e
            · rename_i g hm
              obtain rfl := Option.some.inj e
              have hr := evs_rel h ha
              match hfs : fst.toList.map a.eval, hr with
              | [u0], ⟨⟨u, hu, hb⟩, _⟩ =>
                refine ⟨.func (.method name) #[.iface t u] #[], fun w => ?_, [u], .inr ⟨t, name, u, rfl, hm, rfl⟩, hb, trivial⟩
                simp only [execOp, hop, Instr.makeFunc]
                have e1 : cs = #[] := Array.eq_empty_of_size_eq_zero h0
                have e2 : fst.map a.eval = #[.iface t u] := by apply Array.ext'; simp only [Array.toList_map]; rw [hfs, hu]
                rw [e1, e2, Array.map_empty]; rfl
            · cases e
          · cases e
        · cases e
      · cases e
    | _ => simp [opP] at e
  | slice t x lo hi mx =>
    rw [hop, opP] at e
    split at e
    · rename_i p l hh m hp hl h1 hm
      obtain ⟨u, u1, u2⟩ := slice_rel e (ev_rel h hp) (evo_rel h hl) (evo_rel h h1) (evo_rel h hm)
      exact ⟨u, fun w => by simp only [execOp, hop]; exact run_v (u1 w), u2⟩
    · cases e
  | fieldAddr t x f =>
    rw [hop, opP] at e
    split at e
    · rename_i p hp
      obtain ⟨u, u1, u2⟩ := fieldAd_rel e (ev_rel h hp)
      exact ⟨u, fun w => by simp only [execOp, hop]; exact run_v (u1 w), u2⟩
    · cases e
  | field t x f =>
    rw [hop, opP] at e
    split at e
    · rename_i p hp
      obtain ⟨u, u1, u2⟩ := fieldA_rel e (ev_rel h hp)
      exact ⟨u, fun w => by simp only [execOp, hop]; exact run_v (u1 w), u2⟩
    · cases e
  | indexAddr t x i =>
    rw [hop, opP] at e
    split at e
    · rename_i p q hp hq
      obtain ⟨u, u1, u2⟩ := indexAd_rel e (ev_rel h hp) (ev_rel h hq)
      exact ⟨u, fun w => by simp only [execOp, hop]; exact run_v (u1 w), u2⟩
    · cases e
  | index t x i =>
    rw [hop, opP] at e
    split at e
    · rename_i p q hp hq
      obtain ⟨u, u1, u2⟩ := indexA_rel e (ev_rel h hp) (ev_rel h hq)
      exact ⟨u, fun w => by simp only [execOp, hop]; exact run_v (u1 w), u2⟩
    · cases e
  | extract x i =>
    rw [hop, opP] at e
    split at e
    · rename_i cs hx
      obtain ⟨vs, hv, r⟩ := ev_rel h hx
      obtain ⟨u, u1, u2⟩ := r.get e
      refine ⟨u, fun w => ?_, u2⟩
      simp only [execOp, hop, hv, Instr.extract]
      have : (⟨vs⟩ : Array Value)[i]? = some u := by rw [← u1]; simp
      simp [this]
    · cases e
  | call c =>
    rw [hop, opP] at e
    have hargs : ∀ as, evs T c.args.toList = some as → VRs φ as (c.args.map a.eval).toList := fun as ha => by rw [Array.toList_map]; exact evs_rel h ha
    split at e
    · rename_i x ha hb
      have hr := hargs _ ha
      obtain ⟨vx, hvx, hx⟩ : ∃ vx, (c.args.map a.eval) = #[vx] ∧ VR φ x vx := by
        match hl : (c.args.map a.eval).toList, hr with
        | [vx], ⟨hx, _⟩ => exact ⟨vx, Array.ext' hl, hx⟩
      obtain ⟨u, u1, u2⟩ := lenB_rel e hx o.type
      refine ⟨u, fun w => ?_, u2⟩
      simp only [execOp, hop, resolve, hb, pure_bind, hvx, invoke, builtin]
      exact run_v (u1 w)
    · rename_i as ha hb
      have hr := hargs _ ha
      obtain ⟨u, u1, u2⟩ := minmax_rel (P := P) e hr c.argTypes o.type
      refine ⟨u, fun w => ?_, u2⟩
      simp only [execOp, hop, resolve, hb, pure_bind, invoke, builtin]
      exact run_v (show (Builtin.min_ c.argTypes o.type (c.args.map a.eval)).run P w = .ok u w from u1 w)
    · rename_i as ha hb
      have hr := hargs _ ha
      obtain ⟨u, u1, u2⟩ := minmax_rel (P := P) e hr c.argTypes o.type
      refine ⟨u, fun w => ?_, u2⟩
      simp only [execOp, hop, resolve, hb, pure_bind, invoke, builtin]
      exact run_v (show (Builtin.max_ c.argTypes o.type (c.args.map a.eval)).run P w = .ok u w from u1 w)
    · cases e
  | _ => rw [hop] at e; simp [opP] at e
end
end Go.Proofs.Ytjhijcehcklipaa.Ev
