/- The engine, part I: the other writing operations; each operation of the translation is sound. -/
import Derived.Test.YtgnenipkebelfaaGreatDoorEngH
set_option linter.unusedVariables false
set_option linter.unusedSimpArgs false
namespace Go.Eng
open Go

section
variable {P : Program} {σ : Inj} {h : H} {w : World} {ρ : Operand → Value}

theorem works_append (r : Rep σ h w) {c : Call} (hc : c.callee = .builtin .append) (hn : ¬ c.argTypes.size < 2) {t e : TypeId} (h0 : c.argTypes.getD 0 0 = t) (ht : P.underlying t = some (.slice e)) {xt e2 : TypeId} (h1 : c.argTypes.getD 1 0 = xt) (hxt : P.underlying xt = some (.slice e2))
    (hes : P.cellsOf e ≠ 0) (hby : P.bytesOf e ≤ 4096) (hby0 : P.bytesOf e ≠ 0) (hby24 : P.bytesOf e ≤ 24 * P.cellsOf e) (hz : (zeroOf P e).map List.length = some (P.cellsOf e)) {keep : Bool} {vs : List AV} {v : AV} {h' : H}
    (hv : VRels σ vs (c.args.toList.map ρ)) (he : evalHeap (.append (P.cellsOf e) keep) vs h = some (v, h')) : Works P σ h ρ w (.call c) v h' := by
  match vs, hv with
  | [s, x], hv =>
    obtain ⟨sv, sr, hargs, hs, hr⟩ := vrels_cons hv
    obtain ⟨xv, xr, rfl, hx, hr⟩ := vrels_cons hr
    obtain rfl := vrels_nil hr
    simp only [evalHeap] at he
    split at he
    · rename_i xs hxs
      split at he
      · rename_i hsc
        obtain ⟨xcs, k1, k2, k3, k4⟩ := elsOf_rel (P := P) r hx hxs
        simp only [Option.map_eq_some_iff] at hz
        obtain ⟨z, hz, hzl⟩ := hz
        intro dst ty pos after gd
        obtain ⟨cv, w', σ', hrun, hvr, hrep, hext⟩ := append_run (P := P) r ht rfl hes hby hby0 hby24 hz hzl (arg0 (by omega) h0) (arg1 hn h1) hxt (.inl ⟨e2, rfl⟩) (ty := ty) hs k1 k2 hsc k3 k4 he
        refine ⟨cv, w', σ', .inl ?_, hvr, hrep, hext⟩
        rw [run_bi hc, hargs]
        simp [builtin, hrun]
      · cases he
    · cases he
  | [], _ => simp [evalHeap] at he
  | [_], _ => simp [evalHeap] at he
  | _ :: _ :: _ :: _, _ => simp [evalHeap] at he

theorem works_appendStr (r : Rep σ h w) {c : Call} (hc : c.callee = .builtin .append) (hn : ¬ c.argTypes.size < 2) {t e : TypeId} (h0 : c.argTypes.getD 0 0 = t) (ht : P.underlying t = some (.slice e)) {xt : TypeId} (h1 : c.argTypes.getD 1 0 = xt) (hxt : P.underlying xt = some .string)
    (hes : P.cellsOf e = 1) (hby : P.bytesOf e = 1) (hz : (zeroOf P e).map List.length = some 1) {keep : Bool} {vs : List AV} {v : AV} {h' : H}
    (hv : VRels σ vs (c.args.toList.map ρ)) (he : evalHeap (.appendStr keep) vs h = some (v, h')) : Works P σ h ρ w (.call c) v h' := by
  match vs, hv with
  | [s, .str x], hv =>
    obtain ⟨sv, sr, hargs, hs, hr⟩ := vrels_cons hv
    obtain ⟨xv, xr, rfl, hx, hr⟩ := vrels_cons hr
    obtain rfl := vrels_nil hr
    simp only [evalHeap] at he
    have hxv := vrel_str hx
    simp only [Option.map_eq_some_iff] at hz
    obtain ⟨z, hz, hzl⟩ := hz
    have hf : ∀ l : List UInt8, VRels σ (l.map fun c => [AV.int .u8 c.toNat]).flatten (l.map fun c => Value.int .u8 c.toNat) := by
      intro l
      induction l with
      | nil => trivial
      | cons c l ih => exact ⟨by simp [VRel], ih⟩
    intro dst ty pos after gd
    obtain ⟨cv, w', σ', hrun, hvr, hrep, hext⟩ := append_run (P := P) r ht hes (by omega) (by omega) (by omega) (by omega) hz hzl (arg0 (by omega) h0) (arg1 hn h1) hxt (.inr rfl) (ty := ty) hs (hf x) (by intro e' he'; simp at he'; obtain ⟨_, _, rfl⟩ := he'; rfl)
      (by simp [AV.scalar]) (xv := xv) (by
        intro w' _
        rw [hxv]
        have : ((⟨x.toArray⟩ : ByteArray).extract 0 x.length) = ⟨x.toArray⟩ := by
          have : x.length = (⟨x.toArray⟩ : ByteArray).size := by simp [ByteArray.size]
          rw [this, ByteArray.extract_zero_size]
        simp [Builtin.firstCells, this]) (by rw [hxv]; simp [Builtin.lenOf, ByteArray.size]) he
    refine ⟨cv, w', σ', .inl ?_, hvr, hrep, hext⟩
    rw [run_bi hc, hargs]
    simp [builtin, hrun]
  | [], _ => simp [evalHeap] at he
  | [_], _ => simp [evalHeap] at he

theorem putEls_get : ∀ (xs els : List (List AV)) (i k : Nat), i + xs.length ≤ els.length → (putEls els i xs)[k]? = if i ≤ k ∧ k < i + xs.length then xs[k - i]? else els[k]?
  | [], els, i, k, _ => by simp only [putEls, List.length_nil, Nat.add_zero]; rw [if_neg (by omega)]
  | x :: xs, els, i, k, h => by
    simp only [List.length_cons] at h ⊢
    rw [putEls, putEls_get xs (els.set i x) (i + 1) k (by simp; omega)]
    by_cases hk : k = i
    · subst hk
      rw [if_neg (by omega), if_pos (by omega), Nat.sub_self, List.getElem?_set]
      simp; omega
    · by_cases h2 : i + 1 ≤ k ∧ k < i + 1 + xs.length
      · rw [if_pos h2, if_pos (by omega), show k - i = (k - (i + 1)) + 1 by omega, List.getElem?_cons_succ]
      · rw [if_neg h2, if_neg (by omega), List.getElem?_set, if_neg (Ne.symm hk)]

theorem putEls_len : ∀ (xs els : List (List AV)) (i : Nat), (putEls els i xs).length = els.length
  | [], _, _ => rfl
  | x :: xs, els, i => by rw [putEls, putEls_len]; simp

theorem putEls_mem : ∀ (xs els : List (List AV)) (i : Nat) (e : List AV), e ∈ putEls els i xs → e ∈ xs ∨ e ∈ els
  | [], _, _, _, h => .inr h
  | x :: xs, els, i, e, h => by
    rcases putEls_mem xs _ _ _ h with h | h
    · exact .inl (by simp [h])
    · rcases List.mem_or_eq_of_mem_set h with h | h
      · exact .inr h
      · exact .inl (by simp [h])

theorem works_clear (r : Rep σ h w) {c : Call} (hc : c.callee = .builtin .clear) (hn : c.argTypes.size ≠ 0) {t e : TypeId} (h0 : c.argTypes.getD 0 0 = t) (ht : P.underlying t = some (.slice e)) {z : List AV} (hz : zeroOf P e = some z) (hzl : z.length = P.cellsOf e) (hz0 : z.length ≠ 0)
    {vs : List AV} {v : AV} {h' : H} (hv : VRels σ vs (c.args.toList.map ρ)) (he : evalHeap (.clear z) vs h = some (v, h')) : Works P σ h ρ w (.call c) v h' := by
  match vs, hv with
  | [], _ => simp [evalHeap] at he
  | _ :: _ :: _, _ => simp [evalHeap] at he
  | [s], hv =>
    obtain ⟨sv, sr, hargs, hs, hr⟩ := vrels_cons hv
    obtain rfl := vrels_nil hr
    have undefRel : ∀ τ : Inj, VRel τ (.tuple []) (.tuple #[]) := fun τ => by simp [VRel, VRels]
    cases s with
    | nilslice =>
      simp only [evalHeap, Option.some.injEq, Prod.mk.injEq] at he
      obtain ⟨rfl, rfl⟩ := he
      intro dst ty pos after gd
      refine ⟨.tuple #[], w, σ, .inl ?_, undefRel σ, r, Ext.refl _ _ _⟩
      rw [run_bi hc, hargs, vrel_nilslice hs]
      simp [builtin, Builtin.clear_, arg0 hn h0, run_underlying ht]
    | slice b es1 i n k q =>
      simp only [evalHeap] at he
      obtain ⟨ad, c', hsv, h1, h2, h3, l, hl, hles, h4, h5, h6⟩ := vrel_slice hs
      split at he
      · rename_i hn0
        cases he
        subst hn0
        intro dst ty pos after gd
        refine ⟨.tuple #[], w, σ, .inl ?_, undefRel σ, r, Ext.refl _ _ _⟩
        rw [run_bi hc, hargs, hsv]
        simp [builtin, Builtin.clear_, arg0 hn h0, run_underlying ht]
      · rename_i hn0
        split at he
        · rename_i es els ap hb
          split at he
          · rename_i hcc
            obtain ⟨rfl, rfl, hle, hsc⟩ := hcc
            cases he
            have had := h6.resolve_left (by omega)
            subst had
            obtain ⟨zv, hzv, hzr⟩ := zeroOf_run hz σ w
            have hzs : zv.cells.size = z.length := (vrels_len hzr).symm
            have hold := r.blk b l _ hl hb
            obtain ⟨hes, k2, k3, cs, ty0, fz, k4, ⟨k5, _⟩, k6, k7⟩ := id hold
            have hap : ap = true := k3 rfl
            have hzz := zeros_rel hzr n
            have hall : ∀ e' ∈ List.replicate n z, e'.length = z.length := by intro e' he'; rw [List.eq_of_mem_replicate he']
            have hzc : (Builtin.zeroCells zv.cells n).toList.length = n * z.length := by simp [Builtin.zeroCells, hzs]
            have hmul : (i + n) * z.length ≤ l.lim * z.length := Nat.mul_le_mul_right _ (by omega)
            rw [Nat.add_mul] at hmul
            have hin : i * z.length + (Builtin.zeroCells zv.cells n).toList.length ≤ l.lim * z.length := by rw [hzc]; exact hmul
            have hscal : (List.replicate n z).flatten.all AV.scalar = true := by
              simp only [List.all_eq_true] at hsc ⊢
              intro a ha
              obtain ⟨e', he', ha'⟩ := List.mem_flatten.1 ha
              rw [List.eq_of_mem_replicate he'] at ha'
              exact hsc a ha'
            have hst := stores_run (P := P) k4 (l.base + i * z.length) (Builtin.zeroCells zv.cells n).toList (by rw [hes] at hin hmul ⊢; omega) (fun k q1 q2 => k7 hap k (by omega) (by omega)) (oneCells hzz hscal)
            have hnew := row_put hold hap (i * z.length) (List.replicate n z).flatten (Builtin.zeroCells zv.cells n).toList hzz hin (els' := putEls els i (List.replicate n z)) (by rw [putEls_len]; exact k2) (by
                intro e' he'
                rcases putEls_mem _ _ _ _ he' with hm | hm
                · exact hall e' hm
                · obtain ⟨k, hk⟩ := List.getElem?_of_mem hm
                  exact (k6 k e' hk).1) (by
                intro i' j' e' a he' ha
                rw [putEls_get _ _ _ _ (by simpa using hle)] at he'
                simp only [List.length_replicate] at he'
                have hj' : j' < z.length := by
                  have h9 := (List.getElem?_eq_some_iff.1 ha).1
                  split at he'
                  · rw [hall e' (List.mem_of_getElem? he')] at h9; exact h9
                  · rw [(k6 i' e' he').1] at h9; exact h9
                split at he'
                · rename_i hr'
                  left
                  have hf := flat_get hall he' ha
                  have hm1 : i' * z.length = i * z.length + (i' - i) * z.length := by rw [← Nat.add_mul]; congr 1; omega
                  have hlt := (List.getElem?_eq_some_iff.1 hf).1
                  exact ⟨by omega, by omega, by rw [show i' * z.length + j' - i * z.length = (i' - i) * z.length + j' by omega]; exact hf⟩
                · rename_i hr'
                  right
                  refine ⟨?_, e', he', ha⟩
                  rw [flat_len hall, List.length_replicate]
                  by_cases hlt : i' < i
                  · left
                    have : i' * z.length + z.length ≤ i * z.length := by rw [← Nat.succ_mul]; exact Nat.mul_le_mul_right _ hlt
                    omega
                  · right
                    have : (i + n) * z.length ≤ i' * z.length := Nat.mul_le_mul_right _ (by omega)
                    rw [Nat.add_mul] at this
                    omega)
            obtain ⟨q1, q2, q3, q4⟩ := setCells_rest (Builtin.zeroCells zv.cells n).toList (l.base + i * z.length) w l.cb
            intro dst ty pos after gd
            refine ⟨.tuple #[], w.setCells l.cb (l.base + i * z.length) (Builtin.zeroCells zv.cells n).toList, σ, .inl ?_, undefRel σ, r.upd hl hb rfl q1 (fun k hk => setCells_other _ _ _ _ _ hk) hnew, Ext.upd r hl hb (owned_of hl (hap ▸ hb)) q1 (fun k hk => setCells_other _ _ _ _ _ hk) q2 q3 q4⟩
            rw [run_bi hc, hargs, hsv]
            rw [hles] at *
            simp only [builtin, Builtin.clear_, List.getElem?_toArray, List.getElem?_cons_zero, arg0 hn h0, Sem.run_bind, run_underlying ht, Result.andThen_ok]
            cases n with
            | zero => exact absurd rfl hn0
            | succ n =>
              simp [hzv, hst]
          · cases he
        · cases he
    | _ => simp [evalHeap] at he


theorem ents_set {σ : Inj} : ∀ {l : List (AV × AV)} {m : List MapEntry} (i : Nat) {a : AV × AV} {e : MapEntry}, Ents σ l m → EntRel σ a e → Ents σ (l.set i a) (m.set i e)
  | [], [], _, _, _, _, _ => trivial
  | [], _ :: _, _, _, _, h, _ => h.elim
  | _ :: _, [], _, _, _, h, _ => h.elim
  | _ :: _, _ :: _, 0, _, _, h, he => ⟨he, h.2⟩
  | _ :: _, _ :: _, i + 1, _, _, h, he => ⟨h.1, ents_set i h.2 he⟩
theorem ents_push {σ : Inj} : ∀ {l : List (AV × AV)} {m : List MapEntry} {a : AV × AV} {e : MapEntry}, Ents σ l m → EntRel σ a e → Ents σ (l ++ [a]) (m ++ [e])
  | [], [], _, _, _, he => ⟨he, trivial⟩
  | [], _ :: _, _, _, h, _ => h.elim
  | _ :: _, [], _, _, h, _ => h.elim
  | _ :: _, _ :: _, _, _, h, he => ⟨h.1, ents_push h.2 he⟩
theorem ents_erase {σ : Inj} : ∀ {l : List (AV × AV)} {m : List MapEntry} (i : Nat), Ents σ l m → Ents σ (l.eraseIdx i) (m.eraseIdx i)
  | [], [], _, _ => trivial
  | [], _ :: _, _, h => h.elim
  | _ :: _, [], _, h => h.elim
  | _ :: _, _ :: _, 0, h => h.2
  | _ :: _, _ :: _, i + 1, h => ⟨h.1, ents_erase i h.2⟩
theorem ents_get {σ : Inj} : ∀ {l : List (AV × AV)} {m : List MapEntry} {i : Nat} {a : AV × AV}, Ents σ l m → l[i]? = some a → ∃ e, m[i]? = some e ∧ EntRel σ a e
  | [], [], i, _, _, h => by simp at h
  | [], _ :: _, _, _, h, _ => h.elim
  | _ :: _, [], _, _, h, _ => h.elim
  | _ :: _, e :: _, 0, _, h, hi => by simp at hi; subst hi; exact ⟨e, rfl, h.1⟩
  | _ :: l, _ :: m, i + 1, a, h, hi => by
    obtain ⟨e, he, hr⟩ := ents_get (l := l) (m := m) (i := i) (a := a) h.2 (by simpa using hi)
    exact ⟨e, by simpa using he, hr⟩

/-- The key that was found is the same. -/
theorem findA_key {kd : Leaf} {k : AV} : ∀ {l : List (AV × AV)} {i : Nat} {v : AV}, findA kd k l = some (some (i, v)) → ∃ k', l[i]? = some (k', v) ∧ eqLeaf kd k k' = some true
  | [], i, v, h => by simp [findA] at h
  | (k', v') :: l, i, v, h => by
    simp only [findA] at h
    split at h
    · rename_i hq
      cases h
      exact ⟨k', rfl, hq⟩
    · simp only [Option.map_eq_some_iff] at h
      obtain ⟨r, hr, h2⟩ := h
      obtain ⟨⟨i1, v1⟩, rfl, h3⟩ := h2
      cases h3
      obtain ⟨k2, h4, h5⟩ := findA_key hr
      exact ⟨k2, by simpa using h4, h5⟩
    · cases h

theorem same_key {kd : Leaf} {a b : AV} (h : eqLeaf kd a b = some true) {x y : Value} (hx : VRel σ a x) (hy : VRel σ b y) (n : Nat) : Instr.sameBits n y x = true := by
  cases kd <;> cases a <;> cases b <;> simp only [eqLeaf] at h <;> try (cases h; done)
  · rw [vrel_bool hx, vrel_bool hy]
    simp at h
    subst h
    simp [Instr.sameBits]
  · split at h
    · rename_i hk
      simp at h
      subst hk h
      rw [vrel_int hx, vrel_int hy]
      simp [Instr.sameBits]
    · cases h
  · simp at h
    subst h
    rw [vrel_str hx, vrel_str hy]
    simp [Instr.sameBits, beq_toListBytes]

theorem getObj_map {cb : Nat} {ents : Array MapEntry} {clock : Nat} (hh : w.heap[cb]? = some (.map ents clock)) : (getObj cb).run P w = .ok (.map ents clock) w := by simp [getObj, Sem.run, hh]
theorem setObj_map {cb : Nat} {ents : Array MapEntry} {clock : Nat} (hh : w.heap[cb]? = some (.map ents clock)) (o : Obj) : (setObj cb o).run P w = .ok () { w with heap := w.heap.setIfInBounds cb o } := by simp [setObj, Sem.run, hh]

theorem set_world {cb : Nat} (hcb : cb < w.heap.size) (o : Obj) : (w.heap.setIfInBounds cb o)[cb]? = some o := by simp [hcb]
theorem set_world_ne {cb k : Nat} (h : k ≠ cb) (o : Obj) : (w.heap.setIfInBounds cb o)[k]? = w.heap[k]? := by rw [Array.getElem?_setIfInBounds, if_neg (Ne.symm h)]

theorem works_mapUpdate (r : Rep σ h w) {t kt e : TypeId} {kd : Leaf} (ht : P.underlying t = some (.map kt e)) (hk : keyLeaf P kt = some kd) {x y z : Operand} {vs : List AV} {v : AV} {h' : H}
    (hv : VRels σ vs ([x, y, z].map ρ)) (he : evalHeap (.mapUpdate kd) vs h = some (v, h')) : Works P σ h ρ w (.mapUpdate t x y z) v h' := by
  obtain ⟨a, k, u, rfl, ha, hkx, hu⟩ := map3 hv
  obtain ⟨d, hd, hdd⟩ := key_desc hk
  cases a with
  | map b =>
    simp only [evalHeap] at he
    split at he
    · rename_i es hb
      obtain ⟨l, hl, hx⟩ := vrel_map ha
      obtain ⟨ents, clock, hh, hents⟩ := r.blk b l _ hl hb
      have hcb : l.cb < w.heap.size := r.cb hl hb (by simp)
      split at he
      · rename_i i u0 hf
        cases he
        obtain ⟨r', f1, f2⟩ := find_rel hk hd hkx es ents.toList 0 _ hents hf
        cases r' with
        | none => exact f2.elim
        | some q =>
          obtain ⟨i', c⟩ := q
          obtain ⟨f3, f4⟩ := f2
          obtain rfl : i' = i := by omega
          obtain ⟨k', g1, g2⟩ := findA_key hf
          obtain ⟨ent, g3, g4⟩ := ents_get hents g1
          have hsame := same_key g2 hkx g4.1 10000
          rw [Array.getElem?_toList] at g3
          have hmod : ents.modify i' (fun e => { e with key := ρ y, val := ρ z }) = ents.setIfInBounds i' { ent with key := ρ y, val := ρ z } := by
            have hlt : i' < ents.size := (Array.getElem?_eq_some_iff.1 g3).1
            have hg : ents[i'] = ent := (Array.getElem?_eq_some_iff.1 g3).2
            apply Array.ext_getElem?
            intro j
            rw [Array.getElem?_modify, Array.getElem?_setIfInBounds]
            by_cases e : i' = j
            · subst e; simp [hlt, hg]
            · simp [e]
          have hkts : ∀ w' : World, (Instr.keyThatStays ent.key (ρ y)).run P w' = .ok (ρ y) w' := by intro w'; simp [Instr.keyThatStays, hsame]
          intro dst ty pos after gd
          refine ⟨undef, { w with heap := w.heap.setIfInBounds l.cb (.map (ents.setIfInBounds i' { ent with key := ρ y, val := ρ z }) clock) }, σ, .inr ⟨?_, rfl⟩, by simp [VRel, VRels, undef],
            r.upd hl hb trivial (by simp) (fun j hj => set_world_ne hj _) ⟨_, clock, set_world hcb _, ?_⟩, Ext.upd r hl hb (owned_map hl hb) (by simp) (fun j hj => set_world_ne hj _) rfl rfl rfl⟩
          · simp [execOp, hx, Instr.mapUpdate, run_underlying ht, getObj_map hh, checkKey_run hd hdd, findKey_run hd f1, g3, hkts, hmod, setObj_map hh]
          · rw [Array.toList_setIfInBounds]
            exact ents_set i' hents ⟨hkx, hu⟩
      · rename_i hf
        cases he
        obtain ⟨r', f1, f2⟩ := find_rel hk hd hkx es ents.toList 0 _ hents hf
        cases r' with
        | some q => exact f2.elim
        | none =>
          intro dst ty pos after gd
          refine ⟨undef, { w with heap := w.heap.setIfInBounds l.cb (.map (ents.push { key := ρ y, val := ρ z, born := clock }) (clock + 1)) }, σ, .inr ⟨?_, rfl⟩, by simp [VRel, VRels, undef],
            r.upd hl hb trivial (by simp) (fun j hj => set_world_ne hj _) ⟨_, clock + 1, set_world hcb _, ?_⟩, Ext.upd r hl hb (owned_map hl hb) (by simp) (fun j hj => set_world_ne hj _) rfl rfl rfl⟩
          · simp [execOp, hx, Instr.mapUpdate, run_underlying ht, getObj_map hh, checkKey_run hd hdd, findKey_run hd f1, setObj_map hh]
          · rw [Array.toList_push]
            exact ents_push hents ⟨hkx, hu⟩
      · cases he
    · cases he
  | _ => simp [evalHeap] at he

theorem works_delete (r : Rep σ h w) {c : Call} (hc : c.callee = .builtin .delete) (hn : c.argTypes.size ≠ 0) {t kt e : TypeId} (h0 : c.argTypes.getD 0 0 = t) {kd : Leaf} (ht : P.underlying t = some (.map kt e)) (hk : keyLeaf P kt = some kd) {vs : List AV} {v : AV} {h' : H}
    (hv : VRels σ vs (c.args.toList.map ρ)) (he : evalHeap (.delete kd) vs h = some (v, h')) : Works P σ h ρ w (.call c) v h' := by
  match vs, hv with
  | [a, k], hv =>
    obtain ⟨av, sr, hargs, ha, hr⟩ := vrels_cons hv
    obtain ⟨kv, xr, rfl, hkx, hr⟩ := vrels_cons hr
    obtain rfl := vrels_nil hr
    obtain ⟨d, hd, hdd⟩ := key_desc hk
    have undefRel : ∀ τ : Inj, VRel τ (.tuple []) (.tuple #[]) := fun τ => by simp [VRel, VRels]
    cases a with
    | map b =>
      simp only [evalHeap] at he
      split at he
      · rename_i es hb
        obtain ⟨l, hl, rfl⟩ := vrel_map ha
        obtain ⟨ents, clock, hh, hents⟩ := r.blk b l _ hl hb
        have hcb : l.cb < w.heap.size := r.cb hl hb (by simp)
        split at he
        · rename_i i u0 hf
          cases he
          obtain ⟨r', f1, f2⟩ := find_rel hk hd hkx es ents.toList 0 _ hents hf
          cases r' with
          | none => exact f2.elim
          | some q =>
            obtain ⟨i', c'⟩ := q
            obtain ⟨f3, f4⟩ := f2
            obtain rfl : i' = i := by omega
            intro dst ty pos after gd
            refine ⟨.tuple #[], { w with heap := w.heap.setIfInBounds l.cb (.map (ents.eraseIdxIfInBounds i') clock) }, σ, .inl ?_, undefRel σ,
              r.upd hl hb trivial (by simp) (fun j hj => set_world_ne hj _) ⟨_, clock, set_world hcb _, ?_⟩, Ext.upd r hl hb (owned_map hl hb) (by simp) (fun j hj => set_world_ne hj _) rfl rfl rfl⟩
            · rw [run_bi hc, hargs]
              simp [builtin, Builtin.delete_, arg0 hn h0, run_underlying ht, getObj_map hh, checkKey_run hd hdd, findKey_run hd f1, setObj_map hh]
            · have : (ents.eraseIdxIfInBounds i').toList = ents.toList.eraseIdx i' := by
                unfold Array.eraseIdxIfInBounds
                split
                · simp
                · rw [List.eraseIdx_of_length_le (by simp; omega)]
              rw [this]
              exact ents_erase i' hents
        · rename_i hf
          cases he
          obtain ⟨r', f1, f2⟩ := find_rel hk hd hkx es ents.toList 0 _ hents hf
          cases r' with
          | some q => exact f2.elim
          | none =>
            have hset : ({ w with heap := w.heap.setIfInBounds l.cb (.map ents clock) } : World) = w := by
              have : w.heap.setIfInBounds l.cb (.map ents clock) = w.heap := by
                apply Array.ext_getElem?
                intro j
                rw [Array.getElem?_setIfInBounds]
                by_cases e : l.cb = j
                · subst e; rw [if_pos rfl, if_pos hcb, hh]
                · simp [e]
              rw [this]
            intro dst ty pos after gd
            refine ⟨.tuple #[], w, σ, .inl ?_, undefRel σ, r, Ext.refl _ _ _⟩
            rw [run_bi hc, hargs]
            simp [builtin, Builtin.delete_, arg0 hn h0, run_underlying ht, getObj_map hh, checkKey_run hd hdd, findKey_run hd f1, setObj_map hh, hset]
        · cases he
      · cases he
    | _ => simp [evalHeap] at he
  | [], _ => simp [evalHeap] at he
  | [_], _ => simp [evalHeap] at he
  | _ :: _ :: _ :: _, _ => simp [evalHeap] at he

end
end Go.Eng
