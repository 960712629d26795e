/- The engine, part F: operations that make one new block. -/
import Derived.Test.YtgnenipkebelfaaGreatDoorEngE
set_option linter.unusedVariables false
set_option linter.unusedSimpArgs false
namespace Go.Eng
open Go

theorem blk_le {σ τ : Inj} (hle : σ.le τ) {w : World} {l : Loc} {x : Blk} (h : BlkRel σ w l x) : BlkRel τ w l x := by
  cases x with
  | dead => trivial
  | row es els wr ap =>
    obtain ⟨h1, h2, h3, cs, ty, fz, h4, h5, h6, h7⟩ := h
    refine ⟨h1, h2, h3, cs, ty, fz, h4, h5, fun i e he => ⟨(h6 i e he).1, fun j a ha => ?_⟩, h7⟩
    obtain ⟨c, hc, hr⟩ := (h6 i e he).2 j a ha
    exact ⟨c, hc, vrel_le hle _ _ hr⟩
  | map es =>
    obtain ⟨ents, clock, h1, h2⟩ := h
    exact ⟨ents, clock, h1, ents_le hle h2⟩
  | bld v =>
    obtain ⟨h0, T, c0, cv, h1, h2, h3, h4, h5⟩ := h
    exact ⟨h0, T, c0, cv, h1, h2, h3, vrel_le hle _ _ h4, h5.imp id fun ⟨g, n, c, lg, k1, k2, k3⟩ => ⟨g, n, c, lg, k1, hle _ _ k2, k3⟩⟩

theorem blk_world {σ : Inj} {w w' : World} {l : Loc} (hw : w'.heap[l.cb]? = w.heap[l.cb]?) {x : Blk} (h : BlkRel σ w l x) : BlkRel σ w' l x := by
  cases x <;> simp only [BlkRel] at h ⊢ <;> rw [hw] <;> exact h

def Inj.bind (σ : Inj) (b : Nat) (l : Loc) : Inj := fun x => if x = b then some l else σ x

theorem le_bind {σ : Inj} {b : Nat} {l : Loc} (h : σ b = none) : σ.le (σ.bind b l) := by
  intro x m hx
  unfold Inj.bind
  split
  · rename_i e; subst e; rw [h] at hx; cases hx
  · exact hx

theorem Rep.push {σ : Inj} {h : H} {w : World} (r : Rep σ h w) (x : Blk) : Rep σ (h ++ [x]) w := by
  have get : ∀ b l, σ b = some l → (h ++ [x])[b]? = h[b]? := fun b l hb => by rw [List.getElem?_append_left (r.dom b l hb)]
  refine ⟨fun b l hb => by have := r.dom b l hb; simp; omega, fun b l y hb hy => r.blk b l y hb (by rw [← get b l hb]; exact hy), ?_, ⟨r.lay.is_, fun p hp ho => r.lay.no p hp ?_⟩⟩
  · intro b b' l l' y y' hne hb hb' hc hy hy'
    exact r.sep b b' l l' y y' hne hb hb' hc (by rw [← get b l hb]; exact hy) (by rw [← get b' l' hb']; exact hy')
  · obtain ⟨b, l, hb, e, ho⟩ := ho
    rw [get b l hb] at ho
    exact ⟨b, l, hb, e, ho⟩

theorem heap_push {w w' : World} {obj : Obj} (hp : w'.heap = w.heap.push obj) {k : Nat} (hk : k < w.heap.size) : w'.heap[k]? = w.heap[k]? := by
  rw [hp, Array.getElem?_push, if_neg (by omega)]

/-- A new block takes its place. -/
theorem Rep.make {σ : Inj} {h : H} {w w' : World} (r : Rep σ h w) {b : Nat} (hb : σ b = none) {x : Blk} (hx : h[b]? = some x) {obj : Obj} (hp : w'.heap = w.heap.push obj) {l : Loc} (hl : l.cb = w.heap.size)
    (hblk : BlkRel (σ.bind b l) w' l x) : Rep (σ.bind b l) h w' := by
  have hsz : w'.heap.size = w.heap.size + 1 := by rw [hp]; simp
  refine ⟨?_, ?_, ?_, ⟨r.lay.is_.of (fun p _ hk => heap_push hp hk), fun p hp' ho => r.lay.no p hp' ?_⟩⟩
  rotate_left 3
  · obtain ⟨c, m, hc, e, ho⟩ := ho
    by_cases ecb : c = b
    · subst ecb
      simp [Inj.bind] at hc; subst hc
      have := r.lay.is_.lt hp'
      omega
    · exact ⟨c, m, by simpa [Inj.bind, ecb] using hc, e, ho⟩
  · intro c m hc
    unfold Inj.bind at hc
    split at hc
    · rename_i e; subst e; cases hc
      exact (List.getElem?_eq_some_iff.1 hx).1
    · exact r.dom c m hc
  · intro c m y hc hy
    by_cases e : c = b
    · subst e
      simp [Inj.bind] at hc; subst hc
      rw [hx] at hy; cases hy
      exact hblk
    · have hc' : σ c = some m := by simpa [Inj.bind, e] using hc
      by_cases hd : y = .dead
      · subst hd; trivial
      · exact blk_le (le_bind hb) (blk_world (heap_push hp (r.cb hc' hy hd)) (r.blk c m y hc' hy))
  · intro c c' m m' y y' hne hc hc' hcb hy hy'
    by_cases e : c = b
    · subst e
      have hm : l = m := by simpa [Inj.bind] using hc
      have hm' : σ c' = some m' := by simpa [Inj.bind, Ne.symm hne] using hc'
      subst hm
      by_cases hd : y' = .dead
      · subst hd; cases y <;> trivial
      · have := r.cb hm' hy' hd
        omega
    · have hm : σ c = some m := by simpa [Inj.bind, e] using hc
      by_cases e' : c' = b
      · subst e'
        have hm' : l = m' := by simpa [Inj.bind] using hc'
        subst hm'
        by_cases hd : y = .dead
        · subst hd; trivial
        · have := r.cb hm hy hd
          omega
      · have hm' : σ c' = some m' := by simpa [Inj.bind, e'] using hc'
        exact r.sep c c' m m' y y' hne hm hm' hcb hy hy'

/-- Beside what may have moved by a draw: one more block. -/
structure Grew (w w' : World) (obj : Obj) : Prop where
  heap : w'.heap = w.heap.push obj
  tape : w'.tape = w.tape
  os : w'.os = w.os
  output : w'.output = w.output

theorem Ext.make {σ : Inj} {h : H} {w w' : World} (r : Rep σ h w) {b : Nat} (hb : b = h.length) {x : Blk} {obj : Obj} (hp : Grew w w' obj) {l : Loc} (hl : l.cb = w.heap.size) :
    Ext σ h w (σ.bind b l) (h ++ [x]) w' := by
  have hn : σ b = none := by
    cases hs : σ b with
    | none => rfl
    | some m => have := (r.dom b m hs); omega
  refine ⟨by simp, le_bind hn, ?_, hp.tape, hp.os, hp.output, by rw [hp.heap]; simp, fun cb hcb _ => heap_push hp.heap hcb, ?_⟩
  · intro c hc hs
    refine ⟨?_, by rw [List.getElem?_append_left hc]⟩
    unfold Inj.bind
    rw [if_neg (by omega)]
    exact hs
  · rintro cb hcb ⟨c, m, hc, rfl, ho⟩
    by_cases e : c = b
    · subst e
      have hm : l = m := by simpa [Inj.bind] using hc
      subst hm
      omega
    · have hm : σ c = some m := by simpa [Inj.bind, e] using hc
      have hlt := (r.dom c m hm)
      rw [List.getElem?_append_left hlt] at ho
      exact ⟨c, m, hm, rfl, ho⟩

/-! ### Elements one behind another -/
theorem flat_get {es : Nat} : ∀ {els : List (List AV)} {i j : Nat} {e : List AV} {a : AV}, (∀ e ∈ els, e.length = es) → els[i]? = some e → e[j]? = some a → els.flatten[i * es + j]? = some a
  | [], i, j, e, a, _, hi, _ => by simp at hi
  | x :: els, 0, j, e, a, hl, hi, hj => by
    simp at hi; subst hi
    rw [List.flatten_cons, List.getElem?_append_left (by have := (List.getElem?_eq_some_iff.1 hj).1; omega)]
    simpa using hj
  | x :: els, i + 1, j, e, a, hl, hi, hj => by
    have hx := hl x (by simp)
    rw [List.flatten_cons, List.getElem?_append_right (by rw [hx, Nat.add_mul]; omega), hx, show (i + 1) * es + j - es = i * es + j by rw [Nat.add_mul]; omega]
    exact flat_get (fun e he => hl e (by simp [he])) (by simpa using hi) hj

theorem flat_len {es : Nat} : ∀ {els : List (List AV)}, (∀ e ∈ els, e.length = es) → els.flatten.length = els.length * es
  | [], _ => by simp
  | x :: els, hl => by
    rw [List.flatten_cons, List.length_append, flat_len (fun e he => hl e (by simp [he])), hl x (by simp), List.length_cons, Nat.add_mul]; omega

theorem putCells_append : ∀ (cs e f : List AV) (j : Nat), j + cs.length ≤ e.length → putCells (e ++ f) j cs = putCells e j cs ++ f
  | [], _, _, _, _ => rfl
  | c :: cs, e, f, j, h => by
    simp only [putCells, List.length_cons] at *
    rw [List.set_append_left j c (by omega)]
    exact putCells_append cs (e.set j c) f (j + 1) (by simp; omega)

theorem putCells_right : ∀ (cs e f : List AV) (j : Nat), putCells (e ++ f) (e.length + j) cs = e ++ putCells f j cs
  | [], _, _, _ => rfl
  | c :: cs, e, f, j => by
    simp only [putCells]
    rw [List.set_append_right (e.length + j) c (by omega), show e.length + j - e.length = j by omega, Nat.add_assoc]
    exact putCells_right cs e (f.set j c) (j + 1)

theorem putCells_all : ∀ (cs e : List AV), cs.length = e.length → putCells e 0 cs = cs := by
  intro cs e h
  have key : ∀ (cs p e : List AV), cs.length = e.length → putCells (p ++ e) p.length cs = p ++ cs := by
    intro cs
    induction cs with
    | nil => intro p e h; cases e <;> simp_all [putCells]
    | cons c cs ih =>
      intro p e h
      cases e with
      | nil => simp at h
      | cons x e =>
        simp only [putCells]
        rw [List.set_append_right p.length c (by omega), Nat.sub_self, List.set_cons_zero]
        have := ih (p ++ [c]) e (by simpa using h)
        simpa [List.append_assoc] using this
  simpa using key cs [] e h

theorem flat_put {es : Nat} : ∀ {els : List (List AV)} {i : Nat} {cs : List AV}, (∀ e ∈ els, e.length = es) → cs.length = es → i < els.length → putCells els.flatten (i * es) cs = (els.set i cs).flatten
  | [], i, cs, _, _, h => by simp at h
  | x :: els, 0, cs, hl, hc, _ => by
    have hx := hl x (by simp)
    simp only [Nat.zero_mul, List.flatten_cons, List.set_cons_zero]
    rw [putCells_append _ _ _ _ (by omega), putCells_all _ _ (by omega)]
  | x :: els, i + 1, cs, hl, hc, hi => by
    have hx := hl x (by simp)
    simp only [List.flatten_cons, List.set_cons_succ]
    rw [show (i + 1) * es = x.length + i * es by rw [hx, Nat.add_mul]; omega, putCells_right, flat_put (fun e he => hl e (by simp [he])) hc (by simpa using hi)]

theorem fillEls_flat {es : Nat} : ∀ {els els' : List (List AV)} {is : List Nat} {vs : List AV}, (∀ e ∈ els, e.length = es) → fillEls es els is vs = some els' →
    fillA els.flatten (is.map fun i => (i * es, es)) vs = some els'.flatten ∧ (∀ e ∈ els', e.length = es) ∧ els'.length = els.length
  | els, els', [], vs, hl, h => by
    cases vs <;> simp [fillEls] at h
    subst h
    exact ⟨by simp [fillA], hl, rfl⟩
  | els, els', i :: is, vs, hl, h => by
    cases vs with
    | nil => simp [fillEls] at h
    | cons v vs =>
      simp only [fillEls] at h
      split at h
      · rename_i cs hcs
        split at h
        · rename_i hc
          have hset : ∀ e ∈ els.set i cs, e.length = es := by
            intro e he
            rcases List.mem_or_eq_of_mem_set he with h | h
            · exact hl e h
            · subst h; exact hc.1
          obtain ⟨h1, h2, h3⟩ := fillEls_flat hset h
          refine ⟨?_, h2, by simpa using h3⟩
          simp only [List.map_cons, fillA, hcs]
          rw [if_pos ⟨hc.1, by rw [flat_len hl, hc.1, ← Nat.succ_mul]; exact Nat.mul_le_mul_right _ hc.2⟩, flat_put hl hc.1 hc.2]
          exact h1
        · cases h
      · cases h

/-- A row of its own, out of cells one behind another. -/
theorem row_rel {τ : Inj} {w' : World} {l : Loc} {es : Nat} {els : List (List AV)} {cs : Array Value} {ty : TypeId} {fz : Nat × Nat} (hes : l.es = es) (hbase : l.base = 0) (hlim : els.length ≤ l.lim) (hall : ∀ e ∈ els, e.length = es)
    (hcs : w'.heap[l.cb]? = some (.cells cs ty fz)) (hty : ty = l.ty) (hsz : l.lim * es ≤ cs.size) (hrel : VRels τ els.flatten (cs.toList.take (els.length * es))) (hfz : ∀ o, o < l.lim * es → ¬ (fz.1 ≤ o ∧ o < fz.2)) (wr ap : Bool) (hwa : wr = true → ap = true) :
    BlkRel τ w' l (.row es els wr ap) := by
  subst hes
  refine ⟨rfl, hlim, hwa, cs, ty, fz, hcs, ⟨by rw [hbase]; omega, hty⟩, fun i e he => ⟨hall e (List.mem_of_getElem? he), fun j a ha => ?_⟩, fun _ o h1 h2 => hfz o (by rw [hbase] at h2; omega)⟩
  have hf := flat_get hall he ha
  obtain ⟨c, hc, hr⟩ := vrels_get hrel hf
  rw [List.getElem?_take] at hc
  split at hc
  · refine ⟨c, ?_, hr⟩
    rw [hbase, Nat.zero_add]
    simpa using hc
  · cases hc

/-- What is to be shown of an operation that makes one new block. -/
def Makes (P : Program) (σ : Inj) (ρ : Operand → Value) (w : World) (o : Op) (blk : Blk) (k : Nat → AV) : Prop :=
  ∀ (dst : Option Tmp) (ty : TypeId) (pos : String) (after : Array Edge) (gd : Option (Nat × Bool)), ∃ c w' obj l, (execOp ρ ⟨dst, o, ty, pos, after, gd⟩).run P w = .ok (.value c) w' ∧ Grew w w' obj ∧ l.cb = w.heap.size ∧
    ∀ (τ : Inj) (b : Nat), σ.le τ → τ b = some l → VRel τ (k b) c ∧ BlkRel τ w' l blk

section
variable {P : Program} {σ : Inj} {w : World} {ρ : Operand → Value}

theorem push_at (w : World) (obj : Obj) : (w.heap.push obj)[w.heap.size]? = some obj := by simp

theorem makes_alloc {t : TypeId} {z : List AV} (hz : zeroOf P t = some z) : Makes P σ ρ w (.alloc t) (.row z.length [z] true true) (fun b => .ptr b 0 0) := by
  intro _ _ _ _ _
  obtain ⟨zv, hzv, hzr⟩ := zeroOf_run hz σ w
  refine ⟨.pointer (some ⟨w.heap.size, 0, none⟩), w.alloc (.cells zv.cells t (0, 0)), .cells zv.cells t (0, 0), ⟨w.heap.size, 0, z.length, 1, t⟩, by simp [execOp, Instr.alloc, hzv, newVar, newRow], ⟨rfl, rfl, rfl, rfl⟩, rfl, ?_⟩
  intro τ b hle hb
  have hlen := vrels_len hzr
  refine ⟨by simp only [VRel]; exact ⟨_, hb, by simp⟩, ?_⟩
  refine row_rel rfl rfl (by simp) (by simp) (push_at w _) rfl ?_ ?_ ?_ _ _ (fun h => h)
  · rw [Nat.one_mul]; exact Nat.le_of_eq hlen
  · rw [List.take_of_length_le (by rw [List.length_singleton, Nat.one_mul]; exact Nat.le_of_eq hlen.symm)]
    simpa using vrels_le hle _ _ hzr
  · intro o _; simp

theorem makes_newBld {t : TypeId} (ht : bldTy = some t) (hz : zeroOf P t = some [.nilptr, .nilslice]) : Makes P σ ρ w (.alloc t) (.bld .nilslice) (fun b => .ptr b 0 0) := by
  intro _ _ _ _ _
  obtain ⟨zv, hzv, hzr⟩ := zeroOf_run hz σ w
  obtain ⟨c0, cs0, e0, v0, r0⟩ := vrels_cons hzr
  obtain ⟨c1, cs1, rfl, v1, r1⟩ := vrels_cons r0
  obtain rfl := vrels_nil r1
  have hc0 := vrel_nilptr v0
  subst hc0
  have hcells : zv.cells = #[.pointer none, c1] := by rw [← Array.toArray_toList (xs := zv.cells), e0]
  refine ⟨.pointer (some ⟨w.heap.size, 0, none⟩), w.alloc (.cells zv.cells t (0, 0)), .cells zv.cells t (0, 0), ⟨w.heap.size, 0, 2, 1, t⟩, by simp [execOp, Instr.alloc, hzv, newVar, newRow], ⟨rfl, rfl, rfl, rfl⟩, rfl, ?_⟩
  intro τ b hle hb
  refine ⟨by simp only [VRel]; exact ⟨_, hb, by simp⟩, ⟨rfl, rfl, rfl⟩, t, _, c1, ht, ?_, .inl rfl, vrel_le hle _ _ v1, .inl rfl⟩
  rw [← hcells]
  exact push_at w _

theorem makes_box {t : TypeId} {x : Operand} {a : AV} (ha : VRel σ a (ρ x)) {cs : List AV} (hc : a.cells = some cs) : Makes P σ ρ w (.box t x) (.row cs.length [cs] true true) (fun b => .ptr b 0 0) := by
  intro _ _ _ _ _
  have hzr := cells_rel ha hc
  refine ⟨.pointer (some ⟨w.heap.size, 0, none⟩), w.alloc (.cells (ρ x).cells t (0, 0)), .cells (ρ x).cells t (0, 0), ⟨w.heap.size, 0, cs.length, 1, t⟩, by simp [execOp, Instr.box, newVar, newRow], ⟨rfl, rfl, rfl, rfl⟩, rfl, ?_⟩
  intro τ b hle hb
  have hlen := vrels_len hzr
  refine ⟨by simp only [VRel]; exact ⟨_, hb, by simp⟩, ?_⟩
  refine row_rel rfl rfl (by simp) (by simp) (push_at w _) rfl ?_ ?_ ?_ _ _ (fun h => h)
  · rw [Nat.one_mul]; exact Nat.le_of_eq hlen
  · rw [List.take_of_length_le (by rw [List.length_singleton, Nat.one_mul]; exact Nat.le_of_eq hlen.symm)]
    simpa using vrels_le hle _ _ hzr
  · intro o _; simp

theorem zeros_rel {z : List AV} {zc : Array Value} (h : VRels σ z zc.toList) (n : Nat) : VRels σ (List.replicate n z).flatten ((Array.range (n * zc.size)).map (fun i => zc[i % zc.size]!)).toList := by
  have hlen : z.length = zc.size := by have := vrels_len h; simpa using this
  have hall : ∀ e ∈ List.replicate n z, e.length = zc.size := by intro e he; rw [List.eq_of_mem_replicate he]; exact hlen
  refine vrels_of (by rw [flat_len hall]; simp) ?_
  intro i a c ha hc
  by_cases hz : zc.size = 0
  · have : (List.replicate n z).flatten.length = 0 := by rw [flat_len hall, hz]; simp
    have h2 := (List.getElem?_eq_some_iff.1 ha).1
    omega
  · have hi : i < n * zc.size := by
      have h2 := (List.getElem?_eq_some_iff.1 ha).1
      rw [flat_len hall] at h2
      simpa using h2
    have hmod : i % zc.size < zc.size := Nat.mod_lt _ (by omega)
    have hdiv : i / zc.size < n := by
      rw [Nat.div_lt_iff_lt_mul (by omega)]; exact hi
    have he : (List.replicate n z)[i / zc.size]? = some z := by simp [hdiv]
    obtain ⟨a', ha'⟩ : ∃ a', z[i % zc.size]? = some a' := ⟨_, List.getElem?_eq_getElem (by omega)⟩
    have hg := flat_get hall he ha'
    rw [show i / zc.size * zc.size + i % zc.size = i by rw [Nat.mul_comm]; exact Nat.div_add_mod i zc.size] at hg
    rw [ha] at hg
    cases hg
    obtain ⟨c', hc', hr⟩ := vrels_get h ha'
    have : c = zc[i % zc.size]! := by
      simp [hi] at hc
      exact hc.symm
    rw [this]
    have h3 : zc[i % zc.size]! = c' := by
      rw [getElem!_pos zc (i % zc.size) hmod]
      simpa [hmod] using hc'
    rw [h3]; exact hr

theorem makes_buildSlice {t e : TypeId} (ht : P.underlying t = some (.slice e)) {z : List AV} (hz : zeroOf P e = some z) (hl : z.length = P.cellsOf e) (h0 : z.length ≠ 0) {len : Nat} (hlen : len * P.cellsOf e ≤ 16777216)
    {ps : Array (Nat × Operand)} {vs : List AV} (hv : VRels σ vs ((ps.toList.map (·.2)).map ρ)) {els : List (List AV)} (he : fillEls (P.cellsOf e) (List.replicate len z) (ps.toList.map (·.1)) vs = some els) :
    Makes P σ ρ w (.buildSlice t len ps) (.row (P.cellsOf e) els true true) (fun b => .slice b (P.cellsOf e) 0 len len true) := by
  intro _ _ _ _ _
  obtain ⟨zv, hzv, hzr⟩ := zeroOf_run hz σ w
  have hzl : z.length = zv.cells.size := by have := vrels_len hzr; simpa using this
  obtain ⟨ti, hti, hsz⟩ := size_of (P := P) (e := e) (by omega)
  have hall : ∀ e' ∈ List.replicate len z, e'.length = P.cellsOf e := by intro e' he'; rw [List.eq_of_mem_replicate he']; exact hl
  obtain ⟨h1, h2, h3⟩ := fillEls_flat hall he
  have hzero := zeros_rel hzr len
  rw [← hzl, hl] at hzero
  obtain ⟨g, hg, hgr⟩ := fill_rel (place := fun i => some (i * P.cellsOf e, P.cellsOf e)) (idx := ps.toList.map (·.1)) (f := (Array.range (len * P.cellsOf e)).map (fun i => zv.cells[i % P.cellsOf e]!)) (by simp) h1 hv hzero
  have hgl : len * P.cellsOf e = g.size := by have := vrels_len hgr; rw [flat_len h2, h3] at this; simpa using this
  simp only [List.length_replicate] at h3
  have hzip : List.map (fun (x : Nat × Operand) => (x.1, ρ x.2)) ps.toList = (ps.toList.map (·.1)).zip ((ps.toList.map (·.2)).map ρ) := by simp [List.zip_map']
  rw [← hzip] at hg
  refine ⟨.slice (some ⟨w.heap.size, 0, none⟩) len len, w.alloc (.cells g e (0, 0)), .cells g e (0, 0), ⟨w.heap.size, 0, P.cellsOf e, len, e⟩, ?_, ⟨rfl, rfl, rfl, rfl⟩, rfl, ?_⟩
  · have hrange : (if len * P.cellsOf e = 0 then (#[] : Array Value) else zv.cells) = if len * P.cellsOf e = 0 then #[] else zv.cells := rfl
    by_cases hlz : len * P.cellsOf e = 0
    · have hg' : Instr.fill (fun i => some (i * P.cellsOf e, P.cellsOf e)) #[] (List.map (fun (x : Nat × Operand) => (x.1, ρ x.2)) ps.toList) = some g := by
        rw [hlz] at hg; simpa [Array.range] using hg
      have hlz' : len = 0 := by
        rcases Nat.mul_eq_zero.1 hlz with h | h
        · exact h
        · omega
      subst hlz'
      simp only [execOp, Instr.buildSlice, Sem.run_bind, run_underlying ht, Result.andThen_ok, sizeOf, typeInfo, hti, hsz, run_program, Sem.run_pure, Sem.run_ite]
      rw [if_neg (by simp), if_pos (by simp)]
      have hr : (Array.map (fun i => (#[] : Array Value)[i % (#[] : Array Value).size]!) (Array.range (0 * P.cellsOf e))) = #[] := by rw [Nat.zero_mul]; simp [Array.range]
      simp only [hr]
      simp [hg', newRow]
    · have hnot : ¬ len * P.cellsOf e > 2 ^ 24 := by omega
      have hzs : zv.cells.size = P.cellsOf e := by omega
      rw [← hzs] at hg hnot hlz
      simp only [execOp, Instr.buildSlice, Sem.run_bind, run_underlying ht, Result.andThen_ok, sizeOf, typeInfo, hti, hsz, run_program, Sem.run_pure, Sem.run_ite]
      rw [← hzs, if_neg hnot, if_neg hlz]
      simp [hzv, hg, newRow]
  · intro τ b hle hb
    refine ⟨by simp only [VRel]; exact ⟨trivial, Nat.le_refl _, Nat.le_refl _, by simp, _, hb, rfl, by simp, by simp, .inr (by simp)⟩, ?_⟩
    refine row_rel rfl rfl (by simp [h3]) h2 (push_at w _) rfl (by simp; omega) ?_ (by intro o _; simp) _ _ (fun h => h)
    rw [List.take_of_length_le (by simp; rw [h3]; omega)]
    exact vrels_le hle _ _ hgr


theorem wrap_small {c : Int} (h0 : 0 ≤ c) (h : c ≤ 4294967296) : IntKind.i64.wrap c = c := by
  have : IntKind.i64.wrap c = (if (c % 18446744073709551616) ≥ 9223372036854775808 then c % 18446744073709551616 - 18446744073709551616 else c % 18446744073709551616) := by
    simp [IntKind.wrap, IntKind.bits, IntKind.signed]
  rw [this]
  split <;> omega

theorem makes_makeSlice {t e : TypeId} (ht : P.underlying t = some (.slice e)) {z : List AV} (hz : zeroOf P e = some z) (hl : z.length = P.cellsOf e) (h0 : z.length ≠ 0) (hb : P.bytesOf e ≤ 4096) {x y : Operand} {vs : List AV}
    {blk : Blk} {k : Nat → AV} (hv : VRels σ vs ([x, y].map ρ)) (he : evalA (.makeSlice z) vs = some (blk, k)) : Makes P σ ρ w (.makeSlice t x y) blk k := by
  obtain ⟨a, b, rfl, ha, hb'⟩ := map2 hv
  cases a with
  | int k1 m =>
    cases b with
    | int k2 n =>
      simp only [evalA] at he
      split at he
      · rename_i hc
        obtain ⟨c0, c1, c2⟩ := hc
        cases he
        intro _ _ _ _ _
        obtain ⟨zv, hzv, hzr⟩ := zeroOf_run hz σ w
        have hzl : z.length = zv.cells.size := vrels_len hzr
        obtain ⟨ti, hti, hsz⟩ := size_of (P := P) (e := e) (by omega)
        have hby : ti.bytes = P.bytesOf e := by simp [Program.bytesOf, hti]
        have hzero := zeros_rel hzr m.toNat
        have hw1 : IntKind.i64.wrap m = m := wrap_small c0 (by omega)
        have hw2 : IntKind.i64.wrap n = n := wrap_small (by omega) c2
        refine ⟨.slice (some ⟨w.heap.size, 0, none⟩) m.toNat n.toNat, w.alloc (.cells ((Array.range (n.toNat * zv.cells.size)).map (fun i => zv.cells[i % zv.cells.size]!)) e (0, 0)), .cells ((Array.range (n.toNat * zv.cells.size)).map (fun i => zv.cells[i % zv.cells.size]!)) e (0, 0), ⟨w.heap.size, 0, z.length, n.toNat, e⟩, ?_, ⟨rfl, rfl, rfl, rfl⟩, rfl, ?_⟩
        · have hbig : ¬ ((ti.bytes : Int) * n > 2 ^ 48) := by
            rw [hby]
            have h1 : ((P.bytesOf e : Nat) : Int) * n ≤ 4096 * 4294967296 := Int.mul_le_mul (by omega) c2 (by omega) (by omega)
            omega
          have hn0 : ¬ n < 0 := by omega
          have hm0 : ¬ m < 0 := by omega
          have hmn : ¬ m > n := by omega
          have hs : ti.size = zv.cells.size := by omega
          simp only [execOp, Instr.makeSlice, Sem.run_bind, run_underlying ht, Result.andThen_ok, vrel_int ha, vrel_int hb', asInt, asIntOf, Sem.run_pure, hw1, hw2]
          simp only [typeInfo, run_program, Sem.run_bind, hti, Result.andThen_ok, Sem.run_pure, hn0, hm0, hmn, hbig, decide_false, Bool.or_false, Bool.or_self, Bool.false_eq_true, if_false, run_askRoom, sizeOf, hs, Sem.run_ite]
          by_cases hz0 : n.toNat * zv.cells.size = 0
          · have hn : n.toNat = 0 := by
              rcases Nat.mul_eq_zero.1 hz0 with h | h
              · exact h
              · omega
            have hr : ∀ f : Nat → Value, (Array.range (n.toNat * zv.cells.size)).map f = #[] := by intro f; rw [hz0]; simp [Array.range]
            rw [if_pos hz0]
            simp only [hr, Result.andThen_ok, newRow, Sem.run_bind, run_newObj, Sem.run_pure]
            rfl
          · rw [if_neg hz0]
            simp [hzv, newRow]
        · intro τ b hle hbb
          refine ⟨?_, ?_⟩
          · simp only [VRel]
            exact ⟨trivial, by omega, Nat.le_refl _, by simp, _, hbb, rfl, by simp, by simp, .inr (by simp)⟩
          · refine row_rel rfl rfl (by simp; omega) (by intro e' he'; exact congrArg List.length (List.eq_of_mem_replicate he')) (push_at w _) rfl (by simp [hzl]) ?_ (by intro o _; simp) _ _ (fun h => h)
            have hmul : m.toNat * zv.cells.size ≤ n.toNat * zv.cells.size := Nat.mul_le_mul_right _ (by omega)
            have : ((Array.range (n.toNat * zv.cells.size)).map (fun i => zv.cells[i % zv.cells.size]!)).toList.take ((List.replicate m.toNat z).length * z.length) = ((Array.range (m.toNat * zv.cells.size)).map (fun i => zv.cells[i % zv.cells.size]!)).toList := by
              rw [List.length_replicate, hzl]
              simp only [Array.toList_map, Array.toList_range, ← List.map_take, List.take_range, Nat.min_eq_left hmul]
            rw [this]
            exact vrels_le hle _ _ hzero
      · cases he
    | _ => simp [evalA] at he
  | _ => simp [evalA] at he

theorem makes_makeMap {t : TypeId} : Makes P σ ρ w (.makeMap t none) (.map []) (fun b => .map b) := by
  intro _ _ _ _ _
  refine ⟨.map (some w.heap.size), w.alloc (.map #[] 0), .map #[] 0, ⟨w.heap.size, 0, 0, 0, 0⟩, by simp [execOp, Instr.makeMap], ⟨rfl, rfl, rfl, rfl⟩, rfl, ?_⟩
  intro τ b _ hb
  exact ⟨by simp only [VRel]; exact ⟨_, hb, rfl⟩, #[], 0, push_at w _, trivial⟩

theorem makes_toBytes {src dst e : TypeId} (hs : P.underlying src = some .string) (hd : P.underlying dst = some (.slice e)) (he8 : P.underlying e = some (.int .u8)) {x : Operand} {s : List UInt8} (ha : VRel σ (.str s) (ρ x)) :
    Makes P σ ρ w (.convert src dst x) (.row 1 (s.map fun c => [.int .u8 c.toNat]) true true) (fun b => .slice b 1 0 s.length s.length false) := by
  intro _ _ _ _ _
  have hx := vrel_str ha
  have hrun := run_bytes_of_string (P := P) w src dst e ⟨s.toArray⟩ hs hd he8
  have hge : s.length ≤ grownCap w s.length 0 e := by
    unfold grownCap Question.cut
    exact Nat.le_add_right _ _
  have hsz : (⟨s.toArray⟩ : ByteArray).size = s.length := by simp [ByteArray.size]
  rw [hsz] at hrun
  obtain ⟨cap, hcap⟩ : ∃ cap, grownCap w s.length 0 e = cap := ⟨_, rfl⟩
  rw [hcap] at hrun hge
  refine ⟨.slice (some ⟨w.heap.size, 0, none⟩) s.length cap, w.drew.alloc (.cells (bytesRow ⟨s.toArray⟩ cap) e ((bytesRow ⟨s.toArray⟩ cap).size, (bytesRow ⟨s.toArray⟩ cap).size + 1)), .cells (bytesRow ⟨s.toArray⟩ cap) e ((bytesRow ⟨s.toArray⟩ cap).size, (bytesRow ⟨s.toArray⟩ cap).size + 1), ⟨w.heap.size, 0, 1, cap, e⟩, by simp only [execOp, hx, Sem.run_bind, hrun, Result.andThen_ok, Sem.run_pure], ⟨rfl, rfl, rfl, rfl⟩, rfl, ?_⟩
  intro τ b hle hb
  have hbs : (bytesRow ⟨s.toArray⟩ cap).size = cap := by
    simp [bytesRow, ByteArray.size]; omega
  refine ⟨?_, ?_⟩
  · simp only [VRel]
    exact ⟨trivial, hge, hge, by simp, _, hb, rfl, by simp, by simp, .inr (by simp)⟩
  · refine row_rel rfl rfl (by simpa using hge) (by intro e' he'; simp at he'; obtain ⟨_, _, rfl⟩ := he'; rfl) (push_at w.drew _) rfl (by rw [hbs]; simp) ?_ ?_ _ _ (fun h => h)
    · have : (bytesRow ⟨s.toArray⟩ cap).toList.take ((s.map fun c => [AV.int .u8 c.toNat]).length * 1) = s.map fun c => Value.int .u8 c.toNat := by
        simp [bytesRow]
      rw [this]
      have hf : ∀ l : List UInt8, VRels τ (l.map fun c => [AV.int .u8 c.toNat]).flatten (l.map fun c => Value.int .u8 c.toNat) := by
        intro l
        induction l with
        | nil => trivial
        | cons c l ih => exact ⟨by simp [VRel], ih⟩
      exact hf s
    · intro o ho
      rw [hbs]
      simp at ho ⊢
      omega

end
end Go.Eng
