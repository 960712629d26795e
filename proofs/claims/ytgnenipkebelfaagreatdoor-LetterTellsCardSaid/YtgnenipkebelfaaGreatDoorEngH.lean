/- The engine, part H: append, clear, maps written. -/
import Derived.Test.YtgnenipkebelfaaGreatDoorEngG
set_option linter.unusedVariables false
set_option linter.unusedSimpArgs false
namespace Go.Eng
open Go

/-- A block is given up, or may no longer be written and appended to. -/
def Weaker (x y : Blk) : Prop := y = .dead ∨ ∃ es els wr ap, x = .row es els wr ap ∧ y = .row es els false false

theorem Rep.weaken {σ : Inj} {h : H} {w : World} (r : Rep σ h w) {b : Nat} {l : Loc} {x y : Blk} (hl : σ b = some l) (hx : h[b]? = some x) (hy : Weaker x y) : Rep σ (h.set b y) w := by
  have hb := (r.dom b l hl)
  have bes : ∀ z m, Beside x l z m → Beside y l z m := by
    intro z m hz
    rcases hy with rfl | ⟨es, els, wr, ap, rfl, rfl⟩
    · trivial
    · cases z with
      | dead => exact beside_dead
      | row es' els' wr' ap' => simp only [Beside] at hz ⊢; exact ⟨trivial, hz.2.1, by simp⟩
      | map _ => exact hz
      | bld _ => exact hz
  have bes' : ∀ z m, Beside z m x l → Beside z m y l := by
    intro z m hz
    rcases hy with rfl | ⟨es, els, wr, ap, rfl, rfl⟩
    · exact beside_dead
    · cases z with
      | dead => trivial
      | row es' els' wr' ap' => simp only [Beside] at hz ⊢; exact ⟨hz.1, trivial, fun ha => ⟨trivial, (hz.2.2 ha).2⟩⟩
      | map _ => exact hz
      | bld _ => exact hz
  refine ⟨fun c m hc => by rw [List.length_set]; exact r.dom c m hc, ?_, ?_, ⟨r.lay.is_, fun p hp ho => r.lay.no p hp ?_⟩⟩
  rotate_left 2
  · obtain ⟨c, m, hc, e, ho⟩ := ho
    by_cases ecb : c = b
    · subst ecb
      rw [get_set hb, if_pos rfl] at ho
      rcases hy with rfl | ⟨es, els, wr, ap, rfl, rfl⟩
      · rcases ho with ⟨_, _, _, ho⟩ | ⟨_, ho⟩ | ⟨_, ho⟩ <;> cases ho
      · rcases ho with ⟨_, _, _, ho⟩ | ⟨_, ho⟩ | ⟨_, ho⟩ <;> cases ho
    · rw [get_set hb, if_neg ecb] at ho
      exact ⟨c, m, hc, e, ho⟩
  · intro c m z hc hz
    rw [get_set hb] at hz
    split at hz
    · rename_i e; subst e; cases hz
      rw [hl] at hc; cases hc
      rcases hy with rfl | ⟨es, els, wr, ap, rfl, rfl⟩
      · trivial
      · obtain ⟨h1, h2, h3, cs, ty, fz, h4, h5, h6, h7⟩ := r.blk c l _ hl hx
        exact ⟨h1, h2, by simp, cs, ty, fz, h4, h5, h6, by simp⟩
    · exact r.blk c m z hc hz
  · intro c c' m m' z z' hne hc hc' hcb hz hz'
    rw [get_set hb] at hz hz'
    split at hz
    · rename_i e; subst e; cases hz
      rw [hl] at hc; cases hc
      rw [if_neg (Ne.symm hne)] at hz'
      exact bes _ _ (r.sep c c' l m' x z' hne hl hc' hcb hx hz')
    · rename_i e
      split at hz'
      · rename_i e'; subst e'; cases hz'
        rw [hl] at hc'; cases hc'
        exact bes' _ _ (r.sep c c' m l z x hne hc hl hcb hz hx)
      · exact r.sep c c' m m' z z' hne hc hc' hcb hz hz'

theorem Ext.weaken {σ : Inj} {h : H} {w : World} (r : Rep σ h w) {b : Nat} {l : Loc} {x y : Blk} (hl : σ b = some l) (hx : h[b]? = some x) (hy : Weaker x y) : Ext σ h w σ (h.set b y) w := by
  have hb := (r.dom b l hl)
  refine ⟨by simp, fun _ _ h => h, ?_, rfl, rfl, rfl, Nat.le_refl _, fun _ _ _ => rfl, ?_⟩
  · intro c hc hs
    refine ⟨hs, ?_⟩
    rw [get_set hb, if_neg]
    intro e; subst e; rw [hl] at hs; cases hs
  · rintro cb _ ⟨c, m, hc, rfl, ho⟩
    by_cases e : c = b
    · subst e
      rw [get_set hb, if_pos rfl] at ho
      rcases hy with rfl | ⟨es, els, wr, ap, rfl, rfl⟩
      · rcases ho with ⟨_, _, _, ho⟩ | ⟨_, ho⟩ | ⟨_, ho⟩ <;> cases ho
      · rcases ho with ⟨_, _, _, ho⟩ | ⟨_, ho⟩ | ⟨_, ho⟩ <;> cases ho
    · rw [get_set hb, if_neg e] at ho
      exact ⟨c, m, hc, rfl, ho⟩

/-- Behind all that lives at its place cells may turn. -/
theorem Rep.spare {σ : Inj} {h : H} {w w' : World} (r : Rep σ h w) {cb s : Nat} {cs cs' : Array Value} {ty : TypeId} {fz : Nat × Nat} (hcs : w.heap[cb]? = some (.cells cs ty fz)) (hcs' : w'.heap[cb]? = some (.cells cs' ty fz)) (hsz : cs'.size = cs.size)
    (hag : ∀ k, k < s → cs'[k]? = cs[k]?) (hws : w'.heap.size = w.heap.size) (hoth : ∀ k, k ≠ cb → w'.heap[k]? = w.heap[k]?)
    (hlive : ∀ (b : Nat) (l : Loc) (es : Nat) (els : List (List AV)) (wr ap : Bool), σ b = some l → l.cb = cb → h[b]? = some (.row es els wr ap) → l.base + els.length * es ≤ s) (hnl : ∀ p ∈ laid, p.1 ≠ cb) (hnb : ∀ (b : Nat) (l : Loc) (v : AV), σ b = some l → l.cb = cb → h[b]? = some (.bld v) → False) : Rep σ h w' := by
  refine ⟨r.dom, ?_, r.sep, ⟨r.lay.is_.of (fun p hp _ => hoth _ (hnl p hp)), r.lay.no⟩⟩
  intro b l x hb hx
  have hold := r.blk b l x hb hx
  by_cases hcb : l.cb = cb
  · cases x with
    | dead => trivial
    | map es =>
      obtain ⟨ents, clock, h1, _⟩ := hold
      rw [hcb, hcs] at h1; cases h1
    | bld v => exact (hnb b l v hb hcb hx).elim
    | row es els wr ap =>
      have hend := hlive b l es els wr ap hb hcb hx
      obtain ⟨h1, h2, h3, c0, t0, f0, h4, h5, h6, h7⟩ := hold
      rw [hcb, hcs] at h4; cases h4
      refine ⟨h1, h2, h3, cs', ty, fz, by rw [hcb]; exact hcs', ⟨by rw [hsz]; exact h5.1, h5.2⟩, fun i e he => ⟨(h6 i e he).1, fun j a ha => ?_⟩, h7⟩
      obtain ⟨c, hc, hr⟩ := (h6 i e he).2 j a ha
      refine ⟨c, ?_, hr⟩
      rw [hag]
      · exact hc
      · have hi : i < els.length := (List.getElem?_eq_some_iff.1 he).1
        have hj : j < es := by have := (List.getElem?_eq_some_iff.1 ha).1; rw [(h6 i e he).1] at this; exact this
        have : i * es + es ≤ els.length * es := by rw [← Nat.succ_mul]; exact Nat.mul_le_mul_right _ hi
        omega
  · exact blk_world (hoth _ hcb) hold

/-- A block is given a place where others lie, too. -/
theorem Rep.attach0 {σ : Inj} {h : H} {w : World} (r : Rep σ h w) {b : Nat} (hb : σ b = none) {x : Blk} (hx : h[b]? = some x) {l : Loc} (hblk : BlkRel (σ.bind b l) w l x)
    (hsep : ∀ (b' : Nat) (l' : Loc) (x' : Blk), σ b' = some l' → l'.cb = l.cb → h[b']? = some x' → Beside x l x' l' ∧ Beside x' l' x l) (hnl : (∀ p ∈ laid, p.1 ≠ l.cb) ∨ x = .dead ∨ ∃ es els wr, x = .row es els wr false) : Rep (σ.bind b l) h w := by
  refine ⟨?_, ?_, ?_, ⟨r.lay.is_, fun p hp ho => ?_⟩⟩
  rotate_left 3
  · obtain ⟨c, m, hc, e, ho⟩ := ho
    by_cases ecb : c = b
    · subst ecb
      simp [Inj.bind] at hc; subst hc
      rw [hx] at ho
      rcases hnl with hnl | rfl | ⟨es, els, wr, rfl⟩
      · exact hnl p hp e.symm
      · rcases ho with ⟨_, _, _, ho⟩ | ⟨_, ho⟩ | ⟨_, ho⟩ <;> cases ho
      · rcases ho with ⟨_, _, _, ho⟩ | ⟨_, ho⟩ | ⟨_, ho⟩ <;> cases ho
    · exact r.lay.no p hp ⟨c, m, by simpa [Inj.bind, ecb] using hc, e, ho⟩
  · intro c m hc
    unfold Inj.bind at hc
    split at hc
    · rename_i e; subst e; cases hc
      exact (List.getElem?_eq_some_iff.1 hx).1
    · exact r.dom c m hc
  · intro c m y hc hy
    by_cases e : c = b
    · subst e
      simp [Inj.bind] at hc; subst hc
      rw [hx] at hy; cases hy
      exact hblk
    · have hc' : σ c = some m := by simpa [Inj.bind, e] using hc
      exact blk_le (le_bind hb) (r.blk c m y hc' hy)
  · intro c c' m m' y y' hne hc hc' hcb hy hy'
    by_cases e : c = b
    · subst e
      have hm : l = m := by simpa [Inj.bind] using hc
      have hm' : σ c' = some m' := by simpa [Inj.bind, Ne.symm hne] using hc'
      subst hm
      rw [hx] at hy; cases hy
      exact (hsep c' m' y' hm' hcb.symm hy').1
    · have hm : σ c = some m := by simpa [Inj.bind, e] using hc
      by_cases e' : c' = b
      · subst e'
        have hm' : l = m' := by simpa [Inj.bind] using hc'
        subst hm'
        rw [hx] at hy'; cases hy'
        exact (hsep c m y hm hcb hy).2
      · have hm' : σ c' = some m' := by simpa [Inj.bind, e'] using hc'
        exact r.sep c c' m m' y y' hne hm hm' hcb hy hy'

theorem Rep.attach {σ : Inj} {h : H} {w : World} (r : Rep σ h w) {b : Nat} (hb : σ b = none) {x : Blk} (hx : h[b]? = some x) {l : Loc} (hl : l.cb < w.heap.size) (hblk : BlkRel (σ.bind b l) w l x)
    (hsep : ∀ (b' : Nat) (l' : Loc) (x' : Blk), σ b' = some l' → l'.cb = l.cb → h[b']? = some x' → Beside x l x' l' ∧ Beside x' l' x l) (hnl : ∀ p ∈ laid, p.1 ≠ l.cb) : Rep (σ.bind b l) h w := r.attach0 hb hx hblk hsep (.inl hnl)

section
variable {P : Program} {σ : Inj} {h : H} {w : World} {ρ : Operand → Value}

/-- The cells that a slice shows. -/
theorem elsOf_rel (r : Rep σ h w) {es : Nat} {s : AV} {x : Value} (hs : VRel σ s x) {els : List (List AV)} (he : elsOf h es s = some els) :
    ∃ cs : List Value, VRels σ els.flatten cs ∧ (∀ e ∈ els, e.length = es) ∧ (∀ w' : World, w'.heap = w.heap → (Builtin.firstCells es els.length x).run P w' = .ok cs.toArray w') ∧ (Builtin.lenOf x).run P w = .ok els.length w := by
  cases s with
  | nilslice =>
    simp only [elsOf, Option.some.injEq] at he; subst he
    rw [vrel_nilslice hs]
    exact ⟨[], trivial, by simp, fun w' _ => by simp [Builtin.firstCells], by simp [Builtin.lenOf]⟩
  | slice b es1 i n k q =>
    simp only [elsOf] at he
    split at he
    · rename_i hn0
      split at he
      · cases he
        subst hn0
        obtain ⟨ad, c', rfl, _⟩ := vrel_slice hs
        exact ⟨[], trivial, by simp, fun w' _ => by simp [Builtin.firstCells, loadCells, loadCellsFrom], by simp [Builtin.lenOf]⟩
      · cases he
    rename_i hn0
    split at he
    · rename_i es' els' wr ap hb
      split at he
      · rename_i hc
        obtain ⟨rfl, rfl, hle⟩ := hc
        cases he
        obtain ⟨ad, c', rfl, h1, h2, h3, l, hl, hles, h4, h5, h6⟩ := vrel_slice hs
        obtain ⟨hes, hlim, hwa, cs, ty, fz, hcs, ⟨hsz, _⟩, hel, hfz⟩ := r.blk b l _ hl hb
        have hlen : ((els'.drop i).take n).length = n := by simp; omega
        have hall : ∀ e ∈ (els'.drop i).take n, e.length = es' := by
          intro e he
          have := List.mem_of_mem_drop (List.mem_of_mem_take he)
          obtain ⟨k, hk⟩ := List.getElem?_of_mem this
          exact (hel k e hk).1
        have hcell : ∀ (j : Nat) (a : AV), ((els'.drop i).take n).flatten[j]? = some a → ∃ c, w.cell? ⟨l.cb, l.base + i * es' + j, none⟩ = some c ∧ VRel σ a c := by
          intro j a ha
          have hj : j < n * es' := by have := (List.getElem?_eq_some_iff.1 ha).1; rw [flat_len hall, hlen] at this; exact this
          have hpos : 0 < es' := Nat.pos_of_ne_zero (by intro e; subst e; simp at hj)
          have hdiv : j / es' < n := by rw [Nat.div_lt_iff_lt_mul hpos]; exact hj
          obtain ⟨e, he⟩ : ∃ e, els'[i + j / es']? = some e := ⟨_, List.getElem?_eq_getElem (by omega)⟩
          obtain ⟨hel1, hel2⟩ := hel _ e he
          have hmod : j % es' < es' := Nat.mod_lt _ hpos
          obtain ⟨a', ha'⟩ : ∃ a', e[j % es']? = some a' := ⟨_, List.getElem?_eq_getElem (by omega)⟩
          have he2 : ((els'.drop i).take n)[j / es']? = some e := by rw [List.getElem?_take, if_pos hdiv, List.getElem?_drop]; exact he
          have hf := flat_get hall he2 ha'
          have hjj : j / es' * es' + j % es' = j := by rw [Nat.mul_comm]; exact Nat.div_add_mod j es'
          rw [hjj, ha] at hf
          cases hf
          obtain ⟨c, hc, hr⟩ := hel2 _ _ ha'
          refine ⟨c, ?_, hr⟩
          simp only [World.cell?, hcs]
          rw [show l.base + i * es' + j = l.base + (i + j / es') * es' + j % es' by rw [Nat.add_mul]; omega]
          simpa using hc
        obtain ⟨ds, hd1, hd2⟩ := cells_at hcell
        refine ⟨ds, hd1, hall, ?_, by rw [hlen]; simp [Builtin.lenOf]⟩
        have hdl : ds.length = n * es' := by rw [← vrels_len hd1, flat_len hall, hlen]
        intro w' hw'
        have hrd : ∀ a : Addr, w'.cell? a = w.cell? a := fun a => by simp [World.cell?, hw']
        rw [hlen]
        by_cases hn : n = 0
        · subst hn
          have : ds = [] := List.length_eq_zero_iff.1 (by omega)
          subst this
          simp [Builtin.firstCells, loadCells, loadCellsFrom]
        · have had := h6.resolve_left (by omega)
          subst had
          have := run_loadCells_list (P := P) (w := w') ⟨l.cb, l.base + i * l.es, none⟩ ds (fun j v hv => by rw [hrd, addr_add, hles]; exact hd2 j v hv)
          rw [hdl] at this
          simp only [Builtin.firstCells, this]
      · cases he
    · cases he
  | _ => simp [elsOf] at he

/-- Of which type the block is that an append comes to. -/
def AppTy (σ σ' : Inj) (es : Nat) (e : TypeId) (s v : AV) : Prop :=
  v = s ∨ ∃ (g n c : Nat) (lg : Loc), v = .slice g es 0 n c false ∧ σ' g = some lg ∧ ((lg.base = 0 ∧ lg.ty = e) ∨ ∃ (b i n0 c0 : Nat) (x0 : Bool) (l0 : Loc), s = .slice b es i n0 c0 x0 ∧ σ b = some l0 ∧ lg.base = l0.base + i * es ∧ lg.ty = l0.ty)
/-- The one operation behind both kinds of append. -/
theorem append_run5 (r : Rep σ h w) {t e : TypeId} (ht : P.underlying t = some (.slice e)) {es : Nat} (hes : P.cellsOf e = es) (h0 : es ≠ 0) (hby : P.bytesOf e ≤ 4096) (hby0 : P.bytesOf e ≠ 0) (hby24 : P.bytesOf e ≤ 24 * es) {z : List AV} (hz : zeroOf P e = some z) (hzl : z.length = es)
    {argTypes : Array TypeId} (ha0 : argTypes[0]? = some t) {xt : TypeId} (ha1 : argTypes[1]? = some xt) {dx : TypeDesc} (hxt : P.underlying xt = some dx) (hdx : (∃ e2, dx = .slice e2) ∨ dx = .string) {ty : TypeId}
    {s : AV} {sv xv : Value} (hs : VRel σ s sv) {xs : List (List AV)} {xcs : List Value} (hxr : VRels σ xs.flatten xcs) (hxl : ∀ e ∈ xs, e.length = es) (hscal : xs.all (fun e => e.all AV.scalar) = true)
    (hfirst : ∀ w' : World, w'.heap = w.heap → (Builtin.firstCells es xs.length xv).run P w' = .ok xcs.toArray w') (hlen : (Builtin.lenOf xv).run P w = .ok xs.length w)
    {keep : Bool} {v : AV} {h' : H} (he : appendEls keep es s xs h = some (v, h')) :
    ∃ c w' σ', (Builtin.append_ argTypes ty #[sv, xv]).run P w = .ok c w' ∧ VRel σ' v c ∧ Rep σ' h' w' ∧ Ext σ h w σ' h' w' ∧ AppTy σ σ' es e s v := by
  obtain ⟨ti, hti, hsz⟩ := size_of (P := P) (e := e) (by omega)
  have hbytes : ti.bytes = P.bytesOf e := by simp [Program.bytesOf, hti]
  have hxcl : xcs.length = xs.length * es := by rw [← vrels_len hxr, flat_len hxl]
  -- where there is room
  have fits : ∀ (base : Option Addr) (n cap : Nat), sv = .slice base n cap → n + xs.length ≤ cap → ∀ w', (match base with | some a => (storeCells (a.add (n * es)) xcs).run P w | none => .ok () w) = .ok () w' →
      (Builtin.append_ argTypes ty #[sv, xv]).run P w = .ok (.slice base (n + xs.length) cap) w' := by
    intro base n cap hsv hle w' hst
    subst hsv
    have hx := hfirst w rfl
    rcases hdx with ⟨e2, rfl⟩ | rfl <;> cases base with
    | none => simp at hst; subst hst; simp [Builtin.append_, ha0, ha1, run_underlying ht, run_underlying hxt, sizeOf, typeInfo, hti, hsz, hes, hlen, hle, hx]
    | some a => simp at hst; simp [Builtin.append_, ha0, ha1, run_underlying ht, run_underlying hxt, sizeOf, typeInfo, hti, hsz, hes, hlen, hle, hx, hst]
  have big : ∀ (n cap : Nat), cap < n + xs.length → n + xs.length ≤ 4294967296 → Builtin.nextslicecap (n + xs.length) cap * P.bytesOf e ≤ 281474976710656 := by
    intro n cap hlt hbig
    have h1 := nextslicecap_le hlt
    have h2 : Builtin.nextslicecap (n + xs.length) cap * P.bytesOf e ≤ (2 * 4294967296) * 4096 := Nat.mul_le_mul (by omega) hby
    omega
  -- where there is none
  have grows : ∀ (base : Option Addr) (n cap : Nat), sv = .slice base n cap → cap < n + xs.length → Builtin.nextslicecap (n + xs.length) cap * P.bytesOf e ≤ 281474976710656 → ∀ (olds : List Value), (∀ w' : World, w'.heap = w.heap → (Builtin.firstCells es n sv).run P w' = .ok olds.toArray w') →
      ∃ (cs : Array Value) (newCap : Nat) (w' : World), Grew w w' (.cells cs e (0, 0)) ∧ n + xs.length ≤ newCap ∧ cs.size = olds.length + xcs.length + (newCap - (n + xs.length)) * es ∧ cs.toList.take (olds.length + xcs.length) = olds ++ xcs ∧
        (Builtin.append_ argTypes ty #[sv, xv]).run P w = .ok (.slice (some ⟨w.heap.size, 0, none⟩) (n + xs.length) newCap) w' := by
    intro base n cap hsv hlt hbig olds hold
    obtain ⟨zv, hzv, hzr⟩ := zeroOf_run hz σ w
    have hzs : zv.cells.size = es := by have := vrels_len hzr; rw [hzl] at this; exact this.symm
    have hzv' : ∀ w' : World, (zeroValue e).run P w' = .ok zv w' := by
      intro w'
      unfold zeroOf at hz
      obtain ⟨zv', hzv', _⟩ := zeroOf_run (P := P) hz σ w'
      have : ∀ w1 w2 : World, ∀ a b, (zeroValue e).run P w1 = .ok a w1 → (zeroValue e).run P w2 = .ok b w2 → a = b := by
        intro w1 w2 a b k1 k2
        simp only [zeroValue, typeInfo, Sem.run_bind, run_program, hti, Result.andThen_ok, Sem.run_pure] at k1 k2
        cases hzz : ti.zero with
        | none => simp [hzz] at k1
        | some u => simp [hzz] at k1 k2; rw [← k1, ← k2]
      rw [hzv', this w w' zv zv' hzv hzv']
    refine ⟨olds.toArray ++ xcs.toArray ++ Builtin.zeroCells zv.cells (grownCap w (n + xs.length) cap e - (n + xs.length)), grownCap w (n + xs.length) cap e, w.drew.alloc (.cells (olds.toArray ++ xcs.toArray ++ Builtin.zeroCells zv.cells (grownCap w (n + xs.length) cap e - (n + xs.length))) e (0, 0)), ⟨rfl, rfl, rfl, rfl⟩, ?_, ?_, ?_, ?_⟩
    · unfold grownCap Question.cut; exact Nat.le_add_right _ _
    · simp [Builtin.zeroCells, hzs]
    · simp [List.take_append, List.take_of_length_le]
    · have hnot : ¬ n + xs.length ≤ cap := by omega
      have hcapb : ¬ (281474976710656 < Builtin.nextslicecap (n + xs.length) cap * ti.bytes) := by
        rw [hbytes]
        omega
      have hb0 : ti.bytes ≠ 0 := by rw [hbytes]; exact hby0
      have hnew := hfirst w.drew rfl
      have hold' := hold w.drew rfl
      have hz2 := hzv' w.drew
      subst hsv
      rcases hdx with ⟨e2, rfl⟩ | rfl <;>
        simp [Builtin.append_, ha0, ha1, run_underlying ht, run_underlying hxt, sizeOf, typeInfo, hti, hsz, hes, hlen, hnot, hcapb, hb0, Question.forced, hnew, hold', hz2, newRow, grownCap] <;>
        (congr 2; apply Array.ext'; simp [List.append_assoc])
  -- a new block of the two
  have news : ∀ (h0' : H) (els : List (List AV)) (olds : List Value) (n cap : Nat) (base : Option Addr), sv = .slice base n cap → Rep σ h0' w → Ext σ h w σ h0' w → els.length = n → VRels σ els.flatten olds → (∀ e' ∈ els, e'.length = es) → cap < n + xs.length → Builtin.nextslicecap (n + xs.length) cap * P.bytesOf e ≤ 281474976710656 →
      (∀ w' : World, w'.heap = w.heap → (Builtin.firstCells es n sv).run P w' = .ok olds.toArray w') → ∀ wr : Bool,
      ∃ c w' σ', (Builtin.append_ argTypes ty #[sv, xv]).run P w = .ok c w' ∧ VRel σ' (.slice h0'.length es 0 (n + xs.length) (n + xs.length) false) c ∧ Rep σ' (h0' ++ [.row es (els ++ xs) wr true]) w' ∧ Ext σ h w σ' (h0' ++ [.row es (els ++ xs) wr true]) w' ∧ ∃ lg, σ' h0'.length = some lg ∧ lg.base = 0 ∧ lg.ty = e := by
    intro h0' els olds n cap base hsv r' hext hel hrel hall hlt hbig hold wr
    obtain ⟨cs, newCap, w', hgrew, hle, hcsz, hctake, hrun⟩ := grows base n cap hsv hlt hbig olds hold
    have holdl : olds.length = n * es := by rw [← vrels_len hrel, flat_len hall, hel]
    have hnone : σ h0'.length = none := by
      cases hq : σ h0'.length with
      | none => rfl
      | some m => have := (r'.dom _ m hq); omega
    refine ⟨_, w', σ.bind h0'.length ⟨w.heap.size, 0, es, newCap, e⟩, hrun, ?_, ?_, hext.trans (Ext.make r' rfl hgrew rfl), ⟨w.heap.size, 0, es, newCap, e⟩, by simp [Inj.bind], rfl, rfl⟩
    · simp only [VRel]
      exact ⟨trivial, hle, hle, by simp, ⟨w.heap.size, 0, es, newCap, e⟩, by simp [Inj.bind], rfl, by simp, by simp, .inr (by simp)⟩
    · refine (r'.push (.row es (els ++ xs) wr true)).make hnone (x := .row es (els ++ xs) wr true) (by simp) hgrew.heap rfl ?_
      have hall2 : ∀ e' ∈ els ++ xs, e'.length = es := by
        intro e' he'
        rcases List.mem_append.1 he' with h | h
        · exact hall e' h
        · exact hxl e' h
      refine row_rel rfl rfl (by simp; omega) hall2 (by rw [hgrew.heap]; exact push_at w _) rfl ?_ ?_ (by intro o _; simp) _ _ (fun _ => rfl)
      · show newCap * es ≤ cs.size
        rw [hcsz, holdl, hxcl]
        have : newCap * es = (n * es + xs.length * es) + (newCap - (n + xs.length)) * es := by
          rw [← Nat.add_mul, ← Nat.add_mul]; congr 1; omega
        omega
      · rw [show (els ++ xs).length * es = olds.length + xcs.length by rw [List.length_append, Nat.add_mul, holdl, hxcl, hel], hctake, List.flatten_append]
        exact vrels_le (le_bind hnone) _ _ (vrels_append hrel hxr)
  unfold appendEls at he
  split at he
  · rename_i hx0
    have hxs : xcs = [] := List.length_eq_zero_iff.1 (by rw [hxcl, hx0]; simp)
    split at he
    · cases he
      have hsv := vrel_nilslice hs
      refine ⟨_, w, σ, fits none 0 0 hsv (by omega) w rfl, by rw [hx0]; simp [VRel], r, Ext.refl _ _ _, .inl rfl⟩
    · rename_i b es' i n c x
      cases he
      obtain ⟨a, c', rfl, h1, h2⟩ := vrel_slice hs
      refine ⟨_, w, σ, fits (some a) n c' rfl (by omega) w (by rw [hxs]; simp [storeCells]), ?_, r, Ext.refl _ _ _, .inl rfl⟩
      rw [hx0]
      exact hs
    · cases he
  · rename_i hx0
    split at he
    · split at he
      · rename_i hbig
        cases he
        have hsv := vrel_nilslice hs
        have hcap : Builtin.nextslicecap (0 + xs.length) 0 * P.bytesOf e ≤ 281474976710656 := by
          rcases hbig with hbig | hbig
          · exact big 0 0 (by omega) (by omega)
          · have h3 : Builtin.nextslicecap (0 + xs.length) 0 = xs.length := by
              unfold Builtin.nextslicecap
              rw [if_pos (by omega), Nat.zero_add]
            rw [h3]
            exact Nat.le_trans (Nat.mul_le_mul_left _ hby24) hbig
        obtain ⟨c9, w9, σ9, k1, k2, k3, k4, lg, k5, k6, k7⟩ := news h [] [] 0 0 none hsv r (Ext.refl _ _ _) rfl trivial (by simp) (by omega) hcap (by intro w' _; rw [hsv]; simp [Builtin.firstCells]) true
        exact ⟨c9, w9, σ9, k1, by simpa using k2, by simpa using k3, by simpa using k4, .inr ⟨_, _, _, lg, rfl, k5, .inl ⟨k6, k7⟩⟩⟩
      · cases he
    · rename_i b es1 i n c x
      obtain ⟨a, c', hsv, h1, h2, h3, l, hl, hles, h4, h5, h6⟩ := vrel_slice hs
      split at he
      · rename_i es' els wr ap hb
        split at he
        · rename_i hc
          obtain ⟨rfl, rfl, hle, hbig⟩ := hc
          have helsOf : elsOf h es' (.slice b es' i n c x) = some ((els.drop i).take n) := by
            simp only [elsOf, hb]
            by_cases hn0 : n = 0
            · subst hn0; simp
            · rw [if_neg hn0, if_pos ⟨trivial, trivial, hle⟩]
          have hnl : ((els.drop i).take n).length = n := by simp; omega
          obtain ⟨olds, hor, hall, hof, _⟩ := elsOf_rel (P := P) r hs helsOf
          rw [hnl] at hof
          have hall' : ∀ e' ∈ (els.drop i).take n, e'.length = es' := hall
          split at he
          · rename_i hcx
            cases he
            have hcc := h3 hcx.1
            subst hcc
            have hcap : Builtin.nextslicecap (n + xs.length) c' * P.bytesOf e ≤ 281474976710656 := by
              rcases hbig with hbig | ⟨_, hc0, hbig⟩
              · exact big _ _ (by omega) hbig
              · have h3 : Builtin.nextslicecap (n + xs.length) c' = n + xs.length := by
                  unfold Builtin.nextslicecap
                  rw [hc0, if_pos (by omega)]
                rw [h3]
                exact Nat.le_trans (Nat.mul_le_mul_left _ hby24) hbig
            obtain ⟨c9, w9, σ9, k1, k2, k3, k4, lg, k5, k6, k7⟩ := news h _ olds n c' (some a) hsv r (Ext.refl _ _ _) hnl hor hall' (by omega) hcap hof true
            exact ⟨c9, w9, σ9, k1, k2, k3, k4, .inr ⟨_, _, _, lg, rfl, k5, .inl ⟨k6, k7⟩⟩⟩
          · rename_i hncx
            have hbig : n + xs.length ≤ 4294967296 := by
              rcases hbig with h | ⟨h1, h2, _⟩
              · exact h
              · exact absurd ⟨h1, by omega⟩ hncx
            split at he
            · rename_i hcap
              obtain ⟨rfl, hcw⟩ := hcap
              cases he
              have hweak : Weaker (.row es' els wr true) (if keep = true then .row es' els false false else .dead) := by
                cases keep
                · exact .inl rfl
                · exact .inr ⟨es', els, wr, true, rfl, rfl⟩
              have r1 := r.weaken hl hb hweak
              have x1 := Ext.weaken r hl hb hweak
              by_cases hroom : n + xs.length ≤ c'
              · have had := h6.resolve_left (by omega)
                obtain ⟨hes', hlim, hwa, cs, ty0, fz, hcs, ⟨hsz0, hty0⟩, hel, hfz⟩ := r.blk b l _ hl hb
                have hmul : (i + (n + xs.length)) * es' ≤ l.lim * es' := Nat.mul_le_mul_right _ (by omega)
                have hmul2 : (i + (n + xs.length)) * es' = (i + n) * es' + xs.length * es' := by rw [← Nat.add_mul]; congr 1; omega
                have hin : l.base + (i + n) * es' + xcs.length ≤ cs.size := by rw [← hes'] at hsz0; omega
                have hall2 : xs.flatten.all AV.scalar = true := by
                  simp only [List.all_eq_true] at hscal ⊢
                  intro a ha
                  obtain ⟨e', he', ha'⟩ := List.mem_flatten.1 ha
                  exact hscal e' he' a ha'
                have hst := stores_run (P := P) hcs (l.base + (i + n) * es') xcs hin (fun k k1 k2 => hfz rfl k (by omega) (by omega)) (oneCells hxr hall2)
                have haddr : a.add (n * es') = ⟨l.cb, l.base + (i + n) * es', none⟩ := by rw [had, ← hles, add_at]
                obtain ⟨q1, q2, q3, q4⟩ := setCells_rest xcs (l.base + (i + n) * es') w l.cb
                have hrun := fits (some a) n c' hsv hroom (w.setCells l.cb (l.base + (i + n) * es') xcs) (by simp only [haddr]; exact hst)
                have hb' := (r.dom b l hl)
                have hlive : ∀ (b0 : Nat) (l0 : Loc) (x0 : Blk), σ b0 = some l0 → l0.cb = l.cb → (h.set b (if keep = true then .row es' els false false else .dead))[b0]? = some x0 → x0 = .dead ∨ (wr && !keep) = false ∧ ∃ es0 els0, x0 = .row es0 els0 false false ∧ l0.base + els0.length * es0 ≤ l.base + (i + n) * es' := by
                  intro b0 l0 x0 hl0 hcb0 hx0
                  rw [get_set hb'] at hx0
                  split at hx0
                  · rename_i e0; subst e0
                    cases hx0
                    cases keep
                    · exact .inl rfl
                    · right
                      rw [hl] at hl0; cases hl0
                      refine ⟨by simp, es', els, rfl, ?_⟩
                      rcases hcw with ⟨_, hk⟩ | hk
                      · cases hk
                      · rw [hk]; exact Nat.le_refl _
                  · rename_i e0
                    have hs := r.sep b b0 l l0 _ x0 (Ne.symm e0) hl hl0 hcb0.symm hb hx0
                    cases x0 with
                    | dead => exact .inl rfl
                    | map es0 => exact hs.elim
                    | bld v0 => exact hs.elim
                    | row es0 els0 wr0 ap0 =>
                      right
                      simp only [Beside] at hs
                      obtain ⟨s1, s2, s3⟩ := hs
                      obtain ⟨s4, s5⟩ := s3 trivial
                      subst s1 s2 s4
                      refine ⟨by simp, es0, els0, rfl, ?_⟩
                      rcases hcw with ⟨hk, _⟩ | hk
                      · cases hk
                      · rw [hk]; exact s5
                have hnlay : ∀ p ∈ laid, p.1 ≠ l.cb := fun p hp e => r.lay.no p hp (e ▸ ⟨b, l, hl, rfl, .inl ⟨_, _, _, hb⟩⟩)
                have r2 : Rep σ (h.set b (if keep = true then .row es' els false false else .dead)) (w.setCells l.cb (l.base + (i + n) * es') xcs) :=
                  r1.spare hcs (setCells_heap _ _ _ hcs) (putAt_size _ _ _) (s := l.base + (i + n) * es') (fun k hk => putAt_out _ _ _ _ (.inl hk)) q1 (fun k hk => setCells_other _ _ _ _ _ hk) (by
                    intro b0 l0 es0 els0 wr0 ap0 hl0 hcb0 hx0
                    rcases hlive b0 l0 _ hl0 hcb0 hx0 with h | ⟨_, es1, els1, h, hle1⟩
                    · cases h
                    · cases h; exact hle1) hnlay (by
                    intro b0 l0 v0 hl0 hcb0 hx0
                    rcases hlive b0 l0 _ hl0 hcb0 hx0 with h | ⟨_, es1, els1, h, hle1⟩ <;> cases h)
                have hnone : σ h.length = none := by
                  cases hq : σ h.length with
                  | none => rfl
                  | some m => have := (r.dom _ m hq); omega
                have hlen1 : (h.set b (if keep = true then .row es' els false false else .dead)).length = h.length := by simp
                have hallN : ∀ e' ∈ (els.drop i).take n ++ xs, e'.length = es' := by
                  intro e' he'
                  rcases List.mem_append.1 he' with h | h
                  · exact hall' e' h
                  · exact hxl e' h
                refine ⟨_, _, σ.bind h.length ⟨l.cb, l.base + i * es', es', c', l.ty⟩, hrun, ?_, ?_, ?_, .inr ⟨_, _, _, ⟨l.cb, l.base + i * es', es', c', l.ty⟩, rfl, by simp [Inj.bind], .inr ⟨b, i, n, c, x, l, rfl, hl, rfl, rfl⟩⟩⟩
                · simp only [VRel]
                  exact ⟨trivial, hroom, hroom, by simp, ⟨l.cb, l.base + i * es', es', c', l.ty⟩, by simp [Inj.bind], rfl, by simp, by simp, .inr (by rw [had, hles]; simp)⟩
                · refine (r2.push (.row es' ((els.drop i).take n ++ xs) (wr && !keep) true)).attach (x := .row es' ((els.drop i).take n ++ xs) (wr && !keep) true) hnone (by rw [← hlen1]; simp) (by rw [q1]; exact (show l.cb < w.heap.size from r.cb hl hb (by simp))) ?_ ?_ hnlay
                  · have hmul3 : l.base + i * es' + c' * es' ≤ l.base + l.lim * es' := by
                      have : (i + c') * es' ≤ l.lim * es' := Nat.mul_le_mul_right _ h5
                      rw [Nat.add_mul] at this
                      omega
                    refine ⟨rfl, by simp; omega, fun _ => rfl, putAt cs (l.base + (i + n) * es') xcs, ty0, fz, setCells_heap _ _ _ hcs, ⟨?_, hty0⟩, ?_, ?_⟩
                    · rw [putAt_size]; simp only []; rw [← hes'] at hsz0; omega
                    · intro i' e' he'
                      refine ⟨hallN e' (List.mem_of_getElem? he'), fun j' a' ha' => ?_⟩
                      have hj' : j' < es' := by have := (List.getElem?_eq_some_iff.1 ha').1; rw [hallN e' (List.mem_of_getElem? he')] at this; exact this
                      by_cases hi' : i' < n
                      · rw [List.getElem?_append_left (by omega), List.getElem?_take, if_pos hi', List.getElem?_drop] at he'
                        obtain ⟨c0, hc0, hr0⟩ := (hel _ e' he').2 j' a' ha'
                        refine ⟨c0, ?_, vrel_le (le_bind hnone) _ _ hr0⟩
                        have hm1 : i' * es' + es' ≤ n * es' := by rw [← Nat.succ_mul]; exact Nat.mul_le_mul_right _ hi'
                        have hm2 : (i + i') * es' = i * es' + i' * es' := Nat.add_mul _ _ _
                        have hm3 : (i + n) * es' = i * es' + n * es' := Nat.add_mul _ _ _
                        rw [putAt_out _ _ _ _ (.inl (by simp only []; omega))]
                        rw [← hc0]; congr 1; simp only []; omega
                      · rw [List.getElem?_append_right (by omega), hnl] at he'
                        have hf := flat_get hxl he' ha'
                        obtain ⟨c0, hc0, hr0⟩ := vrels_get hxr hf
                        refine ⟨c0, ?_, vrel_le (le_bind hnone) _ _ hr0⟩
                        have := putAt_in xcs (l.base + (i + n) * es') cs _ c0 hc0 hin
                        rw [← this]; congr 1
                        have hm2 : (i + n) * es' + (i' - n) * es' = i * es' + i' * es' := by rw [← Nat.add_mul, ← Nat.add_mul]; congr 1; omega
                        simp only []; omega
                    · intro _ o ho1 ho2
                      simp only [] at ho1 ho2
                      exact hfz rfl o (by omega) (by omega)
                  · intro b0 l0 x0 hl0 hcb0 hx0
                    have hb0 : b0 < h.length := (r.dom b0 l0 hl0)
                    rw [List.getElem?_append_left (by rw [hlen1]; exact hb0)] at hx0
                    rcases hlive b0 l0 _ hl0 hcb0 hx0 with h | ⟨hwk, es1, els1, h, hle1⟩
                    · subst h; exact ⟨beside_dead, dead_beside⟩
                    · subst h
                      simp only [Beside]
                      refine ⟨⟨hwk, trivial, fun _ => ⟨trivial, ?_⟩⟩, trivial, hwk, by simp⟩
                      have : ((els.drop i).take n ++ xs).length * es' = n * es' + xs.length * es' := by rw [List.length_append, hnl, Nat.add_mul]
                      have hm3 : (i + n) * es' = i * es' + n * es' := Nat.add_mul _ _ _
                      omega
                · refine ⟨by simp, le_bind hnone, ?_, q2, q3, q4, by omega, ?_, ?_⟩
                  · intro b0 hb0 hs0
                    refine ⟨by unfold Inj.bind; rw [if_neg (by omega)]; exact hs0, ?_⟩
                    rw [List.getElem?_append_left (by rw [hlen1]; exact hb0), get_set hb', if_neg]
                    intro e; subst e; rw [hl] at hs0; cases hs0
                  · intro cb _ hn
                    exact setCells_other _ _ _ _ _ (fun e => hn (e ▸ owned_of hl hb))
                  · rintro cb _ ⟨b0, m, hm, rfl, ho⟩
                    by_cases e0 : b0 = h.length
                    · subst e0
                      have : m = ⟨l.cb, l.base + i * es', es', c', l.ty⟩ := by simpa [Inj.bind] using hm.symm
                      subst this
                      show Owned σ h l.cb
                      exact owned_of hl hb
                    · have hm' : σ b0 = some m := by simpa [Inj.bind, e0] using hm
                      have hb0 := (r.dom b0 m hm')
                      rw [List.getElem?_append_left (by rw [hlen1]; exact hb0), get_set hb'] at ho
                      split at ho
                      · rename_i e1; subst e1
                        cases keep
                        · rcases ho with ⟨_, _, _, ho⟩ | ⟨_, ho⟩ | ⟨_, ho⟩ <;> cases ho
                        · rcases ho with ⟨_, _, _, ho⟩ | ⟨_, ho⟩ | ⟨_, ho⟩ <;> cases ho
                      · exact ⟨b0, m, hm', rfl, ho⟩
              · obtain ⟨c9, w9, σ9, k1, k2, k3, k4, lg, k5, k6, k7⟩ := news _ _ olds n c' (some a) hsv r1 x1 hnl hor hall' (by omega) (big _ _ (by omega) hbig) hof (wr && !keep)
                rw [List.length_set] at k2 k5
                exact ⟨c9, w9, σ9, k1, k2, k3, k4, .inr ⟨_, _, _, lg, rfl, k5, .inl ⟨k6, k7⟩⟩⟩
            · cases he
        · cases he
      · cases he
    · cases he

theorem append_run (r : Rep σ h w) {t e : TypeId} (ht : P.underlying t = some (.slice e)) {es : Nat} (hes : P.cellsOf e = es) (h0 : es ≠ 0) (hby : P.bytesOf e ≤ 4096) (hby0 : P.bytesOf e ≠ 0) (hby24 : P.bytesOf e ≤ 24 * es) {z : List AV} (hz : zeroOf P e = some z) (hzl : z.length = es)
    {argTypes : Array TypeId} (ha0 : argTypes[0]? = some t) {xt : TypeId} (ha1 : argTypes[1]? = some xt) {dx : TypeDesc} (hxt : P.underlying xt = some dx) (hdx : (∃ e2, dx = .slice e2) ∨ dx = .string) {ty : TypeId}
    {s : AV} {sv xv : Value} (hs : VRel σ s sv) {xs : List (List AV)} {xcs : List Value} (hxr : VRels σ xs.flatten xcs) (hxl : ∀ e ∈ xs, e.length = es) (hscal : xs.all (fun e => e.all AV.scalar) = true)
    (hfirst : ∀ w' : World, w'.heap = w.heap → (Builtin.firstCells es xs.length xv).run P w' = .ok xcs.toArray w') (hlen : (Builtin.lenOf xv).run P w = .ok xs.length w)
    {keep : Bool} {v : AV} {h' : H} (he : appendEls keep es s xs h = some (v, h')) :
    ∃ c w' σ', (Builtin.append_ argTypes ty #[sv, xv]).run P w = .ok c w' ∧ VRel σ' v c ∧ Rep σ' h' w' ∧ Ext σ h w σ' h' w' := by
  obtain ⟨c, w', σ', k1, k2, k3, k4, _⟩ := append_run5 r ht hes h0 hby hby0 hby24 hz hzl ha0 ha1 hxt hdx (ty := ty) hs hxr hxl hscal hfirst hlen he
  exact ⟨c, w', σ', k1, k2, k3, k4⟩

end
end Go.Eng
