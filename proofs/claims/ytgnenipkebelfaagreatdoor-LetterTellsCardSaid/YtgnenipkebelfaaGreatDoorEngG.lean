/- The engine, part G: operations that write memory. -/
import Derived.Test.YtgnenipkebelfaaGreatDoorEngF
set_option linter.unusedVariables false
set_option linter.unusedSimpArgs false
namespace Go.Eng
open Go

/-- Nothing else that lives may lie at its place. -/
def Blk.excl : Blk → Prop
  | .row _ _ wr _ => wr = true
  | .map _ => True
  | .bld _ => True
  | .dead => False

theorem beside_excl {x y : Blk} {l l' : Loc} (hx : x.excl) (h : Beside x l y l') : y = .dead := by
  cases x <;> cases y <;> simp_all [Blk.excl, Beside]
theorem beside_excl' {x y : Blk} {l l' : Loc} (hx : x.excl) (h : Beside y l' x l) : y = .dead := by
  cases x <;> cases y <;> simp_all [Blk.excl, Beside]
theorem beside_dead {x : Blk} {l l' : Loc} : Beside x l .dead l' := by cases x <;> trivial
theorem dead_beside {x : Blk} {l l' : Loc} : Beside .dead l x l' := trivial

theorem get_set {h : H} {b c : Nat} {x : Blk} (hb : b < h.length) : (h.set b x)[c]? = if c = b then some x else h[c]? := by
  rw [List.getElem?_set]
  by_cases e : b = c
  · subst e; simp [hb]
  · rw [if_neg e, if_neg (Ne.symm e)]

theorem own_excl {σ : Inj} {h : H} {w : World} {b : Nat} {l : Loc} {x : Blk} (hl : σ b = some l) (hx : h[b]? = some x) (he : x.excl) (hb : BlkRel σ w l x) : Owned σ h l.cb := by
  cases x with
  | dead => exact he.elim
  | row es els wr ap =>
    have hw : wr = true := by simpa [Blk.excl] using he
    have ha : ap = true := hb.2.2.1 hw
    subst ha
    exact ⟨b, l, hl, rfl, .inl ⟨_, _, _, hx⟩⟩
  | map es => exact ⟨b, l, hl, rfl, .inr (.inl ⟨_, hx⟩)⟩
  | bld v => exact ⟨b, l, hl, rfl, .inr (.inr ⟨_, hx⟩)⟩
/-- A block alone at its place is written. -/
theorem Rep.upd {σ : Inj} {h : H} {w w' : World} (r : Rep σ h w) {b : Nat} {l : Loc} {x x' : Blk} (hl : σ b = some l) (hx : h[b]? = some x) (he : x.excl)
    (hsz : w'.heap.size = w.heap.size) (hoth : ∀ k, k ≠ l.cb → w'.heap[k]? = w.heap[k]?) (hnew : BlkRel σ w' l x') : Rep σ (h.set b x') w' := by
  have hb := (r.dom b l hl)
  have hown : Owned σ h l.cb := own_excl hl hx he (r.blk b l x hl hx)
  refine ⟨fun c m hc => by rw [List.length_set]; exact r.dom c m hc, ?_, ?_, ⟨r.lay.is_.of (fun p hp _ => hoth _ (fun e => r.lay.no p hp (e ▸ hown))), fun p hp ho => ?_⟩⟩
  rotate_left 2
  · obtain ⟨c, m, hc, e, ho⟩ := ho
    by_cases ecb : c = b
    · subst ecb
      rw [hl] at hc; cases hc
      exact r.lay.no p hp (e ▸ hown)
    · rw [get_set hb, if_neg ecb] at ho
      exact r.lay.no p hp ⟨c, m, hc, e, ho⟩
  · intro c m y hc hy
    rw [get_set hb] at hy
    split at hy
    · rename_i e; subst e; cases hy
      rw [hl] at hc; cases hc
      exact hnew
    · rename_i e
      by_cases hcb : m.cb = l.cb
      · have hs := r.sep c b m l y x e hc hl hcb hy hx
        rw [beside_excl' he hs]
        trivial
      · exact blk_world (hoth _ hcb) (r.blk c m y hc hy)
  · intro c c' m m' y y' hne hc hc' hcb hy hy'
    rw [get_set hb] at hy hy'
    split at hy
    · rename_i e; subst e
      rw [hl] at hc; cases hc
      rw [if_neg (Ne.symm hne)] at hy'
      rw [beside_excl he (r.sep c c' l m' x y' hne hl hc' hcb hx hy')]
      exact beside_dead
    · rename_i e
      split at hy'
      · rename_i e'; subst e'
        rw [hl] at hc'; cases hc'
        rw [beside_excl' he (r.sep c c' m l y x hne hc hl hcb hy hx)]
        exact dead_beside
      · exact r.sep c c' m m' y y' hne hc hc' hcb hy hy'

theorem Ext.upd {σ : Inj} {h : H} {w w' : World} (r : Rep σ h w) {b : Nat} {l : Loc} {x x' : Blk} (hl : σ b = some l) (hx : h[b]? = some x) (ho : Owned σ h l.cb)
    (hsz : w'.heap.size = w.heap.size) (hoth : ∀ k, k ≠ l.cb → w'.heap[k]? = w.heap[k]?) (ht : w'.tape = w.tape) (hos : w'.os = w.os) (hout : w'.output = w.output) : Ext σ h w σ (h.set b x') w' := by
  have hb := (r.dom b l hl)
  refine ⟨by simp, fun _ _ h => h, ?_, ht, hos, hout, by omega, ?_, ?_⟩
  · intro c hc hs
    refine ⟨hs, ?_⟩
    rw [get_set hb, if_neg]
    intro e; subst e; rw [hl] at hs; cases hs
  · intro cb _ hn
    exact hoth cb fun e => hn (e ▸ ho)
  · rintro cb _ ⟨c, m, hc, rfl, ho'⟩
    by_cases e : c = b
    · subst e
      rw [hl] at hc; cases hc
      exact ho
    · rw [get_set hb, if_neg e] at ho'
      exact ⟨c, m, hc, rfl, ho'⟩

theorem owned_of {σ : Inj} {h : H} {b : Nat} {l : Loc} (hl : σ b = some l) {es : Nat} {els : List (List AV)} {wr : Bool} (hx : h[b]? = some (.row es els wr true)) : Owned σ h l.cb := ⟨b, l, hl, rfl, .inl ⟨es, els, wr, hx⟩⟩
theorem owned_map {σ : Inj} {h : H} {b : Nat} {l : Loc} (hl : σ b = some l) {es : List (AV × AV)} (hx : h[b]? = some (.map es)) : Owned σ h l.cb := ⟨b, l, hl, rfl, .inr (.inl ⟨es, hx⟩)⟩
theorem owned_bld {σ : Inj} {h : H} {b : Nat} {l : Loc} (hl : σ b = some l) {v : AV} (hx : h[b]? = some (.bld v)) : Owned σ h l.cb := ⟨b, l, hl, rfl, .inr (.inr ⟨v, hx⟩)⟩

/-! ### Many cells at once -/
def putAt : Array Value → Nat → List Value → Array Value
  | cs, _, [] => cs
  | cs, o, v :: vs => putAt (cs.setIfInBounds o v) (o + 1) vs

theorem putAt_size : ∀ (vs : List Value) (o : Nat) (cs : Array Value), (putAt cs o vs).size = cs.size
  | [], _, _ => rfl
  | v :: vs, o, cs => by rw [putAt, putAt_size]; simp

theorem putAt_out : ∀ (vs : List Value) (o : Nat) (cs : Array Value) (k : Nat), k < o ∨ o + vs.length ≤ k → (putAt cs o vs)[k]? = cs[k]?
  | [], _, _, _, _ => rfl
  | v :: vs, o, cs, k, h => by
    rw [putAt, putAt_out vs (o + 1) _ k (by simp at h; omega), Array.getElem?_setIfInBounds, if_neg (by simp at h; omega)]

theorem putAt_in : ∀ (vs : List Value) (o : Nat) (cs : Array Value) (j : Nat) (v : Value), vs[j]? = some v → o + vs.length ≤ cs.size → (putAt cs o vs)[o + j]? = some v
  | [], _, _, _, _, h, _ => by simp at h
  | x :: vs, o, cs, 0, v, h, hs => by
    simp at h; subst h
    rw [putAt, putAt_out _ _ _ _ (.inl (by omega)), Array.getElem?_setIfInBounds, if_pos (by omega), if_pos (by simp at hs; omega)]
  | x :: vs, o, cs, j + 1, v, h, hs => by
    rw [putAt, show o + (j + 1) = o + 1 + j by omega]
    exact putAt_in vs (o + 1) _ j v (by simpa using h) (by simp at hs ⊢; omega)

theorem setCell_heap (w : World) (g o : Nat) (v : Value) {cs : Array Value} {ty : TypeId} {fz : Nat × Nat} (h : w.heap[g]? = some (.cells cs ty fz)) :
    (w.setCell ⟨g, o, none⟩ v).heap[g]? = some (.cells (cs.setIfInBounds o v) ty fz) := by
  simp [World.setCell, Array.getElem?_modify, h]

theorem setCells_heap : ∀ (vs : List Value) (o : Nat) (w : World) {g : Nat} {cs : Array Value} {ty : TypeId} {fz : Nat × Nat}, w.heap[g]? = some (.cells cs ty fz) → (w.setCells g o vs).heap[g]? = some (.cells (putAt cs o vs) ty fz)
  | [], _, _, _, _, _, _, h => h
  | v :: vs, o, w, g, cs, ty, fz, h => setCells_heap vs (o + 1) _ (setCell_heap w g o v h)

theorem setCells_other : ∀ (vs : List Value) (o : Nat) (w : World) (g k : Nat), k ≠ g → (w.setCells g o vs).heap[k]? = w.heap[k]?
  | [], _, _, _, _, _ => rfl
  | v :: vs, o, w, g, k, h => by
    rw [World.setCells, setCells_other vs (o + 1) _ g k h]
    simp [World.setCell, Array.getElem?_modify, Ne.symm h]

theorem setCells_rest : ∀ (vs : List Value) (o : Nat) (w : World) (g : Nat), (w.setCells g o vs).heap.size = w.heap.size ∧ (w.setCells g o vs).tape = w.tape ∧ (w.setCells g o vs).os = w.os ∧ (w.setCells g o vs).output = w.output
  | [], _, _, _ => ⟨rfl, rfl, rfl, rfl⟩
  | v :: vs, o, w, g => by
    have := setCells_rest vs (o + 1) (w.setCell ⟨g, o, none⟩ v) g
    refine ⟨this.1.trans ?_, this.2.1, this.2.2.1, this.2.2.2⟩
    simp [World.setCell]

section
variable {P : Program} {σ : Inj} {h : H} {w : World} {ρ : Operand → Value}

/-- Stores of many cells into a row that may be written there. -/
theorem stores_run {g : Nat} {cs : Array Value} {ty : TypeId} {fz : Nat × Nat} (hg : w.heap[g]? = some (.cells cs ty fz)) (o : Nat) (vs : List Value) (hsz : o + vs.length ≤ cs.size) (hfz : ∀ k, o ≤ k → k < o + vs.length → ¬ (fz.1 ≤ k ∧ k < fz.2)) (h1 : ∀ v ∈ vs, v.oneCell' = true) :
    (storeCells ⟨g, o, none⟩ vs).run P w = .ok () (w.setCells g o vs) := by
  have := run_storeCells_cells (P := P) g o vs 0 w (fun j hj => by
    have : (cs[o + j]?).isSome = true := by rw [Array.getElem?_eq_getElem (by omega)]; rfl
    simpa [World.cell?, hg] using this) (fun j hj => by
    have := hfz (o + j) (by omega) (by omega)
    simp only [World.frozen?, hg, Nat.add_zero]
    simp only [Bool.and_eq_false_iff, decide_eq_false_iff_not]
    omega) h1
  simpa using this

theorem oneCells : ∀ {l : List AV} {cs : List Value}, VRels σ l cs → l.all AV.scalar = true → ∀ v ∈ cs, v.oneCell' = true
  | [], cs, h, _, v, hv => by rw [vrels_nil h] at hv; cases hv
  | a :: l, cs, h, hs, v, hv => by
    obtain ⟨c, cs', rfl, ha, hl⟩ := vrels_cons h
    simp only [List.all_cons, Bool.and_eq_true] at hs
    rcases List.mem_cons.1 hv with e | e
    · subst e; exact scalar_oneCell ha hs.1
    · exact oneCells hl hs.2 v e

theorem putCells_get : ∀ (cs e : List AV) (j k : Nat), j + cs.length ≤ e.length → (putCells e j cs)[k]? = if j ≤ k ∧ k < j + cs.length then cs[k - j]? else e[k]?
  | [], e, j, k, _ => by simp only [putCells, List.length_nil, Nat.add_zero]; rw [if_neg (by omega)]
  | c :: cs, e, j, k, h => by
    simp only [List.length_cons] at h ⊢
    rw [putCells, putCells_get cs (e.set j c) (j + 1) k (by simp; omega)]
    by_cases hk : k = j
    · subst hk
      rw [if_neg (by omega), if_pos (by omega), Nat.sub_self, List.getElem?_set]
      simp; omega
    · by_cases h2 : j + 1 ≤ k ∧ k < j + 1 + cs.length
      · rw [if_pos h2, if_pos (by omega), show k - j = (k - (j + 1)) + 1 by omega, List.getElem?_cons_succ]
      · rw [if_neg h2, if_neg (by omega), List.getElem?_set, if_neg (Ne.symm hk)]

/-- A row whose cells from one place on are written. -/
theorem row_put {l : Loc} {es : Nat} {els els' : List (List AV)} {wr ap : Bool} (hold : BlkRel σ w l (.row es els wr ap)) (hap : ap = true) (o : Nat) (ds : List AV) (vs : List Value) (hv : VRels σ ds vs)
    (hin : o + vs.length ≤ l.lim * es) (hlen : els'.length ≤ l.lim) (hel : ∀ e ∈ els', e.length = es)
    (hget : ∀ (i j : Nat) (e : List AV) (a : AV), els'[i]? = some e → e[j]? = some a → (o ≤ i * es + j ∧ i * es + j < o + ds.length ∧ ds[i * es + j - o]? = some a) ∨ ((i * es + j < o ∨ o + ds.length ≤ i * es + j) ∧ ∃ e0, els[i]? = some e0 ∧ e0[j]? = some a)) :
    BlkRel σ (w.setCells l.cb (l.base + o) vs) l (.row es els' wr ap) := by
  obtain ⟨rfl, h2, h3, cs, ty, fz, h4, h5, h6, h7⟩ := hold
  have hvl := vrels_len hv
  refine ⟨rfl, hlen, h3, putAt cs (l.base + o) vs, ty, fz, setCells_heap _ _ _ h4, ⟨by rw [putAt_size]; exact h5.1, h5.2⟩, fun i e he => ⟨hel e (List.mem_of_getElem? he), fun j a ha => ?_⟩, h7⟩
  rcases hget i j e a he ha with ⟨k1, k2, k3⟩ | ⟨k1, e0, k2, k3⟩
  · obtain ⟨c, hc, hr⟩ := vrels_get hv k3
    have := putAt_in vs (l.base + o) cs _ c hc (by omega)
    rw [show l.base + o + (i * l.es + j - o) = l.base + i * l.es + j by omega] at this
    exact ⟨c, this, hr⟩
  · obtain ⟨c, hc, hr⟩ := (h6 i e0 k2).2 j a k3
    refine ⟨c, ?_, hr⟩
    rw [putAt_out _ _ _ _ (by omega)]
    exact hc

/-- What is to be shown of a heavy operation. -/
def Works (P : Program) (σ : Inj) (h : H) (ρ : Operand → Value) (w : World) (o : Op) (v : AV) (h' : H) : Prop :=
  ∀ (dst : Option Tmp) (ty : TypeId) (pos : String) (after : Array Edge) (gd : Option (Nat × Bool)), ∃ c w' σ', ((execOp ρ ⟨dst, o, ty, pos, after, gd⟩).run P w = .ok (.value c) w' ∨ ((execOp ρ ⟨dst, o, ty, pos, after, gd⟩).run P w = .ok .skip w' ∧ c = undef)) ∧
    VRel σ' v c ∧ Rep σ' h' w' ∧ Ext σ h w σ' h' w'

theorem works_store (r : Rep σ h w) {t : TypeId} (hz : P.cellsOf t ≠ 0) {x y : Operand} {vs : List AV} {v : AV} {h' : H} (hv : VRels σ vs ([x, y].map ρ)) (he : evalHeap (.store (P.cellsOf t)) vs h = some (v, h')) : Works P σ h ρ w (.store t x y) v h' := by
  obtain ⟨p, q, rfl, hp, hq⟩ := map2 hv
  simp only [evalHeap] at he
  split at he
  · rename_i ds hds
    split at he
    · rename_i hlen
      simp only [Option.map_eq_some_iff, Prod.mk.injEq] at he
      obtain ⟨h1, hst, rfl, rfl⟩ := he
      cases p with
      | ptr b i j =>
        simp only [st] at hst
        split at hst
        · rename_i es els ap hb
          split at hst
          · rename_i e hei
            split at hst
            · rename_i hc
              cases hst
              obtain ⟨l, hl, hx⟩ := vrel_ptr hp
              have hold := r.blk b l _ hl hb
              obtain ⟨hes, h2, h3, cs, ty, fz, h4, ⟨h5, _⟩, h6, h7⟩ := id hold
              have hap : ap = true := h3 rfl
              obtain ⟨hel, _⟩ := h6 i e hei
              have hi : i < els.length := (List.getElem?_eq_some_iff.1 hei).1
              have hcr := cells_rel hq hds
              have hcl := vrels_len hcr
              obtain ⟨ti, hti, hsz⟩ := size_of hz
              have hmul : i * es + es ≤ l.lim * es := by rw [← Nat.succ_mul]; exact Nat.mul_le_mul_right _ (by omega)
              have hin : i * es + j + (ρ y).cells.toList.length ≤ l.lim * es := by omega
              have hrun : (storeCells (⟨l.cb, l.base + (i * es + j), none⟩ : Addr) (ρ y).cells.toList).run P w = .ok () (w.setCells l.cb (l.base + (i * es + j)) (ρ y).cells.toList) :=
                stores_run h4 _ _ (by rw [← hes] at h5; omega) (fun k k1 k2 => h7 hap k (by omega) (by omega)) (oneCells hcr hc.2)
              have hcells : (ρ y).cells.size = P.cellsOf t := by rw [← hlen]; exact hcl.symm
              obtain ⟨r1, r2, r3, r4⟩ := setCells_rest (ρ y).cells.toList (l.base + (i * es + j)) w l.cb
              have hget : ∀ (i' j' : Nat) (e' : List AV) (a : AV), (els.set i (putCells e j ds))[i']? = some e' → e'[j']? = some a →
                  (i * es + j ≤ i' * es + j' ∧ i' * es + j' < i * es + j + ds.length ∧ ds[i' * es + j' - (i * es + j)]? = some a) ∨ ((i' * es + j' < i * es + j ∨ i * es + j + ds.length ≤ i' * es + j') ∧ ∃ e0, els[i']? = some e0 ∧ e0[j']? = some a) := by
                intro i' j' e' a he' ha
                rw [List.getElem?_set] at he'
                split at he'
                · rename_i hii
                  subst hii
                  simp only [hi, if_true, Option.some.injEq] at he'
                  subst he'
                  rw [putCells_get _ _ _ _ hc.1] at ha
                  split at ha
                  · rename_i hjj
                    left
                    exact ⟨by omega, by omega, by rw [show i * es + j' - (i * es + j) = j' - j by omega]; exact ha⟩
                  · right
                    exact ⟨by omega, e, hei, ha⟩
                · rename_i hii
                  right
                  have hj' : j' < es := by have := (List.getElem?_eq_some_iff.1 ha).1; rw [(h6 i' e' he').1] at this; exact this
                  have hne : i' ≠ i := Ne.symm hii
                  refine ⟨?_, e', he', ha⟩
                  rcases Nat.lt_or_gt_of_ne hne with hlt | hgt
                  · left
                    have : i' * es + es ≤ i * es := by rw [← Nat.succ_mul]; exact Nat.mul_le_mul_right _ (by omega)
                    omega
                  · right
                    have : i * es + es ≤ i' * es := by rw [← Nat.succ_mul]; exact Nat.mul_le_mul_right _ (by omega)
                    omega
              have hnew := row_put hold hap (i * es + j) ds (ρ y).cells.toList hcr hin (els' := els.set i (putCells e j ds)) (by simpa using h2) (by
                intro e' he'
                rcases List.mem_or_eq_of_mem_set he' with hm | hm
                · obtain ⟨k, hk⟩ := List.getElem?_of_mem hm
                  exact (h6 k e' hk).1
                · subst hm; rw [putCells_length]; exact hel) hget
              intro _ _ _ _ _
              refine ⟨undef, w.setCells l.cb (l.base + (i * es + j)) (ρ y).cells.toList, σ, .inr ⟨?_, rfl⟩, by simp [VRel, VRels, undef], r.upd hl hb rfl r1 (fun k hk => setCells_other _ _ _ _ _ hk) hnew, Ext.upd r hl hb (owned_of hl (hap ▸ hb)) r1 (fun k hk => setCells_other _ _ _ _ _ hk) r2 r3 r4⟩
              have haddr : (⟨l.cb, l.base + i * l.es + j, none⟩ : Addr) = ⟨l.cb, l.base + (i * es + j), none⟩ := by rw [hes]; simp [Nat.add_assoc]
              simp [execOp, hx, Instr.storeAt, Instr.sureAddr, storeVar, sizeOf, typeInfo, hti, hsz, hcells, haddr, hrun]
            · cases hst
          · cases hst
        · cases hst
      | _ => simp [st] at hst
    · cases he
  · cases he

end
end Go.Eng
