/- Guest and the document's guest, side by side: the other half; both, and the book. -/
import Derived.Test.YtolnmgekneoaaaaGpD
set_option maxRecDepth 100000
set_option linter.unusedVariables false
set_option linter.unusedSimpArgs false
namespace Go.Proofs.Ytolnmgekneoaaaa.Gp
open Go Go.Eng F Bk BkI Gu

section
variable {k : H} {tg : Nat → Nat} {r t : Nat} {s q : Gs} {X Y : List It}
theorem ltr_eq {s q : Gs} (h1 : q.me = s.me) (h2 : q.at_ = s.at_) (h3 : q.id = s.id) (h4 : q.a = s.a) : q.ltr = s.ltr := by simp [Gs.ltr, h1, h2, h3, h4]
theorem mine_iff (S : Sim s X q Y) (i : Inv s) (x : Lt) : mine q x = !(!s.on || decide (0 < s.waits) || (x.kind != 2) || (x.id != s.id) || (x.frm != s.at_)) := by
  unfold mine
  rw [S.on, S.id, S.at_]
  cases h : s.on
  · simp
  · have hw := i.waits
    rw [S.waits h]
    by_cases h0 : s.waits = 0
    · simp [h0, bne]
    · have : 0 < s.waits := by omega
      simp [h0, this, bne]
theorem r_tick (R : RH k tg r s X) : Yld (call Gb.fs3 Gb.ex3 20 [.ptr r 0 0] k) (Rev k tg r (tickS s X)) := by
  obtain ⟨q, it, Y, h1, h2, h3, S⟩ := R.get
  have hgl := (List.getElem?_eq_some_iff.1 h1).1
  have cs : ∀ y : Blk, Chg k (k.set r y) [r] := fun y => (Chg.refl _ _).set (.inl (by simp))
  have gn : r ∉ foot0 it := fun hm => by have := h3 r hm; rw [R.tgr] at this; omega
  have rs : ∀ y : Blk, RdS (k.set r y) 2 it (its Y) := fun y => h2.keep0 (cs y) (fun z hz => by simp only [List.mem_singleton]; rintro rfl; exact gn hz)
  rw [rtick_eq h1, S.on, S.old]
  unfold tickS
  split
  · exact yld_some.2 (rev_mk R.tgr hgl (Chg.refl _ _) h1 h2 (fun z hz _ => h3 z hz) S (.inl ⟨rfl, rfl⟩))
  · rename_i hon
    have hon : s.on = true := by simpa using hon
    have hw := S.waits hon
    rw [hw, S.id]
    split
    · exact yld_some.2 (rev_mk R.tgr hgl (cs _).more (get_app (get_set_same h1)) (nil_rds _) (nil_foot (tg := tg)) ⟨S.me, S.nodes, S.id, S.tried, S.a, S.at_, by simp only [rend, gend, gold, S.old], rfl, rfl, fun h => by simp [gend] at h, fun _ => ⟨rfl, rfl⟩⟩ (.inl ⟨rfl, rfl⟩))
    · split
      · exact yld_some.2 (rev_mk R.tgr hgl (cs _) (get_set_same h1) (rs _) (fun z hz _ => h3 z hz) ⟨S.me, S.nodes, S.id, S.tried, S.a, S.at_, by simp only [gold, S.old], S.on, S.over, S.waits, S.told⟩ (.inl ⟨rfl, rfl⟩))
      · split
        · exact yld_some.2 (rev_mk R.tgr hgl (cs _) (get_set_same h1) (rs _) (fun z hz _ => h3 z hz) ⟨S.me, S.nodes, S.id, S.tried, S.a, S.at_, by simp only [gold, S.old], S.on, S.over, fun _ => rfl, S.told⟩ (.inl ⟨rfl, rfl⟩))
        · exact yld_some.2 (rev_mk R.tgr hgl (cs _).more (get_app (get_set_same h1)) (rds_app (rs _)) (fun z hz _ => h3 z hz) ⟨S.me, S.nodes, rfl, S.tried, S.a, S.at_, by simp only [gold, S.old], S.on, S.over, fun _ => rfl, S.told⟩ (.inr ⟨rfl, _, rfl, by
            simp [Gs.ltr, gold, S.me, S.at_, S.a], Nat.le_refl _⟩))
theorem r_start (R : RH k tg r s X) (a : As) (x : Int) :
    Yld (call Gb.fs3 Gb.ex3 17 [.ptr r 0 0, .agg (aav a), .int .i64 x] k) fun p => ∃ y k' tg', p = (y, k') ∧ Stp (fun t => t = 8) k k' tg tg' ∧ RH k' tg' r (gstart s a x) [] ∧ LoT k' tg' 6 y (gstart s a x) true := by
  obtain ⟨q, it, Y, h1, h2, h3, S⟩ := R.get
  have hgl := (List.getElem?_eq_some_iff.1 h1).1
  have cs : ∀ y : Blk, Chg k (k.set r y) [r] := fun y => (Chg.refl _ _).set (.inl (by simp))
  have gn : r ∉ foot0 it := fun hm => by have := h3 r hm; rw [R.tgr] at this; omega
  have rs : ∀ y : Blk, RdS (k.set r y) 2 it (its Y) := fun y => h2.keep0 (cs y) (fun z hz => by simp only [List.mem_singleton]; rintro rfl; exact gn hz)
  have hid := S.id
  rw [begin_eq h1]
  have := rev_mk (k := k) (tg := tg) (k' := k.set r (.row 20 [rav (rstart q a x) it] true true) ++ [.row 5 [aav a] true true, .row 21 [(rstart q a x).ltr] true true]) (s' := gstart s a x) (q := rstart q a x) (x := .slice (k.length + 1) 21 0 1 1 true) (X' := []) (o := true) (v := true) R.tgr hgl (cs _).more (get_app (get_set_same h1)) (rds_app (rs _)) (fun z hz _ => h3 z hz)
    ⟨S.me, S.nodes, by simp only [rstart, gstart, hid], rfl, rfl, rfl, rfl, rfl, rfl, fun _ => rfl, fun h => by simp [gstart] at h⟩ (.inr ⟨rfl, _, rfl, by
      rw [show (rstart q a x).ltr = (gstart s a x).ltr from ltr_eq S.me rfl (by simp only [rstart, gstart, hid]) rfl]
      simp, by omega⟩)
  obtain ⟨x', k', tg', e, a1, a2, a3⟩ := this
  cases e
  exact yld_some.2 ⟨_, _, _, rfl, a1, a2, a3⟩
theorem r_got (R : RH k tg r s X) (i : Inv s) (x : Lt) {w w2 : AV} {W : List It} (hw : RdS k 2 w (its W)) (hwf : ∀ z ∈ foot0 w, tg z = 6) (hw2 : w2.cells = some [w2] ∧ w2.scalar = true ∧ AV.same w2 w2 = true) : Yld (call Gb.fs3 Gb.ex3 21 [.ptr r 0 0, .agg (lav x w w2)] k) (Rev k tg r (gotS s X x W)) := by
  obtain ⟨q, it, Y, h1, h2, h3, S⟩ := R.get
  have hgl := (List.getElem?_eq_some_iff.1 h1).1
  have cs : ∀ y : Blk, Chg k (k.set r y) [r] := fun y => (Chg.refl _ _).set (.inl (by simp))
  have gn : r ∉ foot0 it := fun hm => by have := h3 r hm; rw [R.tgr] at this; omega
  have wn : r ∉ foot0 w := fun hm => by have := hwf r hm; rw [R.tgr] at this; omega
  have rs : ∀ y : Blk, RdS (k.set r y) 2 it (its Y) := fun y => h2.keep0 (cs y) (fun z hz => by simp only [List.mem_singleton]; rintro rfl; exact gn hz)
  have ws : ∀ y : Blk, RdS (k.set r y) 2 w (its W) := fun y => hw.keep0 (cs y) (fun z hz => by simp only [List.mem_singleton]; rintro rfl; exact wn hz)
  have cw := hw.cells
  have hm := mine_iff S i x
  have htr := S.tried
  have hno := S.nodes
  have hat := S.at_
  have hid := S.id
  unfold gotS
  split
  · rename_i h
    rw [h] at hm
    obtain ⟨z, e⟩ := rgot_no h1 x cw hw2 hm
    rw [e]
    exact yld_some.2 (rev_mk R.tgr hgl (Chg.app _ _ _) (get_app h1) (rds_app h2) (fun z hz _ => h3 z hz) S (.inl ⟨rfl, rfl⟩))
  · rename_i hc
    have hc := Bool.not_eq_true _ ▸ hc
    rw [hc] at hm
    split
    · rename_i h
      obtain ⟨z, e⟩ := rgot_end h1 x cw hw2 hm h
      rw [e]
      exact yld_some.2 (rev_mk R.tgr hgl (cs _).more (get_app (get_set_same h1)) (rds_app (ws _)) (fun z hz _ => hwf z hz) ⟨S.me, S.nodes, S.id, S.tried, S.a, S.at_, S.old, rfl, rfl, fun h => by simp [gend] at h, fun _ => ⟨rfl, rfl⟩⟩ (.inl ⟨rfl, rfl⟩))
    · rename_i h
      have h := Bool.not_eq_true _ ▸ h
      split
      · rename_i h8
        obtain ⟨z, e⟩ := rgot_tmo h1 x cw hw2 hm h (by rw [htr]; exact h8)
        rw [e]
        exact yld_some.2 (rev_mk R.tgr hgl (cs _).more (get_app (get_set_same h1)) (nil_rds _) (nil_foot (tg := tg)) ⟨S.me, S.nodes, S.id, S.tried, S.a, S.at_, S.old, rfl, rfl, fun h => by simp [gend] at h, fun _ => ⟨rfl, rfl⟩⟩ (.inl ⟨rfl, rfl⟩))
      · rename_i h8
        have h8 := Bool.not_eq_true _ ▸ h8
        split
        · rename_i h7
          obtain ⟨z, e⟩ := rgot_busy h1 x cw hw2 hm (by rw [htr]; exact h8) h7
          rw [e]
          exact yld_some.2 (rev_mk R.tgr hgl (cs _).more (get_app (get_set_same h1)) (rds_app (rs _)) (fun z hz _ => h3 z hz) ⟨S.me, S.nodes, S.id, by simp only [gbusy, htr], S.a, S.at_, S.old, S.on, S.over, fun _ => rfl, S.told⟩ (.inl ⟨rfl, rfl⟩))
        · rename_i h7
          have b7 : (x.t.errno != 7) = true := bne_true h7
          have h6 : x.t.errno = 8 := by simpa [b7] using h
          obtain ⟨z, hz, e⟩ := rgot_else h1 (by rw [hno]; exact i.nodes) x cw hw2 hm (by rw [htr]; exact h8) h7 h6
          rw [e]
          have hon : s.on = true := by
            cases h : s.on
            · simp [h] at hc
            · rfl
          have hwt : s.waits = 0 := by
            have := i.waits
            by_cases h0 : 0 < s.waits
            · simp [h0] at hc
            · omega
          have hlt : (rmove q x.t.node).ltr = (gmove s x.t.node).ltr := ltr_eq S.me (by simp only [rmove, gmove, hno, hat]) (by simp only [rmove, gmove, hid]) S.a
          exact yld_some.2 (rev_mk R.tgr hgl (cs _).more (get_app (get_set_same h1)) (rds_app (rs _)) (fun z hz _ => h3 z hz) ⟨S.me, S.nodes, by simp only [rmove, gmove, hid], by simp only [rmove, gmove, htr], S.a, by simp only [rmove, gmove, hno, hat], S.old, S.on, S.over, fun _ => hwt.symm, S.told⟩ (.inr ⟨rfl, _, rfl, by
            rw [hlt, ← List.append_assoc, List.getElem?_append_right (by simp [hz])]
            simp [hz], by omega⟩))
end
def ltrOf (s : Gs) : BkL.Ltr := ⟨1, s.me, s.at_, s.id, s.a.op, s.a.key, s.a.value, s.a.to, s.a.most, 0, [], [], false, [], 0, 0, 0, 0, [], 0, 0⟩
theorem ltr_rep (k : H) (s : Gs) : BkL.RepL k s.ltr (ltrOf s) := ⟨.nilslice, .nilslice, rfl, .inl ⟨rfl, rfl⟩, .inl ⟨rfl, rfl⟩⟩
theorem LoT.own {k : H} {tg : Nat → Nat} {t : Nat} {x : AV} {s : Gs} {o : Bool} (l : LoT k tg t x s o) : OwnE k 21 x (if o = true then [s.ltr] else []) ∧ ∀ c ∈ foot x, tg c = t := by
  cases o
  · unfold LoT at l
    subst l
    exact ⟨.inl ⟨rfl, rfl⟩, by simp [foot]⟩
  · obtain ⟨b, rfl, h2, h3⟩ := l
    exact ⟨.inr ⟨b, 1, true, rfl, h2, by simp⟩, by simp [foot, h3]⟩
theorem ltr_reps (k : H) (s : Gs) (o : Bool) : BkL.Reps k (if o = true then [s.ltr] else []) (if o = true then [ltrOf s] else []) := by
  cases o
  · exact BkL.reps_nil _
  · exact (BkL.reps_nil k).snoc (ltr_rep k s)
theorem ltr_small (s : Gs) (o : Bool) : ∀ x ∈ (if o = true then [ltrOf s] else []), x.small := by
  cases o
  · simp
  · intro x hx
    simp at hx
    subst hx
    exact ⟨by simp [ltrOf], by simp [ltrOf]⟩
structure St (k : H) (tg : Nat → Nat) (hK : Nat → Blk → Prop) (g r bk : Nat) (s : Gs) (X : List It) : Prop where
  gh : GH k tg g s X
  rh : RH k tg r s X
  bk : ∃ ni nl, Book k tg bk ni nl
  inv : Inv s
  keep : ∀ c x, hK c x → k[c]? = some x ∧ tg c = 6
theorem keep_stp {T : Nat → Prop} {k k' : H} {tg tg' : Nat → Nat} {hK : Nat → Blk → Prop} (h : ∀ c x, hK c x → k[c]? = some x ∧ tg c = 6) (s : Stp T k k' tg tg') (h6 : ¬ T 6) : ∀ c x, hK c x → k'[c]? = some x ∧ tg' c = 6 := fun c x hx => by
  obtain ⟨h1, h2⟩ := h c x hx
  exact ⟨s.keep c x h1 (by rw [h2]; exact h6), (s.old c (List.getElem?_eq_some_iff.1 h1).1).trans h2⟩
/-- The heap grows. -/
theorem St.grow {k : H} {tg : Nat → Nat} {hK : Nat → Blk → Prop} {g r bk : Nat} {s : Gs} {X : List It} (S : St k tg hK g r bk s X) (l : H) : ∃ tg', St (k ++ l) tg' (fun c x => hK c x ∨ ∃ i, c = k.length + i ∧ l[i]? = some x) g r bk s X ∧ Stp (fun _ => False) k (k ++ l) tg tg' := by
  have st := stpNew (T := fun _ => False) (Chg.app k l []) tg (fun _ => 6) (by simp)
  refine ⟨_, ⟨S.gh.stp st id id, S.rh.stp st id id, ?_, S.inv, ?_⟩, st⟩
  · obtain ⟨ni, nl, b⟩ := S.bk
    exact ⟨ni, nl, b.stp st (fun _ h => h.elim)⟩
  · rintro c x (h | ⟨i, rfl, h⟩)
    · exact keep_stp S.keep st id c x h
    · refine ⟨by rw [List.getElem?_append_right (by omega)]; simpa using h, ?_⟩
      have : ¬ k.length + i < k.length := by omega
      simp only [this, if_false]
theorem St.less {k : H} {tg : Nat → Nat} {hK hJ : Nat → Blk → Prop} {g r bk : Nat} {s : Gs} {X : List It} (S : St k tg hK g r bk s X) (h : ∀ c x, hJ c x → hK c x) : St k tg hJ g r bk s X := ⟨S.gh, S.rh, S.bk, S.inv, fun c x hx => S.keep c x (h c x hx)⟩
/-- Both do a step; what they say is kept, and alike. -/
theorem St.pair {k : H} {tg : Nat → Nat} {hK : Nat → Blk → Prop} {g r bk : Nat} {s : Gs} {X : List It} {z : Res} {cg : Option (AV × H)} {cr : H → Option (AV × H)} {pk : AV → AV} (S : St k tg hK g r bk s X) (hg : ∀ t, Yld cg (Gev k tg g t z))
    (hr : ∀ k1 tg1, Stp (fun t => t = 7) k k1 tg tg1 → RH k1 tg1 r s X → Yld (cr k1) fun p => ∃ y k' tg', p = (pk y, k') ∧ Stp (fun t => t = 8) k1 k' tg1 tg' ∧ RH k' tg' r z.1 z.2.1 ∧ LoT k' tg' 6 y z.1 z.2.2.1) (hi : Inv z.1) :
    ∃ x y k1 k2 k3 k4 tg4, cg = some (.tuple [x, .bool z.2.2.2], k1) ∧ cr k1 = some (pk y, k2) ∧ call Gb.fs3 Gb.ex3 18 [.ptr bk 0 0, x] k2 = some (.tuple [], k3) ∧ call Gb.fs3 Gb.ex3 19 [x, y] k3 = some (.bool true, k4) ∧ St k4 tg4 hK g r bk z.1 z.2.1 ∧ (∃ q it, k1[r]? = some (.row 20 [rav q it] true true) ∧ q.on = s.on) ∧ ∀ c x, hK c x → k1[c]? = some x := by
  obtain ⟨ni, nl, B⟩ := S.bk
  obtain ⟨_, e1, x, k1, tg1, rfl, s1, G1, L1⟩ := hg (11 + 2 * nl)
  have R1 := S.rh.stp s1 (by omega) (by omega)
  have B1 := B.stp s1 (fun t ht => by simp only [BkTag]; omega)
  obtain ⟨_, e2, y, k2, tg2, rfl, s2, R2, M2⟩ := hr k1 tg1 s1 R1
  have G2 := G1.stp s2 (by omega) (by omega)
  have B2 := B1.stp s2 (fun t ht => by simp only [BkTag]; omega)
  have L2 := L1.stp s2 (by omega)
  obtain ⟨o2, f2⟩ := L2.own
  obtain ⟨_, e3, k3, tg3, nl', rfl, B3, s3⟩ := B2.addL o2 (ltr_reps k2 z.1 z.2.2.1) ⟨by cases z.2.2.1 <;> simp, ltr_small z.1 z.2.2.1⟩ f2 (by
    cases z.2.2.1
    · simp
    · intro e he a ha c hc
      simp at he
      subst he
      simp only [Gs.ltr, List.mem_cons, List.not_mem_nil, or_false] at ha
      rcases ha with rfl | rfl | rfl | rfl | rfl | rfl | rfl | rfl | rfl | rfl | rfl | rfl | rfl | rfl | rfl | rfl | rfl | rfl | rfl | rfl | rfl <;> simp [foot0] at hc)
  have G3 := G2.stp s3 (by omega) (by omega)
  have R3 := R2.stp s3 (by omega) (by omega)
  have L3 := (L2.stp s3 (by omega)).own.1
  have M3 := (M2.stp s3 (by omega)).own.1
  obtain ⟨_, e4, k4, rfl, c4⟩ := BkL.same_call L3.rds M3.rds (ltr_reps k3 z.1 z.2.2.1) (ltr_reps k3 z.1 z.2.2.1) (ltr_small z.1 z.2.2.1) (by cases z.2.2.1 <;> simp)
  have s4 := stpNew (T := fun _ => False) c4 tg3 (fun _ => 6) (by simp)
  exact ⟨x, y, k1, k2, k3, k4, _, e1, e2, e3, e4, ⟨G3.stp s4 id id, R3.stp s4 id id, ⟨_, _, B3.stp s4 (fun _ h => h.elim)⟩, hi, keep_stp (keep_stp (keep_stp (keep_stp S.keep s1 (by omega)) s2 (by omega)) s3 (by omega)) s4 id⟩, (let ⟨q, it, Y, h1, _, _, h4⟩ := R1.get; ⟨q, it, h1, h4.on⟩), fun c x hx => (keep_stp S.keep s1 (by omega) c x hx).1⟩
end Go.Proofs.Ytolnmgekneoaaaa.Gp
