/- Link: a network that loses, delays and doubles: what lies in memory. -/
import Derived.Test.YtmbkklobijflkaaLinkBoth
set_option maxRecDepth 100000
set_option linter.unusedVariables false
set_option linter.unusedSimpArgs false
namespace Go.Proofs.Ytmbkklobijflkaa.Lk
open Go Go.Eng F

section
variable {x y : Nat → Lt} {ma mb : Int} {n m : Nat} {A B : Ls} {R L : List Lt} {ca cb qa qb : Nat}
theorem Bo.recv (b : Bo x y ma mb n m A B R L ca cb qa qb) (hn : n ≤ 64) {k a0 : Nat} (h1 : 1 ≤ k) (h2 : k ≤ n) (h3 : a0 ≤ ca) :
    ∃ (B' : Ls) (cb' : Nat) (o : List Lt), B.got ⟨ma, mb, (k : Int), (a0 : Int), x k⟩ = (B', o, ⟨mb, ma, 0, (cb' : Int), Lt.zero⟩, true) ∧ Bo x y ma mb n m A B' (R ++ o) L ca cb' qa (max qb a0) ∧ cb ≤ cb' ∧ o.length ≤ n := by
  have hca := b.kept.cn
  have hmay : B.may ⟨ma, mb, (k : Int), (a0 : Int), x k⟩ = true := by
    simp [Ls.may, b.peer', b.me', b.out']; omega
  obtain ⟨cb', K', e, h4, h5, h6⟩ := recv_got b.came' b.kept' hn hmay rfl rfl h1 h2
  have h7 := h5.cn
  have ea : (⟨B.me, B.peer, 0, (cb' : Int), Lt.zero⟩ : Pk) = ⟨mb, ma, 0, (cb' : Int), Lt.zero⟩ := by rw [b.me', b.peer']
  rw [ea] at e
  refine ⟨_, cb', _, e, ⟨b.me, b.peer, b.out, b.came, b.kept, b.waits, by have := b.q; omega, b.me', b.peer', b.out', rfl, h5, b.waits'.later (by omega), by have := b.q'; omega, ?_, b.told'⟩, h4, by rw [seg_len]; omega⟩
  rw [b.told, seg_app (by omega) h4]
theorem Bo.ack (b : Bo x y ma mb n m A B R L ca cb qa qb) {c0 : Nat} (h : c0 ≤ cb) :
    ∃ A' : Ls, A.got ⟨mb, ma, 0, (c0 : Int), Lt.zero⟩ = (A', [], Pk.zero, true) ∧ Bo x y ma mb n m A' B R L ca cb (max qa c0) qb ∧ A'.now = A.now ∧ ∀ w ∈ A'.waits, w ∈ A.waits := by
  have h7 := b.kept'.cn
  have hmay : A.may ⟨mb, ma, 0, (c0 : Int), Lt.zero⟩ = true := by
    simp [Ls.may, b.peer, b.me, b.out]; omega
  exact ⟨_, got_ack hmay rfl, ⟨b.me, b.peer, b.out, b.came, b.kept, b.waits.later (by omega), by have := b.q; omega, b.me', b.peer', b.out', b.came', b.kept', b.waits', b.q', b.told, b.told'⟩, rfl, later_sub _ _⟩
end
structure On (k : H) (l : List (List Nat)) (ga ma gb mb : Nat) (va vb rv uv dv v : AV) (els : List (List AV)) (A B : Ls) (R : List Lt) (U D : List Pk) : Prop where
  w : Wd k l ga ma gb mb va vb rv .nilslice A B R []
  len : l.length = 7
  fu : l.getD 4 [] = foot uv
  fd : l.getD 5 [] = foot dv
  fv : l.getD 6 [] = sfoot v els
  u : Own k 25 uv (pks U)
  d : Own k 25 dv (pks D)
  v : SlOf k 1 v els
section
variable {k : H} {l : List (List Nat)} {ga ma gb mb : Nat} {va vb rv uv dv v : AV} {els : List (List AV)} {A B : Ls} {R : List Lt} {U D : List Pk}
theorem On.more (o : On k l ga ma gb mb va vb rv uv dv v els A B R U D) (k' : H) : On (k ++ k') l ga ma gb mb va vb rv uv dv v els A B R U D :=
  ⟨o.w.more k', o.len, o.fu, o.fd, o.fv, o.u.keep (Chg.app _ _ []) (by simp), o.d.keep (Chg.app _ _ []) (by simp), sl_keep o.v (Chg.app _ _ []) (by simp)⟩
theorem On.send (o : On k l ga ma gb mb va vb rv uv dv v els A B R U D) (hA : A.waits.length < 4294967295) (hU : U.length < 4294967295) (x : Lt) {p : Pk} (hp : p = ⟨A.me, A.peer, IntKind.i64.wrap (A.out + 1), A.came, x⟩) :
    ∃ k1 va' uv' k2 l', call fs2 ex2 15 [.ptr ga 0 0, .agg x.av] k = some (.agg p.av, k1) ∧ appendV 25 false uv (.slice k1.length 25 0 1 1 true) (k1 ++ [.row 25 [p.av] true true]) = some (uv', k2) ∧ On k2 l' ga ma gb mb va' vb rv uv' dv v els (A.send x) B R (U ++ [p]) D := by
  have hl := o.len
  obtain ⟨k1, va', uv', k2, e15, e9, a2, ou2, c2, sp2⟩ := sending o.w.sp (ia := 0) (iu := 4) (by omega) (by omega) (by omega) o.w.fa o.fu o.w.a o.u hA hU x hp
  have off : ∀ j, j ≠ 0 → j ≠ 4 → ∀ c ∈ l.getD j [], c ∉ l.getD 0 [] ++ l.getD 4 [] := fun j h0 h1 c hc hm => by
    simp only [List.mem_append] at hm
    rcases hm with hm | hm
    · exact o.w.sp.ne j 0 h0 c hc hm
    · exact o.w.sp.ne j 4 h1 c hc hm
  have g : ∀ j, ((l.set 0 (ga :: ma :: foot va')).set 4 (foot uv')).getD j [] = if 4 = j then foot uv' else if 0 = j then ga :: ma :: foot va' else l.getD j [] := fun j => set2 _ _ _ _ _ _ (by omega) (by omega)
  exact ⟨k1, va', uv', k2, _, e15, e9, ⟨⟨sp2, by rw [g]; rfl, by rw [g]; exact o.w.fb, by rw [g]; exact o.w.fr, by rw [g]; exact o.w.fl, by simp; omega, a2, o.w.b.keep' c2 (by rw [← o.w.fb]; exact off 1 (by omega) (by omega)), o.w.r.keep c2 (by rw [← o.w.fr]; exact off 2 (by omega) (by omega)), .inl ⟨rfl, rfl⟩⟩,
    by simpa using hl, by rw [g]; rfl, by rw [g]; exact o.fd, by rw [g]; exact o.fv, ou2, o.d.keep c2 (by rw [← o.fd]; exact off 5 (by omega) (by omega)), sl_keep o.v c2 (by rw [← o.fv]; exact off 6 (by omega) (by omega))⟩⟩
theorem On.recv (o : On k l ga ma gb mb va vb rv uv dv v els A B R U D) (hBw : B.waits.length < 4294967296) (hBk : B.kept.length < 4294967295) (hBc : 0 ≤ B.came ∧ B.came < 4611686018427387904) (hR : R.length + 1000 ≤ 4294967296) (hD : D.length + 1 ≤ 4294967296)
    {p ack : Pk} {t : List Lt} {B' : Ls} (hp : p.seq ≤ 9223372036854775807) (hgB : B.got p = (B', t, ack, true)) (ht : t.length ≤ 1000) :
    ∃ vo k1 rv' k2 dv' k3 vb' l', call fs2 ex2 12 [.ptr gb 0 0, .agg p.av] k = some (.tuple [vo, .agg ack.av, .bool true], k1) ∧ appendV 21 false rv vo (k1 ++ [.row 25 [ack.av] true true, .row 25 [ack.av] true true]) = some (rv', k2) ∧
      k2[k1.length]? = some (.row 25 [ack.av] true true) ∧ appendV 25 false dv (.slice (k1.length + 1) 25 0 1 1 true) k2 = some (dv', k3) ∧ On k3 l' ga ma gb mb va vb' rv' uv dv' v els A B' (R ++ t) U (D ++ [ack]) := by
  have hl := o.len
  have w := o.w
  obtain ⟨⟨w1, k1⟩, e12, vo, vb', rfl, aB1, oV, c1, fb1, fv⟩ := got_call w.b hBw hBk hBc p hp
  rw [hgB] at e12 aB1 oV
  simp only at e12 aB1 oV c1 fv
  rw [← w.fb] at c1
  have l1 := c1.1
  have cK : Chg k1 (k1 ++ [Blk.row 25 [ack.av] true true, .row 25 [ack.av] true true]) [] := Chg.app _ _ _
  have c1K : Chg k (k1 ++ [Blk.row 25 [ack.av] true true, .row 25 [ack.av] true true]) (l.getD 1 []) := c1.trans cK (by simp)
  have ne := w.sp.ne
  have oR1 := w.r.keep c1K (by rw [← w.fr]; exact ne 2 1 (by omega))
  have aA1 := w.a.keep' c1K (by rw [← w.fa]; exact ne 0 1 (by omega))
  have ou1 := o.u.keep c1K (by rw [← o.fu]; exact ne 4 1 (by omega))
  have od1 := o.d.keep c1K (by rw [← o.fd]; exact ne 5 1 (by omega))
  have ov1 := sl_keep o.v c1K (by rw [← o.fv]; exact ne 6 1 (by omega))
  have aB1' := aB1.keep' cK (by simp)
  have sp1 : Sep (k1 ++ [Blk.row 25 [ack.av] true true, .row 25 [ack.av] true true]) (l.set 1 (gb :: mb :: foot vb')) := w.sp.upd (by omega) c1K.1 (fun c hc => by
    left; rw [w.fb]
    simp only [List.mem_cons] at hc ⊢
    rcases hc with h | h | h
    · simp [h]
    · simp [h]
    · simp [fb1 c h]) aB1'.lt
  obtain ⟨rv', k2, e9, oR2, c2, fr2⟩ := own_app oR1 (own_els (oV.keep cK (by simp))) (lts_scalar _) (by simp [lts]; omega)
  have g1 : ∀ j, (l.set 1 (gb :: mb :: foot vb')).getD j [] = if 1 = j then gb :: mb :: foot vb' else l.getD j [] := fun j => getD_set _ _ _ _ (by omega)
  have fr1 : (l.set 1 (gb :: mb :: foot vb')).getD 2 [] = foot rv := by rw [g1]; exact w.fr
  rw [← fr1] at c2
  have ne1 := sp1.ne
  have aA2 := aA1.keep' c2 (by have := ne1 0 2 (by omega); rw [g1] at this; rw [← w.fa]; exact this)
  have aB2 := aB1'.keep' c2 (by have := ne1 1 2 (by omega); rw [g1, if_pos rfl] at this; exact this)
  have ou2 := ou1.keep c2 (by have := ne1 4 2 (by omega); rw [g1] at this; rw [← o.fu]; exact this)
  have od2 := od1.keep c2 (by have := ne1 5 2 (by omega); rw [g1] at this; rw [← o.fd]; exact this)
  have ov2 := sl_keep ov1 c2 (by have := ne1 6 2 (by omega); rw [g1] at this; rw [← o.fv]; exact this)
  have l2 := c2.1
  simp at l2
  have nofr : ∀ z, k.length ≤ z → z ∉ (l.set 1 (gb :: mb :: foot vb')).getD 2 [] := fun z hz hm => by
    rw [g1] at hm
    have := w.sp.lt 2 z hm
    omega
  have hrow : k2[k1.length]? = some (.row 25 [ack.av] true true) := c2.2 _ _ (nofr _ (by omega)) (by simp)
  have hrow2 : k2[k1.length + 1]? = some (.row 25 [ack.av] true true) := c2.2 _ _ (nofr _ (by omega)) (by simp)
  have sp2 : Sep k2 ((l.set 1 (gb :: mb :: foot vb')).set 2 (foot rv')) := sp1.upd (by simp; omega) c2.1 (fun c hc => by rw [fr1]; exact fr2 c hc) oR2.lt
  obtain ⟨dv', k3, e10, od3, c3, fd3⟩ := own_app od2 (x := .slice (k1.length + 1) 25 0 1 1 true) (X := [ack.av]) (by simp [elsOf, hrow2]) (by simpa [pks] using pks_scalar [ack]) (by simp [pks]; omega)
  have g2 : ∀ j, ((l.set 1 (gb :: mb :: foot vb')).set 2 (foot rv')).getD j [] = if 2 = j then foot rv' else if 1 = j then gb :: mb :: foot vb' else l.getD j [] := fun j => set2 _ _ _ _ _ _ (by omega) (by omega)
  have fd1 : ((l.set 1 (gb :: mb :: foot vb')).set 2 (foot rv')).getD 5 [] = foot dv := by rw [g2]; exact o.fd
  rw [← fd1] at c3
  have ne2 := sp2.ne
  have g3 : ∀ j, (((l.set 1 (gb :: mb :: foot vb')).set 2 (foot rv')).set 5 (foot dv')).getD j [] = if 5 = j then foot dv' else if 2 = j then foot rv' else if 1 = j then gb :: mb :: foot vb' else l.getD j [] := fun j => set3 _ _ _ _ _ _ _ _ (by omega) (by omega) (by omega)
  refine ⟨vo, k1, rv', k2, dv', k3, vb', ((l.set 1 (gb :: mb :: foot vb')).set 2 (foot rv')).set 5 (foot dv'), e12, e9, hrow, e10, ⟨⟨sp2.upd (by simp; omega) c3.1 (fun c hc => by rw [fd1]; exact fd3 c hc) od3.lt, by rw [g3]; exact w.fa, by rw [g3]; rfl, by rw [g3]; rfl, by rw [g3]; exact w.fl, by simp; omega, ?_, ?_, ?_, .inl ⟨rfl, rfl⟩⟩, by simpa using hl, by rw [g3]; exact o.fu, by rw [g3]; rfl, by rw [g3]; exact o.fv, ?_, by simpa [pks] using od3, ?_⟩⟩
  · exact aA2.keep' c3 (by have := ne2 0 5 (by omega); rw [g2] at this; rw [← w.fa]; exact this)
  · exact aB2.keep' c3 (by have := ne2 1 5 (by omega); rw [g2] at this; exact this)
  · have := oR2.keep c3 (by have := ne2 2 5 (by omega); rw [g2] at this; exact this)
    simpa [lts] using this
  · exact ou2.keep c3 (by have := ne2 4 5 (by omega); rw [g2] at this; rw [← o.fu]; exact this)
  · exact sl_keep ov2 c3 (by have := ne2 6 5 (by omega); rw [g2] at this; rw [← o.fv]; exact this)
theorem On.ack (o : On k l ga ma gb mb va vb rv uv dv v els A B R U D) (hBw : A.waits.length < 4294967296) (hBk : A.kept.length < 4294967295) (hBc : 0 ≤ A.came ∧ A.came < 4611686018427387904)
    {p : Pk} {A' : Ls} (hp : p.seq ≤ 9223372036854775807) (hgA : A.got p = (A', [], Pk.zero, true)) :
    ∃ vo k1 va' l', call fs2 ex2 12 [.ptr ga 0 0, .agg p.av] k = some (.tuple [vo, .agg Pk.zero.av, .bool true], k1) ∧ On k1 l' ga ma gb mb va' vb rv uv dv v els A' B R U D := by
  have hl := o.len
  have w := o.w
  obtain ⟨⟨w1, k1⟩, e12, vo, va', rfl, a1, oV, c1, fb1, fv⟩ := got_call w.a hBw hBk hBc p hp
  rw [hgA] at e12 a1 oV
  simp only at e12 a1 oV c1 fv
  rw [← w.fa] at c1
  have ne := w.sp.ne
  have g1 : ∀ j, (l.set 0 (ga :: ma :: foot va')).getD j [] = if 0 = j then ga :: ma :: foot va' else l.getD j [] := fun j => getD_set _ _ _ _ (by omega)
  refine ⟨vo, k1, va', l.set 0 (ga :: ma :: foot va'), e12, ⟨⟨w.sp.upd (by omega) c1.1 (fun c hc => ?_) a1.lt, by rw [g1]; rfl, by rw [g1]; exact w.fb, by rw [g1]; exact w.fr, by rw [g1]; exact w.fl, by simp; omega, a1, w.b.keep' c1 (by rw [← w.fb]; exact ne 1 0 (by omega)), w.r.keep c1 (by rw [← w.fr]; exact ne 2 0 (by omega)), .inl ⟨rfl, rfl⟩⟩,
    by simpa using hl, by rw [g1]; exact o.fu, by rw [g1]; exact o.fd, by rw [g1]; exact o.fv, o.u.keep c1 (by rw [← o.fu]; exact ne 4 0 (by omega)), o.d.keep c1 (by rw [← o.fd]; exact ne 5 0 (by omega)), sl_keep o.v c1 (by rw [← o.fv]; exact ne 6 0 (by omega))⟩⟩
  left; rw [w.fa]
  simp only [List.mem_cons] at hc ⊢
  rcases hc with h | h | h
  · simp [h]
  · simp [h]
  · simp [fb1 c h]
/-- A list less one. -/
theorem own_cut {h : H} {es : Nat} {u : AV} {L : List (List AV)} (ho : Own h es u L) {j : Nat} (hj : j < L.length) (hs : ∀ e ∈ L, ∀ a ∈ e, a.scalar = true) (hlen : L.length ≤ 1000000000) :
    ∃ s1 s2 c k1 u' k2, evalP (.sliceSl es false true false) [u, .int .i64 (j : Nat)] = some s1 ∧ evalP (.sliceSl es true false false) [u, .int .i64 ((j + 1 : Nat) : Int)] = some s2 ∧
      appendV es false .nilslice s1 h = some (c, k1) ∧ appendV es false c s2 k1 = some (u', k2) ∧ Own k2 es u' (L.eraseIdx j) ∧ Chg h k2 [] ∧ ∀ c ∈ foot u', h.length ≤ c := by
  rcases ho with ⟨rfl, rfl⟩ | ⟨b, cp, els, rfl, hb, h1, h2, h3⟩
  · simp at hj
  · have q1 : evalP (.sliceSl es false true false) [.slice b es 0 L.length cp false, .int .i64 (j : Nat)] = some (.slice b es 0 j cp false) := by
      have : j ≤ cp := by omega
      simp [pP_sliceSl, sliceSlV, optNat, this]
    have q2 : evalP (.sliceSl es true false false) [.slice b es 0 L.length cp false, .int .i64 ((j + 1 : Nat) : Int)] = some (.slice b es (j + 1) (L.length - (j + 1)) (cp - (j + 1)) false) := by
      have e0 : (0 : Int) ≤ (j : Int) + 1 := by omega
      have e1 : ((j : Int) + 1).toNat = j + 1 := by omega
      have e2 : j + 1 ≤ L.length := by omega
      simp [pP_sliceSl, sliceSlV, optNat, e0, e1, e2, h3]
    have t1 : els.take j = L.take j := by rw [← h1, List.take_take]; congr 1; omega
    have t2 : (els.drop (j + 1)).take (L.length - (j + 1)) = L.drop (j + 1) := by conv => rhs; rw [← h1, List.drop_take]
    have x1 : elsOf h es (.slice b es 0 j cp false) = some (L.take j) := by
      by_cases h0 : j = 0
      · subst h0; simp [elsOf]
      · have : j ≤ els.length := by omega
        simp [elsOf, h0, hb, this, t1]
    obtain ⟨c, k1, e1, o1, c1, f1⟩ := own_app (h := h) (es := es) (v := .nilslice) (L := []) (.inl ⟨rfl, rfl⟩) x1 (fun e he => hs e (List.mem_of_mem_take he)) (by simp; omega)
    have c1' : Chg h k1 [] := c1
    have hb1 := c1'.2 b _ (by simp) hb
    have x2 : elsOf k1 es (.slice b es (j + 1) (L.length - (j + 1)) (cp - (j + 1)) false) = some (L.drop (j + 1)) := by
      by_cases h0 : L.length - (j + 1) = 0
      · rw [h0]
        have : L.drop (j + 1) = [] := List.drop_eq_nil_of_le (by omega)
        simp [elsOf, this]
      · have : j + 1 + (L.length - (j + 1)) ≤ els.length := by omega
        simp [elsOf, h0, hb1, this, t2]
    obtain ⟨u', k2, e2, o2, c2, f2⟩ := own_app o1 x2 (fun e he => hs e (List.mem_of_mem_drop he)) (by simp; omega)
    have l1 := c1.1
    have fr1 : ∀ z ∈ foot c, h.length ≤ z := fun z hz => by
      rcases f1 z hz with h | h
      · simp [foot] at h
      · exact h
    refine ⟨_, _, c, k1, u', k2, q1, q2, e1, e2, ?_, c1'.trans c2 (fun z hz => .inr (fr1 z hz)), fun z hz => ?_⟩
    · rw [List.eraseIdx_eq_take_drop_succ]
      simpa using o2
    · rcases f2 z hz with h | h
      · exact fr1 z h
      · omega
theorem On.newU (o : On k l ga ma gb mb va vb rv uv dv v els A B R U D) {k' : H} {uv' : AV} {U' : List Pk} (c : Chg k k' (l.getD 4 [])) (ou : Own k' 25 uv' (pks U')) (hf : ∀ z ∈ foot uv', z ∈ foot uv ∨ k.length ≤ z) : On k' (l.set 4 (foot uv')) ga ma gb mb va vb rv uv' dv v els A B R U' D := by
  have hl := o.len
  have w := o.w
  have ne := w.sp.ne
  have g1 : ∀ j, (l.set 4 (foot uv')).getD j [] = if 4 = j then foot uv' else l.getD j [] := fun j => getD_set _ _ _ _ (by omega)
  exact ⟨⟨w.sp.upd (by omega) c.1 (fun z hz => by rw [o.fu]; exact hf z hz) ou.lt, by rw [g1]; exact w.fa, by rw [g1]; exact w.fb, by rw [g1]; exact w.fr, by rw [g1]; exact w.fl, by simp; omega, w.a.keep' c (by rw [← w.fa]; exact ne 0 4 (by omega)), w.b.keep' c (by rw [← w.fb]; exact ne 1 4 (by omega)), w.r.keep c (by rw [← w.fr]; exact ne 2 4 (by omega)), .inl ⟨rfl, rfl⟩⟩,
    by simpa using hl, by rw [g1]; rfl, by rw [g1]; exact o.fd, by rw [g1]; exact o.fv, ou, o.d.keep c (by rw [← o.fd]; exact ne 5 4 (by omega)), sl_keep o.v c (by rw [← o.fv]; exact ne 6 4 (by omega))⟩
theorem On.newD (o : On k l ga ma gb mb va vb rv uv dv v els A B R U D) {k' : H} {dv' : AV} {D' : List Pk} (c : Chg k k' (l.getD 5 [])) (od : Own k' 25 dv' (pks D')) (hf : ∀ z ∈ foot dv', z ∈ foot dv ∨ k.length ≤ z) : On k' (l.set 5 (foot dv')) ga ma gb mb va vb rv uv dv' v els A B R U D' := by
  have hl := o.len
  have w := o.w
  have ne := w.sp.ne
  have g1 : ∀ j, (l.set 5 (foot dv')).getD j [] = if 5 = j then foot dv' else l.getD j [] := fun j => getD_set _ _ _ _ (by omega)
  exact ⟨⟨w.sp.upd (by omega) c.1 (fun z hz => by rw [o.fd]; exact hf z hz) od.lt, by rw [g1]; exact w.fa, by rw [g1]; exact w.fb, by rw [g1]; exact w.fr, by rw [g1]; exact w.fl, by simp; omega, w.a.keep' c (by rw [← w.fa]; exact ne 0 5 (by omega)), w.b.keep' c (by rw [← w.fb]; exact ne 1 5 (by omega)), w.r.keep c (by rw [← w.fr]; exact ne 2 5 (by omega)), .inl ⟨rfl, rfl⟩⟩,
    by simpa using hl, by rw [g1]; exact o.fu, by rw [g1]; rfl, by rw [g1]; exact o.fv, o.u.keep c (by rw [← o.fu]; exact ne 4 5 (by omega)), od, sl_keep o.v c (by rw [← o.fv]; exact ne 6 5 (by omega))⟩
theorem pks_erase (U : List Pk) : ∀ j, (pks U).eraseIdx j = pks (U.eraseIdx j) := by
  induction U with
  | nil => intro j; rfl
  | cons p U ih =>
    intro j
    cases j with
    | zero => rfl
    | succ j => simp only [pks, List.map_cons, List.eraseIdx_cons_succ] at ih ⊢; rw [ih]
theorem On.cutU (o : On k l ga ma gb mb va vb rv uv dv v els A B R U D) {j : Nat} (hj : j < U.length) (hU : U.length ≤ 1000000000) :
    ∃ s1 s2 c k1 uv' k2 l', evalP (.sliceSl 25 false true false) [uv, .int .i64 (j : Nat)] = some s1 ∧ evalP (.sliceSl 25 true false false) [uv, .int .i64 ((j + 1 : Nat) : Int)] = some s2 ∧
      appendV 25 false .nilslice s1 k = some (c, k1) ∧ appendV 25 false c s2 k1 = some (uv', k2) ∧ On k2 l' ga ma gb mb va vb rv uv' dv v els A B R (U.eraseIdx j) D ∧ Chg k k2 [] := by
  obtain ⟨s1, s2, c, k1, uv', k2, e1, e2, e3, e4, o2, c2, f2⟩ := own_cut o.u (by simpa [pks] using hj) (pks_scalar U) (by simpa [pks] using hU)
  rw [pks_erase] at o2
  exact ⟨s1, s2, c, k1, uv', k2, _, e1, e2, e3, e4, o.newU (c2.mono (by simp)) o2 (fun z hz => .inr (f2 z hz)), c2⟩
theorem On.cutD (o : On k l ga ma gb mb va vb rv uv dv v els A B R U D) {j : Nat} (hj : j < D.length) (hD : D.length ≤ 1000000000) :
    ∃ s1 s2 c k1 dv' k2 l', evalP (.sliceSl 25 false true false) [dv, .int .i64 (j : Nat)] = some s1 ∧ evalP (.sliceSl 25 true false false) [dv, .int .i64 ((j + 1 : Nat) : Int)] = some s2 ∧
      appendV 25 false .nilslice s1 k = some (c, k1) ∧ appendV 25 false c s2 k1 = some (dv', k2) ∧ On k2 l' ga ma gb mb va vb rv uv dv' v els A B R U (D.eraseIdx j) ∧ Chg k k2 [] := by
  obtain ⟨s1, s2, c, k1, dv', k2, e1, e2, e3, e4, o2, c2, f2⟩ := own_cut o.d (by simpa [pks] using hj) (pks_scalar D) (by simpa [pks] using hD)
  rw [pks_erase] at o2
  exact ⟨s1, s2, c, k1, dv', k2, _, e1, e2, e3, e4, o.newD (c2.mono (by simp)) o2 (fun z hz => .inr (f2 z hz)), c2⟩
theorem On.lose (o : On k l ga ma gb mb va vb rv uv dv v els A B R U D) : ∃ l', On k l' ga ma gb mb va vb rv .nilslice .nilslice v els A B R [] [] := by
  have o1 := o.newU (k' := k) (uv' := .nilslice) (U' := []) (Chg.refl _ _) (.inl ⟨rfl, rfl⟩) (by simp [foot])
  exact ⟨_, o1.newD (k' := k) (dv' := .nilslice) (D' := []) (Chg.refl _ _) (.inl ⟨rfl, rfl⟩) (by simp [foot])⟩
/-- Times are no later than now. -/
structure Tw (t : Nat) (A : Ls) : Prop where
  now : 0 ≤ A.now ∧ A.now ≤ t
  at0 : ∀ w ∈ A.waits, 0 ≤ w.at_ ∧ w.at_ ≤ A.now
theorem Tw.sub {t t' : Nat} {A A' : Ls} (h : Tw t A) (ht : t ≤ t') (hn : A'.now = A.now) (hw : ∀ w ∈ A'.waits, w ∈ A.waits) : Tw t' A' :=
  ⟨by rw [hn]; have := h.now; omega, fun w hm => by rw [hn]; exact h.at0 w (hw w hm)⟩
theorem On.tick (o : On k l ga ma gb mb va vb rv uv dv v els A B R U D) {x y : Nat → Lt} {za zb : Int} {n m ca cb qa qb t : Nat} (b : Bo x y za zb n m A B R [] ca cb qa qb) (hn : n ≤ 64) (hm : m ≤ 64) (tA : Tw t A) (ht : t ≤ 1000000) (hU : U.length ≤ 1000000) :
    ∃ ag k1 uv' k2 A1 G l', call fs2 ex2 19 [.ptr ga 0 0] k = some (ag, k1) ∧ appendV 25 false uv ag k1 = some (uv', k2) ∧ On k2 l' ga ma gb mb va vb rv uv' dv v els A1 B R (U ++ G) D ∧ Bo x y za zb n m A1 B R [] ca cb qa qb ∧ Tw (t + 1) A1 ∧ G.length ≤ n ∧
      ∀ p ∈ G, ∃ j : Nat, 1 ≤ j ∧ j ≤ n ∧ p = ⟨za, zb, (j : Int), (ca : Int), x j⟩ := by
  have sa := b.sizes (by omega) (by omega)
  have hnow := tA.now
  have hl := o.len
  have w := o.w
  have quiet : (A.waits = [] ∨ ∃ w ∈ A.waits.head?, A.now + 1 - w.at_ < 4 ∧ 0 ≤ w.at_ ∧ w.at_ < 4611686018427387904) → _ := fun hq => w.quietA (by omega) (by omega) hq
  by_cases hq : A.waits = [] ∨ ∃ w ∈ A.waits.head?, A.now + 1 - w.at_ < 4
  · have hq' : A.waits = [] ∨ ∃ w ∈ A.waits.head?, A.now + 1 - w.at_ < 4 ∧ 0 ≤ w.at_ ∧ w.at_ < 4611686018427387904 := by
      rcases hq with h | ⟨w', hw, h⟩
      · exact .inl h
      · have := tA.at0 w' (List.mem_of_mem_head? hw)
        exact .inr ⟨w', hw, h, by omega, by omega⟩
    obtain ⟨⟨_, k1⟩, e, rfl, a1, c1⟩ := tick_quiet w.a (by omega) (by omega) hq'
    simp only at e a1 c1
    have hg : ∀ c ∈ [ga], c ∈ l.getD 0 [] := by intro c hc; rw [w.fa]; simp at hc; simp [hc]
    have off : ∀ i, i ≠ 0 → ∀ c ∈ l.getD i [], c ∉ [ga] := fun i hi c hc hm => w.sp.ne i 0 hi c hc (hg c hm)
    have o1 : On k1 l ga ma gb mb va vb rv uv dv v els { A with now := A.now + 1 } B R U D :=
      ⟨⟨w.sp.more c1.1, w.fa, w.fb, w.fr, w.fl, w.len, a1, w.b.keep' c1 (by rw [← w.fb]; exact off 1 (by omega)), w.r.keep c1 (by rw [← w.fr]; exact off 2 (by omega)), .inl ⟨rfl, rfl⟩⟩, hl, o.fu, o.fd, o.fv, o.u.keep c1 (by rw [← o.fu]; exact off 4 (by omega)), o.d.keep c1 (by rw [← o.fd]; exact off 5 (by omega)), sl_keep o.v c1 (by rw [← o.fv]; exact off 6 (by omega))⟩
    obtain ⟨uv', k2, e9, ou2, c2, f2⟩ := own_app o1.u (x := .nilslice) (X := []) rfl (by simp) (by simp [pks]; omega)
    rw [← o.fu] at c2
    refine ⟨_, k1, uv', k2, _, [], _, e, e9, o1.newU (U' := U ++ []) c2 (by simpa [pks] using ou2) f2, b.tickA _, ⟨by simp only; omega, fun w hw => by have := tA.at0 w hw; simp only; omega⟩, by simp, by simp⟩
  · have h0 : A.waits ≠ [] := fun h => hq (.inl h)
    obtain ⟨w', hw, hm'⟩ := head_of h0
    have hlt : ¬ A.now + 1 - w'.at_ < 4 := fun h => hq (.inr ⟨w', hw, h⟩)
    have := tA.at0 w' hm'
    obtain ⟨⟨ag, k1⟩, e, a1, o1, c1, f1⟩ := tick_again w.a (by omega) (by omega) ⟨w', hw, hlt, by omega, by omega⟩
    simp only at e a1 o1 c1 f1
    have hg : ∀ c ∈ ga :: foot va, c ∈ l.getD 0 [] := by
      intro c hc; rw [w.fa]
      simp only [List.mem_cons] at hc ⊢
      rcases hc with h | h
      · exact .inl h
      · exact .inr (.inr h)
    have off : ∀ i, i ≠ 0 → ∀ c ∈ l.getD i [], c ∉ ga :: foot va := fun i hi c hc hm => w.sp.ne i 0 hi c hc (hg c hm)
    have o2 : On k1 l ga ma gb mb va vb rv uv dv v els { A with now := A.now + 1, waits := A.waits.map (Sn.anew (A.now + 1)) } B R U D :=
      ⟨⟨w.sp.more c1.1, w.fa, w.fb, w.fr, w.fl, w.len, a1, w.b.keep' c1 (by rw [← w.fb]; exact off 1 (by omega)), w.r.keep c1 (by rw [← w.fr]; exact off 2 (by omega)), .inl ⟨rfl, rfl⟩⟩, hl, o.fu, o.fd, o.fv, o.u.keep c1 (by rw [← o.fu]; exact off 4 (by omega)), o.d.keep c1 (by rw [← o.fd]; exact off 5 (by omega)), sl_keep o.v c1 (by rw [← o.fv]; exact off 6 (by omega))⟩
    have hagl : A.again.length ≤ n := by rw [b.againA, agn_len]; omega
    obtain ⟨uv', k2, e9, ou2, c2, f2⟩ := own_app o2.u (own_els o1) (pks_scalar _) (by simp [pks]; omega)
    rw [← o.fu] at c2
    refine ⟨ag, k1, uv', k2, _, A.again, _, e, e9, o2.newU c2 (by simpa [pks] using ou2) f2, b.anewA _ _, ⟨by simp only; omega, fun w hw => ?_⟩, hagl, fun p hp => ?_⟩
    · simp only [List.mem_map] at hw
      obtain ⟨w0, _, rfl⟩ := hw
      simp only [Sn.anew]; omega
    · rw [b.againA] at hp
      simp only [agn, List.mem_map, List.mem_range'_1] at hp
      obtain ⟨j, hj, rfl⟩ := hp
      have := b.waits.1
      exact ⟨j, by omega, by omega, rfl⟩
end
theorem and_seven (a : Int) : ∃ y : Nat, y ≤ 7 ∧ binV .and (.int .i64 a) (.int .i64 7) = some (.int .i64 (y : Int)) := by
  obtain ⟨y, h1, h2⟩ := and_small a 7 (by omega)
  refine ⟨y, h2, ?_⟩
  rw [bV_and]
  have h1' : bitsV .and .i64 a 7 = some (y : Int) := h1
  rw [h1']; rfl
end Go.Proofs.Ytmbkklobijflkaa.Lk
