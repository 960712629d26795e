/- Link and the document's link, side by side: both, and the book; the steps. -/
import Derived.Test.YtmbkklobijflkaaLpI
set_option maxRecDepth 100000
set_option linter.unusedVariables false
set_option linter.unusedSimpArgs false
namespace Go.Proofs.Ytmbkklobijflkaa.Lp
open Go Go.Eng F Lk Bk BkI

structure LH (k : H) (tg : Nat → Nat) (g m : Nat) (s : Ls) : Prop where
  at_ : ∃ v, LinkAt k g m v s ∧ ∀ c ∈ foot v, tg c = 7
  tgg : tg g = 7
  tgm : tg m = 7
structure RH (k : H) (tg : Nat → Nat) (r : Nat) (q : Rs) : Prop where
  at_ : ∃ ov kv, RefAt k r ov kv q ∧ (∀ c ∈ foot0 ov, tg c = 6) ∧ ∀ c ∈ foot0 kv, tg c = 6
  tgr : tg r = 8
theorem LH.stp {T : Nat → Prop} {k k' : H} {tg tg' : Nat → Nat} {g m : Nat} {s : Ls} (a : LH k tg g m s) (st : Stp T k k' tg tg') (h7 : ¬ T 7) : LH k' tg' g m s := by
  obtain ⟨v, l, hv⟩ := a.at_
  obtain ⟨F, c, hF⟩ := st.chg
  have hg := (List.getElem?_eq_some_iff.1 l.gd).1
  have hm := (List.getElem?_eq_some_iff.1 l.mp).1
  exact ⟨⟨v, l.keep c (hF g (by rw [a.tgg]; exact h7)) (hF m (by rw [a.tgm]; exact h7)) (fun c hc => hF c (by rw [hv c hc]; exact h7)), fun c hc => (st.old c (l.ow.lt c hc)).trans (hv c hc)⟩, (st.old g hg).trans a.tgg, (st.old m hm).trans a.tgm⟩
theorem RH.stp {T : Nat → Prop} {k k' : H} {tg tg' : Nat → Nat} {r : Nat} {q : Rs} (a : RH k tg r q) (st : Stp T k k' tg tg') (h6 : ¬ T 6) (h8 : ¬ T 8) : RH k' tg' r q := by
  obtain ⟨ov, kv, l, h1, h2⟩ := a.at_
  obtain ⟨F, c, hF⟩ := st.chg
  have hr := (List.getElem?_eq_some_iff.1 l.row).1
  exact ⟨⟨ov, kv, l.keep c (hF r (by rw [a.tgr]; exact h8)) (fun c hc => hF c (by rw [h1 c hc]; exact h6)) (fun c hc => hF c (by rw [h2 c hc]; exact h6)), fun c hc => (st.old c (l.oo.lt0 c hc)).trans (h1 c hc), fun c hc => (st.old c (l.kk.lt0 c hc)).trans (h2 c hc)⟩, (st.old r hr).trans a.tgr⟩
section
variable {k : H} {tg : Nat → Nat} {g m r : Nat} {s : Ls} {q : Rs}
theorem l_send (a : LH k tg g m s) (hl : s.waits.length < 4294967295) (x : Lt) :
    Yld (call Lp.fs3 Lp.ex3 15 [.ptr g 0 0, .agg x.av] k) fun p => ∃ k' tg', p = (.agg (Pk.av ⟨s.me, s.peer, IntKind.i64.wrap (s.out + 1), s.came, x⟩), k') ∧ Stp (fun t => t = 7) k k' tg tg' ∧ LH k' tg' g m (s.send x) := by
  obtain ⟨v, l, hv⟩ := a.at_
  refine (send_call l hl x).mono ?_
  rintro ⟨w, k'⟩ ⟨e, v', l', c, hv'⟩
  simp only at e l' c hv'
  subst e
  have hg := (List.getElem?_eq_some_iff.1 l.gd).1
  have hm := (List.getElem?_eq_some_iff.1 l.mp).1
  have st := stpNew (T := fun t => t = 7) c tg (fun _ => 7) (fun z hz _ => by
    simp only [List.mem_cons] at hz
    rcases hz with rfl | hz
    · exact a.tgg
    · exact hv z hz)
  refine ⟨k', _, rfl, st, ⟨⟨v', l', fun c hc => ?_⟩, (st.old g hg).trans a.tgg, (st.old m hm).trans a.tgm⟩⟩
  have := hv' c hc
  exact if_neg (by omega)
theorem r_send (a : RH k tg r q) (hl : q.O.length < 100000) (x : Lt) :
    Yld (call Lp.fs3 Lp.ex3 18 [.ptr r 0 0, .agg x.av] k) fun p => ∃ k' tg', p = (.agg (Pk.av ⟨q.me, q.peer, IntKind.i64.wrap (q.sent + 1), q.came, x⟩), k') ∧ Stp (fun t => t = 8) k k' tg tg' ∧
      RH k' tg' r { q with sent := IntKind.i64.wrap (q.sent + 1), O := q.O ++ [⟨IntKind.i64.wrap (q.sent + 1), x, q.now⟩] } := by
  obtain ⟨ov, kv, l, h1, h2⟩ := a.at_
  refine (rsend_call l hl x).mono ?_
  rintro _ ⟨k', ov', rfl, c, l', hv'⟩
  have hr := (List.getElem?_eq_some_iff.1 l.row).1
  have st := stpNew (T := fun t => t = 8) c tg (fun _ => 6) (fun z hz _ => by
    simp only [List.mem_singleton] at hz
    subst hz; exact a.tgr)
  exact ⟨k', _, rfl, st, ⟨⟨ov', kv, l', fun c hc => by have := hv' c (foot0_sub hc); exact if_neg (by omega), fun c hc => (st.old c (l.kk.lt0 c hc)).trans (h2 c hc)⟩, (st.old r hr).trans a.tgr⟩⟩
theorem l_got (a : LH k tg g m s) (hlen : s.waits.length < 4294967296) (hkl : s.kept.length < 4294967295) (hc : 0 ≤ s.came ∧ s.came < 4611686018427387904) (p : Pv) (hp : p.seq ≤ 9223372036854775807) {X1 X2 : List It} (hp1 : RdS k 2 p.y.s1.av (its X1)) (hp2 : RdS k 2 p.y.s2.av (its X2)) (l1 : X1.length * 48 ≤ 281474976710656) (l2 : X2.length * 48 ≤ 281474976710656)
    (t1 : ∀ c ∈ foot0 p.y.s1.av, tg c = 6) (t2 : ∀ c ∈ foot0 p.y.s2.av, tg c = 6) (t : Nat) :
    Yld (call Lp.fs3 Lp.ex3 12 [.ptr g 0 0, .agg p.av] k) fun w => ∃ z vo k' tg', w = (.tuple [vo, .agg (s.got p z).2.2.1.av, .bool (s.got p z).2.2.2], k') ∧ Stp (fun t => t = 7) k k' tg tg' ∧ LH k' tg' g m (s.got p z).1 ∧ OwnE k' 21 vo (lts (s.got p z).2.1) ∧ (∀ c ∈ foot vo, tg' c = t) ∧ Al k' tg' z p.y := by
  obtain ⟨v, l, hv⟩ := a.at_
  have hT : ∀ z, z ∈ g :: m :: foot v → tg z = 7 := fun z hz => by
    simp only [List.mem_cons] at hz
    rcases hz with rfl | rfl | hz
    · exact a.tgg
    · exact a.tgm
    · exact hv z hz
  refine (got_call l hlen hkl hc p hp hp1 hp2 l1 l2 (fun c hc hm => ?_)).mono ?_
  · have h7 := hT c hm
    rcases hc with hc | hc
    · have := t1 c hc; omega
    · have := t2 c hc; omega
  · rintro ⟨w, k'⟩ ⟨z, vo, v', e, l', o, c, f', fo, zx, z1, z2, zf⟩
    simp only at e l' o c z1 z2
    subst e
    have hg := (List.getElem?_eq_some_iff.1 l.gd).1
    have hm := (List.getElem?_eq_some_iff.1 l.mp).1
    have st := stpNew (T := fun t => t = 7) c tg (fun c => if c ∈ foot vo then t else 6) (fun z hz _ => hT z hz)
    have f6 : ∀ c, c ∈ foot0 z.s1.av ∨ c ∈ foot0 z.s2.av → (if c < k.length then tg c else if c ∈ foot vo then t else 6) = 6 := fun c hc => by
      rcases zf c hc with h | ⟨h, h'⟩
      · have h3 : c < k.length ∧ tg c = 6 := by
          rcases h with h | h
          · exact ⟨hp1.lt0 c h, t1 c h⟩
          · exact ⟨hp2.lt0 c h, t2 c h⟩
        rw [if_pos h3.1]; exact h3.2
      · rw [if_neg (by omega), if_neg h']
    refine ⟨z, vo, k', _, rfl, st, ⟨⟨v', l', fun c hc => (st.old c (l.ow.lt c (f' c hc))).trans (hv c (f' c hc))⟩, (st.old g hg).trans a.tgg, (st.old m hm).trans a.tgm⟩, o, fun c hc => ?_, ⟨zx, ⟨X1, X2, z1, z2, hp1.stp0 st (fun c hc => by rw [t1 c hc]; omega), hp2.stp0 st (fun c hc => by rw [t2 c hc]; omega), l1, l2⟩, fun c hc => f6 c (.inl hc), fun c hc => f6 c (.inr hc), fun c hc => (st.old c (hp1.lt0 c hc)).trans (t1 c hc), fun c hc => (st.old c (hp2.lt0 c hc)).trans (t2 c hc)⟩⟩
    have := fo c hc
    show (if c < k.length then tg c else if c ∈ foot vo then t else 6) = t
    rw [if_neg (by omega), if_pos hc]
theorem r_got (a : RH k tg r q) (p : Pv) (hlO : q.O.length < 100000) (hlP : q.P.length < 99999) (hc : 0 ≤ q.came ∧ q.came < 4611686018427387904) (hp : p.seq ≤ 9223372036854775807) :
    Yld (call Lp.fs3 Lp.ex3 21 [.ptr r 0 0, .agg p.av] k) fun w => ∃ vo k' tg', w = (.tuple [vo, .agg (q.got p).2.2.1.av, .bool (q.got p).2.2.2], k') ∧ Stp (fun t => t = 8) k k' tg tg' ∧ RH k' tg' r (q.got p).1 ∧ OwnE k' 21 vo (lts (q.got p).2.1) ∧ ∀ c ∈ foot vo, tg' c = 6 := by
  obtain ⟨ov, kv, l, h1, h2⟩ := a.at_
  have key : Yld (call Lp.fs3 Lp.ex3 21 [.ptr r 0 0, .agg p.av] k) (RGotQ k r ov kv q p) := by
    cases hm : q.may p
    · exact rgot_no l p hm
    · exact rgot_yes l p hlO hlP hc hp hm
  refine key.mono ?_
  rintro _ ⟨k', vo, ov', kv', rfl, c, l', o, fv, fo, fk⟩
  have hr := (List.getElem?_eq_some_iff.1 l.row).1
  have st := stpNew (T := fun t => t = 8) c tg (fun _ => 6) (fun z hz _ => by
    simp only [List.mem_singleton] at hz
    subst hz; exact a.tgr)
  refine ⟨vo, k', _, rfl, st, ⟨⟨ov', kv', l', fun c hc => ?_, fun c hc => ?_⟩, (st.old r hr).trans a.tgr⟩, o, fun c hc => by have := fv c hc; exact if_neg (by omega)⟩
  · rcases fo c hc with h | h
    · exact (st.old c (l.oo.lt0 c h)).trans (h1 c h)
    · exact if_neg (by omega)
  · rcases fk c hc with h | h
    · exact (st.old c (l.kk.lt0 c h)).trans (h2 c h)
    · exact if_neg (by omega)
end
def _root_.Go.Proofs.Ytmbkklobijflkaa.Lk.Pk.pv (p : Pk) : Pv := ⟨p.frm, p.to, p.seq, p.ack, ⟨p.x, .nil, .nil⟩⟩
theorem pv_av (p : Pk) : p.pv.av = p.av := rfl
theorem same_pk (k : H) (p : Pk) : Yld (call Lp.fs3 Lp.ex3 17 [.agg p.av, .agg p.av] k) fun r => ∃ k', r = (.bool true, k') ∧ Chg k k' [] := by
  have hn : RdS k 2 Sv.nil.av (its []) := .inl ⟨rfl, rfl⟩
  exact same_packet (p := p.pv) (q := p.pv) ⟨rfl, rfl, rfl, rfl⟩ rfl hn hn hn hn (by simp) (by simp)
structure St (k : H) (tg : Nat → Nat) (hK : Nat → Blk → Prop) (g m r bk n : Nat) (s : Ls) (q : Rs) : Prop where
  lh : LH k tg g m s
  rh : RH k tg r q
  sm : Sm (Al k tg) s q
  bd : Bd n s
  bk : ∃ nl, Book k tg bk nl
  keep : ∀ c x, hK c x → k[c]? = some x ∧ tg c = 6
theorem keep_stp {T : Nat → Prop} {k k' : H} {tg tg' : Nat → Nat} {hK : Nat → Blk → Prop} (h : ∀ c x, hK c x → k[c]? = some x ∧ tg c = 6) (s : Stp T k k' tg tg') (h6 : ¬ T 6) : ∀ c x, hK c x → k'[c]? = some x ∧ tg' c = 6 :=
  fun c x hx => ⟨s.keep c x (h c x hx).1 (by rw [(h c x hx).2]; exact h6), (s.old c (List.getElem?_eq_some_iff.1 (h c x hx).1).1).trans (h c x hx).2⟩
section
variable {k : H} {tg : Nat → Nat} {hK : Nat → Blk → Prop} {g m r bk n : Nat} {s : Ls} {q : Rs}
theorem St.grow (S : St k tg hK g m r bk n s q) (z : H) {hK' : Nat → Blk → Prop} (hk : ∀ c x, hK' c x → hK c x ∨ (k.length ≤ c ∧ (k ++ z)[c]? = some x)) : ∃ tg', St (k ++ z) tg' hK' g m r bk n s q := by
  have st := stpNew (T := fun _ => False) (Chg.app k z []) tg (fun _ => 6) (by simp)
  obtain ⟨nl, B⟩ := S.bk
  refine ⟨_, S.lh.stp st id, S.rh.stp st id id, S.sm.mono fun _ _ h => h.stp st id, S.bd, ⟨nl, B.stp st (fun _ h => h.elim)⟩, fun c x hx => ?_⟩
  rcases hk c x hx with h | ⟨h1, h2⟩
  · exact keep_stp S.keep st id c x h
  · exact ⟨h2, if_neg (by omega)⟩
theorem St.chg (S : St k tg hK g m r bk n s q) {k' : H} (c : Chg k k' []) : ∃ tg', St k' tg' hK g m r bk n s q := by
  have st := stpNew (T := fun _ => False) c tg (fun _ => 6) (by simp)
  obtain ⟨nl, B⟩ := S.bk
  exact ⟨_, S.lh.stp st id, S.rh.stp st id id, S.sm.mono fun _ _ h => h.stp st id, S.bd, ⟨nl, B.stp st (fun _ h => h.elim)⟩, keep_stp S.keep st id⟩
theorem St.less (S : St k tg hK g m r bk n s q) {hK' : Nat → Blk → Prop} (hk : ∀ c x, hK' c x → hK c x) : St k tg hK' g m r bk n s q := ⟨S.lh, S.rh, S.sm, S.bd, S.bk, fun c x h => S.keep c x (hk c x h)⟩
theorem St.send (S : St k tg hK g m r bk n s q) (hn : n ≤ 1000) (x : Lt) : ∃ P k1 k2 k3 tg3 s' q', call Lp.fs3 Lp.ex3 15 [.ptr g 0 0, .agg x.av] k = some (.agg (Pk.av P), k1) ∧ call Lp.fs3 Lp.ex3 18 [.ptr r 0 0, .agg x.av] k1 = some (.agg (Pk.av P), k2) ∧ call Lp.fs3 Lp.ex3 17 [.agg (Pk.av P), .agg (Pk.av P)] k2 = some (.bool true, k3) ∧
    (∀ c x, hK c x → k1[c]? = some x) ∧ St k3 tg3 hK g m r bk (n + 1) s' q' := by
  have bw := S.bd.waits
  obtain ⟨_, e1, k1, tg1, rfl, s1, L1⟩ := l_send S.lh (by omega) x
  obtain ⟨_, e2, k2, tg2, rfl, s2, R2⟩ := r_send (S.rh.stp s1 (by omega) (by omega)) (by rw [S.sm.O]; omega) x
  obtain ⟨nl, B⟩ := S.bk
  rw [S.sm.me, S.sm.peer, S.sm.out, S.sm.came] at e2
  obtain ⟨_, e3, k3, rfl, c3⟩ := same_pk k2 ⟨s.me, s.peer, IntKind.i64.wrap (s.out + 1), s.came, x⟩
  have s3 := stpNew (T := fun _ => False) c3 tg2 (fun _ => 6) (by simp)
  refine ⟨_, k1, k2, k3, _, _, _, e1, e2, e3, fun c x hx => (keep_stp S.keep s1 (by omega) c x hx).1, (L1.stp s2 (by omega)).stp s3 id, R2.stp s3 id id, ?_, S.bd.send hn x, ⟨nl, ((B.stp s1 (fun t ht => by simp only [BkTag]; omega)).stp s2 (fun t ht => by simp only [BkTag]; omega)).stp s3 (fun _ h => h.elim)⟩, keep_stp (keep_stp (keep_stp S.keep s1 (by omega)) s2 (by omega)) s3 id⟩
  have M := S.sm.mono fun _ _ h => ((h.stp s1 (by omega)).stp s2 (by omega)).stp s3 id
  exact ⟨M.me, M.peer, M.now, by simp only [Ls.send, S.sm.out], by simp only [Ls.send, S.sm.out, S.sm.O, S.sm.now], M.came, M.kept⟩
theorem St.got (S : St k tg hK g m r bk n s q) (hn : n ≤ 1000) (p : Pv) (hp : p.seq ≤ 9223372036854775807) {X1 X2 : List It} (hp1 : RdS k 2 p.y.s1.av (its X1)) (hp2 : RdS k 2 p.y.s2.av (its X2)) (l1 : X1.length * 48 ≤ 281474976710656) (l2 : X2.length * 48 ≤ 281474976710656)
    (t1 : ∀ c ∈ foot0 p.y.s1.av, tg c = 6) (t2 : ∀ c ∈ foot0 p.y.s2.av, tg c = 6) :
    ∃ vo yo A b k1 k2 k3 k4 k5 tg5 s' q', call Lp.fs3 Lp.ex3 12 [.ptr g 0 0, .agg p.av] k = some (.tuple [vo, .agg (Pk.av A), .bool b], k1) ∧ call Lp.fs3 Lp.ex3 21 [.ptr r 0 0, .agg p.av] (k1 ++ [.row 25 [Pk.av A] true true]) = some (.tuple [yo, .agg (Pk.av A), .bool b], k2) ∧
      call Lp.fs3 Lp.ex3 22 [.ptr bk 0 0, vo] (k2 ++ [.row 25 [Pk.av A] true true]) = some (.tuple [], k3) ∧ call Lp.fs3 Lp.ex3 23 [vo, yo] k3 = some (.bool true, k4) ∧ call Lp.fs3 Lp.ex3 17 [.agg (Pk.av A), .agg (Pk.av A)] k4 = some (.bool true, k5) ∧
      (∀ c x, hK c x → k1[c]? = some x) ∧ k2[k1.length]? = some (.row 25 [Pk.av A] true true) ∧ k4[k1.length]? = some (.row 25 [Pk.av A] true true) ∧ k4[k2.length]? = some (.row 25 [Pk.av A] true true) ∧ k1.length < k2.length ∧ St k5 tg5 hK g m r bk (n + 1) s' q' := by
  have bw := S.bd.waits
  have bc := S.bd.came
  obtain ⟨nl, B⟩ := S.bk
  obtain ⟨_, e1, z, vo, k1, tg1, rfl, s1, L1, o1, f1, al⟩ := l_got S.lh (by omega) (by omega) (by omega) p hp hp1 hp2 l1 l2 t1 t2 (11 + 2 * nl)
  obtain ⟨A, hA⟩ : ∃ A, A = (s.got p z).2.2.1 := ⟨_, rfl⟩
  obtain ⟨tga, sa, hta⟩ : ∃ tga, Stp (fun _ => False) k1 (k1 ++ [.row 25 [Pk.av A] true true]) tg1 tga ∧ tga k1.length = 6 := ⟨_, stpNew (T := fun _ => False) (Chg.app k1 _ []) tg1 (fun _ => 6) (by simp), by simp⟩
  have Ra := (S.rh.stp s1 (by omega) (by omega)).stp sa id id
  have M1 := S.sm.mono fun _ _ h => (h.stp s1 (show ¬ (6 = 7) by omega)).stp sa id
  have bP : q.P.length = s.kept.length := M1.kept.len.symm
  obtain ⟨_, e2, yo, k2, tg2, rfl, s2, R2, o2, f2⟩ := r_got Ra p (by rw [S.sm.O]; omega) (by omega) (by rw [S.sm.came]; omega) hp
  obtain ⟨M2, P2, E2⟩ := M1.got (al.stp sa id)
  rw [E2] at e2
  have hka : (k1 ++ [Blk.row 25 [Pk.av A] true true])[k1.length]? = some (.row 25 [Pk.av A] true true) := by simp
  have hk2 := s2.keep _ _ hka (by rw [hta]; omega)
  have hl2 := (List.getElem?_eq_some_iff.1 hk2).1
  have ht2 : tg2 k1.length = 6 := (s2.old _ (by simp)).trans hta
  obtain ⟨tgb, sb, htb⟩ : ∃ tgb, Stp (fun _ => False) k2 (k2 ++ [.row 25 [Pk.av A] true true]) tg2 tgb ∧ tgb k2.length = 6 := ⟨_, stpNew (T := fun _ => False) (Chg.app k2 _ []) tg2 (fun _ => 6) (by simp), by simp⟩
  have hkb : (k2 ++ [Blk.row 25 [Pk.av A] true true])[k2.length]? = some (.row 25 [Pk.av A] true true) := by simp
  have hkb1 := sb.keep _ _ hk2 id
  have htb1 : tgb k1.length = 6 := (sb.old _ hl2).trans ht2
  have L2 := ((L1.stp sa id).stp s2 (by omega)).stp sb id
  have R2b := R2.stp sb id id
  have Bb := (((B.stp s1 (fun t ht => by simp only [BkTag]; omega)).stp sa (fun _ h => h.elim)).stp s2 (fun t ht => by simp only [BkTag]; omega)).stp sb (fun _ h => h.elim)
  have n7 : ∀ {i : Nat}, ¬ 11 + 2 * i = 8 := by omega
  have o1b := ((o1.stp sa (fun _ _ => id)).stp s2 (fun c hc => by rw [sa.old c (o1.lt c hc), f1 c hc]; omega)).stp sb (fun _ _ => id)
  have f1b : ∀ c ∈ foot vo, tgb c = 11 + 2 * nl := fun c hc => by
    have h1 := o1.lt c hc
    have h2 : c < k2.length := ((o1.stp sa (fun _ _ => id)).stp s2 (fun c hc => by rw [sa.old c (o1.lt c hc), f1 c hc]; omega)).lt c hc
    rw [sb.old c h2, s2.old c (by simp; omega), sa.old c h1]; exact f1 c hc
  have o2b := o2.stp sb (fun _ _ => id)
  obtain ⟨hb1, hb2⟩ := S.bd.got p z
  have hgl : ∀ {l m : List Lv}, Lp2 (Al (k1 ++ [.row 25 [Pk.av A] true true]) tga) l m → Lp2 (Al (k2 ++ [.row 25 [Pk.av A] true true]) tgb) l m := fun h => h.mono fun _ _ a => (a.stp s2 (show ¬ (6 = 8) by omega)).stp sb id
  obtain ⟨X, x1, x2, x3, x4, x5, x6⟩ := lp2_reps (hgl P2)
  obtain ⟨_, e3, k3, tg3, nl', rfl, B3, s3⟩ := Bb.addL o1b x1 ⟨by rw [x4]; omega, x3⟩ f1b x5
  have no3 : ∀ {t : Nat}, t = 6 ∨ 7 ≤ t → ¬ (t = 1 ∨ t = 4 ∨ t = 5) := by omega
  have o1c := o1b.stp s3 (fun c hc => by rw [f1b c hc]; exact no3 (by omega))
  have hk3 := s3.keep _ _ hkb (by rw [htb]; omega)
  have hk31 := s3.keep _ _ hkb1 (by rw [htb1]; omega)
  have x1c := x1.stp s3 (fun e he a ha c hc => by rw [x5 e he a ha c hc]; omega)
  have x2c := x2.stp s3 (fun e he a ha c hc => by rw [x6 e he a ha c hc]; omega)
  have f2b : ∀ c ∈ foot yo, tgb c = 6 := fun c hc => (sb.old c (o2.lt c hc)).trans (f2 c hc)
  have o2c := o2b.stp s3 (fun c hc => by rw [f2b c hc]; omega)
  obtain ⟨_, e4, k4, rfl, c4⟩ := BkL.same_call o1c.rds o2c.rds x1c x2c x3 (by omega)
  obtain ⟨_, e5, k5, rfl, c5⟩ := same_pk k4 A
  have s5 := stpNew (T := fun _ => False) (c4.trans c5 (by simp)) tg3 (fun _ => 6) (by simp)
  rw [← hA] at e1 e2
  exact ⟨vo, yo, A, _, k1, k2, k3, k4, k5, _, _, _, e1, e2, e3, e4, e5, fun c x hx => (keep_stp S.keep s1 (by omega) c x hx).1, hk2, c4.2 _ _ (by simp) hk31, c4.2 _ _ (by simp) hk3, hl2,
    (L2.stp s3 (by omega)).stp s5 id, (R2b.stp s3 (by omega) (by omega)).stp s5 id id, M2.mono fun _ _ a => (((a.stp s2 (show ¬ (6 = 8) by omega)).stp sb id).stp s3 (by omega)).stp s5 id, hb1, ⟨_, B3.stp s5 (fun _ h => h.elim)⟩,
    keep_stp (keep_stp (keep_stp (keep_stp (keep_stp (keep_stp S.keep s1 (by omega)) sa id) s2 (by omega)) sb id) s3 (by omega)) s5 id⟩
/-- A tick: the packets, on both sides. -/
theorem St.tick (S : St k tg hK g m r bk n s q) (hn : n ≤ 1000) : ∃ x y k1 k2 tg2 s' q' L, call Lp.fs3 Lp.ex3 19 [.ptr g 0 0] k = some (x, k1) ∧ call Lp.fs3 Lp.ex3 20 [.ptr r 0 0] k1 = some (y, k2) ∧ RdS k2 25 x (pks L) ∧ RdS k2 25 y (pks L) ∧ L.length ≤ 1000 ∧
    (∀ c x, hK c x → k1[c]? = some x) ∧ St k2 tg2 hK g m r bk (n + 1) s' q' := by
  have bw := S.bd.waits
  have bn := S.bd.now
  obtain ⟨nl, B⟩ := S.bk
  have hd : (s.waits = [] ∨ ∃ w ∈ s.waits.head?, s.now + 1 - w.at_ < 4 ∧ 0 ≤ w.at_ ∧ w.at_ < 4611686018427387904) ∨ ∃ w ∈ s.waits.head?, ¬ s.now + 1 - w.at_ < 4 ∧ 0 ≤ w.at_ ∧ w.at_ < 4611686018427387904 := by
    cases hs : s.waits with
    | nil => exact .inl (.inl rfl)
    | cons w l =>
      have := S.bd.at_ w (by rw [hs]; simp)
      by_cases h : s.now + 1 - w.at_ < 4
      · exact .inl (.inr ⟨w, by simp, h, by omega, by omega⟩)
      · exact .inr ⟨w, by simp, h, by omega, by omega⟩
  obtain ⟨v, l, hv⟩ := S.lh.at_
  have hg := (List.getElem?_eq_some_iff.1 l.gd).1
  have hm := (List.getElem?_eq_some_iff.1 l.mp).1
  have hT : ∀ z, z ∈ g :: foot v → tg z = 7 := fun z hz => by
    simp only [List.mem_cons] at hz
    rcases hz with rfl | hz
    · exact S.lh.tgg
    · exact hv z hz
  rcases hd with hd | hd
  · obtain ⟨⟨_, k1⟩, e1, rfl, l1, c1⟩ := tick_quiet l (by omega) (by omega) hd
    simp only at l1 c1
    obtain ⟨tg1, s1, n1⟩ : ∃ tg1, Stp (fun t => t = 7) k k1 tg tg1 ∧ ∀ c, k.length ≤ c → tg1 c = 6 := ⟨_, stpNew c1 tg (fun _ => 6) (fun z hz _ => by simp only [List.mem_singleton] at hz; subst hz; exact S.lh.tgg), fun c hc => if_neg (by omega)⟩
    have L1 : LH k1 tg1 g m _ := ⟨⟨v, l1, fun c hc => (s1.old c (l.ow.lt c hc)).trans (hv c hc)⟩, (s1.old g hg).trans S.lh.tgg, (s1.old m hm).trans S.lh.tgm⟩
    have R1 := S.rh.stp s1 (by omega) (by omega)
    obtain ⟨ov, kv, a, h1, h2⟩ := R1.at_
    obtain ⟨_, e2, k2, rfl, a2, c2⟩ := rtick_quiet a (by rw [S.sm.O]; omega) (by rw [S.sm.now]; omega) (by rw [S.sm.O, S.sm.now]; exact hd)
    have hr := (List.getElem?_eq_some_iff.1 a.row).1
    obtain ⟨tg2, s2, n2⟩ : ∃ tg2, Stp (fun t => t = 8) k1 k2 tg1 tg2 ∧ ∀ c, k1.length ≤ c → tg2 c = 6 := ⟨_, stpNew c2 tg1 (fun _ => 6) (fun z hz _ => by simp only [List.mem_singleton] at hz; subst hz; exact R1.tgr), fun c hc => if_neg (by omega)⟩
    have M := S.sm.mono fun _ _ h => (h.stp s1 (by omega)).stp s2 (by omega)
    exact ⟨.nilslice, .nilslice, k1, k2, _, _, _, [], e1, e2, .inl ⟨rfl, rfl⟩, .inl ⟨rfl, rfl⟩, by simp, fun c x hx => (keep_stp S.keep s1 (by omega) c x hx).1, L1.stp s2 (by omega), ⟨⟨ov, kv, a2, fun c hc => (s2.old c (a.oo.lt0 c hc)).trans (h1 c hc), fun c hc => (s2.old c (a.kk.lt0 c hc)).trans (h2 c hc)⟩, (s2.old r hr).trans R1.tgr⟩,
      ⟨M.me, M.peer, by simp only [S.sm.now], M.out, M.O, M.came, M.kept⟩, S.bd.quiet, ⟨nl, (B.stp s1 (fun t ht => by simp only [BkTag]; omega)).stp s2 (fun t ht => by simp only [BkTag]; omega)⟩, keep_stp (keep_stp S.keep s1 (by omega)) s2 (by omega)⟩
  · obtain ⟨⟨x, k1⟩, e1, l1, o1, c1, f1⟩ := tick_again l (by omega) (by omega) hd
    simp only at l1 o1 c1 f1
    obtain ⟨tg1, s1, n1⟩ : ∃ tg1, Stp (fun t => t = 7) k k1 tg tg1 ∧ ∀ c, k.length ≤ c → tg1 c = 6 := ⟨_, stpNew c1 tg (fun _ => 6) (fun z hz _ => hT z hz), fun c hc => if_neg (by omega)⟩
    have L1 : LH k1 tg1 g m _ := ⟨⟨v, l1, fun c hc => (s1.old c (l.ow.lt c hc)).trans (hv c hc)⟩, (s1.old g hg).trans S.lh.tgg, (s1.old m hm).trans S.lh.tgm⟩
    have R1 := S.rh.stp s1 (by omega) (by omega)
    obtain ⟨ov, kv, a, h1, h2⟩ := R1.at_
    obtain ⟨_, e2, k2, y, ov', rfl, c2, a2, o2, fo, fy⟩ := rtick_again a (by rw [S.sm.O]; omega) (by rw [S.sm.now]; omega) (by rw [S.sm.O, S.sm.now]; exact hd)
    have hr := (List.getElem?_eq_some_iff.1 a.row).1
    obtain ⟨tg2, s2, n2⟩ : ∃ tg2, Stp (fun t => t = 8) k1 k2 tg1 tg2 ∧ ∀ c, k1.length ≤ c → tg2 c = 6 := ⟨_, stpNew c2 tg1 (fun _ => 6) (fun z hz _ => by simp only [List.mem_singleton] at hz; subst hz; exact R1.tgr), fun c hc => if_neg (by omega)⟩
    have M := S.sm.mono fun _ _ h => (h.stp s1 (by omega)).stp s2 (by omega)
    have hag : q.again = s.again := by simp only [Ls.again, Rs.again, S.sm.me, S.sm.peer, S.sm.came, S.sm.O]
    rw [hag] at o2
    exact ⟨x, y, k1, k2, _, _, _, s.again, e1, e2, o1.rds.stp s2 (fun c hc => by rw [n1 c (f1 c hc)]; omega), o2.rds, by simp [Ls.again]; omega, fun c x hx => (keep_stp S.keep s1 (by omega) c x hx).1, L1.stp s2 (by omega), ⟨⟨ov', kv, a2, fun c hc => n2 c (fo c (foot0_sub hc)), fun c hc => (s2.old c (a.kk.lt0 c hc)).trans (h2 c hc)⟩, (s2.old r hr).trans R1.tgr⟩,
      ⟨M.me, M.peer, by simp only [S.sm.now], M.out, by simp only [S.sm.O, S.sm.now], M.came, M.kept⟩, S.bd.again, ⟨nl, (B.stp s1 (fun t ht => by simp only [BkTag]; omega)).stp s2 (fun t ht => by simp only [BkTag]; omega)⟩, keep_stp (keep_stp S.keep s1 (by omega)) s2 (by omega)⟩
end
end Go.Proofs.Ytmbkklobijflkaa.Lp
