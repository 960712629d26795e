/- Guest and the document's guest, side by side: each half of a step. -/
import Derived.Test.YtolnmgekneoaaaaGpB
import Derived.Test.YtolnmgekneoaaaaGpC
set_option maxRecDepth 100000
set_option linter.unusedVariables false
set_option linter.unusedSimpArgs false
namespace Go.Proofs.Ytolnmgekneoaaaa.Gp
open Go Go.Eng F Bk BkI Gu

theorem _root_.Go.Proofs.Ytolnmgekneoaaaa.Bk.RdS.stp0 {T : Nat → Prop} {k k' : H} {tg tg' : Nat → Nat} {es : Nat} {v : AV} {L : List (List AV)} (o : RdS k es v L) (s : Stp T k k' tg tg') (h : ∀ c ∈ foot0 v, ¬ T (tg c)) : RdS k' es v L := by
  obtain ⟨F, c, hF⟩ := s.chg
  exact o.keep0 c (fun z hz => hF z (h z hz))
/-- New tags. -/
theorem stpNew {T : Nat → Prop} {k k' : H} {F : List Nat} (c : Chg k k' F) (tg nt : Nat → Nat) (h : ∀ z ∈ F, z < k.length → T (tg z)) : Stp T k k' tg (fun c => if c < k.length then tg c else nt c) :=
  Stp.of c h (fun z hz => by simp [hz])
structure Sim (s : Gs) (X : List It) (q : Gs) (Y : List It) : Prop where
  me : q.me = s.me
  nodes : q.nodes = s.nodes
  id : q.id = s.id
  tried : q.tried = s.tried
  a : q.a = s.a
  at_ : q.at_ = s.at_
  old : q.old = s.old
  on : q.on = s.on
  over : q.over = s.over
  waits : s.on = true → q.waits = s.waits
  told : s.over = true → q.t = s.t ∧ Y = X
structure GH (k : H) (tg : Nat → Nat) (g : Nat) (s : Gs) (X : List It) : Prop where
  get : ∃ it, k[g]? = some (.row 20 [gav s it] true true) ∧ RdS k 2 it (its X) ∧ ∀ c ∈ foot0 it, tg c = 6
  tgg : tg g = 7
  len : X.length ≤ 50000
structure RH (k : H) (tg : Nat → Nat) (r : Nat) (s : Gs) (X : List It) : Prop where
  get : ∃ q it Y, k[r]? = some (.row 20 [rav q it] true true) ∧ RdS k 2 it (its Y) ∧ (∀ c ∈ foot0 it, tg c = 6) ∧ Sim s X q Y
  tgr : tg r = 8
theorem GH.stp {T : Nat → Prop} {k k' : H} {tg tg' : Nat → Nat} {g : Nat} {s : Gs} {X : List It} (b : GH k tg g s X) (st : Stp T k k' tg tg') (h6 : ¬ T 6) (h7 : ¬ T 7) : GH k' tg' g s X := by
  obtain ⟨it, h1, h2, h3⟩ := b.get
  exact ⟨⟨it, st.keep g _ h1 (by rw [b.tgg]; exact h7), h2.stp0 st (fun c hc => by rw [h3 c hc]; exact h6), fun c hc => (st.old c (h2.lt0 c hc)).trans (h3 c hc)⟩, (st.old g (List.getElem?_eq_some_iff.1 h1).1).trans b.tgg, b.len⟩
theorem RH.stp {T : Nat → Prop} {k k' : H} {tg tg' : Nat → Nat} {r : Nat} {s : Gs} {X : List It} (b : RH k tg r s X) (st : Stp T k k' tg tg') (h6 : ¬ T 6) (h8 : ¬ T 8) : RH k' tg' r s X := by
  obtain ⟨q, it, Y, h1, h2, h3, h4⟩ := b.get
  exact ⟨⟨q, it, Y, st.keep r _ h1 (by rw [b.tgr]; exact h8), h2.stp0 st (fun c hc => by rw [h3 c hc]; exact h6), fun c hc => (st.old c (h2.lt0 c hc)).trans (h3 c hc), h4⟩, (st.old r (List.getElem?_eq_some_iff.1 h1).1).trans b.tgr⟩
/-- A list of one letter that asks, or none. -/
def LoT (k : H) (tg : Nat → Nat) (t : Nat) (x : AV) (s : Gs) : Bool → Prop
  | false => x = .nilslice
  | true => ∃ b, x = .slice b 21 0 1 1 true ∧ k[b]? = some (.row 21 [s.ltr] true true) ∧ tg b = t
theorem LoT.stp {T : Nat → Prop} {k k' : H} {tg tg' : Nat → Nat} {t : Nat} {x : AV} {s : Gs} {o : Bool} (l : LoT k tg t x s o) (st : Stp T k k' tg tg') (h : ¬ T t) : LoT k' tg' t x s o := by
  cases o
  · exact l
  · obtain ⟨b, h1, h2, h3⟩ := l
    exact ⟨b, h1, st.keep b _ h2 (by rw [h3]; exact h), (st.old b (List.getElem?_eq_some_iff.1 h2).1).trans h3⟩
abbrev Res := Gs × List It × Bool × Bool
def Gev (k : H) (tg : Nat → Nat) (g t : Nat) (z : Res) (r : AV × H) : Prop :=
  ∃ x k' tg', r = (.tuple [x, .bool z.2.2.2], k') ∧ Stp (fun t => t = 7) k k' tg tg' ∧ GH k' tg' g z.1 z.2.1 ∧ LoT k' tg' t x z.1 z.2.2.1
def Rev (k : H) (tg : Nat → Nat) (r : Nat) (z : Res) (p : AV × H) : Prop :=
  ∃ x k' tg', p = (.tuple [x, .bool z.2.2.2], k') ∧ Stp (fun t => t = 8) k k' tg tg' ∧ RH k' tg' r z.1 z.2.1 ∧ LoT k' tg' 6 x z.1 z.2.2.1
section
variable {k : H} {tg : Nat → Nat} {g t : Nat} {s : Gs} {X : List It}
theorem gev_no {k' : H} {s' : Gs} {it' : AV} {X' : List It} {v : Bool} (tgg : tg g = 7) (hgl : g < k.length) (hch : Chg k k' [g]) (hg' : k'[g]? = some (.row 20 [gav s' it'] true true)) (hr : RdS k' 2 it' (its X')) (hf : ∀ z ∈ foot0 it', z < k.length → tg z = 6) (hX : X'.length ≤ 50000) :
    Gev k tg g t (s', X', false, v) (.tuple [.nilslice, .bool v], k') :=
  ⟨_, _, _, rfl, stpNew hch tg (fun _ => 6) (fun z hz _ => by simp only [List.mem_singleton] at hz; rw [hz]; exact tgg), ⟨⟨it', hg', hr, fun c hc => by
    by_cases h : c < k.length
    · simp only [h, if_true]; exact hf c hc h
    · simp only [h, if_false]⟩, by simp only [hgl, if_true]; exact tgg, hX⟩, rfl⟩
theorem gev_yes {k' : H} {s' : Gs} {it' : AV} {X' : List It} {v : Bool} {b : Nat} (tgg : tg g = 7) (hgl : g < k.length) (hch : Chg k k' [g]) (hg' : k'[g]? = some (.row 20 [gav s' it'] true true)) (hr : RdS k' 2 it' (its X')) (hf : ∀ z ∈ foot0 it', z < k.length ∧ tg z = 6) (hX : X'.length ≤ 50000)
    (hb : k'[b]? = some (.row 21 [s'.ltr] true true)) (hbl : k.length ≤ b) :
    Gev k tg g t (s', X', true, v) (.tuple [.slice b 21 0 1 1 true, .bool v], k') :=
  ⟨_, _, _, rfl, stpNew hch tg (fun _ => t) (fun z hz _ => by simp only [List.mem_singleton] at hz; rw [hz]; exact tgg), ⟨⟨it', hg', hr, fun c hc => by
    have h := hf c hc
    simp only [h.1, if_true]; exact h.2⟩, by simp only [hgl, if_true]; exact tgg, hX⟩, ⟨b, rfl, hb, if_neg (by omega)⟩⟩
theorem rev_mk {k' : H} {r : Nat} {s' q : Gs} {it' x : AV} {X' Y : List It} {o v : Bool} (tgr : tg r = 8) (hrl : r < k.length) (hch : Chg k k' [r]) (hr' : k'[r]? = some (.row 20 [rav q it'] true true)) (hr : RdS k' 2 it' (its Y)) (hf : ∀ z ∈ foot0 it', z < k.length → tg z = 6) (hs : Sim s' X' q Y)
    (hx : (o = false ∧ x = .nilslice) ∨ (o = true ∧ ∃ b, x = .slice b 21 0 1 1 true ∧ k'[b]? = some (.row 21 [s'.ltr] true true) ∧ k.length ≤ b)) :
    Rev k tg r (s', X', o, v) (.tuple [x, .bool v], k') :=
  ⟨_, _, _, rfl, stpNew hch tg (fun _ => 6) (fun z hz _ => by simp only [List.mem_singleton] at hz; rw [hz]; exact tgr), ⟨⟨q, it', Y, hr', hr, fun c hc => by
    by_cases h : c < k.length
    · simp only [h, if_true]; exact hf c hc h
    · simp only [h, if_false], hs⟩, by simp only [hrl, if_true]; exact tgr⟩, by
    rcases hx with ⟨rfl, rfl⟩ | ⟨rfl, b, rfl, hb, hbl⟩
    · rfl
    · exact ⟨b, rfl, hb, if_neg (by omega)⟩⟩
end
structure Inv (s : Gs) : Prop where
  waits : 0 ≤ s.waits ∧ s.waits ≤ 2
  nodes : s.nodes ≠ 0
/-! What a step does. -/
def tickS (s : Gs) (X : List It) : Res :=
  if s.on = false then (s, X, false, false)
  else if decide (30 ≤ IntKind.i64.wrap (s.old + 1)) = true then (gend (gold s) tmo, [], false, true)
  else if decide (0 < s.waits) = false then (gold s, X, false, false)
  else if (IntKind.i64.wrap (s.waits - 1) == 0) = false then ({ gold s with waits := IntKind.i64.wrap (s.waits - 1) }, X, false, false)
  else ({ gold s with waits := 0, id := IntKind.i64.wrap (s.id + 1) }, X, true, false)
def gotS (s : Gs) (X : List It) (x : Lt) (Y : List It) : Res :=
  if (!s.on || decide (0 < s.waits) || (x.kind != 2) || (x.id != s.id) || (x.frm != s.at_)) = true then (s, X, false, false)
  else if ((x.t.errno != 7) && (x.t.errno != 8)) = true then (gend s x.t, Y, false, true)
  else if decide (8 ≤ s.tried) = true then (gend s tmo, [], false, true)
  else if x.t.errno = 7 then (gbusy s, X, false, false)
  else (gmove s x.t.node, X, true, false)
def mayS (s : Gs) (a : As) (x : Int) : Bool := !(s.on || ((a.op != 1) && (a.op != 2) && (a.op != 3)) || !(decide (0 ≤ x) && decide (x < s.nodes)))
def startS (s : Gs) (X : List It) (a : As) (x : Int) : Res := if mayS s a x = false then (s, X, false, false) else (gstart s a x, [], true, true)
theorem tick_inv {s : Gs} {X : List It} (i : Inv s) : Inv (tickS s X).1 := by
  unfold tickS
  split
  · exact i
  · split
    · exact ⟨by simp [gend], i.nodes⟩
    · split
      · exact ⟨i.waits, i.nodes⟩
      · rename_i h
        have h0 : 0 < s.waits := by simpa using h
        have hw := i.waits
        have : IntKind.i64.wrap (s.waits - 1) = s.waits - 1 := wrap_i64 (by omega) (by omega)
        split
        · exact ⟨by simp only [this]; omega, i.nodes⟩
        · exact ⟨by simp, i.nodes⟩
theorem got_inv {s : Gs} {X Y : List It} {x : Lt} (i : Inv s) : Inv (gotS s X x Y).1 := by
  unfold gotS
  split
  · exact i
  · split
    · exact ⟨by simp [gend], i.nodes⟩
    · split
      · exact ⟨by simp [gend], i.nodes⟩
      · split
        · exact ⟨by simp [gbusy], i.nodes⟩
        · exact ⟨i.waits, i.nodes⟩
theorem start_inv {s : Gs} {X : List It} {a : As} {x : Int} (i : Inv s) : Inv (startS s X a x).1 := by
  unfold startS
  split
  · exact i
  · exact ⟨by simp [gstart], i.nodes⟩
section
variable {k : H} {tg : Nat → Nat} {g t : Nat} {s : Gs} {X : List It}
theorem nil_rds (k : H) : RdS k 2 .nilslice (its []) := .inl ⟨rfl, rfl⟩
theorem nil_foot {tg : Nat → Nat} {P : Nat → Prop} : ∀ z ∈ foot0 AV.nilslice, P z := fun z hz => by simp [foot0] at hz
theorem g_tick (G : GH k tg g s X) (t : Nat) : Yld (call Gb.fs3 Gb.ex3 15 [.ptr g 0 0] k) (Gev k tg g t (tickS s X)) := by
  obtain ⟨it, h1, h2, h3⟩ := G.get
  have hgl := (List.getElem?_eq_some_iff.1 h1).1
  have cs : ∀ y : Blk, Chg k (k.set g y) [g] := fun y => (Chg.refl _ _).set (.inl (by simp))
  have gn : g ∉ foot0 it := fun hm => by have := h3 g hm; rw [G.tgg] at this; omega
  have rs : ∀ y : Blk, RdS (k.set g y) 2 it (its X) := fun y => h2.keep0 (cs y) (fun z hz => by simp only [List.mem_singleton]; rintro rfl; exact gn hz)
  rw [tick_eq h1]
  unfold tickR tickS
  split
  · exact yld_some.2 (gev_no G.tgg hgl (Chg.refl _ _) h1 h2 (fun z hz _ => h3 z hz) G.len)
  · split
    · exact yld_some.2 (gev_no G.tgg hgl (cs _).more (get_app (get_set_same h1)) (nil_rds _) (nil_foot (tg := tg)) (by simp))
    · split
      · exact yld_some.2 (gev_no G.tgg hgl (cs _) (get_set_same h1) (rs _) (fun z hz _ => h3 z hz) G.len)
      · split
        · exact yld_some.2 (gev_no G.tgg hgl (cs _) (get_set_same h1) (rs _) (fun z hz _ => h3 z hz) G.len)
        · exact yld_some.2 (gev_yes G.tgg hgl (cs _).more (get_app (get_set_same h1)) (rds_app (rs _)) (fun z hz => ⟨h2.lt0 z hz, h3 z hz⟩) G.len (by simp [Gs.ltr, gold]) (Nat.le_refl _))
theorem g_start (G : GH k tg g s X) (a : As) (x : Int) (t : Nat) : Yld (call Gb.fs3 Gb.ex3 12 [.ptr g 0 0, .agg (aav a), .int .i64 x] k) (Gev k tg g t (startS s X a x)) := by
  obtain ⟨it, h1, h2, h3⟩ := G.get
  have hgl := (List.getElem?_eq_some_iff.1 h1).1
  have cs : ∀ y : Blk, Chg k (k.set g y) [g] := fun y => (Chg.refl _ _).set (.inl (by simp))
  unfold startS mayS
  split
  · rename_i h
    rw [start_no h1 a x (by rw [Bool.not_eq_false'] at h; exact h)]
    exact yld_some.2 (gev_no G.tgg hgl (Chg.app _ _ _) (get_app h1) (rds_app h2) (fun z hz _ => h3 z hz) G.len)
  · rename_i h
    rw [start_yes h1 a x (by rw [Bool.not_eq_false'] at h; exact Bool.not_eq_true _ ▸ h)]
    exact yld_some.2 (gev_yes G.tgg hgl (cs _).more (get_app (get_set_same h1)) (nil_rds _) (nil_foot (tg := tg)) (by simp) (by simp) (by omega))
theorem g_got (G : GH k tg g s X) (i : Inv s) (x : Lt) {w w2 : AV} {Y : List It} (hw : RdS k 2 w (its Y)) (hY : Y.length ≤ 50000) (hw2 : w2.cells = some [w2] ∧ w2.scalar = true) (t : Nat) : Yld (call Gb.fs3 Gb.ex3 13 [.ptr g 0 0, .agg (lav x w w2)] k) (Gev k tg g t (gotS s X x Y)) := by
  obtain ⟨it, h1, h2, h3⟩ := G.get
  have hgl := (List.getElem?_eq_some_iff.1 h1).1
  have cs : ∀ y : Blk, Chg k (k.set g y) [g] := fun y => (Chg.refl _ _).set (.inl (by simp))
  have gn : g ∉ foot0 it := fun hm => by have := h3 g hm; rw [G.tgg] at this; omega
  have rs : ∀ y : Blk, RdS (k.set g y) 2 it (its X) := fun y => h2.keep0 (cs y) (fun z hz => by simp only [List.mem_singleton]; rintro rfl; exact gn hz)
  have cw := hw.cells
  unfold gotS
  split
  · rename_i h
    rw [got_no h1 x ⟨cw.1, cw.2.1⟩ hw2 h]
    exact yld_some.2 (gev_no G.tgg hgl (Chg.app _ _ _) (get_app h1) (rds_app h2) (fun z hz _ => h3 z hz) G.len)
  · rename_i hc
    have hc := Bool.not_eq_true _ ▸ hc
    split
    · rename_i h
      refine (got_end h1 x hw (by omega) hw2 hc h).mono ?_
      rintro r ⟨k', c, rfl, e1, e2, e3, e4⟩
      exact gev_no G.tgg hgl e1 e2 e3.rds (fun z hz hl => by have := e4 z (foot0_sub hz); omega) hY
    · rename_i h
      have h := Bool.not_eq_true _ ▸ h
      split
      · rename_i h8
        rw [got_tmo h1 x ⟨cw.1, cw.2.1⟩ hw2 hc h h8]
        exact yld_some.2 (gev_no G.tgg hgl (cs _).more (get_app (get_set_same h1)) (nil_rds _) (nil_foot (tg := tg)) (by simp))
      · rename_i h8
        have h8 := Bool.not_eq_true _ ▸ h8
        split
        · rename_i h7
          rw [got_busy h1 x ⟨cw.1, cw.2.1⟩ hw2 hc h8 h7]
          exact yld_some.2 (gev_no G.tgg hgl (cs _).more (get_app (get_set_same h1)) (rds_app (rs _)) (fun z hz _ => h3 z hz) G.len)
        · rename_i h7
          have b7 : (x.t.errno != 7) = true := bne_true h7
          have h6 : x.t.errno = 8 := by simpa [b7] using h
          rw [got_else h1 i.nodes x ⟨cw.1, cw.2.1⟩ hw2 hc h8 h7 h6]
          exact yld_some.2 (gev_yes G.tgg hgl (cs _).more (get_app (get_set_same h1)) (rds_app (rs _)) (fun z hz => ⟨h2.lt0 z hz, h3 z hz⟩) G.len (by simp) (by omega))
end
end Go.Proofs.Ytolnmgekneoaaaa.Gp
