/- The engine, part T: what a run ends in; loops by an invariant; what a call leaves behind that nobody can reach may be forgotten. -/
import Derived.Test.YtgnenipkebelfaaGreatDoorEngS
set_option linter.unusedVariables false
set_option linter.unusedSimpArgs false
namespace Go.Eng
open Go

/-! ### Yld -/
def Yld {α : Type} (x : Option α) (Q : α → Prop) : Prop := ∃ r, x = some r ∧ Q r

theorem yld_some {α : Type} {r : α} {Q : α → Prop} : Yld (some r) Q ↔ Q r := ⟨fun ⟨s, h, q⟩ => by cases h; exact q, fun q => ⟨r, rfl, q⟩⟩
theorem Yld.mono {α : Type} {x : Option α} {Q R : α → Prop} (h : Yld x Q) (hq : ∀ r, Q r → R r) : Yld x R := ⟨h.choose, h.choose_spec.1, hq _ h.choose_spec.2⟩
theorem Yld.bind {α β : Type} {x : Option α} {Q : α → Prop} {R : β → Prop} {k : Option α → Option β} (h : Yld x Q) (hk : ∀ r, Q r → Yld (k (some r)) R) : Yld (k x) R := by
  obtain ⟨r, rfl, q⟩ := h
  exact hk r q

section
variable {cf : FuncId → List AV → M AV} {lp : Looper}
theorem yld_put {os : List SOper} {d : Option Nat} {e : Env} {x : Option (AV × H)} {Q : AV × H → Prop} {R : Option (Env × H) → Option ((Ex × Env) × H)} {S : (Ex × Env) × H → Prop}
    (h : Yld x Q) (hk : ∀ v h', Q (v, h') → Yld (R (opsK cf os (some (e.put d v, h')))) S) : Yld (R (opsK cf os (putK d e x))) S := by
  obtain ⟨⟨v, h'⟩, rfl, q⟩ := h
  exact hk v h' q

/-- A loop, by an invariant on what it holds and a measure. -/
theorem yld_loop (f : Env → M (Ex × Env)) (I : Nat → Env → H → Prop) (Q : (Ex × Env) × H → Prop)
    (step : ∀ n e h, I n e h → Yld (f e h) fun r => match r.1.1 with | .normal => ∃ m, m < n ∧ I m r.1.2 r.2 | _ => Q r) : ∀ n e h, I n e h → Yld (itw f e h) Q := by
  intro n
  induction n using Nat.strongRecOn with
  | _ n ih =>
    intro e h hi
    obtain ⟨⟨⟨x, e1⟩, h1⟩, hf, hq⟩ := step n e h hi
    rw [itw_eq, hf]
    cases x with
    | normal =>
      obtain ⟨m, hm, hi'⟩ := hq
      exact ih m hm e1 h1 hi'
    | exit i => exact ⟨_, rfl, hq⟩
    | ret => exact ⟨_, rfl, hq⟩
end

section
variable {cf : FuncId → List AV → M AV}
theorem yld_endFn {res : List SRes} {x : Option ((Ex × Env) × H)} {Q : AV × H → Prop} (h : Yld x fun r => Yld (endFn res (some r)) Q) : Yld (endFn res x) Q := h.bind fun _ h => h
theorem yld_seqK {k : Env → M (Ex × Env)} {x : Option ((Ex × Env) × H)} {Q : (Ex × Env) × H → Prop} (h : Yld x fun r => Yld (seqK k (some r)) Q) : Yld (seqK k x) Q := h.bind fun _ h => h
theorem yld_blockK {i : Nat} {x : Option ((Ex × Env) × H)} {Q : (Ex × Env) × H → Prop} (h : Yld x fun r => Yld (blockK i (some r)) Q) : Yld (blockK i x) Q := h.bind fun _ h => h
theorem yld_regK {x : Option (Env × H)} {Q : (Ex × Env) × H → Prop} (h : Yld x fun r => Yld (regK (some r)) Q) : Yld (regK x) Q := h.bind fun _ h => h
theorem yld_opsK {os : List SOper} {x : Option (Env × H)} {Q : Env × H → Prop} (h : Yld x fun r => Yld (opsK cf os (some r)) Q) : Yld (opsK cf os x) Q := h.bind fun _ h => h
theorem yld_putK {d : Option Nat} {e : Env} {x : Option (AV × H)} {Q : Env × H → Prop} (h : Yld x fun r => Yld (putK d e (some r)) Q) : Yld (putK d e x) Q := h.bind fun _ h => h
theorem yld_stgK {ss : List Stage} {x : Option (Env × H)} {Q : Env × H → Prop} (h : Yld x fun r => Yld (stgK cf ss (some r)) Q) : Yld (stgK cf ss x) Q := h.bind fun _ h => h
theorem yld_chkK {chk heavy : List SOper} {ss : List Stage} {x : Option (Env × H)} {Q : Env × H → Prop} (h : Yld x fun r => Yld (chkK cf chk heavy ss (some r)) Q) : Yld (chkK cf chk heavy ss x) Q := h.bind fun _ h => h

theorem yld_for {f : Env → M (Ex × Env)} (I : Nat → Env → H → Prop) {Q : (Ex × Env) × H → Prop} {e : Env} {h : H} (n : Nat) (h0 : I n e h)
    (step : ∀ n e h, I n e h → Yld (f e h) fun r => match r.1.1 with | .normal => ∃ m, m < n ∧ I m r.1.2 r.2 | _ => Q r) : Yld (itw f e h) Q := yld_loop f I Q step n e h h0
/-- The same; the invariant and what comes behind the loop are shut while a round is run. -/
theorem yld_rounds {f : Env → M (Ex × Env)} (I : Nat → Env → H → Prop) {Q : (Ex × Env) × H → Prop} {e : Env} {h : H} (n : Nat) (h0 : I n e h)
    (step : ∀ (J : Nat → Env → H → Prop) (R : (Ex × Env) × H → Prop), (∀ m e h, I m e h → J m e h) → (∀ r, Q r → R r) → ∀ n e h, I n e h → Yld (f e h) fun r => match r.1.1 with | .normal => ∃ m, m < n ∧ J m r.1.2 r.2 | _ => R r) : Yld (itw f e h) Q :=
  yld_loop f I Q (step I Q (fun _ _ _ h => h) (fun _ h => h)) n e h h0
/-- What is to be shown in the end is shut. -/
theorem yld_shut {α : Type} {x : Option α} {P : α → Prop} (h : ∀ Q : α → Prop, (∀ r, P r → Q r) → Yld x Q) : Yld x P := h P fun _ h => h
end

/-! ### What cannot be reached -/
mutual
def AV.low (n : Nat) : AV → Bool
  | .ptr b _ _ => decide (b < n)
  | .slice b _ _ _ _ _ => decide (b < n)
  | .map b => decide (b < n)
  | .func _ cs => lows n cs
  | .agg l => lows n l
  | .tuple l => lows n l
  | _ => true
def lows (n : Nat) : List AV → Bool
  | [] => true
  | a :: l => AV.low n a && lows n l
end

def Blk.low (n : Nat) : Blk → Bool
  | .dead => true
  | .row _ els _ _ => els.all (lows n)
  | .map es => es.all fun p => p.1.low n && p.2.low n
  | .bld v => v.low n

def Inj.cut (σ : Inj) (n : Nat) : Inj := fun b => if b < n then σ b else none

mutual
theorem vrel_cut {σ : Inj} {n : Nat} : ∀ (a : AV) (c : Value), a.low n = true → VRel σ a c → VRel (σ.cut n) a c
  | .undef, _, _, _ => by simp [VRel]
  | .bool b, c, _, hv => by rw [vrel_bool hv]; simp [VRel]
  | .int k m, c, _, hv => by rw [vrel_int hv]; simp [VRel]
  | .str s, c, _, hv => by rw [vrel_str hv]; simp [VRel]
  | .nilptr, c, _, hv => by rw [vrel_nilptr hv]; simp [VRel]
  | .ptr b i j, c, hl, hv => by
    obtain ⟨l, h1, rfl⟩ := vrel_ptr hv
    have hb : b < n := by simpa [AV.low] using hl
    simp only [VRel]
    exact ⟨l, by simp [Inj.cut, hb, h1], rfl⟩
  | .nilslice, c, _, hv => by rw [vrel_nilslice hv]; simp [VRel]
  | .slice b e i m k x, c, hl, hv => by
    obtain ⟨a, c', rfl, h1, h2, h3, l, h4, h5⟩ := vrel_slice hv
    have hb : b < n := by simpa [AV.low] using hl
    simp only [VRel]
    exact ⟨trivial, h1, h2, h3, l, by simp [Inj.cut, hb, h4], h5⟩
  | .nilmap, c, _, hv => by rw [vrel_nilmap hv]; simp [VRel]
  | .map b, c, hl, hv => by
    obtain ⟨l, h1, rfl⟩ := vrel_map hv
    have hb : b < n := by simpa [AV.low] using hl
    simp only [VRel]
    exact ⟨l, by simp [Inj.cut, hb, h1], rfl⟩
  | .nilfunc, c, _, hv => by rw [vrel_nilfunc hv]; simp [VRel]
  | .func f cs, c, hl, hv => by
    obtain ⟨cap, rfl, h1⟩ := vrel_func hv
    simp only [VRel]
    exact ⟨trivial, trivial, vrels_cut cs _ (by simpa [AV.low] using hl) h1⟩
  | .agg l, c, hl, hv => by
    obtain ⟨cs, rfl, h1⟩ := vrel_agg hv
    simp only [VRel]
    exact vrels_cut l _ (by simpa [AV.low] using hl) h1
  | .tuple l, c, hl, hv => by
    obtain ⟨cs, rfl, h1⟩ := vrel_tuple hv
    simp only [VRel]
    exact vrels_cut l _ (by simpa [AV.low] using hl) h1
theorem vrels_cut {σ : Inj} {n : Nat} : ∀ (l : List AV) (cs : List Value), lows n l = true → VRels σ l cs → VRels (σ.cut n) l cs
  | [], cs, _, hv => by rw [vrels_nil hv]; trivial
  | a :: l, cs, hl, hv => by
    obtain ⟨c, cs', rfl, h1, h2⟩ := vrels_cons hv
    simp only [lows, Bool.and_eq_true] at hl
    exact ⟨vrel_cut a c hl.1 h1, vrels_cut l cs' hl.2 h2⟩
end

mutual
theorem vrel_low {σ : Inj} {n : Nat} (hd : ∀ b l, σ b = some l → b < n) : ∀ (a : AV) (c : Value), VRel σ a c → a.low n = true
  | .undef, _, _ | .bool _, _, _ | .int _ _, _, _ | .str _, _, _ | .nilptr, _, _ | .nilslice, _, _ | .nilmap, _, _ | .nilfunc, _, _ => by simp [AV.low]
  | .ptr b i j, c, hv => by obtain ⟨l, h1, rfl⟩ := vrel_ptr hv; simpa [AV.low] using hd b l h1
  | .slice b e i m k x, c, hv => by
    obtain ⟨a, c', rfl, h1, h2, h3, l, h4, h5⟩ := vrel_slice hv
    simpa [AV.low] using hd b l h4
  | .map b, c, hv => by obtain ⟨l, h1, rfl⟩ := vrel_map hv; simpa [AV.low] using hd b l h1
  | .func f cs, c, hv => by obtain ⟨cap, rfl, h1⟩ := vrel_func hv; simpa [AV.low] using vrels_low hd cs _ h1
  | .agg l, c, hv => by obtain ⟨cs, rfl, h1⟩ := vrel_agg hv; simpa [AV.low] using vrels_low hd l _ h1
  | .tuple l, c, hv => by obtain ⟨cs, rfl, h1⟩ := vrel_tuple hv; simpa [AV.low] using vrels_low hd l _ h1
theorem vrels_low {σ : Inj} {n : Nat} (hd : ∀ b l, σ b = some l → b < n) : ∀ (l : List AV) (cs : List Value), VRels σ l cs → lows n l = true
  | [], cs, _ => rfl
  | a :: l, cs, hv => by
    obtain ⟨c, cs', rfl, h1, h2⟩ := vrels_cons hv
    simp only [lows, Bool.and_eq_true]
    exact ⟨vrel_low hd a c h1, vrels_low hd l cs' h2⟩
end

theorem lows_get {n : Nat} : ∀ {l : List AV}, lows n l = true → ∀ a ∈ l, a.low n = true
  | [], _, a, h => by cases h
  | b :: l, hl, a, h => by
    simp only [lows, Bool.and_eq_true] at hl
    rcases List.mem_cons.1 h with rfl | h
    · exact hl.1
    · exact lows_get hl.2 a h
theorem lows_of {n : Nat} : ∀ {l : List AV}, (∀ a ∈ l, a.low n = true) → lows n l = true
  | [], _ => rfl
  | b :: l, hl => by
    simp only [lows, Bool.and_eq_true]
    exact ⟨hl b (by simp), lows_of fun a ha => hl a (by simp [ha])⟩

theorem ents_cut {σ : Inj} {n : Nat} : ∀ {l : List (AV × AV)} {m : List MapEntry}, l.all (fun p => p.1.low n && p.2.low n) = true → Ents σ l m → Ents (σ.cut n) l m
  | [], [], _, _ => trivial
  | [], _ :: _, _, h => h.elim
  | _ :: _, [], _, h => h.elim
  | a :: l, e :: m, hl, h => by
    simp only [List.all_cons, Bool.and_eq_true] at hl
    exact ⟨⟨vrel_cut _ _ hl.1.1 h.1.1, vrel_cut _ _ hl.1.2 h.1.2⟩, ents_cut hl.2 h.2⟩
theorem ents_low {σ : Inj} {n : Nat} (hd : ∀ b l, σ b = some l → b < n) : ∀ {l : List (AV × AV)} {m : List MapEntry}, Ents σ l m → l.all (fun p => p.1.low n && p.2.low n) = true
  | [], _, _ => rfl
  | _ :: _, [], h => h.elim
  | a :: l, e :: m, h => by
    simp only [List.all_cons, Bool.and_eq_true]
    exact ⟨⟨vrel_low hd _ _ h.1.1, vrel_low hd _ _ h.1.2⟩, ents_low hd h.2⟩

theorem blk_cut {σ : Inj} {n : Nat} {w : World} {l : Loc} {x : Blk} (hl : x.low n = true) (h : BlkRel σ w l x) : BlkRel (σ.cut n) w l x := by
  cases x with
  | dead => trivial
  | row es els wr ap =>
    obtain ⟨h1, h2, h3, cs, ty, fz, h4, h5, h6, h7⟩ := h
    simp only [Blk.low, List.all_eq_true] at hl
    refine ⟨h1, h2, h3, cs, ty, fz, h4, h5, fun i e he => ⟨(h6 i e he).1, fun j a ha => ?_⟩, h7⟩
    obtain ⟨c, hc, hr⟩ := (h6 i e he).2 j a ha
    exact ⟨c, hc, vrel_cut a c (lows_get (hl e (List.mem_of_getElem? he)) a (List.mem_of_getElem? ha)) hr⟩
  | map es =>
    obtain ⟨ents, clock, h1, h2⟩ := h
    exact ⟨ents, clock, h1, ents_cut (by simpa only [Blk.low] using hl) h2⟩
  | bld v =>
    obtain ⟨h0, T, c0, cv, h1, h2, h3, h4, h5⟩ := h
    have hv : v.low n = true := by simpa only [Blk.low] using hl
    refine ⟨h0, T, c0, cv, h1, h2, h3, vrel_cut v cv hv h4, ?_⟩
    rcases h5 with h5 | ⟨g, m, c, lg, rfl, k2, k3⟩
    · exact .inl h5
    · have hg : g < n := by simpa [AV.low] using hv
      exact .inr ⟨g, m, c, lg, rfl, by simp [Inj.cut, hg, k2], k3⟩

theorem blk_low {σ : Inj} {n : Nat} (hd : ∀ b l, σ b = some l → b < n) {w : World} {l : Loc} {x : Blk} (h : BlkRel σ w l x) : x.low n = true := by
  cases x with
  | dead => rfl
  | row es els wr ap =>
    obtain ⟨h1, h2, h3, cs, ty, fz, h4, h5, h6, h7⟩ := h
    simp only [Blk.low, List.all_eq_true]
    intro e he
    obtain ⟨i, hi⟩ := List.mem_iff_getElem?.1 he
    refine lows_of fun a ha => ?_
    obtain ⟨j, hj⟩ := List.mem_iff_getElem?.1 ha
    obtain ⟨c, hc, hr⟩ := (h6 i e hi).2 j a hj
    exact vrel_low hd a c hr
  | map es =>
    obtain ⟨ents, clock, h1, h2⟩ := h
    simpa only [Blk.low] using ents_low hd h2
  | bld v =>
    obtain ⟨h0, T, c0, cv, h1, h2, h3, h4, _⟩ := h
    exact vrel_low hd v cv h4

/-- What stands behind the blocks that count is forgotten. -/
theorem drop_sound {P : Program} {cf ex : FuncId → List AV → M AV} (hcf : CfSound P cf)
    (hex : ∀ (f : FuncId) (vs : List AV) (h : H) (v : AV) (h' : H), ex f vs h = some (v, h') → ∃ k, cf f vs h = some (v, h' ++ k) ∧ h.length ≤ h'.length ∧ v.low h'.length = true ∧
      ∀ (b : Nat) (x : Blk), h'[b]? = some x → h[b]? = some x ∨ x.low h'.length = true) : CfSound P ex := by
  intro f vs h v h' hr
  obtain ⟨k, hc, hlen, hv, hb⟩ := hex f vs h v h' hr
  obtain ⟨hok, hcalls⟩ := hcf f vs h v _ hc
  refine ⟨hok, fun σ w cs r hvs => (hcalls σ w cs r hvs).mono fun e w' ⟨c, σ', he, hv', r', x'⟩ => ?_⟩
  refine ⟨c, σ'.cut h'.length, he, vrel_cut v c hv hv', ?_, ?_⟩
  · refine ⟨fun b l hl => ?_, fun b l x hl hx => ?_, fun b b' l l' x y hne hl hl' hcb hx hy => ?_, ⟨r'.lay.is_, fun p hp ho => r'.lay.no p hp ?_⟩⟩
    rotate_left 3
    · obtain ⟨b, l, hl, hcb', hor⟩ := ho
      unfold Inj.cut at hl
      split at hl
      · rename_i hlt
        refine ⟨b, l, hl, hcb', ?_⟩
        rcases hor with ⟨es, els, wr, h1⟩ | ⟨es, h1⟩ | ⟨es, h1⟩
        · exact .inl ⟨es, els, wr, by rw [List.getElem?_append_left hlt]; exact h1⟩
        · exact .inr (.inl ⟨es, by rw [List.getElem?_append_left hlt]; exact h1⟩)
        · exact .inr (.inr ⟨es, by rw [List.getElem?_append_left hlt]; exact h1⟩)
      · cases hl
    · unfold Inj.cut at hl
      split at hl
      · assumption
      · cases hl
    · unfold Inj.cut at hl
      split at hl
      · rename_i hlt
        have hrel := r'.blk b l x hl (by rw [List.getElem?_append_left hlt]; exact hx)
        refine blk_cut ?_ hrel
        rcases hb b x hx with h1 | h1
        · cases hs : σ b with
          | some m =>
            have hm : m = l := by have := x'.inj b m hs; rw [hl] at this; cases this; rfl
            subst hm
            exact blk_low (fun b0 l0 h0 => Nat.lt_of_lt_of_le (r.dom b0 l0 h0) hlen) (r.blk b m x hs h1)
          | none =>
            have := (x'.non b (List.getElem?_eq_some_iff.1 h1).1 hs).1
            rw [hl] at this; cases this
        · exact h1
      · cases hl
    · unfold Inj.cut at hl hl'
      split at hl
      · rename_i hlt
        split at hl'
        · rename_i hlt'
          exact r'.sep b b' l l' x y hne hl hl' hcb (by rw [List.getElem?_append_left hlt]; exact hx) (by rw [List.getElem?_append_left hlt']; exact hy)
        · cases hl'
      · cases hl
  · refine ⟨hlen, fun b l hl => ?_, fun b hbl hs => ?_, x'.tape, x'.os, x'.output, x'.size, x'.old, fun cb hcb ho => x'.own cb hcb ?_⟩
    · have := r.dom b l hl
      simp only [Inj.cut, if_pos (Nat.lt_of_lt_of_le this hlen)]
      exact x'.inj b l hl
    · obtain ⟨h1, h2⟩ := x'.non b hbl hs
      refine ⟨by simp only [Inj.cut, h1]; split <;> rfl, ?_⟩
      rw [← h2, List.getElem?_append_left (Nat.lt_of_lt_of_le hbl hlen)]
    · obtain ⟨b, l, hl, hcb', hor⟩ := ho
      unfold Inj.cut at hl
      split at hl
      · rename_i hlt
        refine ⟨b, l, hl, hcb', ?_⟩
        rcases hor with ⟨es, els, wr, h1⟩ | ⟨es, h1⟩ | ⟨es, h1⟩
        · exact .inl ⟨es, els, wr, by rw [List.getElem?_append_left hlt]; exact h1⟩
        · exact .inr (.inl ⟨es, by rw [List.getElem?_append_left hlt]; exact h1⟩)
        · exact .inr (.inr ⟨es, by rw [List.getElem?_append_left hlt]; exact h1⟩)
      · cases hl

theorem cut_zero (σ : Inj) : σ.cut 0 = fun _ => none := by funext b; simp [Inj.cut]

/-- A call that is handed nothing that lies in memory may be looked at alone. -/
theorem flat_sound {P : Program} {cf ex : FuncId → List AV → M AV} (hcf : CfSound P cf)
    (hex : ∀ (f : FuncId) (vs : List AV) (h : H) (v : AV) (h' : H), ex f vs h = some (v, h') → h' = h ∧ lows 0 vs = true ∧ v.low 0 = true ∧ ∃ k, cf f vs [] = some (v, k)) : CfSound P ex := by
  intro f vs h v h' hr
  obtain ⟨rfl, hvs0, hv0, k, hc⟩ := hex f vs h v h' hr
  obtain ⟨hok, hcalls⟩ := hcf f vs [] v _ hc
  refine ⟨hok, fun σ w cs r hvs => ?_⟩
  have hvs1 : VRels (fun _ => none) vs cs := by have := vrels_cut vs cs hvs0 hvs; rwa [cut_zero] at this
  refine (hcalls (fun _ => none) w cs (Rep.empty r.lay.is_) hvs1).mono fun e w' ⟨c, σ', he, hv', r', x'⟩ => ?_
  have hold : ∀ cb, cb < w.heap.size → w'.heap[cb]? = w.heap[cb]? := fun cb hcb => x'.old cb hcb (by rintro ⟨b, l, hl, _⟩; cases hl)
  have hv2 : VRel σ v c := by
    have := vrel_cut v c hv0 hv'
    rw [cut_zero] at this
    exact vrel_le (fun _ _ h => by cases h) v c this
  refine ⟨c, σ, he, hv2, ⟨r.dom, fun b l x hl hx => ?_, r.sep, ⟨r'.lay.is_, r.lay.no⟩⟩, Nat.le_refl _, fun _ _ h => h, fun _ _ h => ⟨h, rfl⟩, x'.tape, x'.os, x'.output, x'.size, fun cb hcb _ => hold cb hcb, fun cb hcb ho => ho⟩
  have hb := r.blk b l x hl hx
  cases x with
  | dead => trivial
  | row es els wr ap =>
    have hcb := r.cb hl hx (by simp)
    simp only [BlkRel] at hb ⊢
    rw [hold _ hcb]; exact hb
  | map es =>
    have hcb := r.cb hl hx (by simp)
    simp only [BlkRel] at hb ⊢
    rw [hold _ hcb]; exact hb
  | bld v =>
    have hcb := r.cb hl hx (by simp)
    simp only [BlkRel] at hb ⊢
    rw [hold _ hcb]; exact hb

/-- The kernel ran it to its end. -/
def ranTrue (r : Option (AV × H)) : Bool := match r with | some (.bool true, _) => true | _ => false
theorem ranTrue_call {fs : FuncId → Option SFunc} {ex : FuncId → List AV → M AV} {f : FuncId} {vs : List AV} {h : H} (n : Nat) (hr : ranTrue (callN fs ex n f vs h) = true) : ∃ k, call fs ex f vs h = some (.bool true, k) := by
  unfold ranTrue at hr
  split at hr
  · rename_i k hk
    exact ⟨k, call_of fs ex n hk⟩
  · cases hr

/-- What a law's plain proof must give. -/
def LawOk (P : Program) (f : FuncId) (ss : List Sh) : Prop :=
  ∃ (fs : FuncId → Option SFunc) (ex : FuncId → List AV → M AV), FsOk P fs ∧ CfSound P ex ∧ ∀ (vs : List AV) (h : H), Quiet h → HasVs h ss vs → Yld (call fs ex f vs h) fun r => r.1 = .bool true

theorem LawOk.calls {P : Program} {f : FuncId} {ss : List Sh} (hl : LawOk P f ss)
    {d : Nat} {K : Type} {enc : TypeId × Value → K} {W : World} {rr : Reach} {b0 : Nat} {ts : List TypeId} (hs : shsOf P d ts = some ss) {args : List Value} {ds : List (DataW K)} {ps : List MemPlace}
    (ht : DataW.TrodAll enc P W 0 (fun _ => true) true ts args ds ps) (hz : (DataW.weightsEach P ts ds).all (· ≤ reachBytes) = true) (hv : ∀ (j : Nat) t v, ts[j]? = some t → args[j]? = some v → Value.okWide P W rr b0 t v) (hlaid : LaidIn W) :
    Calls P f args.toArray W fun e W' => e = .returned (.bool true) ∧ RowKit.Below W.heap.size W W' := by
  obtain ⟨fs, ex, hfs, hex, hlaw⟩ := hl
  refine law_calls hfs hex (fun vs h hq hh => ?_) hs ht hz hv hlaid
  obtain ⟨⟨v, h'⟩, hr, hv'⟩ := hlaw vs h hq hh
  have hv' : v = .bool true := hv'
  exact ⟨h', by rw [hr, hv']⟩

/-- Some functions are not run any more. -/
def fsBut (fs : FuncId → Option SFunc) (l : List Nat) : FuncId → Option SFunc := fun f => if l.contains f then none else fs f
theorem fsBut_ok {P : Program} {fs : FuncId → Option SFunc} (h : FsOk P fs) (l : List Nat) : FsOk P (fsBut fs l) := by
  intro f sf hf
  unfold fsBut at hf
  split at hf
  · cases hf
  · exact h f sf hf
end Go.Eng
