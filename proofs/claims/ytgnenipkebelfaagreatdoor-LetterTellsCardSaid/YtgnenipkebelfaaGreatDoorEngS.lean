/- The engine, part S: a row's arguments as abstract values: every slice becomes a block that is only read. -/
import Derived.Test.YtgnenipkebelfaaGreatDoorEngQ
import Derived.SizedLaws
import Derived.ChangeSlices
import Derived.Carry
import Derived.OpenShut
import Derived.ShutString
import Derived.ChangeOld
import Derived.Below
set_option linter.unusedVariables false
set_option linter.unusedSimpArgs false
namespace Go.Eng
open Go Go.ChangeShapes Go.WideShapes Go.RowKit

/-- What an argument is made of. 'sl B e': a slice of elements e, each of B bytes. -/
inductive Sh where
  | int (k : IntKind)
  | bool
  | str
  | st (fs : List Sh)
  | sl (B : Nat) (e : Sh)

mutual
def Sh.size : Sh → Nat
  | .st fs => shSizes fs
  | _ => 1
def shSizes : List Sh → Nat
  | [] => 0
  | s :: ss => s.size + shSizes ss
end

def shFields (sv : TypeId → Option Sh) : List Field → Nat → Option (List Sh)
  | [], _ => some []
  | f :: fs, off =>
    if f.offset ≠ off then none else
    match sv f.type with
    | some s => (shFields sv fs (off + s.size)).map (s :: ·)
    | none => none

def shOf (P : Program) : Nat → TypeId → Option Sh
  | 0, _ => none
  | d + 1, t =>
    match P.underlying t with
    | some .bool => if P.cellsOf t = 1 then some .bool else none
    | some (.int k) => if P.cellsOf t = 1 then some (.int k) else none
    | some .string => if P.cellsOf t = 1 then some .str else none
    | some (.slice e) =>
      match shOf P d e with
      | some s => if P.cellsOf t = 1 ∧ s.size ≠ 0 then some (.sl (P.bytesOf e) s) else none
      | none => none
    | some (.struct fs) =>
      match shFields (shOf P d) fs.toList 0 with
      | some l => if shSizes l = P.cellsOf t then some (.st l) else none
      | none => none
    | _ => none

def shsOf (P : Program) (d : Nat) : List TypeId → Option (List Sh)
  | [] => some []
  | t :: ts =>
    match shOf P d t with
    | some s => (shsOf P d ts).map (s :: ·)
    | none => none

def SlOf (h : H) (es : Nat) (v : AV) (els : List (List AV)) : Prop :=
  (v = .nilslice ∧ els = []) ∨ ∃ b c, v = .slice b es 0 els.length c true ∧ els.length ≤ c ∧ (els ≠ [] → h[b]? = some (.row es els false false))

mutual
def Has (h : H) : Sh → List AV → Prop
  | .int k, cs => ∃ n, cs = [.int k n] ∧ (Lit.int k n).wf = true
  | .bool, cs => ∃ b, cs = [.bool b]
  | .str, cs => ∃ s, cs = [.str s] ∧ s.length ≤ 140737488351232
  | .st fs, cs => HasF h fs cs
  | .sl B e, cs => ∃ v els, cs = [v] ∧ SlOf h e.size v els ∧ els.length * B ≤ 140737488351232 ∧ els.length ≤ maxLen ∧ ∀ x ∈ els, Has h e x
def HasF (h : H) : List Sh → List AV → Prop
  | [], cs => cs = []
  | f :: fs, cs => ∃ a b, cs = a ++ b ∧ Has h f a ∧ HasF h fs b
end

def HasV (h : H) : Sh → AV → Prop
  | .st fs, v => ∃ cs, v = .agg cs ∧ HasF h fs cs
  | s, v => Has h s [v]
def HasVs (h : H) : List Sh → List AV → Prop
  | [], vs => vs = []
  | s :: ss, vs => ∃ a b, vs = a :: b ∧ HasV h s a ∧ HasVs h ss b

/-! ### More blocks do no harm -/
theorem slOf_more {h k : H} {es : Nat} {v : AV} {els : List (List AV)} (hs : SlOf h es v els) : SlOf (h ++ k) es v els := by
  rcases hs with hs | ⟨b, c, h1, h2, h3⟩
  · exact .inl hs
  · refine .inr ⟨b, c, h1, h2, fun hp => ?_⟩
    have := h3 hp
    rw [List.getElem?_append_left (List.getElem?_eq_some_iff.1 this).1]
    exact this

mutual
theorem has_more {h k : H} : ∀ (s : Sh) (cs : List AV), Has h s cs → Has (h ++ k) s cs
  | .int _, _, hh => by simpa only [Has] using hh
  | .bool, _, hh => by simpa only [Has] using hh
  | .str, _, hh => by simpa only [Has] using hh
  | .st fs, cs, hh => by simp only [Has] at hh ⊢; exact hasF_more fs cs hh
  | .sl B e, cs, hh => by
    simp only [Has] at hh ⊢
    obtain ⟨v, els, h1, h2, h3, h4, h5⟩ := hh
    exact ⟨v, els, h1, slOf_more h2, h3, h4, fun x hx => has_more e x (h5 x hx)⟩
theorem hasF_more {h k : H} : ∀ (fs : List Sh) (cs : List AV), HasF h fs cs → HasF (h ++ k) fs cs
  | [], cs, hh => by simpa only [HasF] using hh
  | f :: fs, cs, hh => by
    simp only [HasF] at hh ⊢
    obtain ⟨a, b, h1, h2, h3⟩ := hh
    exact ⟨a, b, h1, has_more f a h2, hasF_more fs b h3⟩
end

theorem hasV_more {h k : H} {s : Sh} {v : AV} (hh : HasV h s v) : HasV (h ++ k) s v := by
  cases s with
  | st fs => obtain ⟨cs, h1, h2⟩ := hh; exact ⟨cs, h1, hasF_more fs cs h2⟩
  | _ => exact has_more _ _ hh

mutual
theorem has_len {h : H} : ∀ (s : Sh) (cs : List AV), Has h s cs → cs.length = s.size
  | .int _, _, hh => by simp only [Has] at hh; obtain ⟨n, rfl, _⟩ := hh; rfl
  | .bool, _, hh => by simp only [Has] at hh; obtain ⟨n, rfl⟩ := hh; rfl
  | .str, _, hh => by simp only [Has] at hh; obtain ⟨n, rfl, _⟩ := hh; rfl
  | .st fs, cs, hh => by simp only [Has] at hh; simpa only [Sh.size] using hasF_len fs cs hh
  | .sl B e, cs, hh => by simp only [Has] at hh; obtain ⟨v, els, rfl, _⟩ := hh; rfl
theorem hasF_len {h : H} : ∀ (fs : List Sh) (cs : List AV), HasF h fs cs → cs.length = shSizes fs
  | [], cs, hh => by simp only [HasF] at hh; subst hh; rfl
  | f :: fs, cs, hh => by
    simp only [HasF] at hh
    obtain ⟨a, b, rfl, h2, h3⟩ := hh
    simp only [shSizes, List.length_append, has_len f a h2, hasF_len fs b h3]
end

/-! ### Opening -/
/-- No block is written, none is a map. -/
def Quiet (h : H) : Prop := ∀ (b : Nat) (x : Blk), h[b]? = some x → x = .dead ∨ ∃ es els, x = .row es els false false

theorem quiet_nil : Quiet [] := fun b x hx => by simp at hx
theorem quiet_push {h : H} {x : Blk} (hq : Quiet h) (hx : x = .dead ∨ ∃ es els, x = .row es els false false) : Quiet (h ++ [x]) := by
  intro b y hy
  rcases Nat.lt_or_ge b h.length with hb | hb
  · rw [List.getElem?_append_left hb] at hy; exact hq b y hy
  · rw [List.getElem?_append_right hb] at hy
    cases hq2 : b - h.length with
    | zero => rw [hq2] at hy; simp at hy; subst hy; exact hx
    | succ n => rw [hq2] at hy; simp at hy

theorem quiet_beside {x y : Blk} {l m : Loc} (hx : x = .dead ∨ ∃ es els, x = .row es els false false) (hy : y = .dead ∨ ∃ es els, y = .row es els false false) : Beside x l y m := by
  rcases hx with rfl | ⟨es, els, rfl⟩
  · trivial
  · rcases hy with rfl | ⟨es', els', rfl⟩
    · trivial
    · exact ⟨rfl, rfl, fun h => by cases h⟩

theorem Rep.empty {w : World} (hl : LaidIn w) : Rep (fun _ => none) [] w := ⟨(fun _ _ h => by cases h), (fun _ _ _ h => by cases h), (fun _ _ _ _ _ _ _ h => by cases h), ⟨hl, fun _ _ ⟨_, _, h, _⟩ => by cases h⟩⟩

theorem Rep.fresh {σ : Inj} {h : H} {w : World} (r : Rep σ h w) : σ h.length = none := by
  cases hq : σ h.length with
  | none => rfl
  | some m => have := r.dom _ m hq; omega

/-- One more quiet block. -/
theorem Rep.quiet {σ : Inj} {h : H} {w : World} (r : Rep σ h w) (hq : Quiet h) {x : Blk} {l : Loc} (hx : x = .dead ∨ ∃ es els, x = .row es els false false) (hblk : BlkRel σ w l x) : Rep (σ.bind h.length l) (h ++ [x]) w := by
  have hn := r.fresh
  refine (r.push x).attach0 hn (by simp) (blk_le (le_bind hn) hblk) ?_ ?_
  · intro b' l' x' hl' _ hx'
    have hlt := r.dom b' l' hl'
    rw [List.getElem?_append_left hlt] at hx'
    exact ⟨quiet_beside hx (hq b' x' hx'), quiet_beside (hq b' x' hx') hx⟩
  · right
    rcases hx with rfl | ⟨es, els, rfl⟩
    · exact .inl rfl
    · exact .inr ⟨_, _, _, rfl⟩

def Opened (w : World) (σ : Inj) (h : H) (s : Sh) (cs : List Value) : Prop :=
  ∃ σ' k as, Rep σ' (h ++ k) w ∧ σ.le σ' ∧ Quiet (h ++ k) ∧ VRels σ' as cs ∧ Has (h ++ k) s as

theorem le_refl' (σ : Inj) : σ.le σ := fun _ _ h => h
theorem le_trans' {σ τ υ : Inj} (a : σ.le τ) (b : τ.le υ) : σ.le υ := fun x l h => b x l (a x l h)

section
variable {P : Program}

theorem shOf_size : ∀ {d : Nat} {t : TypeId} {s : Sh}, shOf P d t = some s → P.cellsOf t = s.size := by
  intro d t s hs
  cases d with
  | zero => simp [shOf] at hs
  | succ d =>
    unfold shOf at hs
    split at hs
    · split at hs
      · rename_i hc; cases hs; exact hc
      · cases hs
    · split at hs
      · rename_i hc; cases hs; exact hc
      · cases hs
    · split at hs
      · rename_i hc; cases hs; exact hc
      · cases hs
    · split at hs
      · split at hs
        · rename_i hc; cases hs; exact hc.1
        · cases hs
      · cases hs
    · split at hs
      · split at hs
        · rename_i hc; cases hs; simp only [Sh.size]; exact hc.symm
        · cases hs
      · cases hs
    · cases hs

theorem weightsAll_mem {K : Type} {e : TypeId} : ∀ {l : List (DataW K)}, (DataW.weightsAll P e l).all (· ≤ reachBytes) = true → ∀ d ∈ l, (DataW.weights P e d).all (· ≤ reachBytes) = true
  | [], _, d, h => by cases h
  | a :: l, hz, d, h => by
    simp only [DataW.weightsAll, List.all_append, Bool.and_eq_true] at hz
    rcases List.mem_cons.1 h with rfl | h
    · exact hz.1
    · exact weightsAll_mem hz.2 d h

def OpensAll (P : Program) (d : Nat) : Prop :=
  ∀ {t : TypeId} {s : Sh}, shOf P d t = some s → ∀ {K : Type} {enc : TypeId × Value → K} {w : World} {base : Nat} {held : Bool} {fuel : Nat} {cs : List Value} {x : DataW K × List MemPlace},
    DataW.trod enc P w base (fun _ => true) held fuel t cs = some x → (DataW.weights P t x.1).all (· ≤ reachBytes) = true → ∀ {σ : Inj} {h : H}, Rep σ h w → Quiet h → Opened w σ h s cs

theorem opens_fields {d : Nat} (ih : OpensAll P d) {K : Type} {enc : TypeId × Value → K} {w : World} {base : Nat} {held : Bool} {n : Nat} {cs : List Value} :
    ∀ {fs : List Field} {off : Nat} {l : List Sh} {xs : List (DataW K × List MemPlace)}, shFields (shOf P d) fs off = some l → xs.length = fs.length →
      (∀ (i : Nat) (f : Field), fs[i]? = some f → DataW.trod enc P w base (fun _ => true) held n f.type ((cs.drop f.offset).take (P.cellsOf f.type)) = xs[i]?) → cs.length = off + shSizes l →
      (DataW.weightsEach P (fs.map (·.type)) (xs.map (·.1))).all (· ≤ reachBytes) = true → ∀ {σ : Inj} {h : H}, Rep σ h w → Quiet h →
      ∃ σ' k as, Rep σ' (h ++ k) w ∧ σ.le σ' ∧ Quiet (h ++ k) ∧ VRels σ' as (cs.drop off) ∧ HasF (h ++ k) l as
  | [], off, l, xs, hs, hl, hx, hc, hz, σ, h, r, hq => by
    simp only [shFields] at hs; cases hs
    have : cs.drop off = [] := by rw [List.drop_eq_nil_iff]; simp only [shSizes] at hc; omega
    refine ⟨σ, [], [], by simpa using r, le_refl' σ, by simpa using hq, ?_, rfl⟩
    rw [this]; trivial
  | f :: fs, off, l, [], hs, hl, hx, hc, hz, σ, h, r, hq => by simp at hl
  | f :: fs, off, l, x :: xs, hs, hl, hx, hc, hz, σ, h, r, hq => by
    unfold shFields at hs
    split at hs
    · cases hs
    · rename_i hoff
      have hoff : f.offset = off := by simpa using hoff
      split at hs
      · rename_i s hsf
        simp only [Option.map_eq_some_iff] at hs
        obtain ⟨l', hl', rfl⟩ := hs
        simp only [List.map_cons, DataW.weightsEach, List.all_append, Bool.and_eq_true] at hz
        have hsz := shOf_size hsf
        obtain ⟨σ1, k1, as1, r1, le1, q1, v1, h1⟩ := ih hsf (hx 0 f rfl) hz.1 r hq
        have hc' : cs.length = off + (s.size + shSizes l') := hc
        obtain ⟨σ2, k2, as2, r2, le2, q2, v2, h2⟩ := opens_fields ih (xs := xs) (cs := cs) hl' (by simpa using hl) (fun i g hg => hx (i + 1) g hg) (by omega) hz.2 r1 q1
        refine ⟨σ2, k1 ++ k2, as1 ++ as2, by rw [← List.append_assoc]; exact r2, le_trans' le1 le2, by rw [← List.append_assoc]; exact q2, ?_, ?_⟩
        · have hd : cs.drop off = (cs.drop f.offset).take (P.cellsOf f.type) ++ cs.drop (off + s.size) := by
            rw [hoff, hsz, ← List.drop_drop, List.take_append_drop]
          rw [hd]
          exact vrels_append (vrels_le le2 _ _ v1) v2
        · simp only [HasF]
          exact ⟨as1, as2, rfl, by rw [← List.append_assoc]; exact has_more _ _ h1, by rw [← List.append_assoc]; exact h2⟩
      · cases hs

theorem add_add' (a : Addr) (m j : Nat) : (a.add m).add j = a.add (m + j) := by
  unfold Addr.add
  by_cases hm : m = 0
  · subst hm; simp
  · by_cases hj : j = 0
    · subst hj; simp
    · simp [hm, hj, Nat.add_assoc]

theorem cell_spot {w : World} {a : Addr} {v : Value} (h : w.cell? a = some v) : a.spot = none ∧ ∃ cs ty fz, w.heap[a.block]? = some (.cells cs ty fz) ∧ cs[a.off]? = some v := by
  unfold World.cell? at h
  split at h
  · rename_i cs ty fz hcs
    split at h
    · cases h
    · rename_i hsp
      exact ⟨by simpa using hsp, cs, ty, fz, hcs, h⟩
  · cases h

theorem opens_all (P : Program) : ∀ d, OpensAll P d := by
  intro d
  induction d with
  | zero => intro t s hs; simp [shOf] at hs
  | succ d ih =>
    intro t s hs K enc w base held fuel cs x hx hz σ h r hq
    unfold shOf at hs
    split at hs
    · rename_i ht
      split at hs
      · cases hs
        obtain ⟨n, rfl, _⟩ := DataW.trod_bool ht hx
        exact ⟨σ, [], [.bool n], by simpa using r, le_refl' σ, by simpa using hq, ⟨by simp [VRel], trivial⟩, n, rfl⟩
      · cases hs
    · rename_i k ht
      split at hs
      · cases hs
        obtain ⟨n, rfl, _, hw⟩ := DataW.trod_int ht hx
        exact ⟨σ, [], [.int k n], by simpa using r, le_refl' σ, by simpa using hq, ⟨by simp [VRel], trivial⟩, n, rfl, hw⟩
      · cases hs
    · rename_i ht
      split at hs
      · cases hs
        obtain ⟨n, rfl, hx1, hm⟩ := DataW.trod_string ht hx
        refine ⟨σ, [], [.str n.data.toList], by simpa using r, le_refl' σ, by simpa using hq, ⟨by simp [VRel], trivial⟩, n.data.toList, rfl, ?_⟩
        rw [hx1] at hz
        simp only [DataW.weights, List.all_cons, List.all_nil, Bool.and_true, reachBytes] at hz
        exact of_decide_eq_true hz
      · cases hs
    · rename_i e ht
      split at hs
      · rename_i s' hs'
        split at hs
        · rename_i hc
          cases hs
          have hcell := shOf_size hs'
          rcases DataW.trod_slice ht hx with ⟨rfl, rfl⟩ | ⟨a, len, cap, elems, rest, n, rfl, rfl, rfl, hb, hl, hm, hlen, hel, hsp, _⟩
          · exact ⟨σ, [], [.nilslice], by simpa using r, le_refl' σ, by simpa using hq, ⟨by simp [VRel], trivial⟩, .nilslice, [], rfl, .inl ⟨rfl, rfl⟩, by simp, by simp, by simp⟩
          · simp only [DataW.weights, ht, List.all_cons, List.all_append, Bool.and_eq_true, decide_eq_true_eq, List.length_map] at hz
            obtain ⟨hz0, hz1, _⟩ := hz
            obtain ⟨hrl, hrest⟩ := hsp rfl
            have hbytes : len * P.bytesOf e ≤ 140737488351232 := by
              have : len * P.bytesOf e ≤ (elems.length + rest.length) * P.bytesOf e := Nat.mul_le_mul_right _ (by omega)
              exact Nat.le_trans this hz0
            -- every cell up to the capacity stands
            have cellAt : ∀ i, i < cap → ∀ j, j < s'.size → ∃ v, w.cell? (a.add (i * s'.size + j)) = some v := by
              intro i hi j hj
              have : ∃ c y, w.cells? base (a.add (i * s'.size)) s'.size = some c ∧ DataW.trod enc P w base (fun _ => true) held n e c = some y := by
                rcases Nat.lt_or_ge i len with hil | hil
                · have h1 := hel i hil
                  rw [List.getElem?_eq_getElem (by omega), Option.bind_eq_some_iff] at h1
                  obtain ⟨c, h2, h3⟩ := h1
                  rw [hcell] at h2
                  exact ⟨c, _, h2, h3⟩
                · have h1 := hrest (i - len) (by omega)
                  rw [List.getElem?_eq_getElem (by omega), Option.bind_eq_some_iff] at h1
                  obtain ⟨c, h2, h3⟩ := h1
                  rw [hcell, show len + (i - len) = i by omega] at h2
                  exact ⟨c, _, h2, h3⟩
              obtain ⟨c, y, h2, _⟩ := this
              obtain ⟨_, hcl, hcc⟩ := World.cells?_some h2
              have := hcc j hj
              rw [add_add', List.getElem?_eq_getElem (by omega)] at this
              exact ⟨_, this⟩
            have pick : ∀ m : Nat, m ≤ len → ∃ (σ' : Inj) (k : H) (els : List (List AV)), Rep σ' (h ++ k) w ∧ σ.le σ' ∧ Quiet (h ++ k) ∧ els.length = m ∧
                ∀ (i : Nat) (y : List AV), els[i]? = some y → Has (h ++ k) s' y ∧ ∃ c, VRels σ' y c ∧ ∀ (j : Nat) (u : Value), c[j]? = some u → w.cell? (a.add (i * s'.size + j)) = some u := by
              intro m
              induction m with
              | zero => intro _; exact ⟨σ, [], [], by simpa using r, le_refl' σ, by simpa using hq, rfl, by simp⟩
              | succ m ihm =>
                intro hmm
                obtain ⟨σ1, k1, els, r1, le1, q1, hl1, hl3⟩ := ihm (by omega)
                have h1 := hel m (by omega)
                rw [List.getElem?_eq_getElem (by omega), Option.bind_eq_some_iff] at h1
                obtain ⟨c, hc1, hc2⟩ := h1
                obtain ⟨_, hcl, hcc⟩ := World.cells?_some hc1
                have hw : (DataW.weights P e (elems[m]'(by omega)).1).all (· ≤ reachBytes) = true := weightsAll_mem hz1 _ (List.mem_map_of_mem (List.getElem_mem _))
                obtain ⟨σ2, k2, as, r2, le2, q2, v2, h2⟩ := ih hs' hc2 hw r1 q1
                refine ⟨σ2, k1 ++ k2, els ++ [as], by rw [← List.append_assoc]; exact r2, le_trans' le1 le2, by rw [← List.append_assoc]; exact q2, by simp [hl1], ?_⟩
                intro i y hy
                rcases Nat.lt_or_ge i m with hi | hi
                · rw [List.getElem?_append_left (by omega)] at hy
                  obtain ⟨h3, c', h4, h5⟩ := hl3 i y hy
                  exact ⟨by rw [← List.append_assoc]; exact has_more _ _ h3, c', vrels_le le2 _ _ h4, h5⟩
                · have hi2 : i = m := by
                    have := (List.getElem?_eq_some_iff.1 hy).1
                    simp [hl1] at this
                    omega
                  subst hi2
                  have : as = y := by
                    rw [List.getElem?_append_right (by omega), hl1] at hy
                    simpa using hy
                  subst this
                  refine ⟨by rw [← List.append_assoc]; exact h2, c, v2, fun j u hu => ?_⟩
                  have hj : j < P.cellsOf e := by rw [← hcl]; exact (List.getElem?_eq_some_iff.1 hu).1
                  have := hcc j hj
                  rw [add_add', hcell, hu] at this
                  exact this
            obtain ⟨σ1, k1, els, r1, le1, q1, hl1, hl3⟩ := pick len (Nat.le_refl _)
            have hfresh := r1.fresh
            have hne : s'.size ≠ 0 := hc.2
            have fin : ∀ (x : Blk) (l : Loc), (x = .dead ∨ ∃ es els, x = .row es els false false) → BlkRel σ1 w l x → l.es = s'.size → l.lim = cap → (cap = 0 ∨ a = ⟨l.cb, l.base, none⟩) → (els ≠ [] → x = .row s'.size els false false) →
                Opened w σ h (.sl (P.bytesOf e) s') [.slice (some a) len cap] := by
              intro x l hx1 hblk he1 he2 he3 he4
              refine ⟨σ1.bind (h ++ k1).length l, k1 ++ [x], [.slice (h ++ k1).length s'.size 0 els.length cap true], ?_, le_trans' le1 (le_bind hfresh), ?_, ⟨?_, trivial⟩, ?_⟩
              · rw [← List.append_assoc]; exact r1.quiet q1 hx1 hblk
              · rw [← List.append_assoc]; exact quiet_push q1 hx1
              · simp only [VRel]
                refine ⟨hl1.symm, by omega, Nat.le_refl _, by simp, l, by simp [Inj.bind], he1, (fun hh => by cases hh), by omega, ?_⟩
                rcases he3 with he3 | he3
                · exact .inl he3
                · exact .inr (by rw [Nat.zero_mul, Nat.add_zero]; exact he3)
              · simp only [Has]
                refine ⟨_, els, rfl, .inr ⟨(h ++ k1).length, cap, rfl, by omega, fun hp => ?_⟩, by rw [hl1]; exact hbytes, by omega, fun y hy => ?_⟩
                · rw [← List.append_assoc, List.getElem?_append_right (Nat.le_refl _), he4 hp]; simp
                · obtain ⟨i, hi⟩ := List.mem_iff_getElem?.1 hy
                  rw [← List.append_assoc]
                  exact has_more _ _ (hl3 i y hi).1
            rcases Nat.eq_zero_or_pos cap with hcap | hcap
            · subst hcap
              exact fin .dead ⟨0, 0, s'.size, 0, 0⟩ (.inl rfl) trivial rfl rfl (.inl rfl) (fun hp => absurd (by omega : els.length = 0) (by cases els; exact absurd rfl hp; simp))
            · obtain ⟨v0, hv0⟩ := cellAt 0 hcap 0 (by omega)
              have ha0 : a.add (0 * s'.size + 0) = a := by simp [Addr.add]
              rw [ha0] at hv0
              obtain ⟨hspot, ws, ty, fz, hws, _⟩ := cell_spot hv0
              have ha : a = ⟨a.block, a.off, none⟩ := by cases a; simp_all
              have hadd : ∀ m, a.add m = ⟨a.block, a.off + m, none⟩ := by intro m; rw [ha]; exact by simpa using addr_add a.block a.off m
              refine fin (.row s'.size els false false) ⟨a.block, a.off, s'.size, cap, ty⟩ (.inr ⟨_, _, rfl⟩) ?_ rfl rfl (.inr ha) (fun _ => rfl)
              obtain ⟨v1, hv1⟩ := cellAt (cap - 1) (by omega) (s'.size - 1) (by omega)
              rw [hadd] at hv1
              obtain ⟨_, ws', ty', fz', hws', hv1'⟩ := cell_spot hv1
              simp only at hws' hv1'
              rw [hws] at hws'
              cases hws'
              have hlast := (Array.getElem?_eq_some_iff.1 hv1').1
              refine ⟨rfl, by simp only []; omega, (fun hh => by cases hh), ws, ty, fz, hws, ⟨?_, rfl⟩, ?_, (fun hh => by cases hh)⟩
              · simp only []
                have : cap * s'.size = (cap - 1) * s'.size + s'.size := by rw [← Nat.succ_mul]; congr 1; omega
                omega
              · intro i y hy
                obtain ⟨h3, c, h4, h5⟩ := hl3 i y hy
                refine ⟨has_len _ _ h3, fun j u hu => ?_⟩
                obtain ⟨c0, hc0, hr0⟩ := vrels_get h4 hu
                have := h5 j c0 hc0
                rw [hadd] at this
                obtain ⟨_, ws2, ty2, fz2, hws2, hcc⟩ := cell_spot this
                simp only at hws2 hcc
                rw [hws] at hws2
                cases hws2
                exact ⟨c0, by rw [Nat.add_assoc]; exact hcc, hr0⟩
        · cases hs
      · cases hs
    · rename_i fs ht
      split at hs
      · rename_i l hl
        split at hs
        · rename_i hc
          cases hs
          obtain ⟨xs, n, rfl, rfl, h1, h2, h3⟩ := DataW.trod_struct ht hx
          simp only [DataW.weights, ht] at hz
          obtain ⟨σ', k, as, r', le', q', v', h'⟩ := opens_fields ih (xs := xs) (cs := cs) hl (by simpa using h2) (fun i f hf => h3 i f (by simpa using hf)) (by omega) hz r hq
          exact ⟨σ', k, as, r', le', q', by simpa using v', by simpa only [Has] using h'⟩
        · cases hs
      · cases hs
    · cases hs

/-- An argument. -/
theorem opens_arg {d : Nat} {t : TypeId} {s : Sh} (hs : shOf P d t = some s) {K : Type} {enc : TypeId × Value → K} {w : World} {base : Nat} {held : Bool} {v : Value} {x : DataW K} {ps : List MemPlace}
    (ht : DataW.Trod enc P w base (fun _ => true) held t v x ps) (hz : (DataW.weights P t x).all (· ≤ reachBytes) = true) {rr : Reach} {b0 : Nat} (hv : Value.okWide P w rr b0 t v) {σ : Inj} {h : H} (r : Rep σ h w) (hq : Quiet h) :
    ∃ σ' k a, Rep σ' (h ++ k) w ∧ σ.le σ' ∧ Quiet (h ++ k) ∧ VRel σ' a v ∧ HasV (h ++ k) s a := by
  obtain ⟨fuel, ht⟩ := ht
  obtain ⟨σ', k, as, r', le', q', v', h'⟩ := opens_all P d hs ht hz r hq
  have one : ∀ u : Value, v = u → u.cells.toList = [u] → (∀ fs, s ≠ .st fs) → ∃ σ' k a, Rep σ' (h ++ k) w ∧ σ.le σ' ∧ Quiet (h ++ k) ∧ VRel σ' a v ∧ HasV (h ++ k) s a := by
    intro u hu hc hst
    subst hu
    rw [hc] at v'
    have hlen := vrels_len v'
    match as, hlen, v', h' with
    | [a], _, v', h' =>
      refine ⟨σ', k, a, r', le', q', v'.1, ?_⟩
      cases s with
      | st fs => exact absurd rfl (hst fs)
      | _ => exact h'
  cases d with
  | zero => simp [shOf] at hs
  | succ d =>
    unfold shOf at hs
    split at hs
    · rename_i hu
      split at hs
      · cases hs; obtain ⟨b, rfl⟩ := okWide_bool hu hv; exact one _ rfl rfl (by simp)
      · cases hs
    · rename_i hu
      split at hs
      · cases hs; obtain ⟨b, rfl⟩ := okWide_int hu hv; exact one _ rfl rfl (by simp)
      · cases hs
    · rename_i hu
      split at hs
      · cases hs; obtain ⟨b, rfl⟩ := okWide_string hu hv; exact one _ rfl rfl (by simp)
      · cases hs
    · rename_i e hu
      split at hs
      · split at hs
        · cases hs; obtain ⟨a, n, c, rfl⟩ := okWide_slice hu hv; exact one _ rfl rfl (by simp)
        · cases hs
      · cases hs
    · rename_i fs hu
      split at hs
      · split at hs
        · cases hs
          obtain ⟨cs, rfl, _⟩ := okWide_struct hu hv
          refine ⟨σ', k, .agg as, r', le', q', by simpa only [VRel] using (show VRels σ' as cs.toList from v'), as, rfl, by simpa only [Has] using h'⟩
        · cases hs
      · cases hs
    · cases hs

/-- All arguments. -/
theorem opens_args {d : Nat} {K : Type} {enc : TypeId × Value → K} {w : World} {base : Nat} {held : Bool} {rr : Reach} {b0 : Nat} :
    ∀ {ts : List TypeId} {ss : List Sh} {vs : List Value} {ds : List (DataW K)} {ps : List MemPlace}, shsOf P d ts = some ss → DataW.TrodAll enc P w base (fun _ => true) held ts vs ds ps →
      (DataW.weightsEach P ts ds).all (· ≤ reachBytes) = true → (∀ (j : Nat) t v, ts[j]? = some t → vs[j]? = some v → Value.okWide P w rr b0 t v) → ∀ {σ : Inj} {h : H}, Rep σ h w → Quiet h →
      ∃ σ' k as, Rep σ' (h ++ k) w ∧ σ.le σ' ∧ Quiet (h ++ k) ∧ VRels σ' as vs ∧ HasVs (h ++ k) ss as
  | [], ss, vs, ds, ps, hs, ht, hz, hv, σ, h, r, hq => by
    obtain ⟨rfl, rfl, rfl⟩ := trodAll_nil ht
    simp only [shsOf] at hs; cases hs
    exact ⟨σ, [], [], by simpa using r, le_refl' σ, by simpa using hq, trivial, rfl⟩
  | t :: ts, ss, vs, ds, ps, hs, ht, hz, hv, σ, h, r, hq => by
    obtain ⟨v, vs', d0, ds', p, q, rfl, rfl, rfl, h0, h1⟩ := trodAll_cons ht
    simp only [shsOf] at hs
    split at hs
    · rename_i s hs0
      simp only [Option.map_eq_some_iff] at hs
      obtain ⟨ss', hs', rfl⟩ := hs
      simp only [DataW.weightsEach, List.all_append, Bool.and_eq_true] at hz
      obtain ⟨σ1, k1, a, r1, le1, q1, v1, w1⟩ := opens_arg hs0 h0 hz.1 (hv 0 t v rfl rfl) r hq
      obtain ⟨σ2, k2, as, r2, le2, q2, v2, w2⟩ := opens_args hs' h1 hz.2 (fun j t' v' h1 h2 => hv (j + 1) t' v' (by simpa using h1) (by simpa using h2)) r1 q1
      refine ⟨σ2, k1 ++ k2, a :: as, by rw [← List.append_assoc]; exact r2, le_trans' le1 le2, by rw [← List.append_assoc]; exact q2, ⟨vrel_le le2 _ _ v1, v2⟩, ?_⟩
      simp only [HasVs]
      exact ⟨a, as, rfl, by rw [← List.append_assoc]; exact hasV_more w1, by rw [← List.append_assoc]; exact w2⟩
    · cases hs

theorem quiet_owned {σ : Inj} {h : H} (hq : Quiet h) (cb : Nat) : ¬ Owned σ h cb := by
  rintro ⟨b, l, _, _, h1 | h1 | h1⟩
  · obtain ⟨es, els, wr, h1⟩ := h1
    rcases hq b _ h1 with h2 | ⟨es', els', h2⟩
    · cases h2
    · injection h2; contradiction
  · obtain ⟨es, h1⟩ := h1
    rcases hq b _ h1 with h2 | ⟨es', els', h2⟩ <;> cases h2
  · obtain ⟨es, h1⟩ := h1
    rcases hq b _ h1 with h2 | ⟨es', els', h2⟩ <;> cases h2

theorem ext_below {σ σ' : Inj} {h h' : H} {w w' : World} (hq : Quiet h) (e : Ext σ h w σ' h' w') : Below w.heap.size w w' :=
  ⟨e.os, e.tape, e.output, e.size, fun k hk => e.old k hk (quiet_owned hq k)⟩

/-- The law holds of every input that has its arguments' shapes: so the call answers true, and turns nothing that was there. -/
theorem law_calls {fs : FuncId → Option SFunc} (hfs : FsOk P fs) {ex : FuncId → List AV → M AV} (hex : CfSound P ex) {f : FuncId} {ss : List Sh} (hlaw : ∀ (vs : List AV) (h : H), Quiet h → HasVs h ss vs → ∃ h', call fs ex f vs h = some (.bool true, h'))
    {d : Nat} {K : Type} {enc : TypeId × Value → K} {W : World} {rr : Reach} {b0 : Nat} {ts : List TypeId} (hs : shsOf P d ts = some ss) {args : List Value} {ds : List (DataW K)} {ps : List MemPlace}
    (ht : DataW.TrodAll enc P W 0 (fun _ => true) true ts args ds ps) (hz : (DataW.weightsEach P ts ds).all (· ≤ reachBytes) = true) (hv : ∀ (j : Nat) t v, ts[j]? = some t → args[j]? = some v → Value.okWide P W rr b0 t v) (hlaid : LaidIn W) :
    Calls P f args.toArray W fun e W' => e = .returned (.bool true) ∧ Below W.heap.size W W' := by
  obtain ⟨σ, k, as, r, _, q, v, hh⟩ := opens_args hs ht hz hv (Rep.empty hlaid) quiet_nil
  obtain ⟨h', hc⟩ := hlaw as _ q hh
  obtain ⟨_, hcalls⟩ := call_sound fs ex hfs hex f as _ _ _ hc
  refine (hcalls σ W args r v).mono fun e W' ⟨c, σ', he, hv', _, hx⟩ => ⟨?_, ext_below q hx⟩
  rw [he, vrel_bool hv']

/-- The arguments read as they read. -/
theorem below_all (lo : laidOutB P = true) {K : Type} {enc : TypeId × Value → K} {W W' : World} (hb : Below W.heap.size W W') :
    ∀ {ts : List TypeId} {vs : List Value} {ds : List (DataW K)} {ps : List MemPlace}, ts.all (fun t => P.readableRec t && decide (t < P.types.size)) = true → DataW.TrodAll enc P W 0 (fun _ => true) true ts vs ds ps →
      DataW.TrodAll enc P W' 0 (fun b => decide (b < W.heap.size)) true ts vs ds ps
  | [], vs, ds, ps, _, ht => by
    obtain ⟨rfl, rfl, rfl⟩ := trodAll_nil ht
    exact rfl
  | t :: ts, vs, ds, ps, ha, ht => by
    obtain ⟨v, vs', d0, ds', p, q, rfl, rfl, rfl, h0, h1⟩ := trodAll_cons ht
    simp only [List.all_cons, Bool.and_eq_true, decide_eq_true_eq] at ha
    have lt : ∀ x ∈ p, x.block < W.heap.size := by obtain ⟨m, hm⟩ := h0; exact DataW.trod_lt m _ _ _ hm
    exact trodAll_cons_mk (Below.trod lo ha.1.1 ha.1.2 h0 hb lt) (below_all lo hb ha.2 h1)
end
end Go.Eng
