/- What a row's argument reads as, by its kind: numbers, bools, strings, slices and structs of these, in any depth. For every program. -/
import Derived.SizedLaws
import Derived.ChangeSlices
import Derived.Test.YtnfdgbapionojaaWWords
namespace Go.Proofs.YtnfdgbapionojaaW.PrintOpen
open Go.ChangeShapes Go.WideShapes Go.Proofs.YtnfdgbapionojaaW.PrintWords

/-- Whatever is read of type t at a call's begin, and weighs no more than it may, is of the kind d, and as 'ok' says. -/
structure Opens {α : Type} (P : Program) (t : TypeId) (d : Kd α) (ok : α → Prop) : Prop where
  sz : P.cellsOf t = d.sz
  go : ∀ {H : Type} {enc : TypeId × Value → H} {w : World} {base : Nat} {spare : Nat → Bool} {held : Bool} {fuel : Nat} {cs : List Value} {x : DataW H × List MemPlace},
    DataW.trod enc P w base spare held fuel t cs = some x → (DataW.weights P t x.1).all (· ≤ reachBytes) = true → ∃ a, d.K w a cs ∧ ok a

theorem opens_int {P : Program} {t : TypeId} {k : IntKind} (ht : P.underlying t = some (.int k)) (hc : P.cellsOf t = 1) : Opens P t (Kd.int k) (fun n => (Lit.int k n).wf = true) where
  sz := hc
  go := by
    intro H enc w base spare held fuel cs x h _
    obtain ⟨n, rfl, _, hw⟩ := DataW.trod_int ht h
    exact ⟨n, rfl, hw⟩

theorem opens_bool {P : Program} {t : TypeId} (ht : P.underlying t = some .bool) (hc : P.cellsOf t = 1) : Opens P t Kd.bool (fun _ => True) where
  sz := hc
  go := by
    intro H enc w base spare held fuel cs x h _
    obtain ⟨n, rfl, _⟩ := DataW.trod_bool ht h
    exact ⟨n, rfl, trivial⟩

theorem opens_string {P : Program} {t : TypeId} (ht : P.underlying t = some .string) (hc : P.cellsOf t = 1) : Opens P t Kd.string (fun s => s.size ≤ 140737488351232) where
  sz := hc
  go := by
    intro H enc w base spare held fuel cs x h hz
    obtain ⟨s, rfl, hx, hm⟩ := DataW.trod_string ht h
    refine ⟨s, rfl, ?_⟩
    rw [hx] at hz
    simp only [DataW.weights, List.all_cons, List.all_nil, Bool.and_true, reachBytes] at hz
    have h2 := of_decide_eq_true hz
    simpa using h2

theorem add_add (a : Addr) (m j : Nat) : (a.add m).add j = a.add (m + j) := by
  unfold Addr.add
  by_cases hm : m = 0
  · subst hm; simp
  · by_cases hj : j = 0
    · subst hj; simp
    · simp [hm, hj, Nat.add_assoc]

theorem weightsAll_mem {H : Type} {P : Program} {e : TypeId} : ∀ {l : List (DataW H)}, (DataW.weightsAll P e l).all (· ≤ reachBytes) = true → ∀ d ∈ l, (DataW.weights P e d).all (· ≤ reachBytes) = true
  | [], _, d, h => by cases h
  | a :: l, hz, d, h => by
    simp only [DataW.weightsAll, List.all_append, Bool.and_eq_true] at hz
    rcases List.mem_cons.1 h with rfl | h
    · exact hz.1
    · exact weightsAll_mem hz.2 d h

theorem opens_slice {α : Type} {P : Program} {t e : TypeId} {d : Kd α} {ok : α → Prop} {B : Nat} (ht : P.underlying t = some (.slice e)) (hc : P.cellsOf t = 1) (hB : P.bytesOf e = B) (he : Opens P e d ok) :
    Opens P t (Kd.slice e d) (fun l => l.length * B ≤ 140737488351232 ∧ l.length ≤ maxLen ∧ ∀ x ∈ l, ok x) where
  sz := hc
  go := by
    intro H enc w base spare held fuel cs x h hz
    rcases DataW.trod_slice ht h with ⟨rfl, rfl⟩ | ⟨a, len, cap, elems, rest, n, rfl, rfl, rfl, hb, hl, hm, hlen, hel, _, _⟩
    · exact ⟨[], ⟨none, 0, rfl, Nat.le_refl _, rfl, by simp, fun h => absurd h (by simp)⟩, by simp, by simp, by simp⟩
    · simp only [DataW.weights, ht, List.all_cons, List.all_append, Bool.and_eq_true, decide_eq_true_eq, List.length_map] at hz
      obtain ⟨hz0, hz1, _⟩ := hz
      have hw : ∀ d ∈ elems, (DataW.weights P e d.1).all (· ≤ reachBytes) = true := fun d hd => weightsAll_mem hz1 d.1 (List.mem_map_of_mem hd)
      have each : ∀ i : Nat, i < len → ∃ b : α, ok b ∧ ∃ c, c.length = d.sz ∧ d.K w b c ∧ ∀ j u, c[j]? = some u → w.cell? (a.add (i * d.sz + j)) = some u := by
        intro i hi
        have h1 := hel i hi
        obtain ⟨y, hy⟩ : ∃ y, elems[i]? = some y := ⟨elems[i]'(by omega), List.getElem?_eq_getElem (by omega)⟩
        rw [hy, Option.bind_eq_some_iff] at h1
        obtain ⟨c, hc1, hc2⟩ := h1
        obtain ⟨_, hcl, hcc⟩ := World.cells?_some hc1
        obtain ⟨b, hK, hok⟩ := he.go hc2 (hw y (List.mem_of_getElem? hy))
        rw [he.sz] at hcl hcc
        refine ⟨b, hok, c, hcl, hK, fun j u hu => ?_⟩
        have hj : j < d.sz := by rw [← hcl]; exact (List.getElem?_eq_some_iff.1 hu).1
        have := hcc j hj
        rw [add_add, hu] at this
        exact this
      have pick : ∀ m : Nat, m ≤ len → ∃ l : List α, l.length = m ∧ (∀ b ∈ l, ok b) ∧ ∀ j b, l[j]? = some b → ∃ c, c.length = d.sz ∧ d.K w b c ∧ ∀ i u, c[i]? = some u → w.cell? (a.add (j * d.sz + i)) = some u := by
        intro m
        induction m with
        | zero => intro _; exact ⟨[], rfl, by simp, by simp⟩
        | succ m ih =>
          intro hmm
          obtain ⟨l, hl1, hl2, hl3⟩ := ih (by omega)
          obtain ⟨b, hb1, hb2⟩ := each m (by omega)
          refine ⟨l ++ [b], by simp [hl1], fun y hy => ?_, fun j y hy => ?_⟩
          · rcases List.mem_append.1 hy with hy | hy
            · exact hl2 y hy
            · rw [List.mem_singleton.1 hy]; exact hb1
          · rcases Nat.lt_or_ge j m with hj | hj
            · rw [List.getElem?_append_left (by omega)] at hy
              exact hl3 j y hy
            · have hj2 : j = m := by
                have := (List.getElem?_eq_some_iff.1 hy).1
                simp [hl1] at this
                omega
              subst hj2
              have : b = y := by
                rw [List.getElem?_append_right (by omega), hl1] at hy
                simpa using hy
              subst this
              exact hb2
      obtain ⟨l, hl1, hl2, hl3⟩ := pick len (Nat.le_refl _)
      refine ⟨l, ⟨some a, cap, by rw [hl1], by omega, ⟨rfl, by rw [hl1]; unfold maxLen at hm; omega, fun _ => ⟨a, rfl, hl3⟩⟩⟩, ?_, by omega, hl2⟩
      rw [hl1]
      have : len * P.bytesOf e ≤ (elems.length + rest.length) * P.bytesOf e := Nat.mul_le_mul_right _ (by omega)
      rw [hB] at this hz0
      exact Nat.le_trans this hz0

/-- Fields in line from cell 'off' on. -/
structure OpensF {α : Type} (P : Program) (fs : List Field) (off : Nat) (d : Kd α) (ok : α → Prop) : Prop where
  go : ∀ {H : Type} {enc : TypeId × Value → H} {w : World} {base : Nat} {spare : Nat → Bool} {held : Bool} {n : Nat} {cs : List Value} {xs : List (DataW H × List MemPlace)},
    xs.length = fs.length → (∀ (i : Nat) (f : Field), fs[i]? = some f → DataW.trod enc P w base spare held n f.type ((cs.drop f.offset).take (P.cellsOf f.type)) = xs[i]?) → cs.length = off + d.sz →
    (DataW.weightsEach P (fs.map (·.type)) (xs.map (·.1))).all (· ≤ reachBytes) = true → ∃ a, d.K w a (cs.drop off) ∧ ok a

theorem opensF_one {α : Type} {P : Program} {f : Field} {off : Nat} {d : Kd α} {ok : α → Prop} (ho : f.offset = off) (h : Opens P f.type d ok) : OpensF P [f] off d ok where
  go := by
    intro H enc w base spare held n cs xs hl hx hc hz
    obtain ⟨x, rfl⟩ : ∃ x, xs = [x] := by
      match xs, hl with
      | [x], _ => exact ⟨x, rfl⟩
    have h1 := hx 0 f rfl
    simp only [List.map_cons, List.map_nil, DataW.weightsEach, List.append_nil] at hz
    obtain ⟨a, ha, hok⟩ := h.go h1 hz
    rw [ho, h.sz, List.take_of_length_le (by rw [List.length_drop]; omega)] at ha
    exact ⟨a, ha, hok⟩

theorem opensF_cons {α β : Type} {P : Program} {f : Field} {fs : List Field} {off : Nat} {d : Kd α} {d' : Kd β} {ok : α → Prop} {ok' : β → Prop} (ho : f.offset = off) (h : Opens P f.type d ok) (h' : OpensF P fs (off + d.sz) d' ok') :
    OpensF P (f :: fs) off (Kd.pair d d') (fun p => ok p.1 ∧ ok' p.2) where
  go := by
    intro H enc w base spare held n cs xs hl hx hc hz
    obtain ⟨x, xs, rfl⟩ : ∃ x ys, xs = x :: ys := by
      match xs, hl with
      | x :: ys, _ => exact ⟨x, ys, rfl⟩
    have hc' : cs.length = off + (d.sz + d'.sz) := hc
    simp only [List.map_cons, DataW.weightsEach, List.all_append, Bool.and_eq_true] at hz
    obtain ⟨a, ha, hok⟩ := h.go (hx 0 f rfl) hz.1
    rw [ho, h.sz] at ha
    obtain ⟨b, hb, hokb⟩ := h'.go (xs := xs) (cs := cs) (by simpa using hl) (fun i g hg => hx (i + 1) g hg) (by omega) hz.2
    refine ⟨(a, b), ⟨(cs.drop off).take d.sz, cs.drop (off + d.sz), ?_, ha, hb⟩, hok, hokb⟩
    rw [← List.drop_drop, List.take_append_drop]

theorem opens_struct {α : Type} {P : Program} {t : TypeId} {fs : Array Field} {l : List Field} {d : Kd α} {ok : α → Prop} (ht : P.underlying t = some (.struct fs)) (hl : fs.toList = l) (hc : P.cellsOf t = d.sz) (h : OpensF P l 0 d ok) : Opens P t d ok where
  sz := hc
  go := by
    subst hl
    intro H enc w base spare held fuel cs x hx hz
    obtain ⟨xs, n, rfl, rfl, h1, h2, h3⟩ := DataW.trod_struct ht hx
    simp only [DataW.weights, ht] at hz
    have := h.go (xs := xs) (cs := cs) (by simpa using h2) (fun i f hf => h3 i f (by simpa using hf)) (by omega) hz
    simpa using this

theorem opens_iso {α β : Type} {P : Program} {t : TypeId} {d : Kd α} {ok : α → Prop} (f : β → α) (g : α → β) (hfg : ∀ a, f (g a) = a) (h : Opens P t d ok) : Opens P t (Kd.iso d f) (fun b => ok (f b)) where
  sz := h.sz
  go := by
    intro H enc w base spare held fuel cs x hx hz
    obtain ⟨a, ha, hok⟩ := h.go hx hz
    refine ⟨g a, ?_, ?_⟩
    · show d.K w (f (g a)) cs
      rw [hfg]; exact ha
    · show ok (f (g a))
      rw [hfg]; exact hok

/-- A row's weights, argument by argument. -/
theorem weights_at {H : Type} {P : Program} : ∀ {ts : List TypeId} {ds : List (DataW H)} {j : Nat} {t : TypeId} {d : DataW H}, (DataW.weightsEach P ts ds).all (· ≤ reachBytes) = true → ts[j]? = some t → ds[j]? = some d → (DataW.weights P t d).all (· ≤ reachBytes) = true
  | [], _, _, _, _, _, h, _ => by simp at h
  | _ :: _, [], _, _, _, _, _, h => by simp at h
  | t :: ts, d :: ds, 0, _, _, hz, h1, h2 => by
    simp only [List.getElem?_cons_zero, Option.some.injEq] at h1 h2
    subst h1; subst h2
    simp only [DataW.weightsEach, List.all_append, Bool.and_eq_true] at hz
    exact hz.1
  | t :: ts, d :: ds, j + 1, _, _, hz, h1, h2 => by
    simp only [List.getElem?_cons_succ] at h1 h2
    simp only [DataW.weightsEach, List.all_append, Bool.and_eq_true] at hz
    exact weights_at hz.2 h1 h2

/-- A row's argument that is a struct. -/
theorem open_agg {α : Type} {H : Type} {enc : TypeId × Value → H} {P : Program} {W : World} {base : Nat} {spare : Nat → Bool} {held : Bool} {r : Reach} {b0 : Nat} {t : TypeId} {fs : Array Field} {v : Value} {dd : DataW H} {ps : List MemPlace} {d : Kd α} {ok : α → Prop}
    {ts : List TypeId} {ds : List (DataW H)} {j : Nat} (ht : P.underlying t = some (.struct fs)) (ho : Opens P t d ok) (hval : Value.okWide P W r b0 t v) (hsz : (DataW.weightsEach P ts ds).all (· ≤ reachBytes) = true) (h1 : ts[j]? = some t) (h2 : ds[j]? = some dd)
    (h : DataW.Trod enc P W base spare held t v dd ps) : ∃ (a : α) (cs : List Value), v = .agg cs.toArray ∧ d.K W a cs ∧ ok a := by
  obtain ⟨cs, rfl, _⟩ := okWide_struct ht hval
  obtain ⟨fuel, hf⟩ := h
  obtain ⟨a, ha, hok⟩ := ho.go hf (weights_at hsz h1 h2)
  exact ⟨a, cs.toList, by simp, ha, hok⟩

/-- A row's argument that is a slice. -/
theorem open_sl {α : Type} {H : Type} {enc : TypeId × Value → H} {P : Program} {W : World} {base : Nat} {spare : Nat → Bool} {held : Bool} {r : Reach} {b0 : Nat} {t e : TypeId} {v : Value} {dd : DataW H} {ps : List MemPlace} {d : Kd α} {ok : List α → Prop}
    {ts : List TypeId} {ds : List (DataW H)} {j : Nat} (ht : P.underlying t = some (.slice e)) (ho : Opens P t (Kd.slice e d) ok) (hval : Value.okWide P W r b0 t v) (hsz : (DataW.weightsEach P ts ds).all (· ≤ reachBytes) = true) (h1 : ts[j]? = some t) (h2 : ds[j]? = some dd)
    (h : DataW.Trod enc P W base spare held t v dd ps) : ∃ (l : List α) (A : Option Addr) (c : Nat), v = .slice A l.length c ∧ l.length ≤ c ∧ Kd.C d W A l.length l ∧ ok l := by
  obtain ⟨A, len, cap, rfl⟩ := okWide_slice ht hval
  obtain ⟨fuel, hf⟩ := h
  obtain ⟨l, ⟨A', c', hcs, hlc, hC⟩, hok⟩ := ho.go hf (weights_at hsz h1 h2)
  simp only [Value.cells, List.cons.injEq, and_true] at hcs
  injection hcs with e1 e2 e3
  subst e1; subst e3
  exact ⟨l, A, cap, by rw [e2], hlc, hC, hok⟩
end Go.Proofs.YtnfdgbapionojaaW.PrintOpen
