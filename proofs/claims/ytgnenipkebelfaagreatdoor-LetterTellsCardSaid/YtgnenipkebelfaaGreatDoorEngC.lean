/- The engine, part C: how abstract values and heaps stand to the program's; that operations on operands alone are sound. -/
import Derived.Test.YtgnenipkebelfaaGreatDoorEngB
set_option linter.unusedVariables false
set_option linter.unusedSimpArgs false
namespace Go.Eng

/-- Where a block lies: from cell 'base' of the program's block 'cb' on, elements of 'es' cells; it may grow up to 'lim' elements; 'ty': of which type the program's block is. -/
structure Loc where
  cb : Nat
  base : Nat
  es : Nat
  lim : Nat
  ty : TypeId

abbrev Inj := Nat → Option Loc

mutual
def VRel (σ : Inj) : AV → Value → Prop
  | .undef, _ => True
  | .bool a, .bool b => a = b
  | .int k a, .int k' b => k = k' ∧ a = b
  | .str s, .string t => s = t.data.toList
  | .nilptr, .pointer none => True
  | .ptr b i j, .pointer (some a) => ∃ l, σ b = some l ∧ a = ⟨l.cb, l.base + i * l.es + j, none⟩
  | .nilslice, .slice none n c => n = 0 ∧ c = 0
  | .slice b e i n c x, .slice (some a) n' c' => n' = n ∧ n ≤ c' ∧ c ≤ c' ∧ (x = true → c' = c) ∧
      ∃ l, σ b = some l ∧ l.es = e ∧ (x = false → i + c' = l.lim) ∧ i + c' ≤ l.lim ∧ (c' = 0 ∨ a = ⟨l.cb, l.base + i * l.es, none⟩)
  | .nilmap, .map none => True
  | .map b, .map (some r) => ∃ l, σ b = some l ∧ l.cb = r
  | .nilfunc, .nilFunc => True
  | .func f cs, .func fn first cap => fn = .func f ∧ first = #[] ∧ VRels σ cs cap.toList
  | .agg l, .agg cs => VRels σ l cs.toList
  | .tuple l, .tuple cs => VRels σ l cs.toList
  | _, _ => False
def VRels (σ : Inj) : List AV → List Value → Prop
  | [], [] => True
  | a :: l, c :: cs => VRel σ a c ∧ VRels σ l cs
  | _, _ => False
end

section inv
variable {σ : Inj} {c : Value}
theorem vrel_bool {b : Bool} (h : VRel σ (.bool b) c) : c = .bool b := by cases c <;> simp_all [VRel]
theorem vrel_int {k : IntKind} {n : Int} (h : VRel σ (.int k n) c) : c = .int k n := by cases c <;> simp_all [VRel]
theorem vrel_str {s : List UInt8} (h : VRel σ (.str s) c) : c = .string ⟨s.toArray⟩ := by
  cases c <;> simp_all [VRel]
theorem vrel_nilptr (h : VRel σ .nilptr c) : c = .pointer none := by
  cases c with
  | pointer a => cases a <;> simp_all [VRel]
  | _ => simp_all [VRel]
theorem vrel_ptr {b i j : Nat} (h : VRel σ (.ptr b i j) c) : ∃ l, σ b = some l ∧ c = .pointer (some ⟨l.cb, l.base + i * l.es + j, none⟩) := by
  cases c with
  | pointer a => cases a <;> simp_all [VRel]
  | _ => simp_all [VRel]
theorem vrel_nilslice (h : VRel σ .nilslice c) : c = .slice none 0 0 := by
  cases c with
  | slice a n c => cases a <;> simp_all [VRel]
  | _ => simp_all [VRel]
theorem vrel_slice {b e i n k : Nat} {x : Bool} (h : VRel σ (.slice b e i n k x) c) : ∃ a c', c = .slice (some a) n c' ∧ n ≤ c' ∧ k ≤ c' ∧ (x = true → c' = k) ∧
    ∃ l, σ b = some l ∧ l.es = e ∧ (x = false → i + c' = l.lim) ∧ i + c' ≤ l.lim ∧ (c' = 0 ∨ a = ⟨l.cb, l.base + i * l.es, none⟩) := by
  cases c with
  | slice a n' c' =>
    cases a with
    | none => simp [VRel] at h
    | some a =>
      simp only [VRel] at h
      obtain ⟨rfl, h⟩ := h
      exact ⟨a, c', rfl, h⟩
  | _ => simp [VRel] at h
theorem vrel_nilmap (h : VRel σ .nilmap c) : c = .map none := by
  cases c with
  | map a => cases a <;> simp_all [VRel]
  | _ => simp_all [VRel]
theorem vrel_map {b : Nat} (h : VRel σ (.map b) c) : ∃ l, σ b = some l ∧ c = .map (some l.cb) := by
  cases c with
  | map a =>
    cases a with
    | none => simp [VRel] at h
    | some r => simp only [VRel] at h; obtain ⟨l, h, rfl⟩ := h; exact ⟨l, h, rfl⟩
  | _ => simp [VRel] at h
theorem vrel_nilfunc (h : VRel σ .nilfunc c) : c = .nilFunc := by cases c <;> simp_all [VRel]
theorem vrel_func {f : FuncId} {cs : List AV} (h : VRel σ (.func f cs) c) : ∃ cap, c = .func (.func f) #[] cap ∧ VRels σ cs cap.toList := by
  cases c with
  | func fn first cap => simp only [VRel] at h; obtain ⟨rfl, rfl, h⟩ := h; exact ⟨cap, rfl, h⟩
  | _ => simp [VRel] at h
theorem vrel_agg {l : List AV} (h : VRel σ (.agg l) c) : ∃ cs, c = .agg cs ∧ VRels σ l cs.toList := by
  cases c with
  | agg cs => exact ⟨cs, rfl, by simpa [VRel] using h⟩
  | _ => simp [VRel] at h
theorem vrel_tuple {l : List AV} (h : VRel σ (.tuple l) c) : ∃ cs, c = .tuple cs ∧ VRels σ l cs.toList := by
  cases c with
  | tuple cs => exact ⟨cs, rfl, by simpa [VRel] using h⟩
  | _ => simp [VRel] at h
end inv

theorem vrels_nil {σ : Inj} {cs : List Value} (h : VRels σ [] cs) : cs = [] := by cases cs <;> simp_all [VRels]
theorem vrels_cons {σ : Inj} {a : AV} {l : List AV} {cs : List Value} (h : VRels σ (a :: l) cs) : ∃ c cs', cs = c :: cs' ∧ VRel σ a c ∧ VRels σ l cs' := by
  cases cs with
  | nil => simp [VRels] at h
  | cons c cs => simp only [VRels] at h; exact ⟨c, cs, rfl, h⟩
theorem vrels_len {σ : Inj} : ∀ {l : List AV} {cs : List Value}, VRels σ l cs → l.length = cs.length
  | [], cs, h => by rw [vrels_nil h]; rfl
  | a :: l, cs, h => by
    obtain ⟨c, cs', rfl, _, h⟩ := vrels_cons h
    simp [vrels_len h]
theorem vrels_get {σ : Inj} : ∀ {l : List AV} {cs : List Value}, VRels σ l cs → ∀ {i : Nat} {a : AV}, l[i]? = some a → ∃ c, cs[i]? = some c ∧ VRel σ a c
  | [], cs, h, i, a, hi => by simp at hi
  | x :: l, cs, h, i, a, hi => by
    obtain ⟨c, cs', rfl, hx, h⟩ := vrels_cons h
    cases i with
    | zero => simp at hi; subst hi; exact ⟨c, rfl, hx⟩
    | succ i => exact vrels_get h (by simpa using hi)
theorem vrels_of {σ : Inj} : ∀ {l : List AV} {cs : List Value}, l.length = cs.length → (∀ (i : Nat) (a : AV) (c : Value), l[i]? = some a → cs[i]? = some c → VRel σ a c) → VRels σ l cs
  | [], [], _, _ => trivial
  | [], c :: cs, h, _ => by simp at h
  | a :: l, [], h, _ => by simp at h
  | a :: l, c :: cs, h, hh => ⟨hh 0 a c rfl rfl, vrels_of (by simpa using h) fun i a' c' ha hc => hh (i + 1) a' c' (by simpa using ha) (by simpa using hc)⟩
theorem vrels_append {σ : Inj} {l m : List AV} {cs ds : List Value} (h : VRels σ l cs) (k : VRels σ m ds) : VRels σ (l ++ m) (cs ++ ds) := by
  induction l generalizing cs with
  | nil => rw [vrels_nil h]; exact k
  | cons a l ih =>
    obtain ⟨c, cs', rfl, hx, h⟩ := vrels_cons h
    exact ⟨hx, ih h⟩
theorem vrels_drop {σ : Inj} {l : List AV} {cs : List Value} (h : VRels σ l cs) (n : Nat) : VRels σ (l.drop n) (cs.drop n) := by
  induction n generalizing l cs with
  | zero => simpa using h
  | succ n ih =>
    cases l with
    | nil => rw [vrels_nil h]; trivial
    | cons a l => obtain ⟨c, cs', rfl, _, h⟩ := vrels_cons h; exact ih h
theorem vrels_take {σ : Inj} {l : List AV} {cs : List Value} (h : VRels σ l cs) (n : Nat) : VRels σ (l.take n) (cs.take n) := by
  induction n generalizing l cs with
  | zero => trivial
  | succ n ih =>
    cases l with
    | nil => rw [vrels_nil h]; trivial
    | cons a l => obtain ⟨c, cs', rfl, hx, h⟩ := vrels_cons h; exact ⟨hx, ih h⟩
theorem vrels_set {σ : Inj} {l : List AV} {cs : List Value} (h : VRels σ l cs) (i : Nat) {a : AV} {c : Value} (ha : VRel σ a c) : VRels σ (l.set i a) (cs.set i c) := by
  induction l generalizing cs i with
  | nil => rw [vrels_nil h]; trivial
  | cons x l ih =>
    obtain ⟨y, cs', rfl, hx, h⟩ := vrels_cons h
    cases i with
    | zero => exact ⟨ha, h⟩
    | succ i => exact ⟨hx, ih h i⟩
theorem vrels_replicate {σ : Inj} {a : AV} {c : Value} (h : VRel σ a c) : ∀ n, VRels σ (List.replicate n a) (List.replicate n c)
  | 0 => trivial
  | n + 1 => ⟨h, vrels_replicate h n⟩

/-! ### More places -/
def Inj.le (σ τ : Inj) : Prop := ∀ b l, σ b = some l → τ b = some l

mutual
theorem vrel_le {σ τ : Inj} (h : σ.le τ) : ∀ (a : AV) (c : Value), VRel σ a c → VRel τ a c
  | .undef, _, _ => by simp [VRel]
  | .bool b, c, hv => by rw [vrel_bool hv]; simp [VRel]
  | .int k n, c, hv => by rw [vrel_int hv]; simp [VRel]
  | .str s, c, hv => by rw [vrel_str hv]; simp [VRel]
  | .nilptr, c, hv => by rw [vrel_nilptr hv]; simp [VRel]
  | .ptr b i j, c, hv => by
    obtain ⟨l, hl, rfl⟩ := vrel_ptr hv
    simp only [VRel]; exact ⟨l, h _ _ hl, rfl⟩
  | .nilslice, c, hv => by rw [vrel_nilslice hv]; simp [VRel]
  | .slice b e i n k x, c, hv => by
    obtain ⟨a, c', rfl, h1, h2, h3, l, hl, h4⟩ := vrel_slice hv
    simp only [VRel]; exact ⟨trivial, h1, h2, h3, l, h _ _ hl, h4⟩
  | .nilmap, c, hv => by rw [vrel_nilmap hv]; simp [VRel]
  | .map b, c, hv => by
    obtain ⟨l, hl, rfl⟩ := vrel_map hv
    simp only [VRel]; exact ⟨l, h _ _ hl, rfl⟩
  | .nilfunc, c, hv => by rw [vrel_nilfunc hv]; simp [VRel]
  | .func f cs, c, hv => by
    obtain ⟨cap, rfl, hc⟩ := vrel_func hv
    simp only [VRel]; exact ⟨trivial, trivial, vrels_le h cs _ hc⟩
  | .agg l, c, hv => by
    obtain ⟨cs, rfl, hc⟩ := vrel_agg hv
    simp only [VRel]; exact vrels_le h l _ hc
  | .tuple l, c, hv => by
    obtain ⟨cs, rfl, hc⟩ := vrel_tuple hv
    simp only [VRel]; exact vrels_le h l _ hc
theorem vrels_le {σ τ : Inj} (h : σ.le τ) : ∀ (l : List AV) (cs : List Value), VRels σ l cs → VRels τ l cs
  | [], cs, hv => by rw [vrels_nil hv]; simp [VRels]
  | a :: l, cs, hv => by
    obtain ⟨c, cs', rfl, ha, hl⟩ := vrels_cons hv
    simp only [VRels]; exact ⟨vrel_le h a c ha, vrels_le h l cs' hl⟩
end

/-! ### Cells of values -/
theorem cells_rel {σ : Inj} {a : AV} {c : Value} {l : List AV} (h : VRel σ a c) (hc : a.cells = some l) : VRels σ l c.cells.toList := by
  cases a with
  | undef => simp [AV.cells] at hc
  | tuple => simp [AV.cells] at hc
  | agg m =>
    simp [AV.cells] at hc; subst hc
    obtain ⟨cs, rfl, h⟩ := vrel_agg h
    exact h
  | _ =>
    simp only [AV.cells, Option.some.injEq] at hc
    subst hc
    cases c <;> first | (simp [VRel] at h; done) | exact ⟨h, trivial⟩

theorem scalar_oneCell {σ : Inj} {a : AV} {c : Value} (h : VRel σ a c) (hs : a.scalar = true) : c.oneCell' = true := by
  cases a <;> simp [AV.scalar] at hs <;> cases c <;> simp_all [VRel, Value.oneCell']

/-! ### Constants -/
mutual
theorem absV_rel (σ : Inj) : ∀ (v : Value) (a : AV), absV v = some a → VRel σ a v
  | .bool b, a, h => by simp [absV] at h; subst h; simp [VRel]
  | .int k n, a, h => by simp [absV] at h; subst h; simp [VRel]
  | .string s, a, h => by simp [absV] at h; subst h; simp [VRel]
  | .pointer none, a, h => by simp [absV] at h; subst h; simp [VRel]
  | .pointer (some _), a, h => by simp [absV] at h
  | .slice none 0 0, a, h => by simp [absV] at h; subst h; simp [VRel]
  | .slice none 0 (_ + 1), a, h => by simp [absV] at h
  | .slice none (_ + 1) _, a, h => by simp [absV] at h
  | .slice (some _) _ _, a, h => by simp [absV] at h
  | .map none, a, h => by simp [absV] at h; subst h; simp [VRel]
  | .map (some _), a, h => by simp [absV] at h
  | .nilFunc, a, h => by simp [absV] at h; subst h; simp [VRel]
  | .agg ⟨cs⟩, a, h => by
    simp only [absV, Option.map_eq_some_iff] at h
    obtain ⟨l, hl, rfl⟩ := h
    simp only [VRel]; exact absVs_rel σ cs l hl
  | .tuple ⟨cs⟩, a, h => by
    simp only [absV, Option.map_eq_some_iff] at h
    obtain ⟨l, hl, rfl⟩ := h
    simp only [VRel]; exact absVs_rel σ cs l hl
  | .float _ _, a, h => by simp [absV] at h
  | .complex _ _ _, a, h => by simp [absV] at h
  | .chan _, a, h => by simp [absV] at h
  | .func _ _ _, a, h => by simp [absV] at h
  | .iface _ _, a, h => by simp [absV] at h
  | .nilIface, a, h => by simp [absV] at h; subst h; simp [VRel]
theorem absVs_rel (σ : Inj) : ∀ (vs : List Value) (l : List AV), absVs vs = some l → VRels σ l vs
  | [], l, h => by simp [absVs] at h; subst h; simp [VRels]
  | v :: vs, l, h => by
    simp only [absVs] at h
    split at h
    · rename_i a ha
      simp only [Option.map_eq_some_iff] at h
      obtain ⟨m, hm, rfl⟩ := h
      simp only [VRels]; exact ⟨absV_rel σ v a ha, absVs_rel σ vs m hm⟩
    · cases h
end

theorem cOpd_rel {σ : Inj} {env : Env} {tmps : Array Value} (henv : ∀ t, VRel σ (env.getD t .undef) (tmps.getD t Go.undef)) {x : Operand} {a : Opd} (h : cOpd x = some a) (ds : List Deferred) :
    VRel σ (ev env a) (Act.eval ⟨tmps, ds⟩ x) := by
  cases x with
  | tmp t => simp [cOpd] at h; subst h; exact henv t
  | const v =>
    simp only [cOpd, Option.map_eq_some_iff] at h
    obtain ⟨b, hb, rfl⟩ := h
    exact absV_rel σ v b hb
  | func f => simp [cOpd] at h; subst h; simp [ev, Act.eval, VRel, VRels]
  | global g => simp [cOpd] at h

theorem cOpds_rel {σ : Inj} {env : Env} {tmps : Array Value} (henv : ∀ t, VRel σ (env.getD t .undef) (tmps.getD t Go.undef)) (ds : List Deferred) :
    ∀ {xs : List Operand} {as : List Opd}, cOpds xs = some as → VRels σ (as.map (ev env)) (xs.map (Act.eval ⟨tmps, ds⟩))
  | [], as, h => by simp [cOpds] at h; subst h; simp [VRels]
  | x :: xs, as, h => by
    simp only [cOpds] at h
    split at h
    · rename_i a ha
      simp only [Option.map_eq_some_iff] at h
      obtain ⟨m, hm, rfl⟩ := h
      simp only [List.map_cons, VRels]; exact ⟨cOpd_rel henv ha ds, cOpds_rel henv ds hm⟩
    · cases h

end Go.Eng
