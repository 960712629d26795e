/- The engine, part E: abstract heaps beside the program's; operations that read memory, and that make one new block. -/
import Derived.Test.YtgnenipkebelfaaGreatDoorEngD
set_option linter.unusedVariables false
set_option linter.unusedSimpArgs false
namespace Go.Eng
open Go

def EntRel (σ : Inj) (a : AV × AV) (e : MapEntry) : Prop := VRel σ a.1 e.key ∧ VRel σ a.2 e.val
def Ents (σ : Inj) : List (AV × AV) → List MapEntry → Prop
  | [], [] => True
  | a :: l, e :: m => EntRel σ a e ∧ Ents σ l m
  | _, _ => False
theorem ents_len {σ : Inj} : ∀ {l : List (AV × AV)} {m : List MapEntry}, Ents σ l m → l.length = m.length
  | [], [], _ => rfl
  | [], _ :: _, h => h.elim
  | _ :: _, [], h => h.elim
  | _ :: l, _ :: m, h => by simp [ents_len h.2]
theorem ents_le {σ τ : Inj} (hle : σ.le τ) : ∀ {l : List (AV × AV)} {m : List MapEntry}, Ents σ l m → Ents τ l m
  | [], [], _ => trivial
  | [], _ :: _, h => h.elim
  | _ :: _, [], h => h.elim
  | _ :: l, _ :: m, h => ⟨⟨vrel_le hle _ _ h.1.1, vrel_le hle _ _ h.1.2⟩, ents_le hle h.2⟩

/-- A writer's buffer: nil, or a row of bytes. -/
def BufOk (σ : Inj) (v : AV) : Prop := v = .nilslice ∨ ∃ (g n c : Nat) (lg : Loc), v = .slice g 1 0 n c false ∧ σ g = some lg ∧ lg.base = 0 ∧ lg.ty = 5
/-- A block and what lies at its place. -/
def BlkRel (σ : Inj) (w : World) (l : Loc) : Blk → Prop
  | .dead => True
  | .row es els wr ap => es = l.es ∧ els.length ≤ l.lim ∧ (wr = true → ap = true) ∧ ∃ cs ty fz, w.heap[l.cb]? = some (.cells cs ty fz) ∧ (l.base + l.lim * l.es ≤ cs.size ∧ ty = l.ty) ∧
      (∀ (i : Nat) (e : List AV), els[i]? = some e → e.length = es ∧ ∀ (j : Nat) (a : AV), e[j]? = some a → ∃ c, cs[l.base + i * es + j]? = some c ∧ VRel σ a c) ∧
      (ap = true → ∀ o, l.base ≤ o → o < l.base + l.lim * es → ¬ (fz.1 ≤ o ∧ o < fz.2))
  | .map es => ∃ ents clock, w.heap[l.cb]? = some (.map ents clock) ∧ Ents σ es ents.toList
  | .bld v => (l.base = 0 ∧ l.es = 2 ∧ l.lim = 1) ∧ ∃ T c0 cv, bldTy = some T ∧ w.heap[l.cb]? = some (.cells #[c0, cv] T (0, 0)) ∧ (c0 = .pointer none ∨ c0 = .pointer (some ⟨l.cb, 0, none⟩)) ∧ VRel σ v cv ∧ BufOk σ v

/-- Two blocks at one place: neither may be written, at most one may be appended to, and that one reaches as far as the other. -/
def Beside (x : Blk) (l : Loc) (x' : Blk) (l' : Loc) : Prop :=
  match x, x' with
  | .dead, _ => True
  | _, .dead => True
  | .row es els wr ap, .row es' els' wr' ap' => wr = false ∧ wr' = false ∧ (ap = true → ap' = false ∧ l'.base + els'.length * es' ≤ l.base + els.length * es)
  | _, _ => False

def Owned (σ : Inj) (h : H) (cb : Nat) : Prop :=
  ∃ (b : Nat) (l : Loc), σ b = some l ∧ l.cb = cb ∧ ((∃ es els wr, h[b]? = some (.row es els wr true)) ∨ (∃ es, h[b]? = some (.map es)) ∨ ∃ v, h[b]? = some (.bld v))

/-- Blocks that stay as they are: their numbers, and what lies there. -/
def laid : List (Nat × (Obj → Prop)) := [(0, fun o => ∃ cs ty fz, o = .cells cs ty fz ∧ ∀ c : Nat, c < 256 → cs[c]? = some (.int .u8 (if c = 32 ∨ (9 ≤ c ∧ c ≤ 13) then 1 else 0)))]
def LaidIn (w : World) : Prop := ∀ p ∈ laid, ∃ o, w.heap[p.1]? = some o ∧ p.2 o
theorem LaidIn.lt {w : World} (l : LaidIn w) {p : Nat × (Obj → Prop)} (hp : p ∈ laid) : p.1 < w.heap.size := by
  obtain ⟨o, h, _⟩ := l p hp
  exact (Array.getElem?_eq_some_iff.1 h).1
theorem LaidIn.of {w w' : World} (l : LaidIn w) (h : ∀ p ∈ laid, p.1 < w.heap.size → w'.heap[p.1]? = w.heap[p.1]?) : LaidIn w' := fun p hp => by
  obtain ⟨o, h1, h2⟩ := l p hp
  exact ⟨o, (h p hp (l.lt hp)).trans h1, h2⟩
structure Lay (σ : Inj) (h : H) (w : World) : Prop where
  is_ : LaidIn w
  no : ∀ p ∈ laid, ¬ Owned σ h p.1

structure Rep (σ : Inj) (h : H) (w : World) : Prop where
  dom : ∀ b l, σ b = some l → b < h.length
  blk : ∀ (b : Nat) l x, σ b = some l → h[b]? = some x → BlkRel σ w l x
  sep : ∀ (b b' : Nat) l l' x x', b ≠ b' → σ b = some l → σ b' = some l' → l.cb = l'.cb → h[b]? = some x → h[b']? = some x' → Beside x l x' l'
  lay : Lay σ h w

theorem Rep.cb {σ : Inj} {h : H} {w : World} (r : Rep σ h w) {b : Nat} {l : Loc} {x : Blk} (hl : σ b = some l) (hx : h[b]? = some x) (hne : x ≠ .dead) : l.cb < w.heap.size := by
  have hb := r.blk b l x hl hx
  cases x with
  | dead => exact absurd rfl hne
  | row es els wr ap => obtain ⟨_, _, _, cs, ty, fz, h4, _⟩ := hb; exact (Array.getElem?_eq_some_iff.1 h4).1
  | map es => obtain ⟨ents, clock, h1, _⟩ := hb; exact (Array.getElem?_eq_some_iff.1 h1).1
  | bld v => obtain ⟨_, T, c0, cv, _, h1, _⟩ := hb; exact (Array.getElem?_eq_some_iff.1 h1).1

structure Ext (σ : Inj) (h : H) (w : World) (σ' : Inj) (h' : H) (w' : World) : Prop where
  len : h.length ≤ h'.length
  inj : σ.le σ'
  non : ∀ b : Nat, b < h.length → σ b = none → σ' b = none ∧ h'[b]? = h[b]?
  tape : w'.tape = w.tape
  os : w'.os = w.os
  output : w'.output = w.output
  size : w.heap.size ≤ w'.heap.size
  old : ∀ cb : Nat, cb < w.heap.size → ¬ Owned σ h cb → w'.heap[cb]? = w.heap[cb]?
  own : ∀ cb : Nat, cb < w.heap.size → Owned σ' h' cb → Owned σ h cb

theorem Ext.refl (σ : Inj) (h : H) (w : World) : Ext σ h w σ h w :=
  ⟨Nat.le_refl _, fun _ _ h => h, fun _ _ h => ⟨h, rfl⟩, rfl, rfl, rfl, Nat.le_refl _, fun _ _ _ => rfl, fun _ _ h => h⟩

theorem Ext.trans {σ τ υ : Inj} {h k m : H} {u v w : World} (a : Ext σ h u τ k v) (b : Ext τ k v υ m w) : Ext σ h u υ m w where
  len := Nat.le_trans a.len b.len
  inj := fun x l hx => b.inj x l (a.inj x l hx)
  non := fun x hx hs => by
    obtain ⟨h1, h2⟩ := a.non x hx hs
    obtain ⟨h3, h4⟩ := b.non x (Nat.lt_of_lt_of_le hx a.len) h1
    exact ⟨h3, h4.trans h2⟩
  tape := b.tape.trans a.tape
  os := b.os.trans a.os
  output := b.output.trans a.output
  size := Nat.le_trans a.size b.size
  old := fun cb hcb hn => (b.old cb (Nat.lt_of_lt_of_le hcb a.size) (fun ho => hn (a.own cb hcb ho))).trans (a.old cb hcb hn)
  own := fun cb hcb ho => a.own cb hcb (b.own cb (Nat.lt_of_lt_of_le hcb a.size) ho)

/-- A draw turns nothing. -/
def DrewFrom (w w' : World) : Prop := w'.heap = w.heap ∧ w'.tape = w.tape ∧ w'.os = w.os ∧ w'.output = w.output
theorem Rep.drew {σ : Inj} {h : H} {w w' : World} (r : Rep σ h w) (hd : w'.heap = w.heap) : Rep σ h w' where
  dom := r.dom
  blk := fun b l x hb hx => by
    have := r.blk b l x hb hx
    cases x <;> simp only [BlkRel] at this ⊢ <;> rw [hd] <;> exact this
  sep := r.sep
  lay := ⟨r.lay.is_.of (fun _ _ _ => by rw [hd]), r.lay.no⟩
theorem Ext.drew {σ : Inj} {h : H} {w w' : World} (hd : DrewFrom w w') : Ext σ h w σ h w' :=
  ⟨Nat.le_refl _, fun _ _ h => h, fun _ _ h => ⟨h, rfl⟩, hd.2.1, hd.2.2.1, hd.2.2.2, by rw [hd.1]; exact Nat.le_refl _, fun _ _ _ => by rw [hd.1], fun _ _ h => h⟩

/-! ### Reading -/
section
variable {P : Program} {σ : Inj} {h : H} {w : World} {ρ : Operand → Value}

theorem rdEl_rel (r : Rep σ h w) {b i : Nat} {e : List AV} {l : Loc} (hl : σ b = some l) (he : rdEl h b i = some e) :
    e.length = l.es ∧ ∀ (j : Nat) (a : AV), e[j]? = some a → ∃ c, w.cell? ⟨l.cb, l.base + i * l.es + j, none⟩ = some c ∧ VRel σ a c := by
  unfold rdEl at he
  split at he
  · rename_i es els wr ap hb
    obtain ⟨rfl, hlen, hwa, cs, ty, fz, hcs, hsz, hel, hfz⟩ := r.blk b l _ hl hb
    obtain ⟨h1, h2⟩ := hel i e he
    refine ⟨h1, fun j a ha => ?_⟩
    obtain ⟨c, hc, hr⟩ := h2 j a ha
    exact ⟨c, by simp [World.cell?, hcs, hc], hr⟩
  · rename_i v hb
    split at he
    · rename_i hi
      cases he
      subst hi
      obtain ⟨⟨h1, h2, h3⟩, T, c0, cv, _, h4, _, h5, _⟩ := r.blk b l _ hl hb
      refine ⟨h2.symm, fun j a ha => ?_⟩
      rw [h1]
      match j, ha with
      | 0, ha => simp at ha; subst ha; exact ⟨c0, by simp [World.cell?, h4], trivial⟩
      | 1, ha => simp at ha; subst ha; exact ⟨cv, by simp [World.cell?, h4], h5⟩
    · cases he
  · cases he

theorem cells_at {cb o : Nat} {as : List AV} (hh : ∀ (j : Nat) (a : AV), as[j]? = some a → ∃ c, w.cell? ⟨cb, o + j, none⟩ = some c ∧ VRel σ a c) :
    ∃ cs : List Value, VRels σ as cs ∧ ∀ (j : Nat) (v : Value), cs[j]? = some v → w.cell? ⟨cb, o + j, none⟩ = some v := by
  induction as generalizing o with
  | nil => exact ⟨[], trivial, fun j v hv => by simp at hv⟩
  | cons a as ih =>
    obtain ⟨c, hc, hr⟩ := hh 0 a rfl
    obtain ⟨cs, h1, h2⟩ := ih (o := o + 1) (fun j a' ha => by
      obtain ⟨c', hc', hr'⟩ := hh (j + 1) a' (by simpa using ha)
      exact ⟨c', by rw [show o + 1 + j = o + (j + 1) by omega]; exact hc', hr'⟩)
    refine ⟨c :: cs, ⟨hr, h1⟩, fun j v hv => ?_⟩
    cases j with
    | zero => simp at hv; subst hv; exact hc
    | succ j =>
      rw [show o + (j + 1) = o + 1 + j by omega]
      exact h2 j v (by simpa using hv)

theorem addr_add (cb o j : Nat) : (⟨cb, o, none⟩ : Addr).add j = ⟨cb, o + j, none⟩ := by
  unfold Addr.add
  split
  · rename_i h; rw [h]; rfl
  · rfl

/-- A load, of one cell or of many. -/
theorem load_run (r : Rep σ h w) {t : TypeId} {n : Option Nat} (hn : loadAs P t = some n) {b i j : Nat} {l : Loc} (hl : σ b = some l) {e : List AV} (he : rdEl h b i = some e) {v : AV} (hv : partV e j n = some v) :
    ∃ c, (loadVar t ⟨l.cb, l.base + i * l.es + j, none⟩).run P w = .ok c w ∧ VRel σ v c := by
  obtain ⟨hel, hc⟩ := rdEl_rel r hl he
  unfold loadAs isAggT at hn
  cases hu : P.underlying t with
  | none => simp [hu] at hn
  | some d =>
    cases hi : P.info? t with
    | none => cases d <;> simp [hu, hi] at hn
    | some ti =>
      have agg : ∀ m, n = some m → ti.size = m → (isAgg t).run P w = .ok true w → ∃ c, (loadVar t ⟨l.cb, l.base + i * l.es + j, none⟩).run P w = .ok c w ∧ VRel σ v c := by
        intro m hm hsz hag
        subst hm
        simp only [partV] at hv
        split at hv
        · rename_i hle
          cases hv
          obtain ⟨cs, h1, h2⟩ := cells_at (w := w) (cb := l.cb) (o := l.base + i * l.es + j) (as := (e.drop j).take m) (σ := σ) (fun k a ha => by
            rw [List.getElem?_take] at ha
            split at ha
            · rw [List.getElem?_drop] at ha
              obtain ⟨c, hc', hr⟩ := hc (j + k) a ha
              exact ⟨c, by rw [show l.base + i * l.es + j + k = l.base + i * l.es + (j + k) by omega]; exact hc', hr⟩
            · cases ha)
          have hlen : cs.length = m := by rw [← vrels_len h1]; simp; omega
          refine ⟨.agg cs.toArray, ?_, by simpa [VRel] using h1⟩
          have := run_loadCells_list (P := P) (w := w) ⟨l.cb, l.base + i * l.es + j, none⟩ cs (fun k v hk => by rw [addr_add]; exact h2 k v hk)
          rw [hlen] at this
          simp [loadVar, hag, sizeOf, typeInfo, hi, hsz, this]
        · cases hv
      have one : n = none → (isAgg t).run P w = .ok false w → ∃ c, (loadVar t ⟨l.cb, l.base + i * l.es + j, none⟩).run P w = .ok c w ∧ VRel σ v c := by
        intro hm hag
        subst hm
        simp only [partV] at hv
        obtain ⟨c, hc', hr⟩ := hc j v hv
        exact ⟨c, by simp [loadVar, hag, hc'], hr⟩
      cases d <;> simp [hu, hi] at hn <;> first
        | exact one hn.symm (by simp [isAgg, run_underlying hu])
        | exact agg _ hn.symm rfl (by simp [isAgg, run_underlying hu])

/-- What is to be shown of an operation that reads. -/
def ReadsAs (P : Program) (σ : Inj) (ρ : Operand → Value) (w : World) (o : Op) (v : AV) : Prop :=
  ∀ (dst : Option Tmp) (ty : TypeId) (pos : String) (after : Array Edge) (gd : Option (Nat × Bool)), ∃ c, (execOp ρ ⟨dst, o, ty, pos, after, gd⟩).run P w = .ok (.value c) w ∧ VRel σ v c

theorem reads_load (r : Rep σ h w) {t : TypeId} {n : Option Nat} (hn : loadAs P t = some n) {x : Operand} {vs : List AV} {v : AV}
    (hv : VRels σ vs ([x].map ρ)) (he : evalR (.load n) vs h = some v) : ReadsAs P σ ρ w (.load t x) v := by
  obtain ⟨a, rfl, ha⟩ := map1 hv
  cases a with
  | ptr b i j =>
    simp only [evalR, Option.bind_eq_some_iff] at he
    obtain ⟨e, he1, he2⟩ := he
    obtain ⟨l, hl, hx⟩ := vrel_ptr ha
    obtain ⟨c, hc, hr⟩ := load_run (P := P) r hn hl he1 he2
    intro _ _ _ _ _
    exact ⟨c, by simp [execOp, hx, Instr.loadAt, Instr.sureAddr, hc], hr⟩
  | _ => simp [evalR] at he

theorem bytesA_some : ∀ {l : List (List AV)} {bs : List UInt8}, bytesA l = some bs → ∃ ns : List Int, l = ns.map (fun n => [.int .u8 n]) ∧ bs = ns.map fun n => UInt8.ofNat n.toNat
  | [], bs, h => by simp [bytesA] at h; subst h; exact ⟨[], rfl, rfl⟩
  | e :: l, bs, h => by
    match e, h with
    | [.int .u8 n], h =>
      simp only [bytesA, Option.map_eq_some_iff] at h
      obtain ⟨r, hr, rfl⟩ := h
      obtain ⟨ns, rfl, rfl⟩ := bytesA_some hr
      exact ⟨n :: ns, rfl, rfl⟩

theorem reads_toStr (r : Rep σ h w) {src dst e : TypeId} (hs : P.underlying src = some (.slice e)) (hd : P.underlying dst = some .string) (he8 : P.underlying e = some (.int .u8)) {x : Operand} {vs : List AV} {v : AV}
    (hv : VRels σ vs ([x].map ρ)) (he : evalR .toStr vs h = some v) : ReadsAs P σ ρ w (.convert src dst x) v := by
  obtain ⟨a, rfl, ha⟩ := map1 hv
  cases a with
  | nilslice =>
    simp only [evalR, Option.some.injEq] at he; subst he
    intro _ _ _ _ _
    refine ⟨.string .empty, ?_, by simp [VRel]⟩
    simp [execOp, vrel_nilslice ha, convert, run_underlying hs, run_underlying hd, run_underlying he8, Conv.bytesToString]
  | slice b es i n k q =>
    match es, he with
    | 1, he =>
    simp only [evalR] at he
    split at he
    · rename_i els wr ap hb
      split at he
      · rename_i hle
        simp only [Option.map_eq_some_iff] at he
        obtain ⟨bs, hbs, rfl⟩ := he
        obtain ⟨ns, hns, rfl⟩ := bytesA_some hbs
        obtain ⟨ad, c', hx, h1, h2, h3, l, hl, hles, h4, h5, h6⟩ := vrel_slice ha
        obtain ⟨hes, hlim, hwa, cs, ty, fz, hcs, ⟨hsz, _⟩, hel, hfz⟩ := r.blk b l _ hl hb
        have hload : (loadCells ad n).run P w = .ok (ns.map (Value.int .u8)).toArray w := by
          by_cases hn : n = 0
          · subst hn
            have hn0 : ns = [] := by
              have := congrArg List.length hns
              simpa using this.symm
            subst hn0
            simp [loadCells, loadCellsFrom]
          · have had := h6.resolve_left (by omega)
            have hnl : ns.length = n := by
              have := congrArg List.length hns
              simp at this
              omega
            subst had
            have := run_loadCells_list (P := P) (w := w) ⟨l.cb, l.base + i * l.es, none⟩ (ns.map (Value.int .u8)) (fun j v hv => by
              rw [addr_add]
              simp only [List.getElem?_map, Option.map_eq_some_iff] at hv
              obtain ⟨m, hm, rfl⟩ := hv
              have he : els[i + j]? = some [.int .u8 m] := by
                have hlt : j < ns.length := (List.getElem?_eq_some_iff.1 hm).1
                have : ((els.drop i).take n)[j]? = some [.int .u8 m] := by rw [hns]; simp [hm]
                rw [List.getElem?_take, if_pos (by omega), List.getElem?_drop] at this
                exact this
              obtain ⟨_, hc⟩ := hel (i + j) _ he
              obtain ⟨c, hc1, hc2⟩ := hc 0 (.int .u8 m) rfl
              rw [vrel_int hc2] at hc1
              rw [World.cell?]
              simp only [hcs]
              rw [show l.base + i * l.es + j = l.base + (i + j) * 1 + 0 by rw [hles]; omega]
              simpa using hc1)
            rw [List.length_map, hnl] at this
            exact this
        intro _ _ _ _ _
        refine ⟨.string ((ns.foldl (fun r n => r.push (UInt8.ofNat n.toNat)) ByteArray.empty)), ?_, ?_⟩
        · simp [execOp, hx, convert, run_underlying hs, run_underlying hd, run_underlying he8, run_bytesToString w ad n c' ns hload]
        · simp only [VRel]
          have : ∀ (ns : List Int) (b : ByteArray), (ns.foldl (fun r n => r.push (UInt8.ofNat n.toNat)) b).data.toList = b.data.toList ++ ns.map (fun n => UInt8.ofNat n.toNat) := by
            intro ns
            induction ns with
            | nil => intro b; simp
            | cons n ns ih => intro b; rw [List.foldl_cons, ih]; simp [ByteArray.push]
          rw [this]
          rfl
      · cases he
    · cases he
    | 0, he => simp [evalR] at he
    | (_ + 2), he => simp [evalR] at he
  | _ => simp [evalR] at he

/-! ### Maps -/
theorem sameNow_leaf {kt : TypeId} {kd : Leaf} (hk : keyLeaf P kt = some kd) {a b : AV} {x y : Value} {r : Bool} (he : eqLeaf kd a b = some r) (hx : VRel σ a x) (hy : VRel σ b y) :
    ∃ d, P.underlying kt = some d ∧ Instr.sameNow d x y = some r := by
  unfold keyLeaf at hk
  split at hk
  · rename_i k hu
    cases hk
    cases a <;> cases b <;> simp only [eqLeaf] at he <;> try (cases he; done)
    split at he
    · rename_i hkk
      cases he
      subst hkk
      rw [vrel_int hx, vrel_int hy]
      exact ⟨_, hu, by simp [Instr.sameNow]⟩
    · cases he
  · rename_i hu
    cases hk
    cases a <;> cases b <;> simp only [eqLeaf] at he <;> try (cases he; done)
    cases he
    rw [vrel_str hx, vrel_str hy]
    refine ⟨_, hu, ?_⟩
    simp [Instr.sameNow, beq_toListBytes]
  · cases hk

def FindRel (σ : Inj) (i0 : Nat) : Option (Nat × AV) → Option (Nat × Value) → Prop
  | none, none => True
  | some (i, v), some (i', c) => i' = i0 + i ∧ VRel σ v c
  | _, _ => False

theorem find_rel {kt : TypeId} {kd : Leaf} (hk : keyLeaf P kt = some kd) {d : TypeDesc} (hd : P.underlying kt = some d) {k : AV} {x : Value} (hx : VRel σ k x) :
    ∀ (l : List (AV × AV)) (m : List MapEntry) (i0 : Nat) (r : Option (Nat × AV)), Ents σ l m → findA kd k l = some r → ∃ r', Instr.findNow d x m i0 = some r' ∧ FindRel σ i0 r r'
  | [], [], i0, r, _, h => by simp [findA] at h; subst h; exact ⟨none, by simp [Instr.findNow], trivial⟩
  | [], _ :: _, _, _, h, _ => h.elim
  | _ :: _, [], _, _, h, _ => h.elim
  | (k', v) :: l, e :: m, i0, r, he, h => by
    simp only [findA] at h
    split at h
    · rename_i hq
      cases h
      obtain ⟨d', hd', hs⟩ := sameNow_leaf hk hq hx he.1.1
      rw [hd] at hd'; cases hd'
      exact ⟨some (i0, e.val), by simp [Instr.findNow, hs], rfl, he.1.2⟩
    · rename_i hq
      simp only [Option.map_eq_some_iff] at h
      obtain ⟨r1, hr1, rfl⟩ := h
      obtain ⟨d', hd', hs⟩ := sameNow_leaf hk hq hx he.1.1
      rw [hd] at hd'; cases hd'
      obtain ⟨r', h1, h2⟩ := find_rel hk hd hx l m (i0 + 1) r1 he.2 hr1
      refine ⟨r', by simp [Instr.findNow, hs, h1], ?_⟩
      cases r1 with
      | none => cases r' with | none => trivial | some _ => exact h2.elim
      | some p =>
        obtain ⟨i, v'⟩ := p
        cases r' with
        | none => exact h2.elim
        | some q => obtain ⟨i', c⟩ := q; exact ⟨by have := h2.1; omega, h2.2⟩
    · cases h

theorem key_desc {kt : TypeId} {kd : Leaf} (hk : keyLeaf P kt = some kd) : ∃ d, P.underlying kt = some d ∧ ((∃ k, d = .int k) ∨ d = .string) := by
  unfold keyLeaf at hk
  split at hk
  · rename_i k hu; exact ⟨_, hu, .inl ⟨k, rfl⟩⟩
  · rename_i hu; exact ⟨_, hu, .inr rfl⟩
  · cases hk

theorem checkKey_run {kt : TypeId} {d : TypeDesc} (hu : P.underlying kt = some d) (hd : (∃ k, d = .int k) ∨ d = .string) (b : Bool) (n : Nat) (v : Value) : (Instr.checkKey b (n + 1) kt v).run P w = .ok () w := by
  rcases hd with ⟨k, rfl⟩ | rfl <;> cases v <;> simp [Instr.checkKey, run_underlying hu]

theorem findKey_run {kt : TypeId} {d : TypeDesc} (hu : P.underlying kt = some d) {x : Value} {m : List MapEntry} {r' : Option (Nat × Value)} (h : Instr.findNow d x m 0 = some r') : (Instr.findKey kt x m).run P w = .ok r' w := by
  simp [Instr.findKey, run_underlying hu, h]

theorem reads_lookup (r : Rep σ h w) {t kt e : TypeId} {kd : Leaf} (ht : P.underlying t = some (.map kt e)) (hk : keyLeaf P kt = some kd) {ti : TypeInfo} (hi : P.info? e = some ti) {zv : Value} (hz : ti.zero = some zv) {z : AV} (hzz : absV zv = some z)
    {x y : Operand} {ok : Bool} {vs : List AV} {v : AV} (hv : VRels σ vs ([x, y].map ρ)) (he : evalR (.lookup kd z ok) vs h = some v) : ReadsAs P σ ρ w (.lookup t x y ok) v := by
  obtain ⟨a, k, rfl, ha, hkx⟩ := map2 hv
  obtain ⟨d, hd, hdd⟩ := key_desc hk
  have hzr := absV_rel σ zv z hzz
  cases a with
  | map b =>
    simp only [evalR] at he
    split at he
    · rename_i es hb
      split at he
      · rename_i r0 hr0
        cases he
        obtain ⟨l, hl, hx⟩ := vrel_map ha
        obtain ⟨ents, clock, hh, hents⟩ := r.blk b l _ hl hb
        obtain ⟨r', h1, h2⟩ := find_rel hk hd hkx es ents.toList 0 r0 hents hr0
        have hobj : (getObj l.cb).run P w = .ok (.map ents clock) w := by simp [getObj, Sem.run, hh]
        intro _ _ _ _ _
        have hfin : ∀ (q : Value) (o : Bool), VRel σ (((r0.map (·.2)).getD z)) q → r0.isSome = o → VRel σ (if ok = true then .tuple [(r0.map (·.2)).getD z, .bool r0.isSome] else (r0.map (·.2)).getD z) (if ok then .tuple #[q, .bool o] else q) := by
          intro q o hq ho
          cases ok
          · simpa using hq
          · simp [VRel, VRels, hq, ho]
        cases r0 with
        | none =>
          cases r' with
          | some _ => exact h2.elim
          | none =>
            refine ⟨_, ?_, hfin zv false hzr rfl⟩
            simp [execOp, hx, Instr.lookup, run_underlying ht, hobj, checkKey_run hd hdd, findKey_run hd h1, zeroValue, typeInfo, hi, hz]
        | some p =>
          obtain ⟨i, v'⟩ := p
          cases r' with
          | none => exact h2.elim
          | some q =>
            obtain ⟨i', c⟩ := q
            refine ⟨_, ?_, hfin c true h2.2 rfl⟩
            simp [execOp, hx, Instr.lookup, run_underlying ht, hobj, checkKey_run hd hdd, findKey_run hd h1]
      · cases he
    · cases he
  | nilmap =>
    simp only [evalR, Option.some.injEq] at he; subst he
    intro _ _ _ _ _
    refine ⟨if ok then .tuple #[zv, .bool false] else zv, ?_, ?_⟩
    · have h1 : Instr.findNow d (ρ y) [] 0 = some none := by simp [Instr.findNow]
      simp [execOp, vrel_nilmap ha, Instr.lookup, run_underlying ht, checkKey_run hd hdd, findKey_run hd h1, zeroValue, typeInfo, hi, hz]
    · cases ok
      · simpa using hzr
      · simp [VRel, VRels, hzr]
  | _ => simp [evalR] at he

theorem reads_lenMap (r : Rep σ h w) {c : Call} (hc : c.callee = .builtin .len) (h0 : c.argTypes.size ≠ 0) {t k e : TypeId} (ht : c.argTypes.getD 0 0 = t) (hu : P.underlying t = some (.map k e)) {vs : List AV} {v : AV}
    (hv : VRels σ vs (c.args.toList.map ρ)) (he : evalR .lenMap vs h = some v) : ReadsAs P σ ρ w (.call c) v := by
  match vs, hv with
  | [.map b], hv =>
    obtain ⟨x, xs, hx, hax, hxs⟩ := vrels_cons hv
    obtain rfl := vrels_nil hxs
    simp only [evalR] at he
    split at he
    · rename_i es hb
      cases he
      obtain ⟨l, hl, rfl⟩ := vrel_map hax
      obtain ⟨ents, clock, hh, hents⟩ := r.blk b l _ hl hb
      have hobj : (getObj l.cb).run P w = .ok (.map ents clock) w := by simp [getObj, Sem.run, hh]
      intro dst ty pos after gd
      rw [run_bi hc, hx]
      refine ⟨.int .i64 ents.size, by simp [builtin, Builtin.len_, arg0 h0 ht, run_underlying hu, hobj, goInt], ?_⟩
      simp [VRel, ents_len hents]
    · cases he
  | [.nilmap], hv =>
    obtain ⟨x, xs, hx, hax, hxs⟩ := vrels_cons hv
    obtain rfl := vrels_nil hxs
    simp only [evalR, Option.some.injEq] at he; subst he
    intro dst ty pos after gd
    rw [run_bi hc, hx]
    exact ⟨.int .i64 0, by simp [builtin, Builtin.len_, arg0 h0 ht, vrel_nilmap hax, run_underlying hu, goInt], by simp [VRel]⟩
  | [], _ => simp [evalR] at he

end
end Go.Eng
