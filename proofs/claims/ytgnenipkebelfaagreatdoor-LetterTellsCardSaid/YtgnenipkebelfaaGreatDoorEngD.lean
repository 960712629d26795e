/- The engine, part D: operations on operands alone are sound. -/
import Derived.Test.YtgnenipkebelfaaGreatDoorEngC
set_option linter.unusedVariables false
set_option linter.unusedSimpArgs false
namespace Go.Eng
open Go

/-- What is to be shown of an operation on its operands alone. -/
def Yield (P : Program) (σ : Inj) (ρ : Operand → Value) (o : Op) (v : AV) : Prop :=
  ∀ (dst : Option Tmp) (ty : TypeId) (pos : String) (after : Array Edge) (gd : Option (Nat × Bool)) (w : World), ∃ c, (execOp ρ ⟨dst, o, ty, pos, after, gd⟩).run P w = .ok (.value c) w ∧ VRel σ v c

section
variable {P : Program} {σ : Inj} {ρ : Operand → Value}

theorem map2 {x y : Operand} {vs : List AV} (h : VRels σ vs ([x, y].map ρ)) : ∃ a b, vs = [a, b] ∧ VRel σ a (ρ x) ∧ VRel σ b (ρ y) := by
  match vs, h with
  | [a, b], h => simp only [List.map, VRels] at h; exact ⟨a, b, rfl, h.1, h.2.1⟩
theorem map1 {x : Operand} {vs : List AV} (h : VRels σ vs ([x].map ρ)) : ∃ a, vs = [a] ∧ VRel σ a (ρ x) := by
  match vs, h with
  | [a], h => simp only [List.map, VRels] at h; exact ⟨a, rfl, h.1⟩
theorem map3 {x y z : Operand} {vs : List AV} (h : VRels σ vs ([x, y, z].map ρ)) : ∃ a b c, vs = [a, b, c] ∧ VRel σ a (ρ x) ∧ VRel σ b (ρ y) ∧ VRel σ c (ρ z) := by
  match vs, h with
  | [a, b, c], h => simp only [List.map, VRels] at h; exact ⟨a, b, c, rfl, h.1, h.2.1, h.2.2.1⟩

theorem yield_move {x : Operand} {vs : List AV} {v : AV} (hv : VRels σ vs ([x].map ρ)) (he : evalP .move vs = some v) : Yield P σ ρ (.move x) v := by
  obtain ⟨a, rfl, ha⟩ := map1 hv
  simp only [evalP, Option.some.injEq] at he; subst he
  exact fun _ _ _ _ _ w => ⟨ρ x, rfl, ha⟩
theorem yield_assign {x : Operand} {vs : List AV} {v : AV} (hv : VRels σ vs ([x].map ρ)) (he : evalP .move vs = some v) : Yield P σ ρ (.assign x) v := by
  obtain ⟨a, rfl, ha⟩ := map1 hv
  simp only [evalP, Option.some.injEq] at he; subst he
  exact fun _ _ _ _ _ w => ⟨ρ x, rfl, ha⟩
theorem yield_pick {x y z : Operand} {vs : List AV} {v : AV} (hv : VRels σ vs ([x, y, z].map ρ)) (he : evalP .pick vs = some v) : Yield P σ ρ (.pick x y z) v := by
  obtain ⟨a, b, c, rfl, ha, hb, hc⟩ := map3 hv
  cases a with
  | bool t =>
    simp only [evalP, Option.some.injEq] at he; subst he
    intro _ _ _ _ _ w
    refine ⟨if t then ρ y else ρ z, ?_, by cases t <;> assumption⟩
    simp [execOp, vrel_bool ha, asBool]
  | _ => simp [evalP] at he
theorem yield_nilCheck {x : Operand} {vs : List AV} {v : AV} (hv : VRels σ vs ([x].map ρ)) (he : evalP .nilCheck vs = some v) : Yield P σ ρ (.nilCheck x) v := by
  obtain ⟨a, rfl, ha⟩ := map1 hv
  cases a with
  | ptr b i j =>
    simp only [evalP, Option.some.injEq] at he; subst he
    obtain ⟨l, hl, hx⟩ := vrel_ptr ha
    intro _ _ _ _ _ w
    refine ⟨ρ x, ?_, ha⟩
    simp [execOp, hx]
  | func f cs =>
    simp only [evalP, Option.some.injEq] at he; subst he
    obtain ⟨cap, hx, _⟩ := vrel_func ha
    intro _ _ _ _ _ w
    refine ⟨ρ x, ?_, ha⟩
    simp [execOp, hx]
  | _ => simp [evalP] at he
theorem yield_not {t : TypeId} {x : Operand} {vs : List AV} {v : AV} (hv : VRels σ vs ([x].map ρ)) (he : evalP .not vs = some v) : Yield P σ ρ (.unOp .not t x) v := by
  obtain ⟨a, rfl, ha⟩ := map1 hv
  cases a with
  | bool b =>
    simp only [evalP, Option.some.injEq] at he; subst he
    intro _ _ _ _ _ w
    exact ⟨.bool !b, by simp [execOp, vrel_bool ha, Op.unary], by simp [VRel]⟩
  | _ => simp [evalP] at he
theorem yield_neg {t : TypeId} {x : Operand} {vs : List AV} {v : AV} (hv : VRels σ vs ([x].map ρ)) (he : evalP .neg vs = some v) : Yield P σ ρ (.unOp .neg t x) v := by
  obtain ⟨a, rfl, ha⟩ := map1 hv
  cases a with
  | int k n =>
    simp only [evalP, Option.some.injEq] at he; subst he
    intro _ _ _ _ _ w
    exact ⟨_, by simp [execOp, vrel_int ha, Op.unary, Op.intArith]; rfl, by simp [VRel]⟩
  | _ => simp [evalP] at he

theorem bits_run {op : BinOp} {k : IntKind} {a b r : Int} (h : bitsV op k a b = some r) (w : World) : (Op.intBits op k a b).run P w = .ok (.int k r) w := by
  cases op <;> simp [bitsV] at h <;> subst h <;> simp [Op.intBits]
theorem yield_inv {t : TypeId} {x : Operand} {vs : List AV} {v : AV} (hv : VRels σ vs ([x].map ρ)) (he : evalP .inv vs = some v) : Yield P σ ρ (.unOp .xor t x) v := by
  obtain ⟨a, rfl, ha⟩ := map1 hv
  cases a with
  | int k n =>
    simp only [evalP, Option.map_eq_some_iff] at he
    obtain ⟨r, hr, rfl⟩ := he
    intro _ _ _ _ _ w
    exact ⟨.int k r, by simp [execOp, vrel_int ha, Op.unary, bits_run hr], by simp [VRel]⟩
  | _ => simp [evalP] at he

theorem strlist (t : ByteArray) : t.toList = t.data.toList := ByteArray.toList_eq t

theorem strBin_run {op : BinOp} {a b : List UInt8} {v : AV} (h : strBin op a b = some v) (w : World) :
    ∃ c, (Op.stringOp op ⟨a.toArray⟩ ⟨b.toArray⟩).run P w = .ok c w ∧ VRel σ v c := by
  have ea : (⟨a.toArray⟩ : ByteArray).toList = a := by rw [strlist]
  have eb : (⟨b.toArray⟩ : ByteArray).toList = b := by rw [strlist]
  have fin : ∀ q : Bool, some (AV.bool q) = some v → VRel σ v (.bool q) := fun q h => by cases h; simp [VRel]
  cases op <;> simp only [strBin] at h
  case add =>
    split at h
    · cases h
    · rename_i hn
      cases h
      refine ⟨.string (⟨a.toArray⟩ ++ ⟨b.toArray⟩), ?_, ?_⟩
      · simp only [Op.stringOp]
        rw [if_neg ?_]
        · rfl
        · rw [show IntKind.i64.max = 9223372036854775807 from rfl]
          simpa [ByteArray.size] using hn
      · simp [VRel, ByteArray.data_append]
  case eql => exact ⟨_, by simp only [Op.stringOp, ea, eb, Sem.run_pure], fin _ h⟩
  case neq => exact ⟨_, by simp only [Op.stringOp, ea, eb, Sem.run_pure], fin _ h⟩
  case lss => exact ⟨_, by simp only [Op.stringOp, ea, eb, Sem.run_pure], fin _ h⟩
  case leq => exact ⟨_, by simp only [Op.stringOp, ea, eb, Sem.run_pure], fin _ h⟩
  case gtr => exact ⟨_, by simp only [Op.stringOp, ea, eb, Sem.run_pure], fin _ h⟩
  case geq => exact ⟨_, by simp only [Op.stringOp, ea, eb, Sem.run_pure], fin _ h⟩
  all_goals cases h

theorem intBin_run {op : BinOp} {k : IntKind} {a b : Int} {v : AV} (h : intBin op k a b = some v) (t : TypeId) (w : World) :
    ∃ c, (binOp op t (.int k a) (.int k b)).run P w = .ok c w ∧ VRel σ v c := by
  cases op <;> simp only [intBin] at h <;> first
    | (cases h; done)
    | (simp only [Option.some.injEq] at h; subst h
       exact ⟨_, by simp [binOp, Op.intArith, Op.intCmp]; rfl, by simp [VRel]⟩)
    | (split at h
       · cases h
       · rename_i hn
         simp only [Option.some.injEq] at h; subst h
         exact ⟨_, by simp [binOp, Op.intDiv, hn]; rfl, by simp [VRel]⟩)
    | (simp only [Option.map_eq_some_iff] at h
       obtain ⟨r, hr, rfl⟩ := h
       exact ⟨.int k r, by simp [binOp, bits_run hr], by simp [VRel]⟩)

theorem eqGuard_run {op : BinOp} {t : TypeId} {x y : Operand} {a b : Value} (h : ∀ l, a = .agg l → False) (h' : a = .nilIface → False) (w : World) : (eqGuard op t x y a b).run P w = .ok () w := by
  unfold eqGuard
  cases a <;> first | exact (h' rfl).elim | exact (h _ rfl).elim | simp

theorem yield_bin {op : BinOp} {t ty : TypeId} {x y : Operand} {vs : List AV} {v : AV} (hv : VRels σ vs ([x, y].map ρ)) (he : evalP (.bin op) vs = some v) : Yield P σ ρ (.binOp op t x y ty) v := by
  obtain ⟨a, b, rfl, ha, hb⟩ := map2 hv
  simp only [evalP] at he
  intro _ _ _ _ _ w
  cases a with
  | int k m =>
    cases b with
    | int k' n =>
      have key : ∃ c, (binOp op t (.int k m) (.int k' n)).run P w = .ok c w ∧ VRel σ v c := by
        simp only [binV] at he
        split at he
        · split at he
          · cases he
          · rename_i hn
            simp only [Option.some.injEq] at he; subst he
            exact ⟨_, by simp [binOp, Op.shift, hn]; rfl, by simp [VRel]⟩
        · split at he
          · cases he
          · rename_i hn
            simp only [Option.some.injEq] at he; subst he
            exact ⟨_, by simp [binOp, Op.shift, hn]; rfl, by simp [VRel]⟩
        · split at he
          · rename_i hk
            subst hk
            exact intBin_run he t w
          · cases he
      obtain ⟨c, hc, hr⟩ := key
      refine ⟨c, ?_, hr⟩
      simp [execOp, vrel_int ha, vrel_int hb, eqGuard_run, hc]
    | _ => simp [binV] at he
  | str s =>
    cases b with
    | str s' =>
      obtain ⟨c, hc, hr⟩ := strBin_run (P := P) (σ := σ) he w
      refine ⟨c, ?_, hr⟩
      simp [execOp, vrel_str ha, vrel_str hb, eqGuard_run, binOp, hc]
    | _ => simp [binV] at he
  | _ => simp [binV] at he


theorem yield_convInt {src dst : TypeId} {k0 k : IntKind} (hs : P.underlying src = some (.int k0)) (hd : P.underlying dst = some (.int k)) {x : Operand} {vs : List AV} {v : AV}
    (hv : VRels σ vs ([x].map ρ)) (he : evalP (.convInt k) vs = some v) : Yield P σ ρ (.convert src dst x) v := by
  obtain ⟨a, rfl, ha⟩ := map1 hv
  cases a with
  | int k' n =>
    simp only [evalP, Option.some.injEq] at he; subst he
    intro _ _ _ _ _ w
    exact ⟨.int k (k.wrap n), by simp [execOp, vrel_int ha, convert, run_underlying hs, run_underlying hd, Conv.intToInt], by simp [VRel]⟩
  | _ => simp [evalP] at he

theorem yield_convStr {src dst : TypeId} (hs : P.underlying src = some .string) (hd : P.underlying dst = some .string) {x : Operand} {vs : List AV} {v : AV}
    (hv : VRels σ vs ([x].map ρ)) (he : evalP .convStr vs = some v) : Yield P σ ρ (.convert src dst x) v := by
  obtain ⟨a, rfl, ha⟩ := map1 hv
  cases a with
  | str s =>
    simp only [evalP, Option.some.injEq] at he; subst he
    intro _ _ _ _ _ w
    exact ⟨.string ⟨s.toArray⟩, by simp [execOp, vrel_str ha, convert, run_underlying hs, run_underlying hd], by simp [VRel]⟩
  | _ => simp [evalP] at he

theorem yield_fieldAddr {s : TypeId} {i : Nat} {f : Field} (hf : fieldOf P s i = some f) (hz : P.cellsOf f.type ≠ 0) {x : Operand} {vs : List AV} {v : AV}
    (hv : VRels σ vs ([x].map ρ)) (he : evalP (.fieldAddr f.offset) vs = some v) : Yield P σ ρ (.fieldAddr s x i) v := by
  obtain ⟨a, rfl, ha⟩ := map1 hv
  cases a with
  | ptr b i' j =>
    simp only [evalP, Option.some.injEq] at he; subst he
    obtain ⟨l, hl, hx⟩ := vrel_ptr ha
    unfold fieldOf at hf
    split at hf
    · rename_i fs hu
      have hsz : ∃ ti, P.info? f.type = some ti ∧ ti.size ≠ 0 := by
        unfold Program.cellsOf at hz
        cases h : P.info? f.type with
        | none => simp [h] at hz
        | some ti => exact ⟨ti, rfl, by simpa [h] using hz⟩
      obtain ⟨ti, hti, hne⟩ := hsz
      intro _ _ _ _ _ w
      refine ⟨.pointer (some ((⟨l.cb, l.base + i' * l.es + j, none⟩ : Addr).add f.offset)), ?_, ?_⟩
      · simp [execOp, hx, Instr.fieldAt, run_underlying hu, hf, Instr.sureAddr, fieldPlace, sizeOf, typeInfo, hti, hne]
      · simp only [VRel]
        refine ⟨l, hl, ?_⟩
        unfold Addr.add
        split
        · rename_i h0; rw [h0]; rfl
        · simp [Nat.add_assoc]
    · cases hf
  | _ => simp [evalP] at he

theorem partV_run {P : Program} {t : TypeId} {n : Option Nat} (hn : loadAs P t = some n) {σ : Inj} {l : List AV} {cs : List Value} (h : VRels σ l cs) {off : Nat} {v : AV} (he : partV l off n = some v) (w : World) :
    ∃ c, (part t cs.toArray off).run P w = .ok c w ∧ VRel σ v c := by
  unfold loadAs isAggT at hn
  cases hu : P.underlying t with
  | none => simp [hu] at hn
  | some d =>
    cases hi : P.info? t with
    | none => cases d <;> simp [hu, hi] at hn
    | some ti =>
      have agg : ∀ m, n = some m → ti.size = m → (isAgg t).run P w = .ok true w → ∃ c, (part t cs.toArray off).run P w = .ok c w ∧ VRel σ v c := by
        intro m hm hsz hag
        subst hm
        simp only [partV] at he
        split at he
        · cases he
          refine ⟨.agg (cs.toArray.extract off (off + m)), ?_, ?_⟩
          · simp [part, hag, sizeOf, typeInfo, hi, hsz]
          · simp only [VRel]
            rw [show (cs.toArray.extract off (off + m)).toList = (cs.drop off).take m from by simp [List.extract_eq_take_drop]]
            exact vrels_take (vrels_drop h off) m
        · cases he
      have one : n = none → (isAgg t).run P w = .ok false w → ∃ c, (part t cs.toArray off).run P w = .ok c w ∧ VRel σ v c := by
        intro hm hag
        subst hm
        simp only [partV] at he
        obtain ⟨c, hc, hr⟩ := vrels_get h he
        exact ⟨c, by simp [part, hag, hc], hr⟩
      cases d <;> simp [hu, hi] at hn <;> first
        | exact one hn.symm (by simp [isAgg, run_underlying hu])
        | exact agg _ hn.symm rfl (by simp [isAgg, run_underlying hu])

theorem yield_field {s : TypeId} {i : Nat} {f : Field} {n : Option Nat} (hf : fieldOf P s i = some f) (hn : loadAs P f.type = some n) {x : Operand} {vs : List AV} {v : AV}
    (hv : VRels σ vs ([x].map ρ)) (he : evalP (.field f.offset n) vs = some v) : Yield P σ ρ (.field s x i) v := by
  obtain ⟨a, rfl, ha⟩ := map1 hv
  cases a with
  | agg l =>
    simp only [evalP] at he
    obtain ⟨cs, hx, hr⟩ := vrel_agg ha
    unfold fieldOf at hf
    split at hf
    · rename_i fs hu
      intro _ _ _ _ _ w
      obtain ⟨c, hc, hcr⟩ := partV_run (P := P) hn hr he w
      refine ⟨c, ?_, hcr⟩
      simp only [Array.toArray_toList] at hc
      simp [execOp, hx, Instr.field, run_underlying hu, hf, asAgg, hc]
    · cases hf
  | _ => simp [evalP] at he

theorem size_of {e : TypeId} (h : P.cellsOf e ≠ 0) : ∃ ti, P.info? e = some ti ∧ ti.size = P.cellsOf e := by
  unfold Program.cellsOf at *
  cases hh : P.info? e with
  | none => simp [hh] at h
  | some ti => exact ⟨ti, rfl, by simp⟩

theorem add_at {l : Loc} {i m : Nat} : (⟨l.cb, l.base + i * l.es, none⟩ : Addr).add (m * l.es) = ⟨l.cb, l.base + (i + m) * l.es, none⟩ := by
  unfold Addr.add
  rw [Nat.add_mul]
  split
  · rename_i h; rw [h]; rfl
  · simp [Nat.add_assoc]

theorem yield_indexAddr {t e : TypeId} (ht : P.underlying t = some (.slice e)) (hz : P.cellsOf e ≠ 0) {x y : Operand} {vs : List AV} {v : AV}
    (hv : VRels σ vs ([x, y].map ρ)) (he : evalP (.indexAddr (P.cellsOf e)) vs = some v) : Yield P σ ρ (.indexAddr t x y) v := by
  obtain ⟨a, b, rfl, ha, hb⟩ := map2 hv
  cases a with
  | slice bl es i n c q =>
    cases b with
    | int k m =>
      simp only [evalP] at he
      split at he
      · rename_i hm
        obtain ⟨rfl, hm⟩ := hm
        cases he
        obtain ⟨ad, c', hx, h1, h2, h3, l, hl, hle, h4, h5, h6⟩ := vrel_slice ha
        have hc : c' ≠ 0 := by omega
        have had := h6.resolve_left hc
        obtain ⟨ti, hti, hsz⟩ := size_of hz
        intro _ _ _ _ _ w
        refine ⟨.pointer (some ((⟨l.cb, l.base + i * l.es, none⟩ : Addr).add (m.toNat * l.es))), ?_, ?_⟩
        · simp [execOp, hx, vrel_int hb, Instr.indexAt, asIntOf, run_underlying ht, hm, sizeOf, typeInfo, hti, hsz, had, hle]
        · rw [add_at]
          simp only [VRel]
          exact ⟨l, hl, rfl⟩
      · cases he
    | _ => simp [evalP] at he
  | _ => simp [evalP] at he


theorem yield_indexStr {t : TypeId} (ht : P.underlying t = some .string) {x y : Operand} {vs : List AV} {v : AV}
    (hv : VRels σ vs ([x, y].map ρ)) (he : evalP .indexStr vs = some v) : Yield P σ ρ (.index t x y) v := by
  obtain ⟨a, b, rfl, ha, hb⟩ := map2 hv
  cases a with
  | str s =>
    cases b with
    | int k m =>
      simp only [evalP] at he
      split at he
      · rename_i hm
        simp only [Option.map_eq_some_iff] at he
        obtain ⟨u, hu, rfl⟩ := he
        intro _ _ _ _ _ w
        have hlt : m.toNat < s.length := (List.getElem?_eq_some_iff.1 hu).1
        refine ⟨.int .u8 u.toNat, ?_, by simp [VRel]⟩
        have hg : (⟨s.toArray⟩ : ByteArray)[m.toNat]? = some u := by
          rw [getElem?_pos _ _ (by simpa [ByteArray.size] using hlt)]
          have := (List.getElem?_eq_some_iff.1 hu).2
          simpa [ByteArray.getElem_eq_getElem_data] using this
        simp [execOp, vrel_str ha, vrel_int hb, Instr.index, asIntOf, run_underlying ht, hm, hg]
      · cases he
    | _ => simp [evalP] at he
  | _ => simp [evalP] at he

theorem yield_extract {x : Operand} {i : Nat} {vs : List AV} {v : AV} (hv : VRels σ vs ([x].map ρ)) (he : evalP (.extract i) vs = some v) : Yield P σ ρ (.extract x i) v := by
  obtain ⟨a, rfl, ha⟩ := map1 hv
  cases a with
  | tuple l =>
    simp only [evalP] at he
    obtain ⟨cs, hx, hr⟩ := vrel_tuple ha
    obtain ⟨c, hc, hcr⟩ := vrels_get hr he
    rw [Array.getElem?_toList] at hc
    intro _ _ _ _ _ w
    exact ⟨c, by simp [execOp, hx, Instr.extract, hc], hcr⟩
  | _ => simp [evalP] at he

theorem yield_mkfn {f : FuncId} {first caps : Array Operand} (h0 : first.size = 0) {vs : List AV} {v : AV} (hv : VRels σ vs (caps.toList.map ρ)) (he : evalP (.mkfn f) vs = some v) :
    Yield P σ ρ (.makeFunc (.func f) first caps) v := by
  have : v = .func f vs := by
    cases vs <;> simp [evalP] at he <;> exact he.symm
  subst this
  obtain rfl : first = #[] := Array.eq_empty_of_size_eq_zero h0
  intro _ _ _ _ _ w
  exact ⟨.func (.func f) #[] (caps.map ρ), by simp [execOp, Instr.makeFunc], by simp [VRel]; exact hv⟩

def IsNat : Option Value → Option Nat → Prop
  | none, none => True
  | some x, some n => ∃ k, x = .int k (n : Int)
  | _, _ => False

theorem optNat_rel {hi : Option Operand} {vs : List AV} {r : Option Nat} {rest : List AV} {xs : List Operand} (h : optNat hi.isSome vs = some (r, rest)) (hv : VRels σ vs ((hi.toList ++ xs).map ρ)) :
    VRels σ rest (xs.map ρ) ∧ IsNat (hi.map ρ) r := by
  cases hi with
  | none =>
    simp only [Option.isSome_none, optNat, Option.some.injEq, Prod.mk.injEq] at h
    obtain ⟨rfl, rfl⟩ := h
    exact ⟨by simpa using hv, trivial⟩
  | some x =>
    simp only [Option.toList_some, List.singleton_append, List.map_cons] at hv
    match vs, hv with
    | a :: vs, hv =>
      simp only [VRels] at hv
      cases a with
      | int k n =>
        simp only [Option.isSome_some, optNat] at h
        split at h
        · rename_i hn
          cases h
          refine ⟨hv.2, k, ?_⟩
          rw [vrel_int hv.1, Int.toNat_of_nonneg hn]
        · cases h
      | _ => simp [optNat] at h

theorem sliceBound_ok {x : Value} {k : IntKind} {n y : Nat} (hx : x = .int k (n : Int)) (h : n ≤ y) (code : BoundsCode) (w : World) : (Instr.sliceBound x y code).run P w = .ok n w := by
  subst hx
  simp [Instr.sliceBound, asIntOf, Int.ofNat_le.2 h]

theorem sliceBounds_ok {isSlice : Bool} {len cap : Nat} {lo hi mx : Option Value} {a b m : Option Nat}
    (ha : IsNat lo a) (hb : IsNat hi b) (hm : IsNat mx m)
    (h1 : a.getD 0 ≤ b.getD len) (h2 : b.getD len ≤ m.getD cap) (h3 : m.getD cap ≤ cap) (hmb : mx.isSome = true → hi.isSome = true) (w : World) :
    (Instr.sliceBounds isSlice len cap lo hi mx).run P w = .ok (a.getD 0, b.getD len, m.getD cap) w := by
  have key : ∀ (x : Value) (n : Nat), (∃ k, x = .int k (n : Int)) → ∀ y code, n ≤ y → (Instr.sliceBound x y code).run P w = .ok n w := by
    rintro x n ⟨k, hk⟩ y code hy
    exact sliceBound_ok hk hy code w
  cases mx <;> cases m <;> first | exact hm.elim | skip
  · cases hi <;> cases b <;> first | exact hb.elim | skip
    · cases lo <;> cases a <;> first | exact ha.elim | skip
      · simp [Instr.sliceBounds]
      · simp only [Option.getD_some, Option.getD_none] at h1
        simp [Instr.sliceBounds, key _ _ ha _ _ h1]
    · simp only [Option.getD_some, Option.getD_none] at h1 h2
      cases lo <;> cases a <;> first | exact ha.elim | skip
      · simp [Instr.sliceBounds, key _ _ hb _ _ h2]
      · simp only [Option.getD_some] at h1
        simp [Instr.sliceBounds, key _ _ hb _ _ h2, key _ _ ha _ _ h1]
  · cases hi <;> cases b <;> first | exact hb.elim | skip
    · cases hmb rfl
    · simp only [Option.getD_some] at h1 h2 h3
      cases lo <;> cases a <;> first | exact ha.elim | skip
      · simp [Instr.sliceBounds, key _ _ hm _ _ h3, key _ _ hb _ _ h2]
      · simp only [Option.getD_some] at h1
        simp [Instr.sliceBounds, key _ _ hm _ _ h3, key _ _ hb _ _ h2, key _ _ ha _ _ h1]

theorem yield_sliceStr {t : TypeId} (ht : P.underlying t = some .string) {x : Operand} {lo hi : Option Operand} {vs : List AV} {v : AV}
    (hv : VRels σ vs ((x :: (lo.toList ++ hi.toList)).map ρ)) (he : evalP (.sliceStr lo.isSome hi.isSome) vs = some v) : Yield P σ ρ (.slice t x lo hi none) v := by
  match vs, hv with
  | a :: vs, hv =>
    simp only [List.map_cons, VRels] at hv
    cases a with
    | str s =>
      simp only [evalP, sliceStrV] at he
      split at he
      · rename_i a' l ha
        split at he
        · rename_i b' hb
          obtain ⟨hr, hla⟩ := optNat_rel ha hv.2
          obtain ⟨_, hlb⟩ := optNat_rel (xs := []) hb (by simpa using hr)
          split at he
          · rename_i hc
            cases he
            intro _ _ _ _ _ w
            refine ⟨.string ((⟨s.toArray⟩ : ByteArray).extract (a'.getD 0) (b'.getD s.length)), ?_, ?_⟩
            · have hs : (⟨s.toArray⟩ : ByteArray).size = s.length := by simp [ByteArray.size]
              have hb := sliceBounds_ok (P := P) (isSlice := false) (len := s.length) (cap := s.length) (lo := lo.map ρ) (hi := hi.map ρ) (mx := none) (m := none) hla hlb trivial hc.1 hc.2 (Nat.le_refl _) (by simp) w
              simp [execOp, vrel_str hv.1, Instr.sliceAt, Instr.slice, run_underlying ht, hs, hb]
            · simp [VRel, ByteArray.data_extract, List.extract_eq_take_drop]
          · cases he
        · cases he
      · cases he
    | _ => simp [evalP] at he

theorem yield_sliceSl {t e : TypeId} (ht : P.underlying t = some (.slice e)) (hz : P.cellsOf e ≠ 0) {x : Operand} {lo hi mx : Option Operand} (hmx : mx.isSome = true → hi.isSome = true) {vs : List AV} {v : AV}
    (hv : VRels σ vs ((x :: (lo.toList ++ (hi.toList ++ mx.toList))).map ρ)) (he : evalP (.sliceSl (P.cellsOf e) lo.isSome hi.isSome mx.isSome) vs = some v) : Yield P σ ρ (.slice t x lo hi mx) v := by
  match vs, hv with
  | a :: vs, hv =>
    simp only [List.map_cons, VRels] at hv
    have he' : sliceSlV (P.cellsOf e) lo.isSome hi.isSome mx.isSome a vs = some v := by
      simpa [evalP] using he
    clear he
    simp only [sliceSlV] at he'
    split at he'
    · rename_i a' l ha
      split at he'
      · rename_i b' l' hb
        split at he'
        · rename_i m' hm
          obtain ⟨hr, hla⟩ := optNat_rel ha hv.2
          obtain ⟨hr', hlb⟩ := optNat_rel hb hr
          obtain ⟨_, hlm⟩ := optNat_rel (xs := []) hm (by simpa using hr')
          obtain ⟨ti, hti, hsz⟩ := size_of hz
          split at he'
          · rename_i bl es i n c q
            obtain ⟨ad, c', hx, h1, h2, h3, lc, hl, hle, h4, h5, h6⟩ := vrel_slice hv.1
            have run : ∀ mm, m'.getD c' = mm → a'.getD 0 ≤ b'.getD n → b'.getD n ≤ mm → mm ≤ c' → ∀ w,
                (Instr.sliceAt t (.slice (some ad) n c') (lo.map ρ) (hi.map ρ) (mx.map ρ)).run P w =
                  .ok (.slice (if mm = a'.getD 0 then some ad else some (ad.add (a'.getD 0 * P.cellsOf e))) (b'.getD n - a'.getD 0) (mm - a'.getD 0)) w := by
              intro mm hmm k1 k2 k3 w
              have hb := sliceBounds_ok (P := P) (isSlice := true) (len := n) (cap := c') (lo := lo.map ρ) (hi := hi.map ρ) (mx := mx.map ρ) hla hlb hlm k1 (by rw [hmm]; exact k2) (by rw [hmm]; exact k3) (by simpa using hmx) w
              rw [hmm] at hb
              simp [Instr.sliceAt, Instr.slice, run_underlying ht, hb, sizeOf, typeInfo, hti, hsz]
            have fin : ∀ mm, a'.getD 0 ≤ b'.getD n → b'.getD n ≤ mm → mm ≤ c' → es = P.cellsOf e → (mm - a'.getD 0 = 0 ∨ (if mm = a'.getD 0 then some ad else some (ad.add (a'.getD 0 * P.cellsOf e))) = some ⟨lc.cb, lc.base + (i + a'.getD 0) * lc.es, none⟩) := by
              intro mm k1 k2 k3 ke
              by_cases hz : mm = a'.getD 0
              · left; omega
              · right
                rw [if_neg hz]
                have hc : c' ≠ 0 := by omega
                rw [h6.resolve_left hc, ← ke, ← hle, add_at]
            have some_of : ∀ mm, ∃ ad', (if mm = a'.getD 0 then some ad else some (ad.add (a'.getD 0 * P.cellsOf e))) = some ad' := by
              intro mm; split <;> exact ⟨_, rfl⟩
            cases m' with
            | none =>
              simp only [] at he'
              split at he'
              · rename_i hc
                obtain ⟨ke, k1, k2⟩ := hc
                cases he'
                obtain ⟨ad', had⟩ := some_of c'
                intro _ _ _ _ _ w
                refine ⟨.slice (some ad') (b'.getD n - a'.getD 0) (c' - a'.getD 0), ?_, ?_⟩
                · have hr := run c' rfl k1 (by omega) (Nat.le_refl _) w
                  rw [had] at hr
                  simp [execOp, hx, hr]
                · have hf := fin c' k1 (by omega) (Nat.le_refl _) ke
                  rw [had] at hf
                  simp only [VRel]
                  refine ⟨trivial, by omega, by omega, fun hq => by rw [h3 hq], lc, hl, by omega, fun hq => ?_, by omega, hf.imp id (fun h => Option.some.inj h)⟩
                  have := h4 hq
                  omega
              · cases he'
            | some mm =>
              simp only [] at he'
              split at he'
              · rename_i hc
                obtain ⟨ke, k1, k2, k3⟩ := hc
                cases he'
                obtain ⟨ad', had⟩ := some_of mm
                intro _ _ _ _ _ w
                refine ⟨.slice (some ad') (b'.getD n - a'.getD 0) (mm - a'.getD 0), ?_, ?_⟩
                · have hr := run mm rfl k1 k2 (by omega) w
                  rw [had] at hr
                  simp [execOp, hx, hr]
                · have hf := fin mm k1 k2 (by omega) ke
                  rw [had] at hf
                  simp only [VRel]
                  exact ⟨trivial, by omega, by omega, by simp, lc, hl, by omega, by simp, by omega, hf.imp id (fun h => Option.some.inj h)⟩
              · cases he'
          · split at he'
            · rename_i hc
              obtain ⟨k1, k2, k3⟩ := hc
              cases he'
              have hx := vrel_nilslice hv.1
              have hb0 : b'.getD 0 = 0 := k2
              have hm0 : m'.getD 0 = 0 := k3
              intro _ _ _ _ _ w
              have hb := sliceBounds_ok (P := P) (isSlice := true) (len := 0) (cap := 0) (lo := lo.map ρ) (hi := hi.map ρ) (mx := mx.map ρ) hla hlb hlm (by omega) (by omega) (by omega) (by simpa using hmx) w
              rw [k1, k2, k3] at hb
              refine ⟨.slice none 0 0, ?_, by simp [VRel]⟩
              simp [execOp, hx, Instr.sliceAt, Instr.slice, run_underlying ht, hb, sizeOf, typeInfo, hti]
            · cases he'
          · cases he'
        · cases he'
      · cases he'
    · cases he'


theorem run_bi {c : Call} {b : Builtin} (hc : c.callee = .builtin b) {dst : Option Tmp} {ty : TypeId} {pos : String} {after : Array Edge} {gd : Option (Nat × Bool)} (w : World) :
    (execOp ρ ⟨dst, .call c, ty, pos, after, gd⟩).run P w = (builtin b c.argTypes ty (c.args.map fun | .const _ => true | _ => false) ⟨c.args.toList.map ρ⟩).run P w := by
  have : c.args.map ρ = ⟨c.args.toList.map ρ⟩ := by apply Array.ext'; simp
  simp only [execOp, resolve, hc, Sem.run_bind, this, Sem.run_pure, Result.andThen_ok, invoke]
  rfl

theorem arg0 {a : Array TypeId} {t : TypeId} (h : a.size ≠ 0) (ht : a.getD 0 0 = t) : a[0]? = some t := by
  rw [Array.getElem?_eq_getElem (by omega)]
  simpa [Array.getD, show 0 < a.size by omega] using ht
theorem arg1 {a : Array TypeId} {t : TypeId} (h : ¬ a.size < 2) (ht : a.getD 1 0 = t) : a[1]? = some t := by
  rw [Array.getElem?_eq_getElem (by omega)]
  simpa [Array.getD, show 1 < a.size by omega] using ht

theorem yield_lenStr {c : Call} (hc : c.callee = .builtin .len) (h0 : c.argTypes.size ≠ 0) {t : TypeId} (ht : c.argTypes.getD 0 0 = t) (hu : P.underlying t = some .string) {vs : List AV} {v : AV}
    (hv : VRels σ vs (c.args.toList.map ρ)) (he : evalP .lenStr vs = some v) : Yield P σ ρ (.call c) v := by
  match vs, hv with
  | [.str s], hv =>
    obtain ⟨x, xs, hx, hax, hxs⟩ := vrels_cons hv
    obtain rfl := vrels_nil hxs
    simp only [evalP, Option.some.injEq] at he; subst he
    intro dst ty pos after gd w
    rw [run_bi hc, hx]
    exact ⟨_, by simp [builtin, Builtin.len_, arg0 h0 ht, vrel_str hax, run_underlying hu, goInt]; rfl, by simp [VRel, ByteArray.size]⟩
  | [], _ => simp [evalP] at he
  | .str _ :: _ :: _, _ => simp [evalP] at he

theorem yield_lenSl {c : Call} (hc : c.callee = .builtin .len) (h0 : c.argTypes.size ≠ 0) {t e : TypeId} (ht : c.argTypes.getD 0 0 = t) (hu : P.underlying t = some (.slice e)) {vs : List AV} {v : AV}
    (hv : VRels σ vs (c.args.toList.map ρ)) (he : evalP .lenSl vs = some v) : Yield P σ ρ (.call c) v := by
  match vs, hv with
  | [.nilslice], hv =>
    obtain ⟨x, xs, hx, hax, hxs⟩ := vrels_cons hv
    obtain rfl := vrels_nil hxs
    simp only [evalP, Option.some.injEq] at he; subst he
    intro dst ty pos after gd w
    rw [run_bi hc, hx]
    exact ⟨_, by simp [builtin, Builtin.len_, arg0 h0 ht, vrel_nilslice hax, run_underlying hu, goInt]; rfl, by simp [VRel]⟩
  | [.slice b es i n k q], hv =>
    obtain ⟨x, xs, hx, hax, hxs⟩ := vrels_cons hv
    obtain rfl := vrels_nil hxs
    simp only [evalP, Option.some.injEq] at he; subst he
    obtain ⟨ad, c', hx', _⟩ := vrel_slice hax
    intro dst ty pos after gd w
    rw [run_bi hc, hx]
    exact ⟨_, by simp [builtin, Builtin.len_, arg0 h0 ht, hx', run_underlying hu, goInt]; rfl, by simp [VRel]⟩
  | [], _ => simp [evalP] at he

theorem minV_run (mx : Bool) : ∀ (l : List AV) (a v : AV), minV mx a l = some v → ∀ (x : Value) (xs : List Value), VRel σ a x → VRels σ l xs → ∀ w : World,
    ∃ c, (xs.foldlM (if mx then Builtin.max2 else Builtin.min2) x : Sem Value).run P w = .ok c w ∧ VRel σ v c
  | [], a, v, h, x, xs, hx, hxs, w => by
    obtain rfl := vrels_nil hxs
    cases a <;> simp [minV] at h
    subst h
    exact ⟨x, rfl, hx⟩
  | b :: l, a, v, h, x, xs, hx, hxs, w => by
    obtain ⟨y, ys, rfl, hy, hys⟩ := vrels_cons hxs
    cases a <;> cases b <;> simp only [minV] at h <;> first | (cases h; done) | skip
    rename_i k m k' n
    split at h
    · rename_i hk
      subst hk
      rw [vrel_int hx, vrel_int hy]
      cases mx
      · obtain ⟨c, hc, hr⟩ := minV_run false l _ v h (.int k (if n < m then n else m)) ys (by simp [VRel]) hys w
        refine ⟨c, ?_, hr⟩
        simp only [Bool.false_eq_true, if_false] at hc ⊢
        simp [List.foldlM_cons, Builtin.min2, hc]
      · obtain ⟨c, hc, hr⟩ := minV_run true l _ v h (.int k (if m < n then n else m)) ys (by simp [VRel]) hys w
        refine ⟨c, ?_, hr⟩
        simp only [if_true] at hc ⊢
        simp [List.foldlM_cons, Builtin.max2, hc]
    · cases h

theorem yield_min {c : Call} (hc : c.callee = .builtin .min) {vs : List AV} {v : AV}
    (hv : VRels σ vs (c.args.toList.map ρ)) (he : evalP .min vs = some v) : Yield P σ ρ (.call c) v := by
  match vs, hv with
  | [], _ => simp [evalP] at he
  | a :: l, hv =>
    obtain ⟨x, xs, hx, hax, hxs⟩ := vrels_cons hv
    intro dst ty pos after gd w
    obtain ⟨r, hr, hrr⟩ := minV_run (P := P) false l a v (by simpa [evalP] using he) x xs hax hxs w
    refine ⟨r, ?_, hrr⟩
    rw [run_bi hc, hx]
    simp only [Bool.false_eq_true, if_false] at hr
    simp [builtin, Builtin.min_, hr]

theorem yield_max {c : Call} (hc : c.callee = .builtin .max) {vs : List AV} {v : AV}
    (hv : VRels σ vs (c.args.toList.map ρ)) (he : evalP .max vs = some v) : Yield P σ ρ (.call c) v := by
  match vs, hv with
  | [], _ => simp [evalP] at he
  | a :: l, hv =>
    obtain ⟨x, xs, hx, hax, hxs⟩ := vrels_cons hv
    intro dst ty pos after gd w
    obtain ⟨r, hr, hrr⟩ := minV_run (P := P) true l a v (by simpa [evalP] using he) x xs hax hxs w
    refine ⟨r, ?_, hrr⟩
    rw [run_bi hc, hx]
    simp only [if_true] at hr
    simp [builtin, Builtin.max_, hr]

/-! ### build -/
def setFrom : List Value → Nat → List Value → List Value
  | f, _, [] => f
  | f, j, c :: cs => setFrom (f.set j c) (j + 1) cs

theorem putCells_rel : ∀ {cs : List AV} {ds : List Value} {e : List AV} {f : List Value} {j : Nat}, VRels σ e f → VRels σ cs ds → VRels σ (putCells e j cs) (setFrom f j ds)
  | [], ds, e, f, j, h, hc => by rw [vrels_nil hc]; exact h
  | c :: cs, ds, e, f, j, h, hc => by
    obtain ⟨d, ds', rfl, hd, hds⟩ := vrels_cons hc
    show VRels σ (putCells (e.set j c) (j + 1) cs) (setFrom (f.set j d) (j + 1) ds')
    exact putCells_rel (vrels_set h j hd) hds

theorem putCells_length : ∀ (cs : List AV) (e : List AV) (j : Nat), (putCells e j cs).length = e.length
  | [], _, _ => rfl
  | c :: cs, e, j => by rw [putCells, putCells_length]; simp

theorem zip_fold : ∀ (ds : List Value) (k off : Nat) (f : Array Value),
    ((ds.zipIdx k).foldl (fun (cs : Array Value) (x : Value × Nat) => cs.setIfInBounds (off + x.2) x.1) f).toList = setFrom f.toList (off + k) ds
  | [], k, off, f => rfl
  | d :: ds, k, off, f => by
    rw [List.zipIdx_cons, List.foldl_cons, zip_fold ds (k + 1) off]
    simp [setFrom, Nat.add_assoc]

theorem fill_rel {place : Nat → Option (Nat × Nat)} : ∀ {ps : List (Nat × Nat)} {idx : List Nat} {vs : List AV} {xs : List Value} {z r : List AV} {f : Array Value},
    idx.map place = ps.map some → fillA z ps vs = some r → VRels σ vs xs → VRels σ z f.toList → ∃ g, Instr.fill place f (idx.zip xs) = some g ∧ VRels σ r g.toList
  | [], idx, vs, xs, z, r, f, hp, h, hv, hz => by
    cases vs with
    | nil =>
      simp [fillA] at h; subst h
      obtain rfl := vrels_nil hv
      exact ⟨f, by simp [Instr.fill], hz⟩
    | cons => simp [fillA] at h
  | (off, size) :: ps, idx, vs, xs, z, r, f, hp, h, hv, hz => by
    cases vs with
    | nil => simp [fillA] at h
    | cons v vs =>
      cases idx with
      | nil => simp at hp
      | cons i idx =>
        obtain ⟨x, xs', rfl, hx, hxs⟩ := vrels_cons hv
        simp only [List.map_cons, List.cons.injEq] at hp
        simp only [fillA] at h
        split at h
        · rename_i cs hcs
          split at h
          · rename_i hc
            have hcr := cells_rel hx hcs
            have hl := vrels_len hcr
            have hzl := vrels_len hz
            have hsz : x.cells.size = size := by rw [← Array.length_toList]; omega
            have hfl : f.toList.length = f.size := Array.length_toList
            have hxl : x.cells.toList.length = x.cells.size := Array.length_toList
            have hnot : ¬ ((decide (x.cells.size ≠ size) || decide (off + x.cells.size > f.size)) = true) := by
              simp only [Bool.or_eq_true, decide_eq_true_eq]
              omega
            obtain ⟨g, hg, hr⟩ := fill_rel (f := (x.cells.zipIdx.foldl (fun cs (c, j) => cs.setIfInBounds (off + j) c) f)) hp.2 h hxs (by
              rw [← Array.foldl_toList, Array.toList_zipIdx, zip_fold]
              exact putCells_rel hz hcr)
            refine ⟨g, ?_, hr⟩
            simp only [List.zip_cons_cons, Instr.fill, hp.1]
            rw [if_neg hnot]
            exact hg
          · cases h
        · cases h


theorem zeroOf_run {t : TypeId} {z : List AV} (h : zeroOf P t = some z) (σ : Inj) (w : World) : ∃ v, (zeroValue t).run P w = .ok v w ∧ VRels σ z v.cells.toList := by
  unfold zeroOf at h
  cases hi : P.info? t with
  | none => simp [hi] at h
  | some ti =>
    cases hz : ti.zero with
    | none => simp [hi, hz] at h
    | some v =>
      simp only [hi, hz, Option.map_some, Option.bind_eq_some_iff] at h
      obtain ⟨a, ha, hc⟩ := h
      exact ⟨v, by simp [zeroValue, typeInfo, hi, hz], cells_rel (absV_rel σ v a ha) hc⟩

theorem mapM_fields {fs : Array Field} : ∀ {ps : List (Nat × Operand)} {l : List (Nat × Nat)},
    ps.mapM (fun p => (fs[p.1]?).map fun (f : Field) => (f.offset, P.cellsOf f.type)) = some l →
    ps.map (fun p => ((fs.map fun (f : Field) => (f.offset, P.cellsOf f.type))[p.1]? : Option (Nat × Nat))) = l.map some
  | [], l, h => by simp at h; subst h; rfl
  | p :: ps, l, h => by
    simp only [List.mapM_cons, Option.pure_def, Option.bind_eq_bind, Option.bind_eq_some_iff] at h
    obtain ⟨a, ha, m, hm, h⟩ := h
    cases h
    simp only [List.map_cons, Array.getElem?_map, ha]
    rw [← mapM_fields hm]
    simp [Array.getElem?_map]

theorem run_fields {w : World} : ∀ (fs : List Field), (∀ f ∈ fs, (P.info? f.type).isSome = true) →
    (fs.mapM (fun f => do pure (f.offset, ← sizeOf f.type)) : Sem (List (Nat × Nat))).run P w = .ok (fs.map fun f => (f.offset, P.cellsOf f.type)) w
  | [], _ => by simp
  | f :: fs, h => by
    have h0 := h f (by simp)
    cases hi : P.info? f.type with
    | none => simp [hi] at h0
    | some ti =>
      have ih := run_fields (w := w) fs (fun g hg => h g (by simp [hg]))
      simp only [bind_pure_comp] at ih
      have hs : (sizeOf f.type).run P w = .ok (P.cellsOf f.type) w := by simp [sizeOf, typeInfo, hi, Program.cellsOf]
      simp [hs, ih]

theorem yield_build {t : TypeId} {fs : Array Field} (hu : P.underlying t = some (.struct fs)) (hinf : ∀ f ∈ fs.toList, (P.info? f.type).isSome = true) {z : List AV} (hz : zeroOf P t = some z) {ps : Array (Nat × Operand)} {l : List (Nat × Nat)}
    (hl : ps.toList.mapM (fun p => (fs[p.1]?).map fun (f : Field) => (f.offset, P.cellsOf f.type)) = some l) {vs : List AV} {v : AV}
    (hv : VRels σ vs ((ps.toList.map (·.2)).map ρ)) (he : evalP (.build z l) vs = some v) : Yield P σ ρ (.build t ps) v := by
  have he' : (fillA z l vs).map .agg = some v := by
    simpa [evalP] using he
  simp only [Option.map_eq_some_iff] at he'
  obtain ⟨r, hr, rfl⟩ := he'
  intro _ _ _ _ _ w
  obtain ⟨zv, hzv, hzr⟩ := zeroOf_run hz σ w
  have hp := mapM_fields hl
  rw [show ps.toList.map (fun p => ((fs.map fun (f : Field) => (f.offset, P.cellsOf f.type))[p.1]? : Option (Nat × Nat))) = (ps.toList.map (·.1)).map (fun i => ((fs.map fun (f : Field) => (f.offset, P.cellsOf f.type))[i]? : Option (Nat × Nat))) by simp] at hp
  obtain ⟨g, hg, hgr⟩ := fill_rel (f := zv.cells) hp hr hv hzr
  refine ⟨.agg g, ?_, by simpa [VRel] using hgr⟩
  have hf : (fs.mapM (fun (f : Field) => do pure (f.offset, ← sizeOf f.type)) : Sem (Array (Nat × Nat))).run P w = .ok (fs.map fun f => (f.offset, P.cellsOf f.type)) w := by
    have := run_fields (P := P) (w := w) fs.toList hinf
    rw [Array.mapM_eq_mapM_toList]
    simp only [bind_pure_comp] at this ⊢
    simp only [Sem.run_map, this, Result.andThen_ok]
    congr 1
    apply Array.ext'
    simp
  simp only [bind_pure_comp] at hf
  have hg' : Instr.fill (fun x => Option.map (fun (f : Field) => (f.offset, P.cellsOf f.type)) fs[x]?) zv.cells (List.map (fun (x : Nat × Operand) => (x.1, ρ x.2)) ps.toList) = some g := by
    have e1 : (fun (x : Nat) => Option.map (fun (f : Field) => (f.offset, P.cellsOf f.type)) fs[x]?) = (fun i => ((fs.map fun (f : Field) => (f.offset, P.cellsOf f.type))[i]? : Option (Nat × Nat))) := by
      funext i; simp
    have e2 : List.map (fun (x : Nat × Operand) => (x.1, ρ x.2)) ps.toList = (ps.toList.map (·.1)).zip ((ps.toList.map (·.2)).map ρ) := by
      simp [List.zip_map']
    rw [e1, e2]
    exact hg
  simp [execOp, Instr.build, hzv, run_underlying hu, hf, hg']


/-! ### equality -/
theorem eqCells_append : ∀ (ks : List Leaf) {ks' : List Leaf} {l l' m m' : List AV} {b : Bool}, l.length = ks.length → m.length = ks.length → eqCells (ks ++ ks') (l ++ l') (m ++ m') = some b →
    ∃ b1 b2, eqCells ks l m = some b1 ∧ eqCells ks' l' m' = some b2 ∧ b = (b1 && b2)
  | [], ks', l, l', m, m', b, hl, hm, h => by
    obtain rfl := List.length_eq_zero_iff.1 hl
    obtain rfl := List.length_eq_zero_iff.1 hm
    exact ⟨true, b, rfl, h, by simp⟩
  | k :: ks, ks', l, l', m, m', b, hl, hm, h => by
    cases l with
    | nil => simp at hl
    | cons a l =>
      cases m with
      | nil => simp at hm
      | cons c m =>
        simp only [List.cons_append, eqCells] at h ⊢
        split at h
        · rename_i r hr
          simp only [Option.map_eq_some_iff] at h
          obtain ⟨q, hq, rfl⟩ := h
          obtain ⟨b1, b2, h1, h2, rfl⟩ := eqCells_append ks (by simpa using hl) (by simpa using hm) hq
          exact ⟨r && b1, b2, by simp [h1], h2, by simp [Bool.and_assoc]⟩
        · cases h

theorem eqCells_len : ∀ {ks : List Leaf} {l m : List AV} {b : Bool}, eqCells ks l m = some b → l.length = ks.length ∧ m.length = ks.length
  | [], [], [], _, _ => ⟨rfl, rfl⟩
  | [], _ :: _, _, _, h => by simp [eqCells] at h
  | [], [], _ :: _, _, h => by simp [eqCells] at h
  | _ :: _, [], _, _, h => by simp [eqCells] at h
  | _ :: _, _ :: _, [], _, h => by simp [eqCells] at h
  | k :: ks, a :: l, c :: m, b, h => by
    simp only [eqCells] at h
    split at h
    · simp only [Option.map_eq_some_iff] at h
      obtain ⟨q, hq, rfl⟩ := h
      have := eqCells_len hq
      simp [this.1, this.2]
    · cases h

/-- What is shown of a type whose leaves are compared one by one. -/
def EqOk (P : Program) (σ : Inj) (D : Nat) (t : TypeId) (ks : List Leaf) : Prop :=
  ks.length = P.cellsOf t ∧ ∀ (xs ys : Array Value) (off : Nat) (l m : List AV) (b : Bool) (w : World),
    VRels σ l ((xs.toList.drop off).take ks.length) → VRels σ m ((ys.toList.drop off).take ks.length) → eqCells ks l m = some b →
    ∃ vx vy, (part t xs off).run P w = .ok vx w ∧ (part t ys off).run P w = .ok vy w ∧ (Op.equalIn D t vx vy).run P w = .ok b w

theorem one_at {xs : Array Value} {off : Nat} {a : AV} (h : VRels σ [a] ((xs.toList.drop off).take 1)) : ∃ c, xs[off]? = some c ∧ VRel σ a c := by
  obtain ⟨c, cs, hc, ha, hcs⟩ := vrels_cons h
  obtain rfl := vrels_nil hcs
  refine ⟨c, ?_, ha⟩
  have : ((xs.toList.drop off).take 1)[0]? = some c := by rw [hc]; rfl
  simpa [List.getElem?_take, List.getElem?_drop] using this

theorem eqOk_leaf {D : Nat} {t : TypeId} {k : Leaf} {d : TypeDesc} (hu : P.underlying t = some d) (hd : match k, d with | .bool, .bool => True | .int, .int _ => True | .str, .string => True | _, _ => False) (hc : P.cellsOf t = 1) :
    EqOk P σ (D + 1) t [k] := by
  refine ⟨by simp [hc], ?_⟩
  intro xs ys off l m b w hx hy he
  have hl := eqCells_len he
  match l, m, hl with
  | [a], [c], _ =>
    obtain ⟨x, hx', hxa⟩ := one_at (by simpa using hx)
    obtain ⟨y, hy', hyc⟩ := one_at (by simpa using hy)
    have hag : (isAgg t).run P w = .ok false w := by
      cases k <;> cases d <;> simp_all [isAgg, run_underlying]
    refine ⟨x, y, by simp [part, hag, hx'], by simp [part, hag, hy'], ?_⟩
    simp only [eqCells] at he
    split at he
    · rename_i r hr
      simp at he; subst he
      cases k <;> cases d <;> simp only [] at hd <;> cases a <;> cases c <;> simp only [eqLeaf] at hr <;> try cases hr
      · rw [vrel_bool hxa, vrel_bool hyc]
        simp [Op.equalIn, run_underlying hu]
      · split at hr
        · rename_i hk
          cases hr
          rw [vrel_int hxa, vrel_int hyc]
          simp [Op.equalIn, run_underlying hu, hk]
        · cases hr
      · rw [vrel_str hxa, vrel_str hyc]
        simp [Op.equalIn, run_underlying hu, beq_toListBytes]
    · cases he

theorem isAgg_struct {t : TypeId} {fs : Array Field} (h : P.underlying t = some (.struct fs)) (w : World) : (isAgg t).run P w = .ok true w := by
  simp [isAgg, run_underlying h]

theorem eqFields_ok {d D : Nat} (xs ys : Array Value) : ∀ (fs : List Field) (off : Nat) (kss : List Leaf) (l m : List AV) (b : Bool) (w : World),
    (∀ f ∈ fs, ∀ ks, leavesOf P d f.type = some ks → EqOk P σ D f.type ks) →
    fieldLeaves (leavesOf P d) fs off = some kss →
    VRels σ l ((xs.toList.drop off).take kss.length) → VRels σ m ((ys.toList.drop off).take kss.length) → eqCells kss l m = some b →
    (Op.eqFields D xs ys fs).run P w = .ok b w
  | [], off, kss, l, m, b, w, _, h, hx, hy, he => by
    simp [fieldLeaves] at h; subst h
    have := eqCells_len he
    match l, m, this with
    | [], [], _ => simp [eqCells] at he; subst he; simp [Op.eqFields]
  | f :: fs, off, kss, l, m, b, w, hf, h, hx, hy, he => by
    simp only [fieldLeaves] at h
    split at h
    · cases h
    · rename_i hn
      split at h
      · rename_i ks hks
        simp only [Option.map_eq_some_iff] at h
        obtain ⟨kr, hkr, rfl⟩ := h
        have hlen := eqCells_len he
        simp only [List.length_append] at hlen
        have hn1 : f.name ≠ "_" := fun e => hn (.inl e)
        have hn2 : f.offset = off := Classical.not_not.1 fun e => hn (.inr e)
        rw [← List.take_append_drop ks.length l, ← List.take_append_drop ks.length m] at he
        obtain ⟨b1, b2, h1, h2, rfl⟩ := eqCells_append ks (by simp; omega) (by simp; omega) he
        obtain ⟨_, hok⟩ := hf f (by simp) ks hks
        have tk : ∀ (zs : Array Value) (n : List AV), VRels σ n ((zs.toList.drop off).take (ks ++ kr).length) → VRels σ (n.take ks.length) ((zs.toList.drop off).take ks.length) ∧ VRels σ (n.drop ks.length) ((zs.toList.drop (off + ks.length)).take kr.length) := by
          intro zs n hz
          constructor
          · have := vrels_take hz ks.length
            rw [List.take_take] at this
            simpa using this
          · have := vrels_drop hz ks.length
            rw [List.drop_take, List.drop_drop] at this
            simpa using this
        obtain ⟨vx, vy, hvx, hvy, heq⟩ := hok xs ys off _ _ b1 w (tk xs l hx).1 (tk ys m hy).1 h1
        simp only [Op.eqFields, hn1, ne_eq, not_false_eq_true, if_true, hn2, Sem.run_bind, hvx, hvy, heq, Result.andThen_ok, Sem.run_ite]
        cases b1 with
        | false => simp
        | true =>
          simp only [Bool.not_true, Bool.false_eq_true, if_false, Bool.true_and]
          exact eqFields_ok xs ys fs (off + ks.length) kr _ _ b2 w (fun g hg => hf g (by simp [hg])) hkr (tk xs l hx).2 (tk ys m hy).2 h2
      · cases h

theorem eqOk_all (e : Nat) : ∀ (d : Nat) (t : TypeId) (ks : List Leaf), leavesOf P d t = some ks → EqOk P σ (d + e) t ks
  | 0, t, ks, h => by simp [leavesOf] at h
  | d + 1, t, ks, h => by
    rw [Nat.add_right_comm]
    simp only [leavesOf] at h
    split at h
    · rename_i hu
      split at h
      · rename_i hc; cases h; exact eqOk_leaf hu trivial hc
      · cases h
    · rename_i hu
      split at h
      · rename_i hc; cases h; exact eqOk_leaf hu trivial hc
      · cases h
    · rename_i hu
      split at h
      · rename_i hc; cases h; exact eqOk_leaf hu trivial hc
      · cases h
    · rename_i fs hu
      split at h
      · cases h
      · rename_i hs
        split at h
        · rename_i kss hk
          split at h
          · rename_i hc
            cases h
            refine ⟨hc, ?_⟩
            intro xs ys off l m b w hx hy he
            have hlen := eqCells_len he
            have hsz : (sizeOf t).run P w = .ok (P.cellsOf t) w := by
              have : ∃ ti, P.info? t = some ti := by
                unfold Program.underlying at hu
                cases hi : P.info? t with
                | none => simp [hi] at hu
                | some ti => exact ⟨ti, rfl⟩
              obtain ⟨ti, hti⟩ := this
              simp [sizeOf, typeInfo, hti, Program.cellsOf]
            have hp : ∀ zs : Array Value, (part t zs off).run P w = .ok (.agg (zs.extract off (off + P.cellsOf t))) w := by
              intro zs
              simp [part, isAgg_struct hu, hsz]
            refine ⟨_, _, hp xs, hp ys, ?_⟩
            have hfo : P.fieldsOf t = fs := by simp [Program.fieldsOf, hu]
            rw [run_equalIn_struct w (d + e) t _ _ (by rw [hfo]; exact hu) (by simpa using hs), hfo]
            have hex : ∀ zs : Array Value, (zs.extract off (off + P.cellsOf t)).toList = (zs.toList.drop off).take ks.length := by
              intro zs; simp [List.extract_eq_take_drop, hc]
            refine eqFields_ok _ _ fs.toList 0 ks l m b w (fun f _ ks hks => eqOk_all e d f.type ks hks) hk ?_ ?_ he
            · rw [hex, List.drop_zero, List.take_take, Nat.min_self]; exact hx
            · rw [hex, List.drop_zero, List.take_take, Nat.min_self]; exact hy
          · cases h
        · cases h
    · cases h


section
variable {d : Nat} {t : TypeId} {w : World}
theorem eqIn_bool (hu : P.underlying t = some .bool) (a b : Bool) : (Op.equalIn (d + 1) t (.bool a) (.bool b)).run P w = .ok (a == b) w := by
  simp [Op.equalIn, run_underlying hu]
theorem eqIn_ptrL {e : TypeId} (hu : P.underlying t = some (.pointer e)) (b : Option Addr) : (Op.equalIn (d + 1) t (.pointer none) (.pointer b)).run P w = .ok b.isNone w := by
  simp [Op.equalIn, run_underlying hu]
theorem eqIn_ptrR {e : TypeId} (hu : P.underlying t = some (.pointer e)) (a : Addr) : (Op.equalIn (d + 1) t (.pointer (some a)) (.pointer none)).run P w = .ok false w := by
  simp [Op.equalIn, run_underlying hu]
theorem eqIn_slL {e : TypeId} (hu : P.underlying t = some (.slice e)) (b : Option Addr) (n c n' c' : Nat) : (Op.equalIn (d + 1) t (.slice none n c) (.slice b n' c')).run P w = .ok b.isNone w := by
  simp [Op.equalIn, run_underlying hu]
theorem eqIn_slR {e : TypeId} (hu : P.underlying t = some (.slice e)) (a : Addr) (n c n' c' : Nat) : (Op.equalIn (d + 1) t (.slice (some a) n c) (.slice none n' c')).run P w = .ok false w := by
  simp [Op.equalIn, run_underlying hu]
theorem eqIn_mapL {k e : TypeId} (hu : P.underlying t = some (.map k e)) (b : Option Nat) : (Op.equalIn (d + 1) t (.map none) (.map b)).run P w = .ok b.isNone w := by
  simp [Op.equalIn, run_underlying hu]
theorem eqIn_mapR {k e : TypeId} (hu : P.underlying t = some (.map k e)) (a : Nat) : (Op.equalIn (d + 1) t (.map (some a)) (.map none)).run P w = .ok false w := by
  simp [Op.equalIn, run_underlying hu]
theorem eqIn_fnN {p r : Array TypeId} {v : Bool} (hu : P.underlying t = some (.func p r v)) : (Op.equalIn (d + 1) t .nilFunc .nilFunc).run P w = .ok true w := by
  simp [Op.equalIn, run_underlying hu]
theorem eqIn_fnL {p r : Array TypeId} {v : Bool} (hu : P.underlying t = some (.func p r v)) (f : Fn) (a b : Array Value) : (Op.equalIn (d + 1) t .nilFunc (.func f a b)).run P w = .ok false w := by
  simp [Op.equalIn, run_underlying hu]
theorem eqIn_fnR {p r : Array TypeId} {v : Bool} (hu : P.underlying t = some (.func p r v)) (f : Fn) (a b : Array Value) : (Op.equalIn (d + 1) t (.func f a b) .nilFunc).run P w = .ok false w := by
  simp [Op.equalIn, run_underlying hu]
theorem guard_other {op : BinOp} {t : TypeId} {xo yo : Operand} {x y : Value} (h : ∀ l, x = .agg l → False) (h' : x = .nilIface → False) : (eqGuard op t xo yo x y).run P w = .ok () w := eqGuard_run h h' w
end

theorem eqAV_run {t : TypeId} {s : EqShape} (hs : eqShape P t = some s) {a c : AV} {b : Bool} (he : eqAV s a c = some b) {x y : Value} (hx : VRel σ a x) (hy : VRel σ c y) (xo yo : Operand) (op : BinOp) (w : World) :
    (eqGuard op t xo yo x y).run P w = .ok () w ∧ (Op.equal t x y).run P w = .ok b w := by
  unfold eqShape at hs
  cases s with
  | agg ks =>
    cases a with
    | agg l =>
      cases c with
      | agg m =>
        simp only [eqAV] at he
        obtain ⟨xs, rfl, hxs⟩ := vrel_agg hx
        obtain ⟨ys, rfl, hys⟩ := vrel_agg hy
        split at hs <;> try (cases hs; done)
        rename_i fs hu
        split at hs
        · cases hs
        · rename_i hg
          simp only [Option.map_eq_some_iff, EqShape.agg.injEq, exists_eq_right] at hs
          constructor
          · have hg' : P.eqGuardType P.depth t = false := by simpa using hg
            unfold eqGuard
            simp [hg']
          · obtain ⟨hlen, hok⟩ := eqOk_all (P := P) (σ := σ) 9980 20 t ks hs
            have hl := eqCells_len he
            obtain ⟨vx, vy, hvx, hvy, heq⟩ := hok xs ys 0 l m b w (by rw [List.drop_zero, List.take_of_length_le (by rw [← vrels_len hxs]; omega)]; exact hxs)
              (by rw [List.drop_zero, List.take_of_length_le (by rw [← vrels_len hys]; omega)]; exact hys) he
            have hsz : (sizeOf t).run P w = .ok (P.cellsOf t) w := by
              have : ∃ ti, P.info? t = some ti := by
                unfold Program.underlying at hu
                cases hi : P.info? t with
                | none => simp [hi] at hu
                | some ti => exact ⟨ti, rfl⟩
              obtain ⟨ti, hti⟩ := this
              simp [sizeOf, typeInfo, hti, Program.cellsOf]
            have whole : ∀ (zs : Array Value) (n : List AV) (v : Value), VRels σ n zs.toList → n.length = ks.length → (part t zs 0).run P w = .ok v w → v = .agg zs := by
              intro zs n v hz hn hp
              have hzl := vrels_len hz
              simp only [part, Sem.run_bind, isAgg_struct hu, Result.andThen_ok, if_true, hsz, Sem.run_pure, Nat.zero_add, Result.ok.injEq, and_true] at hp
              have hzs : zs.toList.length = zs.size := Array.length_toList
              rw [← hp, Array.extract_eq_self_of_le (by omega)]
            rw [whole xs l vx hxs hl.1 hvx, whole ys m vy hys hl.2 hvy] at heq
            exact heq
      | _ => simp [eqAV] at he
    | _ => simp [eqAV] at he
  | bool =>
    split at hs <;> first | (cases hs; done) | (split at hs <;> first | (cases hs; done) | (simp at hs; done)) | skip
    rename_i hu
    cases a <;> cases c <;> simp only [eqAV] at he <;> try (cases he; done)
    cases he
    rw [vrel_bool hx, vrel_bool hy]
    exact ⟨eqGuard_run (fun _ h => by cases h) (fun h => by cases h) w, eqIn_bool (d := 9999) hu _ _⟩
  | ptr =>
    split at hs <;> first | (cases hs; done) | (split at hs <;> first | (cases hs; done) | (simp at hs; done)) | skip
    rename_i e hu
    cases a <;> cases c <;> simp only [eqAV] at he <;> try (cases he; done)
    · cases he
      rw [vrel_nilptr hx, vrel_nilptr hy]
      exact ⟨eqGuard_run (fun _ h => by cases h) (fun h => by cases h) w, eqIn_ptrL (d := 9999) hu _⟩
    · cases he
      obtain ⟨l, _, rfl⟩ := vrel_ptr hy
      rw [vrel_nilptr hx]
      exact ⟨eqGuard_run (fun _ h => by cases h) (fun h => by cases h) w, eqIn_ptrL (d := 9999) hu _⟩
    · cases he
      obtain ⟨l, _, rfl⟩ := vrel_ptr hx
      rw [vrel_nilptr hy]
      exact ⟨eqGuard_run (fun _ h => by cases h) (fun h => by cases h) w, eqIn_ptrR (d := 9999) hu _⟩
  | slice =>
    split at hs <;> first | (cases hs; done) | (split at hs <;> first | (cases hs; done) | (simp at hs; done)) | skip
    rename_i e hu
    cases a <;> cases c <;> simp only [eqAV] at he <;> try (cases he; done)
    · cases he
      rw [vrel_nilslice hx, vrel_nilslice hy]
      exact ⟨eqGuard_run (fun _ h => by cases h) (fun h => by cases h) w, eqIn_slL (d := 9999) hu _ _ _ _ _⟩
    · cases he
      obtain ⟨a, c', rfl, _⟩ := vrel_slice hy
      rw [vrel_nilslice hx]
      exact ⟨eqGuard_run (fun _ h => by cases h) (fun h => by cases h) w, eqIn_slL (d := 9999) hu _ _ _ _ _⟩
    · cases he
      obtain ⟨a, c', rfl, _⟩ := vrel_slice hx
      rw [vrel_nilslice hy]
      exact ⟨eqGuard_run (fun _ h => by cases h) (fun h => by cases h) w, eqIn_slR (d := 9999) hu _ _ _ _ _⟩
  | map =>
    split at hs <;> first | (cases hs; done) | (split at hs <;> first | (cases hs; done) | (simp at hs; done)) | skip
    rename_i k e hu
    cases a <;> cases c <;> simp only [eqAV] at he <;> try (cases he; done)
    · cases he
      rw [vrel_nilmap hx, vrel_nilmap hy]
      exact ⟨eqGuard_run (fun _ h => by cases h) (fun h => by cases h) w, eqIn_mapL (d := 9999) hu _⟩
    · cases he
      obtain ⟨l, _, rfl⟩ := vrel_map hy
      rw [vrel_nilmap hx]
      exact ⟨eqGuard_run (fun _ h => by cases h) (fun h => by cases h) w, eqIn_mapL (d := 9999) hu _⟩
    · cases he
      obtain ⟨l, _, rfl⟩ := vrel_map hx
      rw [vrel_nilmap hy]
      exact ⟨eqGuard_run (fun _ h => by cases h) (fun h => by cases h) w, eqIn_mapR (d := 9999) hu _⟩
  | func =>
    split at hs <;> first | (cases hs; done) | (split at hs <;> first | (cases hs; done) | (simp at hs; done)) | skip
    rename_i p r v hu
    cases a <;> cases c <;> simp only [eqAV] at he <;> try (cases he; done)
    · cases he
      rw [vrel_nilfunc hx, vrel_nilfunc hy]
      exact ⟨eqGuard_run (fun _ h => by cases h) (fun h => by cases h) w, eqIn_fnN (d := 9999) hu⟩
    · cases he
      obtain ⟨l, rfl, _⟩ := vrel_func hy
      rw [vrel_nilfunc hx]
      exact ⟨eqGuard_run (fun _ h => by cases h) (fun h => by cases h) w, eqIn_fnL (d := 9999) hu _ _ _⟩
    · cases he
      obtain ⟨l, rfl, _⟩ := vrel_func hx
      rw [vrel_nilfunc hy]
      exact ⟨eqGuard_run (fun _ h => by cases h) (fun h => by cases h) w, eqIn_fnR (d := 9999) hu _ _ _⟩

theorem yield_eq {op : BinOp} {neg : Bool} (hop : op = .eql ∧ neg = false ∨ op = .neq ∧ neg = true) {t ty : TypeId} {s : EqShape} (hs : eqShape P t = some s) {x y : Operand} {vs : List AV} {v : AV}
    (hv : VRels σ vs ([x, y].map ρ)) (he : evalP (.eq neg s) vs = some v) : Yield P σ ρ (.binOp op t x y ty) v := by
  obtain ⟨a, c, rfl, ha, hc⟩ := map2 hv
  simp only [evalP, Option.map_eq_some_iff] at he
  obtain ⟨b, hb, rfl⟩ := he
  intro _ _ _ _ _ w
  obtain ⟨hg, hq⟩ := eqAV_run (P := P) hs hb ha hc x y op w
  have hbin : ∀ o : BinOp, (o = .eql → (binOp o t (ρ x) (ρ y)).run P w = .ok (.bool b) w) ∧ (o = .neq → (binOp o t (ρ x) (ρ y)).run P w = .ok (.bool !b) w) := by
    intro o
    have hshape : (∀ k n, ρ x ≠ .int k n) ∧ (∀ z, ρ x ≠ .string z) ∧ (∀ k n, ρ x ≠ .float k n) ∧ (∀ k n m, ρ x ≠ .complex k n m) := by
      cases s <;> cases a <;> cases c <;> simp only [eqAV] at hb <;> first
        | (cases hb; done)
        | (rw [vrel_bool ha]; exact ⟨by simp, by simp, by simp, by simp⟩)
        | (rw [vrel_nilptr ha]; exact ⟨by simp, by simp, by simp, by simp⟩)
        | (rw [vrel_nilslice ha]; exact ⟨by simp, by simp, by simp, by simp⟩)
        | (rw [vrel_nilmap ha]; exact ⟨by simp, by simp, by simp, by simp⟩)
        | (rw [vrel_nilfunc ha]; exact ⟨by simp, by simp, by simp, by simp⟩)
        | (obtain ⟨l, _, h⟩ := vrel_ptr ha; rw [h]; exact ⟨by simp, by simp, by simp, by simp⟩)
        | (obtain ⟨l, c', h, _⟩ := vrel_slice ha; rw [h]; exact ⟨by simp, by simp, by simp, by simp⟩)
        | (obtain ⟨l, _, h⟩ := vrel_map ha; rw [h]; exact ⟨by simp, by simp, by simp, by simp⟩)
        | (obtain ⟨l, h, _⟩ := vrel_func ha; rw [h]; exact ⟨by simp, by simp, by simp, by simp⟩)
        | (obtain ⟨l, h, _⟩ := vrel_agg ha; rw [h]; exact ⟨by simp, by simp, by simp, by simp⟩)
    obtain ⟨n1, n2, n3, n4⟩ := hshape
    generalize ρ x = X at *
    generalize ρ y = Y at *
    constructor
    · rintro rfl
      cases X <;> first
        | exact absurd rfl (n1 _ _)
        | exact absurd rfl (n2 _)
        | exact absurd rfl (n3 _ _)
        | exact absurd rfl (n4 _ _ _)
        | (simp only [binOp, Sem.run_bind, hq, Result.andThen_ok, Sem.run_pure])
    · rintro rfl
      cases X <;> first
        | exact absurd rfl (n1 _ _)
        | exact absurd rfl (n2 _)
        | exact absurd rfl (n3 _ _)
        | exact absurd rfl (n4 _ _ _)
        | (simp only [binOp, Sem.run_bind, hq, Result.andThen_ok, Sem.run_pure])
  rcases hop with ⟨rfl, rfl⟩ | ⟨rfl, rfl⟩
  · exact ⟨.bool b, by simp [execOp, hg, (hbin .eql).1 rfl], by simp [VRel]⟩
  · exact ⟨.bool !b, by simp [execOp, hg, (hbin .neq).2 rfl], by simp [VRel]⟩

end
end Go.Eng
