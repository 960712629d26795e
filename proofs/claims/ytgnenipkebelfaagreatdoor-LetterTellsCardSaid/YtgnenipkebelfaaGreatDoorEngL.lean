/- The engine, part L: regions that draw their order. -/
import Derived.Test.YtgnenipkebelfaaGreatDoorEngK
set_option linter.unusedVariables false
set_option linter.unusedSimpArgs false
namespace Go.Eng
open Go

mutual
theorem same_eq : ∀ (a b : AV), AV.same a b = true → a = b
  | .undef, b, h => by cases b <;> simp [AV.same] at h
  | .bool x, b, h => by cases b <;> simp [AV.same] at h; simp [h]
  | .int k n, b, h => by cases b <;> simp [AV.same] at h; simp [h]
  | .str s, b, h => by cases b <;> simp [AV.same] at h; simp [h]
  | .nilptr, b, h => by cases b <;> simp [AV.same] at h; rfl
  | .ptr x y z, b, h => by cases b <;> simp [AV.same] at h; simp [h]
  | .nilslice, b, h => by cases b <;> simp [AV.same] at h; rfl
  | .slice _ _ _ _ _ _, b, h => by cases b <;> simp [AV.same] at h; simp [h]
  | .nilmap, b, h => by cases b <;> simp [AV.same] at h; rfl
  | .map x, b, h => by cases b <;> simp [AV.same] at h; simp [h]
  | .nilfunc, b, h => by cases b <;> simp [AV.same] at h; rfl
  | .func f cs, b, h => by cases b <;> simp [AV.same] at h; rw [h.1, sames_eq _ _ h.2]
  | .agg l, b, h => by cases b <;> simp [AV.same] at h; rw [sames_eq _ _ h]
  | .tuple l, b, h => by cases b <;> simp [AV.same] at h; rw [sames_eq _ _ h]
theorem sames_eq : ∀ (l m : List AV), sames l m = true → l = m
  | [], [], _ => rfl
  | [], _ :: _, h => by simp [sames] at h
  | _ :: _, [], h => by simp [sames] at h
  | a :: l, b :: m, h => by
    simp [sames] at h
    rw [same_eq a b h.1, sames_eq l m h.2]
end

/-- The value of an operation in its place. -/
def stepV (cf : FuncId → List AV → M AV) (s : SOper) (env : Env) : M AV := fun h =>
  match wantsOp env s.gd with
  | some true => evalOp cf s.op (s.args.map (ev env)) h
  | some false => some (.tuple [], h)
  | none => none

theorem stepOp_eq (cf : FuncId → List AV → M AV) (s : SOper) (env : Env) (h : H) : stepOp cf s env h = (stepV cf s env h).map fun (v, h') => (env.put s.dst v, h') := by
  unfold stepOp stepV
  cases wantsOp env s.gd with
  | none => rfl
  | some b => cases b <;> rfl

theorem args_congr {s : SOper} {env env' : Env} (hc : ∀ t ∈ readsSlots s, env.getD t .undef = env'.getD t .undef) : s.args.map (ev env) = s.args.map (ev env') := by
  apply List.map_congr_left
  intro x hx
  cases x with
  | lit v => rfl
  | tmp t =>
    refine hc t (List.mem_append_left _ ?_)
    exact List.mem_filterMap.2 ⟨.tmp t, hx, rfl⟩

theorem wants_congr {s : SOper} {env env' : Env} (hc : ∀ t ∈ readsSlots s, env.getD t .undef = env'.getD t .undef) : wantsOp env s.gd = wantsOp env' s.gd := by
  cases hg : s.gd with
  | none => rfl
  | some p =>
    obtain ⟨d, w⟩ := p
    have := hc d (List.mem_append_right _ (by rw [hg]; simp))
    simp only [wantsOp, this]

theorem stepV_congr (cf : FuncId → List AV → M AV) {s : SOper} {env env' : Env} (hc : ∀ t ∈ readsSlots s, env.getD t .undef = env'.getD t .undef) (h : H) : stepV cf s env h = stepV cf s env' h := by
  unfold stepV
  rw [wants_congr hc, args_congr hc]

section
variable {P : Program} {cf : FuncId → List AV → M AV}

theorem stepV_wp (hcf : CfSound P cf) {keep : Bool} {ops : Array Oper} {o : Oper} {s : SOper} (hok : OperOk P keep ops o s) {i : Nat} (hi : ops[i]? = some o) {σ : Inj} {env : Env} {a : Act} {h h' : H} {v : AV} {w : World}
    (he : EnvRel σ env a) (r : Rep σ h w) (hev : stepV cf s env h = some (v, h')) (K : Act → World → Prop) (Q : Exit → Act → World → Prop)
    (hK : ∀ c w' σ', VRel σ' v c → Rep σ' h' w' → Ext σ h w σ' h' w' → K (a.put o.dst c) w') : wpOp P ops Q i K a w := by
  obtain ⟨hdst, ⟨xs, hc, ha⟩, hg⟩ := hok
  unfold stepV at hev
  unfold wpOp
  simp only [hi]
  split at hev
  · rename_i hw
    rw [wantsRel he hg hw, if_pos rfl]
    exact .inl (oper_wp hcf hc ha he r hev K Q hK)
  · rename_i hw
    rw [wantsRel he hg hw, if_neg (by simp)]
    cases hev
    exact hK _ w σ (by simp [VRel, VRels, Go.undef]) r (Ext.refl _ _ _)
  · cases hev

/-- What makes a block, done when its block has been told before. -/
theorem float_wp {keep : Bool} {ops : Array Oper} {o : Oper} {s : SOper} (hok : OperOk P keep ops o s) {i : Nat} (hi : ops[i]? = some o) {σ : Inj} {env : Env} {a : Act} {h : H} {w : World} {aop : AOp} (hop : s.op = .a aop)
    (he : EnvRel σ env a) (r : Rep σ h w) (hw : wantsOp env s.gd = some true) {blk : Blk} {k : Nat → AV} (hev : evalA aop (s.args.map (ev env)) = some (blk, k)) {id : Nat} (hid : σ id = none) (hb : h[id]? = some blk) (K : Act → World → Prop) (Q : Exit → Act → World → Prop)
    (hK : ∀ c w' l, VRel (σ.bind id l) (k id) c → Rep (σ.bind id l) h w' → Ext σ h w (σ.bind id l) h w' ∨ True → l.cb = w.heap.size → (∃ obj, Grew w w' obj) → K (a.put o.dst c) w') : wpOp P ops Q i K a w := by
  obtain ⟨hdst, ⟨xs, hc, ha⟩, hg⟩ := hok
  unfold wpOp
  simp only [hi]
  rw [wantsRel he hg hw, if_pos rfl]
  refine .inl ?_
  rw [hop] at hc
  have hops : VRels σ (s.args.map (ev env)) (xs.map a.eval) := cOpds_rel (tmps := a.tmps) he.val a.defers ha
  unfold Oper.wp
  obtain ⟨c, w', obj, l, hrun, hgr, hl, hrel⟩ := sound_a (ρ := a.eval) (w := w) hc hops hev o.dst o.type o.pos o.after o.guard
  have hrel' := hrel (σ.bind id l) id (le_bind hid) (by simp [Inj.bind])
  rw [hrun, Oper.upon_value]
  exact hK c w' l hrel'.1 (r.make hid hb hgr.heap hl hrel'.2) (.inr trivial) hl ⟨obj, hgr⟩

theorem evalR_push {o : ROp} {vs : List AV} {h : H} {v : AV} (x : Blk) (he : evalR o vs h = some v) : evalR o vs (h ++ [x]) = some v := by
  have get : ∀ b y, h[b]? = some y → (h ++ [x])[b]? = some y := fun b y hb => by
    rw [List.getElem?_append_left (List.getElem?_eq_some_iff.1 hb).1]; exact hb
  have gr : ∀ b i e, rdEl h b i = some e → rdEl (h ++ [x]) b i = some e := by
    intro b i e hr
    unfold rdEl at hr ⊢
    cases hb : h[b]? with
    | none => rw [hb] at hr; cases hr
    | some y => rw [hb] at hr; rw [get b y hb]; exact hr
  cases o with
  | load n =>
    match vs, he with
    | [.ptr b i j], he =>
      simp only [evalR, Option.bind_eq_some_iff] at he ⊢
      obtain ⟨e, h1, h2⟩ := he
      exact ⟨e, gr b i e h1, h2⟩
  | lookup kd z ok =>
    match vs, he with
    | [.map b, k], he =>
      simp only [evalR] at he ⊢
      cases hb : h[b]? with
      | none => rw [hb] at he; cases he
      | some y => rw [hb] at he; rw [get b y hb]; exact he
    | [.nilmap, _], he => simpa [evalR] using he
  | lenMap =>
    match vs, he with
    | [.map b], he =>
      simp only [evalR] at he ⊢
      cases hb : h[b]? with
      | none => rw [hb] at he; cases he
      | some y => rw [hb] at he; rw [get b y hb]; exact he
    | [.nilmap], he => simpa [evalR] using he
  | toStr =>
    match vs, he with
    | [.nilslice], he => simpa [evalR] using he
    | [.slice b 1 i n c q], he =>
      simp only [evalR] at he ⊢
      cases hb : h[b]? with
      | none => rw [hb] at he; cases he
      | some y => rw [hb] at he; rw [get b y hb]; exact he

theorem stepV_push {s : SOper} {rop : ROp} (hop : s.op = .r rop) {env : Env} {h : H} {v : AV} (x : Blk) (he : stepV cf s env h = some (v, h)) : stepV cf s env (h ++ [x]) = some (v, h ++ [x]) := by
  unfold stepV at he ⊢
  split at he
  · rw [hop] at he ⊢
    simp only [evalOp, Option.map_eq_some_iff, Prod.mk.injEq] at he ⊢
    obtain ⟨v', h1, rfl, _⟩ := he
    exact ⟨v', evalR_push x h1, rfl, trivial⟩
  · cases he; rfl
  · cases he

/-! ### What is fixed -/
structure Stat (P : Program) (keep : Bool) (ops : Array Oper) (sops : List SOper) (pl : List (List Nat)) : Prop where
  len : ops.size = sops.length
  ok : ∀ (i : Nat) (s : SOper), sops[i]? = some s → ∃ o, ops[i]? = some o ∧ OperOk P keep ops o s
  back : ∀ (j : Nat) (o : Oper), ops[j]? = some o → ∀ e ∈ depsOf o, e < j
  pre : ∀ (j : Nat) (o : Oper), ops[j]? = some o → ∀ i ∈ plAt pl j, i ∈ depsOf o ∨ ∃ e ∈ depsOf o, i ∈ plAt pl e
  uniq : ∀ (i i' : Nat) (s s' : SOper) (d : Nat), sops[i]? = some s → sops[i']? = some s' → s.dst = some d → s'.dst = some d → i = i'
  ord : ∀ (j i : Nat) (s s' : SOper) (t : Nat), sops[j]? = some s → sops[i]? = some s' → s'.dst = some t → t ∈ readsSlots s → i ∈ plAt pl j ∨ (s.isRead = false ∧ j ∈ plAt pl i)

def ClosedD (ops : Array Oper) (D : Array Bool) : Prop := ∀ (j : Nat) (o : Oper), ops[j]? = some o → D.getD j false = true → ∀ e ∈ depsOf o, D.getD e false = true

theorem closed_pl {keep : Bool} {ops : Array Oper} {sops : List SOper} {pl : List (List Nat)} (st : Stat P keep ops sops pl) {D : Array Bool} (hsz : D.size = ops.size) (hcl : ClosedD ops D) : ∀ (j : Nat) (o : Oper), ops[j]? = some o → (∀ e ∈ depsOf o, D.getD e false = true) → ∀ i ∈ plAt pl j, D.getD i false = true := by
  intro j
  induction j using Nat.strongRecOn with
  | _ j ih =>
    intro o ho hd i hi
    rcases st.pre j o ho i hi with h | ⟨e, he, hie⟩
    · exact hd i h
    · have hlt := st.back j o ho e he
      obtain ⟨o', ho'⟩ : ∃ o', ops[e]? = some o' := ⟨_, Array.getElem?_eq_getElem (by have := (Array.getElem?_eq_some_iff.1 ho).1; omega)⟩
      exact ih e hlt o' ho' (hcl e o' ho' (hd e he)) i hie

/-- Is slot t written by a forerunner of j? -/
def pw (sops : List SOper) (pl : List (List Nat)) (j t : Nat) : Bool := sops.zipIdx.any fun (s, i) => s.dst == some t && (plAt pl j).contains i

theorem pw_iff {sops : List SOper} {pl : List (List Nat)} {j t : Nat} : pw sops pl j t = true ↔ ∃ (i : Nat) (s : SOper), sops[i]? = some s ∧ s.dst = some t ∧ i ∈ plAt pl j := by
  unfold pw
  simp only [List.any_eq_true, Prod.exists, Bool.and_eq_true, beq_iff_eq, List.contains_iff_mem]
  constructor
  · rintro ⟨s, i, hm, h1, h2⟩
    rw [List.mem_zipIdx_iff_getElem?] at hm
    exact ⟨i, s, hm, h1, h2⟩
  · rintro ⟨i, s, h0, h1, h2⟩
    exact ⟨s, i, List.mem_zipIdx_iff_getElem?.2 h0, h1, h2⟩

/-- What an operation sees. -/
def view (sops : List SOper) (pl : List (List Nat)) (env0 E : Env) (j : Nat) (s : SOper) : Env :=
  (List.range E.length).map fun t => if (readsSlots s).contains t then (if pw sops pl j t then E.getD t .undef else env0.getD t .undef) else .undef

theorem view_get {sops : List SOper} {pl : List (List Nat)} {env0 E : Env} {j : Nat} {s : SOper} (t : Nat) :
    (view sops pl env0 E j s).getD t .undef = if t < E.length ∧ t ∈ readsSlots s then (if pw sops pl j t then E.getD t .undef else env0.getD t .undef) else .undef := by
  unfold view
  rw [List.getD_eq_getElem?_getD, List.getElem?_map]
  by_cases ht : t < E.length
  · rw [List.getElem?_range ht]
    simp only [Option.map_some, Option.getD_some, List.contains_iff_mem]
    by_cases hm : t ∈ readsSlots s
    · simp only [hm, ht, if_true, and_self]
    · simp only [hm, ht, if_false, and_false]
  · rw [List.getElem?_eq_none (by simp; omega), if_neg (fun h => ht h.1)]
    rfl

theorem getD_ge {E : Env} {t : Nat} (h : ¬ t < E.length) : E.getD t .undef = .undef := by
  rw [List.getD_eq_getElem?_getD, List.getElem?_eq_none (by omega)]; rfl

theorem view_at {sops : List SOper} {pl : List (List Nat)} {env0 E : Env} (hl : E.length = env0.length) {j : Nat} {s : SOper} {t : Nat} (ht : t ∈ readsSlots s) :
    (view sops pl env0 E j s).getD t .undef = if pw sops pl j t then E.getD t .undef else env0.getD t .undef := by
  rw [view_get]
  by_cases h : t < E.length
  · rw [if_pos ⟨h, ht⟩]
  · rw [if_neg (fun hh => h hh.1), getD_ge h, getD_ge (E := env0) (by omega)]; simp

/-! ### The canonical run -/
structure Can (sops : List SOper) (pl : List (List Nat)) (env0 : Env) (X : List Nat) (E : Env) : Prop where
  len : E.length = env0.length
  base : ∀ t, (∀ (i : Nat) (s : SOper), sops[i]? = some s → s.dst = some t → i ∉ X) → E.getD t .undef = env0.getD t .undef
  closed : ∀ j ∈ X, ∀ i ∈ plAt pl j, i ∈ X

/-- What is known of a light operation that the canonical run has done. -/
def Fact (cf : FuncId → List AV → M AV) (sops : List SOper) (pl : List (List Nat)) (env0 : Env) (Rv Dn : Nat → Prop) (σ : Inj) (E : Env) (h : H) (bid : Nat → Nat) (j : Nat) (s : SOper) : Prop :=
  ∃ v, (∀ d, s.dst = some d → d < E.length → E.getD d .undef = v) ∧ match s.op with
    | .p _ => ∀ h', stepV cf s (view sops pl env0 E j s) h' = some (v, h')
    | .r _ => (wantsOp (view sops pl env0 E j s) s.gd = some false → v = .tuple []) ∧ (Rv j → stepV cf s (view sops pl env0 E j s) h = some (v, h))
    | .a op => (wantsOp (view sops pl env0 E j s) s.gd = some false ∧ v = .tuple []) ∨ (wantsOp (view sops pl env0 E j s) s.gd = some true ∧ ∃ blk k, evalA op (s.args.map (ev (view sops pl env0 E j s))) = some (blk, k) ∧ v = k (bid j) ∧ bid j < h.length ∧ (¬ Dn j → σ (bid j) = none ∧ h[bid j]? = some blk))
    | .h _ => False

/-- Is j an operation that makes a block? -/
def MakesAt (sops : List SOper) (pl : List (List Nat)) (env0 E : Env) (j : Nat) : Prop := ∃ s op, sops[j]? = some s ∧ s.op = .a op ∧ wantsOp (view sops pl env0 E j s) s.gd = some true

structure Facts (cf : FuncId → List AV → M AV) (sops : List SOper) (pl : List (List Nat)) (env0 : Env) (low : Nat) (Rv Dn : Nat → Prop) (σ : Inj) (X : List Nat) (E : Env) (h : H) (bid : Nat → Nat) : Prop where
  all : ∀ j ∈ X, ∀ s, sops[j]? = some s → s.heavy = false → Fact cf sops pl env0 Rv Dn σ E h bid j s
  inj : ∀ j ∈ X, ∀ j' ∈ X, j ≠ j' → MakesAt sops pl env0 E j → MakesAt sops pl env0 E j' → bid j ≠ bid j'
  low : ∀ j ∈ X, MakesAt sops pl env0 E j → low ≤ bid j

/-- A slot that an operation in X sees does not turn when an operation out of X is done. -/
theorem view_put {keep : Bool} {ops : Array Oper} {sops : List SOper} {pl : List (List Nat)} (st : Stat P keep ops sops pl) {env0 E : Env} {X : List Nat} (can : Can sops pl env0 X E) {i : Nat} {si : SOper} (hi : sops[i]? = some si) (hni : i ∉ X) (v : AV) {j : Nat} (hj : j ∈ X) (s : SOper) :
    view sops pl env0 (E.put si.dst v) j s = view sops pl env0 E j s := by
  have hlen : (E.put si.dst v).length = E.length := by cases si.dst <;> simp [Env.put]
  unfold view
  rw [hlen]
  apply List.map_congr_left
  intro t ht
  split
  · split
    · rename_i hp
      obtain ⟨i', s', h1, h2, h3⟩ := pw_iff.1 hp
      cases hd : si.dst with
      | none => rfl
      | some d =>
        have hne : d ≠ t := by
          intro e; subst e
          have := st.uniq i i' si s' d hi h1 hd h2
          subst this
          exact hni (can.closed j hj _ h3)
        simp only [Env.put, List.getD_eq_getElem?_getD]
        rw [List.getElem?_set, if_neg hne]
    · rfl
  · rfl

theorem put_other {keep : Bool} {ops : Array Oper} {sops : List SOper} {pl : List (List Nat)} (st : Stat P keep ops sops pl) {E : Env} {i : Nat} {si : SOper} (hi : sops[i]? = some si) (v : AV) {t : Nat} (ht : si.dst ≠ some t) : (E.put si.dst v).getD t .undef = E.getD t .undef := by
  cases hd : si.dst with
  | none => rfl
  | some d =>
    have hne : d ≠ t := by intro e; subst e; exact ht hd
    simp only [Env.put, List.getD_eq_getElem?_getD]
    rw [List.getElem?_set, if_neg hne]

theorem can_put {keep : Bool} {ops : Array Oper} {sops : List SOper} {pl : List (List Nat)} (st : Stat P keep ops sops pl) {env0 E : Env} {X : List Nat} (can : Can sops pl env0 X E) {i : Nat} {si : SOper} (hi : sops[i]? = some si) (hpl : ∀ k ∈ plAt pl i, k ∈ X) (v : AV) : Can sops pl env0 (i :: X) (E.put si.dst v) := by
  refine ⟨by rw [← can.len]; cases si.dst <;> simp [Env.put], ?_, ?_⟩
  · intro t ht
    rw [put_other st hi v (fun h => ht i si hi h (by simp))]
    exact can.base t fun k s hk hd hm => ht k s hk hd (by simp [hm])
  · intro j hj k hk
    rcases List.mem_cons.1 hj with e | e
    · subst e; exact List.mem_cons_of_mem _ (hpl k hk)
    · exact List.mem_cons_of_mem _ (can.closed j e k hk)

/-- The new operation sees just what the canonical run shows it. -/
theorem view_now {keep : Bool} {ops : Array Oper} {sops : List SOper} {pl : List (List Nat)} (st : Stat P keep ops sops pl) {env0 E : Env} {X : List Nat} (can : Can sops pl env0 X E) {i : Nat} {si : SOper} (hi : sops[i]? = some si) (hni : i ∉ X) (hpl : ∀ k ∈ plAt pl i, k ∈ X) :
    ∀ t ∈ readsSlots si, (view sops pl env0 E i si).getD t .undef = E.getD t .undef := by
  intro t ht
  rw [view_at can.len ht]
  split
  · rfl
  · rename_i hp
    refine (can.base t ?_).symm
    intro k s hk hd hm
    rcases st.ord i k si s t hi hk hd ht with h | ⟨_, h⟩
    · exact hp (pw_iff.2 ⟨k, s, hk, hd, h⟩)
    · exact hni (can.closed k hm i h)

/-- Facts of old operations stay when another one is done and the heap grows by blocks. -/
theorem fact_put {keep : Bool} {ops : Array Oper} {sops : List SOper} {pl : List (List Nat)} (st : Stat P keep ops sops pl) {env0 E : Env} {X : List Nat} (can : Can sops pl env0 X E) {Rv Dn : Nat → Prop} {σ : Inj} {h : H} {bid : Nat → Nat}
    {i : Nat} {si : SOper} (hi : sops[i]? = some si) (hni : i ∉ X) (v : AV) (more : List Blk) (hm : more.length ≤ 1) (b' : Nat) {j : Nat} (hj : j ∈ X) {s : SOper} (hs : sops[j]? = some s) (hf : Fact cf sops pl env0 Rv Dn σ E h bid j s) :
    Fact cf sops pl env0 Rv Dn σ (E.put si.dst v) (h ++ more) (fun x => if x = i then b' else bid x) j s := by
  have hji : j ≠ i := fun e => hni (e ▸ hj)
  have hlen : (E.put si.dst v).length = E.length := by cases si.dst <;> simp [Env.put]
  obtain ⟨u, hu, hk⟩ := hf
  refine ⟨u, ?_, ?_⟩
  · intro d hd hlt
    rw [put_other st hi v (fun e => hji (st.uniq j i s si d hs hi hd e))]
    exact hu d hd (by omega)
  · rw [view_put st can hi hni v hj s]
    have hmore : more = [] ∨ ∃ x, more = [x] := by
      match more, hm with
      | [], _ => exact .inl rfl
      | [x], _ => exact .inr ⟨x, rfl⟩
    cases hop : s.op with
    | p o => rw [hop] at hk; exact hk
    | r o =>
      rw [hop] at hk
      refine ⟨hk.1, fun hr => ?_⟩
      rcases hmore with rfl | ⟨x, rfl⟩
      · simpa using hk.2 hr
      · exact stepV_push hop x (hk.2 hr)
    | a o =>
      rw [hop] at hk
      rcases hk with hk | ⟨h1, blk, k, h2, h3, h4, h5⟩
      · exact .inl hk
      · right
        refine ⟨h1, blk, k, h2, ?_, ?_, ?_⟩
        · simp only [if_neg hji]; exact h3
        · simp only [if_neg hji, List.length_append]; omega
        · simp only [if_neg hji]
          intro hd
          refine ⟨(h5 hd).1, ?_⟩
          rw [List.getElem?_append_left h4]
          exact (h5 hd).2
    | h o => rw [hop] at hk; exact hk

theorem makesAt_put {keep : Bool} {ops : Array Oper} {sops : List SOper} {pl : List (List Nat)} (st : Stat P keep ops sops pl) {env0 E : Env} {X : List Nat} (can : Can sops pl env0 X E) {i : Nat} {si : SOper} (hi : sops[i]? = some si) (hni : i ∉ X) (v : AV) {j : Nat} (hj : j ∈ X)
    (hm : MakesAt sops pl env0 (E.put si.dst v) j) : MakesAt sops pl env0 E j := by
  obtain ⟨s, op, h1, h2, h3⟩ := hm
  rw [view_put st can hi hni v hj s] at h3
  exact ⟨s, op, h1, h2, h3⟩

/-- The light operations of a stage. -/
theorem pre_run {keep : Bool} {ops : Array Oper} {sops : List SOper} {pl : List (List Nat)} (st : Stat P keep ops sops pl) {env0 : Env} {low : Nat} {Dn : Nat → Prop} {σ : Inj} {w : World} : ∀ (js : List Nat) (X Y : List Nat) (Rv : Nat → Prop) (E E' : Env) (h h' : H) (bid : Nat → Nat),
    preOk sops pl X js = some Y → stepOps cf (js.filterMap (sops[·]?)) E h = some (E', h') → Can sops pl env0 X E → Facts cf sops pl env0 low Rv Dn σ X E h bid → Rep σ h w → (∀ j, Dn j → j ∈ X) → low ≤ h.length →
    ∃ bid', Can sops pl env0 Y E' ∧ Facts cf sops pl env0 low (fun j => Rv j ∨ j ∉ X) Dn σ Y E' h' bid' ∧ Rep σ h' w ∧ (∀ j ∈ X, j ∈ Y) ∧ (∀ j ∈ Y, j ∈ X ∨ isHeavyAt sops j = false) ∧ h.length ≤ h'.length ∧ (∀ b : Nat, b < h.length → h'[b]? = h[b]?) ∧ (∀ (t k : Nat) (s : SOper), k ∈ X → sops[k]? = some s → s.dst = some t → E'.getD t .undef = E.getD t .undef)
  | [], X, Y, Rv, E, E', h, h', bid, hp, hs, can, hf, r, hdn, hlow => by
    simp only [preOk, Option.some.injEq] at hp; subst hp
    simp only [List.filterMap_nil, stepOps, Option.some.injEq, Prod.mk.injEq] at hs
    obtain ⟨rfl, rfl⟩ := hs
    refine ⟨bid, can, ⟨fun j hj s hs hh => ?_, hf.inj, hf.low⟩, r, fun _ h => h, fun _ h => .inl h, Nat.le_refl _, fun _ _ => rfl, fun _ _ _ _ _ _ => rfl⟩
    obtain ⟨v, h1, h2⟩ := hf.all j hj s hs hh
    refine ⟨v, h1, ?_⟩
    cases hop : s.op with
    | p o => rw [hop] at h2; exact h2
    | r o => rw [hop] at h2; exact ⟨h2.1, fun hr => h2.2 (hr.resolve_right fun hn => hn hj)⟩
    | a o => rw [hop] at h2; exact h2
    | h o => rw [hop] at h2; exact h2
  | i :: js, X, Y, Rv, E, E', h, h', bid, hp, hs, can, hf, r, hdn, hlow => by
    simp only [preOk] at hp
    split at hp
    · rename_i hc
      simp only [Bool.and_eq_true, Bool.not_eq_true', decide_eq_true_eq, List.all_eq_true, List.contains_iff_mem] at hc
      obtain ⟨⟨⟨hni, hlt⟩, hnh⟩, hpl⟩ := hc
      have hni' : i ∉ X := by intro hm; rw [List.contains_iff_mem.2 hm] at hni; cases hni
      obtain ⟨si, hi⟩ : ∃ si, sops[i]? = some si := ⟨_, List.getElem?_eq_getElem hlt⟩
      simp only [List.filterMap_cons, hi, stepOps, stepOp_eq] at hs
      split at hs
      · rename_i E1 h1 hst
        simp only [Option.map_eq_some_iff, Prod.mk.injEq] at hst
        obtain ⟨⟨v, h2⟩, hv, rfl, rfl⟩ := hst
        have hheavy : si.heavy = false := by simpa [isHeavyAt, hi] using hnh
        have hvn := view_now st can hi hni' hpl
        have can1 := can_put st can hi hpl v
        have hlen1 : (E.put si.dst v).length = E.length := by cases si.dst <;> simp [Env.put]
        -- the new operation's own view, behind it
        have hview : view sops pl env0 (E.put si.dst v) i si = view sops pl env0 E i si := by
          unfold view
          rw [hlen1]
          apply List.map_congr_left
          intro t ht
          split
          · split
            · rename_i hq
              obtain ⟨i', s', g1, g2, g3⟩ := pw_iff.1 hq
              rw [put_other st hi v]
              intro e
              have := st.uniq i i' si s' t hi g1 e g2
              subst this
              exact hni' (hpl _ g3)
            · rfl
          · rfl
        have hvv : stepV cf si (view sops pl env0 E i si) h = some (v, h2) := by rw [stepV_congr cf hvn]; exact hv
        have hself : ∀ d, si.dst = some d → d < (E.put si.dst v).length → (E.put si.dst v).getD d .undef = v := by
          intro d hd hdl
          rw [hd] at hdl ⊢
          simp only [Env.put, List.length_set] at hdl
          simp [Env.put, List.getD_eq_getElem?_getD, hdl]
        -- what the operation does to the heap
        have key : ∃ (more : List Blk) (b' : Nat), more.length ≤ 1 ∧ h2 = h ++ more ∧ (MakesAt sops pl env0 (E.put si.dst v) i → b' = h.length) ∧ Rep σ h2 w ∧ Fact cf sops pl env0 (fun j => Rv j ∨ j ∉ X) Dn σ (E.put si.dst v) h2 (fun x => if x = i then b' else bid x) i si := by
          have hdni : ¬ Dn i := fun hd => hni' (hdn i hd)
          cases hop : si.op with
          | p o =>
            have hall : ∀ h0, stepV cf si (view sops pl env0 E i si) h0 = some (v, h0) ∧ h2 = h := by
              intro h0
              unfold stepV at hvv ⊢
              split at hvv
              · rw [hop] at hvv ⊢
                simp only [evalOp, Option.map_eq_some_iff, Prod.mk.injEq] at hvv ⊢
                obtain ⟨v', q1, rfl, rfl⟩ := hvv
                exact ⟨⟨v', q1, rfl, trivial⟩, rfl⟩
              · cases hvv; exact ⟨rfl, rfl⟩
              · cases hvv
            refine ⟨[], 0, by simp, by rw [(hall h).2]; simp, ?_, by rw [(hall h).2]; exact r, v, hself, ?_⟩
            · rintro ⟨s, op, g1, g2, _⟩
              rw [hi] at g1; cases g1
              rw [hop] at g2; cases g2
            · rw [hop, hview]
              exact fun h0 => (hall h0).1
          | r o =>
            have hsame : h2 = h := by
              unfold stepV at hvv
              split at hvv
              · rw [hop] at hvv
                simp only [evalOp, Option.map_eq_some_iff, Prod.mk.injEq] at hvv
                obtain ⟨v', q1, _, q2⟩ := hvv
                exact q2.symm
              · cases hvv; rfl
              · cases hvv
            subst hsame
            refine ⟨[], 0, by simp, by simp, ?_, r, v, hself, ?_⟩
            · rintro ⟨s, op, g1, g2, _⟩
              rw [hi] at g1; cases g1
              rw [hop] at g2; cases g2
            · rw [hop, hview]
              refine ⟨fun hw => ?_, fun _ => hvv⟩
              unfold stepV at hvv
              rw [hw] at hvv
              cases hvv; rfl
          | a o =>
            unfold stepV at hvv
            split at hvv
            · rename_i hw
              rw [hop] at hvv
              simp only [evalOp, Option.map_eq_some_iff, Prod.mk.injEq] at hvv
              obtain ⟨⟨blk, k⟩, q1, q2, q3⟩ := hvv
              subst q3
              have hnone : σ h.length = none := by
                cases hq : σ h.length with
                | none => rfl
                | some m => have := (r.dom _ m hq); omega
              refine ⟨[blk], h.length, by simp, rfl, fun _ => rfl, r.push blk, v, hself, ?_⟩
              rw [hop, hview]
              right
              refine ⟨hw, blk, k, q1, ?_, ?_, ?_⟩
              · simp only [if_true]; exact q2.symm
              · simp
              · simp only [if_true]
                exact fun _ => ⟨hnone, by simp⟩
            · rename_i hw
              cases hvv
              refine ⟨[], 0, by simp, by simp, ?_, r, _, hself, ?_⟩
              · rintro ⟨s, op, g1, g2, g3⟩
                rw [hi] at g1; cases g1
                rw [hview, hw] at g3; cases g3
              · rw [hop, hview]
                exact .inl ⟨hw, rfl⟩
            · cases hvv
          | h o => simp [SOper.heavy, hop] at hheavy
        obtain ⟨more, b', hm, rfl, hmk, r1, hfi⟩ := key
        have facts1 : Facts cf sops pl env0 low (fun j => Rv j ∨ j ∉ X) Dn σ (i :: X) (E.put si.dst v) (h ++ more) (fun x => if x = i then b' else bid x) := by
          refine ⟨?_, ?_, ?_⟩
          · intro j hj s hs' hh
            rcases List.mem_cons.1 hj with e | e
            · subst e
              rw [hi] at hs'; cases hs'
              exact hfi
            · have hold := hf.all j e s hs' hh
              have h0 := fact_put st can hi hni' v more hm b' e hs' hold
              obtain ⟨u, u1, u2⟩ := h0
              refine ⟨u, u1, ?_⟩
              cases hop : s.op with
              | p o => rw [hop] at u2; exact u2
              | r o => rw [hop] at u2; exact ⟨u2.1, fun hr => u2.2 (hr.resolve_right fun hn => hn e)⟩
              | a o => rw [hop] at u2; exact u2
              | h o => rw [hop] at u2; exact u2
          · intro j hj j' hj' hne m1 m2
            rcases List.mem_cons.1 hj with e | e
            · subst e
              rcases List.mem_cons.1 hj' with e' | e'
              · exact absurd e'.symm hne
              · have m2' := makesAt_put st can hi hni' v e' m2
                simp only [if_true, if_neg (Ne.symm hne)]
                rw [hmk m1]
                obtain ⟨s, op, g1, g2, g3⟩ := m2'
                obtain ⟨u, _, hk⟩ := hf.all j' e' s g1 (by simp [SOper.heavy, g2])
                rw [g2] at hk
                rcases hk with ⟨hk, _⟩ | ⟨_, _, _, _, _, hk, _⟩
                · rw [g3] at hk; cases hk
                · omega
            · have m1' := makesAt_put st can hi hni' v e m1
              rcases List.mem_cons.1 hj' with e' | e'
              · subst e'
                simp only [if_true, if_neg hne]
                rw [hmk m2]
                obtain ⟨s, op, g1, g2, g3⟩ := m1'
                obtain ⟨u, _, hk⟩ := hf.all j e s g1 (by simp [SOper.heavy, g2])
                rw [g2] at hk
                rcases hk with ⟨hk, _⟩ | ⟨_, _, _, _, _, hk, _⟩
                · rw [g3] at hk; cases hk
                · omega
              · have m2' := makesAt_put st can hi hni' v e' m2
                have n1 : j ≠ i := fun h => hni' (h ▸ e)
                have n2 : j' ≠ i := fun h => hni' (h ▸ e')
                simp only [if_neg n1, if_neg n2]
                exact hf.inj j e j' e' hne m1' m2'
          · intro j hj m1
            rcases List.mem_cons.1 hj with e | e
            · subst e
              simp only [if_true]
              rw [hmk m1]; exact hlow
            · have n1 : j ≠ i := fun h => hni' (h ▸ e)
              simp only [if_neg n1]
              exact hf.low j e (makesAt_put st can hi hni' v e m1)
        obtain ⟨bid', c1, c2, c3, c4, c5, c6, c7, c8⟩ := pre_run st js (i :: X) Y (fun j => Rv j ∨ j ∉ X) _ E' _ h' _ hp hs can1 facts1 r1 (fun j hd => List.mem_cons_of_mem _ (hdn j hd)) (by simp only [List.length_append]; omega)
        refine ⟨bid', c1, ⟨?_, c2.inj, c2.low⟩, c3, fun j hj => c4 j (List.mem_cons_of_mem _ hj), ?_, ?_, ?_, ?_⟩
        · intro j hj s hs' hh
          obtain ⟨u, u1, u2⟩ := c2.all j hj s hs' hh
          refine ⟨u, u1, ?_⟩
          cases hop : s.op with
          | p o => rw [hop] at u2; exact u2
          | r o =>
            rw [hop] at u2
            refine ⟨u2.1, fun hr => u2.2 ?_⟩
            exact .inl hr
          | a o => rw [hop] at u2; exact u2
          | h o => rw [hop] at u2; exact u2
        · intro j hj
          rcases c5 j hj with h | h
          · rcases List.mem_cons.1 h with e | e
            · right; subst e; simp [isHeavyAt, hi, hheavy]
            · exact .inl e
          · exact .inr h
        · simp only [List.length_append] at c6; omega
        · intro b hb
          rw [c7 b (by simp; omega), List.getElem?_append_left hb]
        · intro t k sk hk hsk hdk
          rw [c8 t k sk (List.mem_cons_of_mem _ hk) hsk hdk]
          exact put_other st hi v fun e => hni' (st.uniq i k si sk t hi hsk e hdk ▸ hk)
      · cases hs
    · cases hp


/-- What may come next. -/
structure NextOk (sops : List SOper) (pl : List (List Nat)) (X : List Nat) (hv : Option Nat) (rest : List IStage) : Prop where
  maxi : ∀ j, j < sops.length → isHeavyAt sops j = true ∨ j ∈ X ∨ ∃ i ∈ plAt pl j, isHeavyAt sops i = true ∧ i ∉ X
  next : match hv with
    | none => rest = [] ∧ ∀ j, j < sops.length → j ∈ X
    | some i => isHeavyAt sops i = true ∧ i ∉ X ∧ (∀ k ∈ plAt pl i, k ∈ X) ∧ (∀ k, k < sops.length → isHeavyAt sops k = true → k ∈ X ∨ k = i ∨ i ∈ plAt pl k) ∧ rest ≠ [] ∧ stagesOk sops pl (i :: X) rest = true

def RunOn (cf : FuncId → List AV → M AV) (sops : List SOper) (E : Env) (h : H) (Ef : Env) (hf : H) (rest : List IStage) : Option Nat → Prop
  | none => E = Ef ∧ h = hf
  | some i => ∃ s E1 h1, sops[i]? = some s ∧ stepOp cf s E h = some (E1, h1) ∧ stepStages cf (rest.map (toStage sops)) E1 h1 = some (Ef, hf)

theorem enter {keep : Bool} {ops : Array Oper} {sops : List SOper} {pl : List (List Nat)} (st : Stat P keep ops sops pl) {env0 : Env} {low : Nat} {Dn : Nat → Prop} {σ : Inj} {w : World} {X : List Nat} {s : IStage} {ss : List IStage} {Rv : Nat → Prop} {E Ef : Env} {h hf : H} {bid : Nat → Nat}
    (hok : stagesOk sops pl X (s :: ss) = true) (hrun : stepStages cf ((s :: ss).map (toStage sops)) E h = some (Ef, hf)) (can : Can sops pl env0 X E) (fs : Facts cf sops pl env0 low Rv Dn σ X E h bid) (r : Rep σ h w) (hdn : ∀ j, Dn j → j ∈ X)
    (hdh : ∀ i ∈ X, isHeavyAt sops i = true → ∀ j ∈ plAt pl i, Dn j) (hlow : low ≤ h.length) :
    ∃ Y E' h' bid', Can sops pl env0 Y E' ∧ Facts cf sops pl env0 low (fun j => ¬ Dn j) Dn σ Y E' h' bid' ∧ Rep σ h' w ∧ NextOk sops pl Y s.heavy ss ∧ RunOn cf sops E' h' Ef hf ss s.heavy ∧ (∀ j ∈ X, j ∈ Y) ∧ (∀ j ∈ Y, j ∈ X ∨ isHeavyAt sops j = false) ∧ h.length ≤ h'.length ∧ (∀ b : Nat, b < h.length → h'[b]? = h[b]?) ∧ (∀ (t k : Nat) (s : SOper), k ∈ X → sops[k]? = some s → s.dst = some t → E'.getD t .undef = E.getD t .undef) := by
  simp only [stagesOk] at hok
  split at hok
  · cases hok
  · rename_i Y hY
    simp only [Bool.and_eq_true, List.all_eq_true, List.mem_range, Bool.or_eq_true, List.contains_iff_mem, List.any_eq_true, Bool.not_eq_true'] at hok
    obtain ⟨⟨⟨hmax, hchk⟩, hrd⟩, hnext⟩ := hok
    simp only [List.map_cons, stepStages] at hrun
    split at hrun
    · cases hrun
    · rename_i E' h' hpre
      obtain ⟨bid', c1, c2, c3, c4, c5, c6, c7, c8⟩ := pre_run st s.pre X Y Rv E E' h h' bid hY hpre can fs r hdn hlow
      split at hrun
      · rename_i hall
        simp only [List.all_eq_true] at hall
        refine ⟨Y, E', h', bid', c1, ⟨?_, c2.inj, c2.low⟩, c3, ⟨?_, ?_⟩, ?_, c4, c5, c6, c7, c8⟩
        · intro j hj sj hsj hh
          obtain ⟨v, v1, v2⟩ := c2.all j hj sj hsj hh
          refine ⟨v, v1, ?_⟩
          cases hop : sj.op with
          | p o => rw [hop] at v2; exact v2
          | a o => rw [hop] at v2; exact v2
          | h o => rw [hop] at v2; exact v2
          | r o =>
            rw [hop] at v2
            refine ⟨v2.1, fun hnd => ?_⟩
            by_cases hjX : j ∈ X
            · -- an old read: it was done anew
              have hisr : isReadAt sops j = true := by simp [isReadAt, hsj, SOper.isRead, hop]
              have hin : j ∈ s.chk := by
                rcases hchk j hjX with (hq | hq) | ⟨i, _, hi⟩
                · rw [hisr] at hq; cases hq
                · exact hq
                · obtain ⟨⟨hi1, hi2⟩, hi3⟩ := hi
                  rcases c5 i hi2 with hq | hq
                  · exact absurd (hdh i hq hi1 j hi3) hnd
                  · rw [hq] at hi1; cases hi1
              have hre := hall sj (by simp only [toStage]; exact List.mem_filterMap.2 ⟨j, hin, hsj⟩)
              have hvw : ∀ t ∈ readsSlots sj, (view sops pl env0 E' j sj).getD t .undef = E'.getD t .undef := by
                intro t ht
                rw [view_at c1.len ht]
                split
                · rfl
                · rename_i hp
                  refine (c1.base t ?_).symm
                  intro k sk hk hd hm
                  rcases st.ord j k sj sk t hsj hk hd ht with h1 | ⟨h1, _⟩
                  · exact hp (pw_iff.2 ⟨k, sk, hk, hd, h1⟩)
                  · simp [SOper.isRead, hop] at h1
              rw [stepV_congr cf hvw]
              rw [wants_congr hvw] at v2
              unfold recheck at hre
              unfold stepV
              split at hre
              · rename_i hw
                rw [hw]
                simp only
                rw [hop] at hre ⊢
                cases hd : sj.dst with
                | none => rw [hd] at hre; simp at hre
                | some d =>
                  rw [hd] at hre
                  simp only at hre
                  split at hre
                  · rename_i v' hv'
                    have heq := same_eq _ _ hre
                    have hlt : d < E'.length := by
                      apply Classical.byContradiction
                      intro hge
                      rw [getD_ge hge] at heq
                      subst heq
                      simp [AV.same] at hre
                    have := v1 d hd hlt
                    simp only [evalOp, hv', Option.map_some]
                    rw [heq, this]
                  · cases hre
              · rename_i hw
                rw [hw]
                simp only
                rw [v2.1 hw]
              · cases hre
            · exact v2.2 (.inr hjX)
        · intro j hj
          rcases hmax j hj with (hq | hq) | ⟨i, hi, hq⟩
          · exact .inl hq
          · exact .inr (.inl hq)
          · refine .inr (.inr ⟨i, hi, hq.1, fun hm => ?_⟩)
            have := hq.2
            rw [List.contains_iff_mem.2 hm] at this
            cases this
        · cases hsv : s.heavy with
          | none =>
            rw [hsv] at hnext
            simp only [Bool.and_eq_true, List.isEmpty_iff, List.all_eq_true, List.mem_range, List.contains_iff_mem] at hnext
            exact hnext
          | some i =>
            rw [hsv] at hnext
            simp only [Bool.and_eq_true, List.all_eq_true, List.mem_range, List.contains_iff_mem, Bool.or_eq_true, Bool.not_eq_true', beq_iff_eq] at hnext
            obtain ⟨⟨⟨⟨⟨n1, n2⟩, n3⟩, n4⟩, n5⟩, n6⟩ := hnext
            refine ⟨n1, ?_, n3, ?_, ?_, n6⟩
            · intro hm; rw [List.contains_iff_mem.2 hm] at n2; cases n2
            · intro k hk hh
              rcases n4 k hk with ((hq | hq) | hq) | hq
              · rw [hh] at hq; cases hq
              · exact .inl hq
              · exact .inr (.inl hq)
              · exact .inr (.inr hq)
            · intro e; subst e; simp at n5
        · cases hsv : s.heavy with
          | none =>
            rw [hsv] at hnext
            simp only [Bool.and_eq_true, List.isEmpty_iff] at hnext
            have : ss = [] := hnext.1
            subst this
            simp only [toStage, hsv, Option.bind_none, List.map_nil, stepStages, Option.some.injEq, Prod.mk.injEq] at hrun
            exact hrun
          | some i =>
            rw [hsv] at hnext
            simp only [Bool.and_eq_true] at hnext
            have hi1 : isHeavyAt sops i = true := hnext.1.1.1.1.1
            unfold isHeavyAt at hi1
            split at hi1
            · rename_i si hsi
              simp only [toStage, hsv, Option.bind_some, hsi] at hrun
              split at hrun
              · cases hrun
              · rename_i E1 h1 hst
                exact ⟨si, E1, h1, hsi, hst, hrun⟩
            · cases hi1
      · cases hrun

end
end Go.Eng
