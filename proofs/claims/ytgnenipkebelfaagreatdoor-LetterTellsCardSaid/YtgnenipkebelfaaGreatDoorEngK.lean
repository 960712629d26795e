/- The engine, part K: one operation in its place; regions in the order of the text; statements; calls. -/
import Derived.Test.YtgnenipkebelfaaGreatDoorEngJ
import Derived.Scope
set_option linter.unusedVariables false
set_option linter.unusedSimpArgs false
namespace Go.Eng
open Go

structure EnvRel (σ : Inj) (env : Env) (a : Act) : Prop where
  len : env.length ≤ a.tmps.size
  val : ∀ t, VRel σ (env.getD t .undef) (a.tmps.getD t Go.undef)
  defers : a.defers = []

theorem EnvRel.le {σ τ : Inj} {env : Env} {a : Act} (h : EnvRel σ env a) (hle : σ.le τ) : EnvRel τ env a := ⟨h.len, fun t => vrel_le hle _ _ (h.val t), h.defers⟩

theorem EnvRel.put {σ : Inj} {env : Env} {a : Act} (h : EnvRel σ env a) {v : AV} {c : Value} (hv : VRel σ v c) (d : Option Nat) : EnvRel σ (env.put d v) (a.put d c) := by
  cases d with
  | none => exact h
  | some d =>
    refine ⟨by simpa [Env.put, Act.put] using h.len, fun t => ?_, h.defers⟩
    have hlen := h.len
    simp only [Env.put, Act.put, List.getD_eq_getElem?_getD, Array.getD_eq_getD_getElem?, List.getElem?_set, Array.getElem?_setIfInBounds]
    by_cases e : d = t
    · subst e
      by_cases hd : d < env.length
      · simp [hd, show d < a.tmps.size by omega, hv]
      · simp [hd, VRel]
    · simp only [if_neg e]
      have := h.val t
      simpa [List.getD_eq_getElem?_getD, Array.getD_eq_getD_getElem?] using this

theorem keepFrom_get (live : List Nat) : ∀ (i : Nat) (env : Env) (t : Nat), (keepFrom live i env).getD t .undef = env.getD t .undef ∨ (keepFrom live i env).getD t .undef = .undef := by
  intro i env
  induction env generalizing i live with
  | nil => intro t; left; rfl
  | cons v env ih =>
    intro t
    cases live with
    | nil =>
      cases t with
      | zero => right; simp [keepFrom]
      | succ t => simpa [keepFrom] using ih [] (i + 1) t
    | cons l ls =>
      simp only [keepFrom]
      split
      · cases t with
        | zero => left; rfl
        | succ t => simpa using ih ls (i + 1) t
      · cases t with
        | zero => right; rfl
        | succ t => simpa using ih (l :: ls) (i + 1) t

theorem keepFrom_len : ∀ (live : List Nat) (i : Nat) (env : Env), (keepFrom live i env).length = env.length
  | _, _, [] => rfl
  | [], i, v :: env => by simp [keepFrom, keepFrom_len]
  | l :: ls, i, v :: env => by simp only [keepFrom]; split <;> simp [keepFrom_len]

theorem EnvRel.keep {σ : Inj} {env : Env} {a : Act} (h : EnvRel σ env a) (live : List Nat) : EnvRel σ (keepFrom live 0 env) a := by
  refine ⟨by rw [keepFrom_len]; exact h.len, fun t => ?_, h.defers⟩
  rcases keepFrom_get live 0 env t with e | e
  · rw [e]; exact h.val t
  · rw [e]; simp [VRel]

/-- What is known of the functions that are called. -/
def CfSound (P : Program) (cf : FuncId → List AV → M AV) : Prop :=
  ∀ (f : FuncId) (vs : List AV) (h : H) (v : AV) (h' : H), cf f vs h = some (v, h') → fnOk P f = true ∧ ∀ (σ : Inj) (w : World) (cs : List Value), Rep σ h w → VRels σ vs cs →
    Calls P f cs.toArray w fun e w' => ∃ c σ', e = .returned c ∧ VRel σ' v c ∧ Rep σ' h' w' ∧ Ext σ h w σ' h' w'

theorem callFunc_ok {P : Program} {f : FuncId} (h : fnOk P f = true) (args : Array Value) (w : World) : (callFunc f args).run P w = .ok (.enter f args) w := by
  unfold fnOk at h
  split at h
  · rename_i fn hf
    simp only [Bool.and_eq_true, bne_iff_ne, ne_eq] at h
    cases hb : fn.body with
    | none => simp [hb] at h
    | some c => simp [callFunc, hf, h.1, hb]
  · cases h

theorem cOp_call {P : Program} {keep : Bool} {o : Op} {s : SOp} {xs : List Operand} (hc : cOp P keep o = some (s, xs)) (hs : (∃ f, s = .h (.call f)) ∨ s = .h .callV) : ∃ c, o = .call c ∧ cCall P keep c = some (s, xs) := by
  cases o <;> simp only [cOp] at hc
  case call c => exact ⟨c, rfl, hc⟩
  all_goals
    exfalso
    repeat' split at hc
    all_goals first
      | (cases hc; done)
      | (cases hc; rcases hs with ⟨f, hs⟩ | hs <;> cases hs; done)
      | (simp only [Option.bind_eq_some_iff] at hc
         obtain ⟨z, _, hc⟩ := hc
         first
          | (cases hc; rcases hs with ⟨f, hs⟩ | hs <;> cases hs; done)
          | (split at hc <;> first | (cases hc; done) | (cases hc; rcases hs with ⟨f, hs⟩ | hs <;> cases hs; done))
          | (obtain ⟨y, _, hc⟩ := hc; cases hc; rcases hs with ⟨f, hs⟩ | hs <;> cases hs; done))

theorem cCall_fn {P : Program} {keep : Bool} {c : Call} {s : SOp} {xs : List Operand} (hc : cCall P keep c = some (s, xs)) :
    (∀ f, s = .h (.call f) → c.callee = .value (.func f) ∧ xs = c.args.toList) ∧ (s = .h .callV → ∃ t, c.callee = .value (.tmp t) ∧ xs = .tmp t :: c.args.toList) := by
  simp only [cCall] at hc
  split at hc
  · rename_i g hg
    split at hc
    · cases hc
      refine ⟨fun f hf => ?_, fun h => ?_⟩
      · cases hf; exact ⟨hg, rfl⟩
      · cases h
    · cases hc
  · rename_i t ht
    cases hc
    refine ⟨fun f hf => ?_, fun _ => ⟨t, ht, rfl⟩⟩
    cases hf
  · have key : ∀ s', s = s' → (∀ f, s' ≠ .h (.call f)) → s' ≠ .h .callV → (∀ f, s = .h (.call f) → c.callee = .value (.func f) ∧ xs = c.args.toList) ∧ (s = .h .callV → ∃ t, c.callee = .value (.tmp t) ∧ xs = .tmp t :: c.args.toList) := by
      rintro s' rfl h1 h2
      exact ⟨fun f hf => absurd hf (h1 f), fun hf => absurd hf h2⟩
    repeat' split at hc
    all_goals first
      | (cases hc; done)
      | (cases hc; exact key _ rfl (fun f h => by cases h) (fun h => by cases h))
      | (simp only [Option.bind_eq_some_iff] at hc
         obtain ⟨z, _, hc⟩ := hc
         split at hc <;> first | (cases hc; done) | (cases hc; exact key _ rfl (fun f h => by cases h) (fun h => by cases h)))
      | (simp only [Option.map_eq_some_iff] at hc
         obtain ⟨z, _, hc⟩ := hc
         cases hc; exact key _ rfl (fun f h => by cases h) (fun h => by cases h))
  · cases hc

section
variable {P : Program} {cf : FuncId → List AV → M AV}

/-- One operation that is carried out. -/
theorem oper_wp (hcf : CfSound P cf) {keep : Bool} {o : Oper} {sop : SOp} {xs : List Operand} {as : List Opd} (hc : cOp P keep o.op = some (sop, xs)) (ha : cOpds xs = some as) {σ : Inj} {env : Env} {a : Act} {h : H} {w : World}
    (he : EnvRel σ env a) (r : Rep σ h w) {v : AV} {h' : H} (hev : evalOp cf sop (as.map (ev env)) h = some (v, h')) (K : Act → World → Prop) (Q : Exit → Act → World → Prop)
    (hK : ∀ c w' σ', VRel σ' v c → Rep σ' h' w' → Ext σ h w σ' h' w' → K (a.put o.dst c) w') : o.wp P a w K Q := by
  have hops : VRels σ (as.map (ev env)) (xs.map a.eval) := cOpds_rel (tmps := a.tmps) he.val a.defers ha
  unfold Oper.wp
  cases sop with
  | p pop =>
    simp only [evalOp, Option.map_eq_some_iff, Prod.mk.injEq] at hev
    obtain ⟨v', hv', rfl, rfl⟩ := hev
    obtain ⟨c, hrun, hr⟩ := sound_p (ρ := a.eval) hc hops hv' o.dst o.type o.pos o.after o.guard w
    rw [hrun, Oper.upon_value]
    exact hK c w σ hr r (Ext.refl _ _ _)
  | r rop =>
    simp only [evalOp, Option.map_eq_some_iff, Prod.mk.injEq] at hev
    obtain ⟨v', hv', rfl, rfl⟩ := hev
    obtain ⟨c, hrun, hr⟩ := sound_r (ρ := a.eval) hc r hops hv' o.dst o.type o.pos o.after o.guard
    rw [hrun, Oper.upon_value]
    exact hK c w σ hr r (Ext.refl _ _ _)
  | a aop =>
    simp only [evalOp, Option.map_eq_some_iff, Prod.mk.injEq] at hev
    obtain ⟨⟨blk, k⟩, hv', rfl, rfl⟩ := hev
    obtain ⟨c, w', obj, l, hrun, hg, hl, hrel⟩ := sound_a (ρ := a.eval) (w := w) hc hops hv' o.dst o.type o.pos o.after o.guard
    have hnone : σ h.length = none := by
      cases hq : σ h.length with
      | none => rfl
      | some m => have := (r.dom _ m hq); omega
    have hrel' := hrel (σ.bind h.length l) h.length (le_bind hnone) (by simp [Inj.bind])
    rw [hrun, Oper.upon_value]
    exact hK c w' _ hrel'.1 ((r.push blk).make hnone (by simp) hg.heap hl hrel'.2) (Ext.make r rfl hg hl)
  | h hop =>
    simp only [evalOp] at hev
    have heap : evalHeap hop (as.map (ev env)) h = some (v, h') → o.upon P a K Q ((execOp a.eval o).run P w) := by
      intro hev
      obtain ⟨c, w', σ', hrun, hr, hrep, hext⟩ := sound_h (ρ := a.eval) hc r hops hev o.dst o.type o.pos o.after o.guard
      rcases hrun with hrun | ⟨hrun, rfl⟩
      · rw [hrun, Oper.upon_value]; exact hK c w' σ' hr hrep hext
      · rw [hrun, Oper.upon_skip]; exact hK _ w' σ' hr hrep hext
    cases hop with
    | call f =>
      simp only [evalH] at hev
      obtain ⟨hok, hcalls⟩ := hcf f _ h v h' hev
      obtain ⟨c, hoc, hcc⟩ := cOp_call hc (.inl ⟨f, rfl⟩)
      obtain ⟨hcal, rfl⟩ := (cCall_fn hcc).1 f rfl
      have hrun : (execOp a.eval o).run P w = .ok (.enter f (c.args.toList.map a.eval).toArray) w := by
        have hargs : c.args.map a.eval = (c.args.toList.map a.eval).toArray := by apply Array.ext'; simp
        obtain ⟨dst, oo, ty, pos, after, gd⟩ := o
        simp only at hoc
        subst hoc
        simp [execOp, resolve, hcal, Act.eval, Deferred.ofValue, invoke, callFunc_ok hok, hargs]
      rw [hrun, Oper.upon_enter]
      refine (hcalls σ w _ r hops).mono ?_
      rintro e w' ⟨cv, σ', rfl, hr, hrep, hext⟩
      exact hK cv w' σ' hr hrep hext
    | callV =>
      obtain ⟨c, hoc, hcc⟩ := cOp_call hc (.inr rfl)
      obtain ⟨t, hcal, rfl⟩ := (cCall_fn hcc).2 rfl
      match hvs : as.map (ev env), hops with
      | [], hops => simp [VRels] at hops
      | fv :: vs, hops =>
        simp only [List.map_cons, VRels] at hops
        rw [hvs] at hev
        cases fv with
        | func f cs =>
          simp only [evalH] at hev
          obtain ⟨hok, hcalls⟩ := hcf f _ h v h' hev
          obtain ⟨cap, hfv, hcap⟩ := vrel_func hops.1
          have hall : VRels σ (vs ++ cs) (c.args.toList.map a.eval ++ cap.toList) := vrels_append hops.2 hcap
          have hrun : (execOp a.eval o).run P w = .ok (.enter f (c.args.toList.map a.eval ++ cap.toList).toArray) w := by
            have hargs : c.args.map a.eval ++ cap = (c.args.toList.map a.eval ++ cap.toList).toArray := by apply Array.ext'; simp
            obtain ⟨dst, oo, ty, pos, after, gd⟩ := o
            simp only at hoc
            subst hoc
            simp [execOp, resolve, hcal, hfv, Deferred.ofValue, invoke, callFunc_ok hok, hargs]
          rw [hrun, Oper.upon_enter]
          refine (hcalls σ w _ r hall).mono ?_
          rintro e w' ⟨cv, σ', rfl, hr, hrep, hext⟩
          exact hK cv w' σ' hr hrep hext
        | _ => simp [evalH, evalHeap] at hev
    | _ => exact heap (by simpa [evalH] using hev)


/-! ### Regions in the order of the text -/
theorem wantsRel {σ : Inj} {env : Env} {a : Act} (he : EnvRel σ env a) {ops : Array Oper} {o : Oper} {gd : Option (Nat × Bool)} (hg : match o.guard with | none => gd = none | some (g, w) => ∃ d, (ops[g]?).bind (·.dst) = some d ∧ gd = some (d, w)) {b : Bool} (hb : wantsOp env gd = some b) :
    Region.wanted o (yielded ops a.tmps) = b := by
  unfold Region.wanted
  cases hgo : o.guard with
  | none =>
    rw [hgo] at hg
    subst hg
    simpa [wantsOp] using hb
  | some p =>
    obtain ⟨g, want⟩ := p
    rw [hgo] at hg
    obtain ⟨d, hd, rfl⟩ := hg
    simp only [wantsOp] at hb
    have hv := he.val d
    simp only [yielded, hd, Option.bind_some]
    have hcase : a.tmps.getD d Go.undef = (a.tmps[d]?).getD Go.undef := by rw [Array.getD_eq_getD_getElem?]
    split at hb
    · rename_i x hx
      rw [hx] at hv
      have := vrel_bool hv
      rw [hcase] at this
      cases hq : a.tmps[d]? with
      | none => rw [hq] at this; simp [Go.undef] at this
      | some y =>
        rw [hq] at this
        simp at this; subst this
        simpa using hb
    · rename_i hx
      rw [hx] at hv
      obtain ⟨cs, hcs, hr⟩ := vrel_tuple hv
      have hnil := vrels_nil hr
      rw [hcase] at hcs
      cases hb
      cases hq : a.tmps[d]? with
      | none => simp
      | some y =>
        rw [hq] at hcs
        simp at hcs; subst hcs
        simp
    · cases hb

/-- An operation of the program's and its translation. -/
def OperOk (P : Program) (keep : Bool) (ops : Array Oper) (o : Oper) (s : SOper) : Prop :=
  s.dst = o.dst ∧ (∃ xs, cOp P keep o.op = some (s.op, xs) ∧ cOpds xs = some s.args) ∧ match o.guard with | none => s.gd = none | some (g, w) => ∃ d, (ops[g]?).bind (·.dst) = some d ∧ s.gd = some (d, w)

theorem cOper_ok {keep : Bool} {ops : Array Oper} {o : Oper} {s : SOper} (h : cOper P keep ops o = some s) : OperOk P keep ops o s := by
  unfold cOper at h
  split at h
  · cases h
  · rename_i sop xs hc
    split at h
    · cases h
    · rename_i as ha
      split at h
      · rename_i hg
        cases h
        exact ⟨rfl, ⟨xs, hc, ha⟩, by rw [hg]⟩
      · rename_i g w hg
        split at h
        · rename_i d hd
          cases h
          refine ⟨rfl, ⟨xs, hc, ha⟩, ?_⟩
          rw [hg]
          exact ⟨d, hd, rfl⟩
        · cases h

/-- One step in a region: carried out, or passed by. -/
theorem step_wp (hcf : CfSound P cf) {keep : Bool} {ops : Array Oper} {o : Oper} {s : SOper} (hok : OperOk P keep ops o s) {i : Nat} (hi : ops[i]? = some o) {σ : Inj} {env env' : Env} {a : Act} {h h' : H} {w : World}
    (he : EnvRel σ env a) (r : Rep σ h w) (hev : stepOp cf s env h = some (env', h')) (K : Act → World → Prop) (Q : Exit → Act → World → Prop)
    (hK : ∀ a' w' σ', EnvRel σ' env' a' → Rep σ' h' w' → Ext σ h w σ' h' w' → K a' w') : wpOp P ops Q i K a w := by
  obtain ⟨hdst, ⟨xs, hc, ha⟩, hg⟩ := hok
  unfold stepOp at hev
  unfold wpOp
  simp only [hi]
  split at hev
  · rename_i hw
    rw [wantsRel he hg hw, if_pos rfl]
    simp only [Option.map_eq_some_iff, Prod.mk.injEq] at hev
    obtain ⟨⟨v, h1⟩, hv, rfl, rfl⟩ := hev
    refine .inl (oper_wp hcf hc ha he r hv K Q fun c w' σ' hr hrep hext => hK _ w' σ' ?_ hrep hext)
    rw [hdst]
    exact (he.le hext.inj).put hr o.dst
  · rename_i hw
    rw [wantsRel he hg hw, if_neg (by simp)]
    cases hev
    refine hK _ w σ ?_ r (Ext.refl _ _ _)
    rw [hdst]
    exact he.put (by simp [VRel, VRels, Go.undef]) o.dst
  · cases hev

theorem mapM_get {α β : Type} {f : α → Option β} : ∀ {l : List α} {m : List β}, l.mapM f = some m → l.length = m.length ∧ ∀ (i : Nat) (x : α), l[i]? = some x → ∃ y, m[i]? = some y ∧ f x = some y
  | [], m, h => by simp at h; subst h; simp
  | x :: l, m, h => by
    simp only [List.mapM_cons, Option.pure_def, Option.bind_eq_bind, Option.bind_eq_some_iff] at h
    obtain ⟨y, hy, m', hm, h⟩ := h
    cases h
    obtain ⟨h1, h2⟩ := mapM_get hm
    refine ⟨by simp [h1], fun i z hz => ?_⟩
    cases i with
    | zero => simp at hz; subst hz; exact ⟨y, rfl, hy⟩
    | succ i => simpa using h2 i z (by simpa using hz)

theorem steps_wp (hcf : CfSound P cf) {keep : Bool} {ops : Array Oper} : ∀ (sops : List SOper) (k : Nat), (∀ (i : Nat) (s : SOper), sops[i]? = some s → ∃ o, ops[k + i]? = some o ∧ OperOk P keep ops o s) → ∀ (σ : Inj) (env env' : Env) (a : Act) (h h' : H) (w : World) (Q : Exit → Act → World → Prop),
    EnvRel σ env a → Rep σ h w → stepOps cf sops env h = some (env', h') → (∀ a' w' σ', EnvRel σ' env' a' → Rep σ' h' w' → Ext σ h w σ' h' w' → Q .normal a' w') → wpOps P ops Q (List.range' k sops.length) a w
  | [], k, _, σ, env, env', a, h, h', w, Q, he, r, hs, hQ => by
    simp only [stepOps, Option.some.injEq, Prod.mk.injEq] at hs
    obtain ⟨rfl, rfl⟩ := hs
    exact hQ a w σ he r (Ext.refl _ _ _)
  | s :: sops, k, hall, σ, env, env', a, h, h', w, Q, he, r, hs, hQ => by
    simp only [stepOps] at hs
    split at hs
    · rename_i env1 h1 hs1
      obtain ⟨o, ho, hok⟩ := hall 0 s rfl
      rw [List.length_cons, List.range'_succ, wpOps_cons]
      refine step_wp hcf hok (by simpa using ho) he r hs1 _ Q fun a' w' σ' he' r' hext => ?_
      exact steps_wp hcf sops (k + 1) (fun i s' hs' => by
        obtain ⟨o', ho', hok'⟩ := hall (i + 1) s' (by simpa using hs')
        exact ⟨o', by rw [show k + 1 + i = k + (i + 1) by omega]; exact ho', hok'⟩) σ' env1 env' a' h1 h' w' Q he' r' hs fun a2 w2 σ2 he2 r2 hext2 => hQ a2 w2 σ2 he2 r2 (hext.trans hext2)
    · cases hs

theorem reg_wp (hcf : CfSound P cf) {keep : Bool} {ops : Array Oper} {sops : List SOper} (hm : ops.toList.mapM (cOper P keep ops) = some sops) {id : Nat} {σ : Inj} {env env' : Env} {a : Act} {h h' : H} {w : World} {Q : Exit → Act → World → Prop}
    (he : EnvRel σ env a) (r : Rep σ h w) (hs : stepOps cf sops env h = some (env', h')) (hQ : ∀ a' w' σ', EnvRel σ' env' a' → Rep σ' h' w' → Ext σ h w σ' h' w' → Q .normal a' w') : (Code.region id ops false).wp P Q a w := by
  obtain ⟨hlen, hget⟩ := mapM_get hm
  have hlen2 : ops.size = sops.length := by rw [← hlen, Array.length_toList]
  refine wp_region ?_
  rw [hlen2, List.range_eq_range']
  refine steps_wp hcf (keep := keep) sops 0 ?_ σ env env' a h h' w Q he r hs hQ
  intro i s hi
  have hlt : i < ops.toList.length := by have := (List.getElem?_eq_some_iff.1 hi).1; omega
  obtain ⟨o, ho⟩ : ∃ o, ops.toList[i]? = some o := ⟨_, List.getElem?_eq_getElem hlt⟩
  obtain ⟨s', hs', hc⟩ := hget i o ho
  rw [hi] at hs'; cases hs'
  exact ⟨o, by simpa using ho, cOper_ok hc⟩

end
end Go.Eng
