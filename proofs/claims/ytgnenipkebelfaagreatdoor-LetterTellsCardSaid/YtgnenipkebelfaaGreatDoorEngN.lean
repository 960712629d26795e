/- The engine, part N: statements and calls are sound: what the abstract machine answers the program answers. -/
import Derived.Test.YtgnenipkebelfaaGreatDoorEngM
set_option linter.unusedVariables false
set_option linter.unusedSimpArgs false
namespace Go.Eng
open Go

section
variable {P : Program} {cf : FuncId → List AV → M AV}

theorem stat_of {keep : Bool} {ops : Array Oper} {sops : List SOper} (hm : ops.toList.mapM (cOper P keep ops) = some sops) {pl : List (List Nat)} (h1 : plOk ops.toList pl = true) (h2 : slotsOk sops pl = true) : Stat P keep ops sops pl := by
  obtain ⟨hlen, hget⟩ := mapM_get hm
  have hlen2 : ops.size = sops.length := by rw [← hlen, Array.length_toList]
  simp only [plOk, List.all_eq_true, Prod.forall, List.mem_zipIdx_iff_getElem?, Bool.and_eq_true, decide_eq_true_eq, Bool.or_eq_true, List.contains_iff_mem, List.any_eq_true] at h1
  simp only [slotsOk, Bool.and_eq_true, List.all_eq_true, Prod.forall, List.mem_zipIdx_iff_getElem?, Bool.or_eq_true, beq_iff_eq, bne_iff_ne] at h2
  refine ⟨hlen2, ?_, ?_, ?_, ?_, ?_⟩
  · intro i s hi
    have hlt : i < ops.toList.length := by have := (List.getElem?_eq_some_iff.1 hi).1; omega
    obtain ⟨o, ho⟩ : ∃ o, ops.toList[i]? = some o := ⟨_, List.getElem?_eq_getElem hlt⟩
    obtain ⟨s', hs', hc⟩ := hget i o ho
    rw [hi] at hs'; cases hs'
    exact ⟨o, by simpa using ho, cOper_ok hc⟩
  · intro j o ho e he
    exact (h1 o j (by simpa using ho)).1 e he
  · intro j o ho i hi
    rcases (h1 o j (by simpa using ho)).2 i hi with h | ⟨e, he, hie⟩
    · exact .inl h
    · exact .inr ⟨e, he, hie⟩
  · intro i i' s s' d hs hs' hd hd'
    rcases h2.1 s i hs s' i' hs' with (h | h) | h
    · exact h
    · rw [hd] at h; simp at h
    · rw [hd, hd'] at h; exact absurd rfl h
  · intro j i s s' t hs hs' hd ht
    have := h2.2 s j hs s' i hs'
    rw [hd] at this
    simp only [Bool.or_eq_true, Bool.and_eq_true, Bool.not_eq_true', List.contains_iff_mem] at this
    rcases this with (h | h) | h
    · rw [List.contains_iff_mem.2 ht] at h; cases h
    · exact .inl h
    · exact .inr ⟨h.1, h.2⟩

theorem dreg_wp (hcf : CfSound P cf) {keep : Bool} {ops : Array Oper} {sops : List SOper} (hm : ops.toList.mapM (cOper P keep ops) = some sops) {pl : List (List Nat)} {is : List IStage} (hmix : P.follows .mixedOrders = true) (h1 : plOk ops.toList pl = true) (h2 : slotsOk sops pl = true) (h3 : stagesOk sops pl [] is = true) (hne : is ≠ [])
    {id : Nat} {σ : Inj} {env env' : Env} {a : Act} {h h' : H} {w : World} {Q : Exit → Act → World → Prop}
    (he : EnvRel σ env a) (r : Rep σ h w) (hs : stepStages cf (is.map (toStage sops)) env h = some (env', h')) (hQ : ∀ a' w' σ', EnvRel σ' env' a' → Rep σ' h' w' → Ext σ h w σ' h' w' → Q .normal a' w') : (Code.region id ops true).wp P Q a w := by
  have st := stat_of hm h1 h2
  refine wp_region_any hmix ?_
  have hdrew : DrewFrom w { w with drawn := w.drawn + 1 } := ⟨rfl, rfl, rfl, rfl⟩
  have r' : Rep σ h { w with drawn := w.drawn + 1 } := r.drew rfl
  have xdrew : Ext σ h w σ h { w with drawn := w.drawn + 1 } := Ext.drew hdrew
  obtain ⟨s, ss, rfl⟩ : ∃ s ss, is = s :: ss := by cases is with | nil => exact absurd rfl hne | cons x xs => exact ⟨x, xs, rfl⟩
  have hfalse : ∀ j, (Array.replicate ops.size false).getD j false = false := by
    intro j
    rw [Array.getD_eq_getD_getElem?, Array.getElem?_replicate]
    split <;> rfl
  obtain ⟨Y, E', h1', bid', c1, c2, c3, c4, c5, c6, c7, c8, c9, c10⟩ := enter st (env0 := env) (low := h.length) (Dn := fun j => (Array.replicate ops.size false).getD j false = true) (σ := σ) (w := { w with drawn := w.drawn + 1 }) (Rv := fun _ => True) (bid := fun _ => 0) h3 hs ⟨rfl, fun _ _ => rfl, fun j hj => by cases hj⟩ ⟨fun j hj => (by cases hj), fun j hj => (by cases hj), fun j hj => (by cases hj)⟩ r'
    (fun j hj => by rw [hfalse] at hj; cases hj) (fun i hi => by cases hi) (Nat.le_refl _)
  refine any_wp hcf st (Ef := env') (hf := h') (σ0 := σ) (h0 := h) (w0 := w) hQ ops.size Y E' h1' s.heavy ss (Array.replicate ops.size false) σ bid' a { w with drawn := w.drawn + 1 } (List.range ops.size) (by simp) (fun j hj _ => List.mem_range.2 hj) c4 c5 ⟨c1, c2, c3, xdrew.trans (Ext.pushes r' c8 c9), by simp, ?_, ?_, ?_, ?_, he.len, he.defers⟩
  · intro j o ho hj
    rw [hfalse] at hj; cases hj
  · intro j hj
    rw [hfalse] at hj; cases hj
  · intro j hj hh
    rcases c7 j hj with hq | hq
    · cases hq
    · rw [hq] at hh; cases hh
  · intro t v hc
    rcases hc with ⟨i, s', _, _, hq, _⟩ | ⟨_, rfl⟩
    · rw [hfalse] at hq; cases hq
    · exact he.val t

/-! ### Statements -/
inductive Trans (P : Program) (keep : Bool) : Code → SCode → Prop where
  | skip : Trans P keep .skip .skip
  | label (l : Nat) : Trans P keep (.label l) .skip
  | region (id : Nat) (ops : Array Oper) (draw : Bool) (c : SCode) : cRegion P keep ops draw = some c → Trans P keep (.region id ops draw) c
  | seq {a b : Code} {x y : SCode} : Trans P keep a x → Trans P keep b y → Trans P keep (.seq a b) (.seq x y)
  | cond {c : Operand} {d : Opd} {a b : Code} {x y : SCode} : cOpd c = some d → Trans P keep a x → Trans P keep b y → Trans P keep (.cond c a b) (.cond d x y)
  | block (id : Nat) {a : Code} {x : SCode} : Trans P keep a x → Trans P keep (.block id a) (.block id x)
  | loop (live : List Nat) {a : Code} {x : SCode} : Trans P keep a x → Trans P keep (.loop a) (.loop live x)
  | exit (id : Nat) : Trans P keep (.exit id) (.exit id)
  | scope {a : Code} {x : SCode} : Trans P keep a x → Trans P keep (.scope a) (.scope x)
  | ret : Trans P keep .ret .ret

theorem trans_of {keep : Bool} : ∀ (c : Code) (s : SCode), cCode P keep c = some s → Trans P keep c s
  | .skip, s, h => by simp only [cCode, Option.some.injEq] at h; subst h; exact .skip
  | .label l, s, h => by simp only [cCode, Option.some.injEq] at h; subst h; exact .label l
  | .region id ops draw, s, h => by simp only [cCode] at h; exact .region id ops draw s h
  | .seq a b, s, h => by
    simp only [cCode] at h
    split at h
    · rename_i x y hx hy
      cases h; exact .seq (trans_of a x hx) (trans_of b y hy)
    · cases h
  | .cond c a b, s, h => by
    simp only [cCode] at h
    split at h
    · rename_i d x y hd hx hy
      cases h; exact .cond hd (trans_of a x hx) (trans_of b y hy)
    · cases h
  | .block id a, s, h => by
    simp only [cCode, Option.map_eq_some_iff] at h
    obtain ⟨x, hx, rfl⟩ := h
    exact .block id (trans_of a x hx)
  | .loop a, s, h => by
    simp only [cCode, Option.map_eq_some_iff] at h
    obtain ⟨x, hx, rfl⟩ := h
    exact .loop [] (trans_of a x hx)
  | .exit id, s, h => by simp only [cCode, Option.some.injEq] at h; subst h; exact .exit id
  | .scope a, s, h => by
    simp only [cCode, Option.map_eq_some_iff] at h
    obtain ⟨x, hx, rfl⟩ := h
    exact .scope (trans_of a x hx)
  | .ret, s, h => by simp only [cCode, Option.some.injEq] at h; subst h; exact .ret
  | .rangeFunc _ _ _ _, s, h => by simp [cCode] at h
  | .goto _, s, h => by simp [cCode] at h
  | .refuse _, s, h => by simp [cCode] at h

theorem trans_live {keep : Bool} {c : Code} {s : SCode} (h : Trans P keep c s) : ∀ (nt : Nat) (fin : Bits) (ex : List (Nat × Bits)) (out : Bits), Trans P keep c (layLive nt fin ex s out) := by
  induction h with
  | skip => intro _ _ _ _; exact .skip
  | label l => intro _ _ _ _; exact .label l
  | region id ops draw c hc =>
    intro nt fin ex out
    have hsame : layLive nt fin ex c out = c := by
      unfold cRegion at hc
      split at hc
      · cases hc
      · dsimp only at hc
        split at hc
        · split at hc
          · cases hc; rfl
          · cases hc
        · cases hc; rfl
    rw [hsame]
    exact .region id ops draw c hc
  | seq _ _ ih1 ih2 => intro nt fin ex out; exact .seq (ih1 _ _ _ _) (ih2 _ _ _ _)
  | cond hd _ _ ih1 ih2 => intro nt fin ex out; exact .cond hd (ih1 _ _ _ _) (ih2 _ _ _ _)
  | block id _ ih => intro nt fin ex out; exact .block id (ih _ _ _ _)
  | loop live _ ih => intro nt fin ex out; exact .loop _ (ih _ _ _ _)
  | exit id => intro _ _ _ _; exact .exit id
  | scope _ ih => intro nt fin ex out; exact .scope (ih _ _ _ _)
  | ret => intro _ _ _ _; exact .ret

def toExit : Ex → Exit
  | .normal => .normal
  | .exit id => .exit id
  | .ret => .ret

/-- What it is that a statement's run comes to. -/
def Post (σ : Inj) (h : H) (w : World) (x : Ex) (env' : Env) (h' : H) (Q : Exit → Act → World → Prop) : Prop :=
  ∀ a' w' σ', EnvRel σ' env' a' → Rep σ' h' w' → Ext σ h w σ' h' w' → Q (toExit x) a' w'

theorem exec_wp (hcf : CfSound P cf) {keep : Bool} (n : Nat) {c : Code} {s : SCode} (ht : Trans P keep c s) : ∀ (env : Env) (h : H) (x : Ex) (env' : Env) (h' : H), exec cf (itn n) s env h = some ((x, env'), h') →
    ∀ (a : Act) (w : World) (σ : Inj) (Q : Exit → Act → World → Prop), EnvRel σ env a → Rep σ h w → Post σ h w x env' h' Q → c.wp P Q a w := by
  induction ht with
  | skip =>
    intro env h x env' h' hx a w σ Q he r hQ
    simp only [exec, Option.some.injEq, Prod.mk.injEq] at hx
    obtain ⟨⟨rfl, rfl⟩, rfl⟩ := hx
    exact wp_skip (hQ a w σ he r (Ext.refl _ _ _))
  | label l =>
    intro env h x env' h' hx a w σ Q he r hQ
    simp only [exec, Option.some.injEq, Prod.mk.injEq] at hx
    obtain ⟨⟨rfl, rfl⟩, rfl⟩ := hx
    exact wp_label (hQ a w σ he r (Ext.refl _ _ _))
  | region id ops draw c hc =>
    intro env h x env' h' hx a w σ Q he r hQ
    unfold cRegion at hc
    split at hc
    · cases hc
    · rename_i sops hm
      dsimp only at hc
      split at hc
      · rename_i hd
        split at hc
        · rename_i hcc
          cases hc
          simp only [Bool.and_eq_true] at hcc
          obtain ⟨⟨⟨q1, q2⟩, q3⟩, q4⟩ := hcc
          simp only [exec, Option.map_eq_some_iff, Prod.mk.injEq] at hx
          obtain ⟨⟨e1, h1⟩, hx, ⟨rfl, rfl⟩, rfl⟩ := hx
          have hdr : draw = true := hd
          subst hdr
          refine dreg_wp hcf hm q1 q2 q3 q4 ?_ he r hx hQ
          unfold iStages
          rw [List.range_succ]
          simp
        · cases hc
      · rename_i hd
        cases hc
        simp only [exec, Option.map_eq_some_iff, Prod.mk.injEq] at hx
        obtain ⟨⟨e1, h1⟩, hx, ⟨rfl, rfl⟩, rfl⟩ := hx
        have hdr : draw = false := by cases draw <;> simp_all
        subst hdr
        exact reg_wp hcf hm he r hx hQ
  | @seq a1 b1 x1 y1 _ _ ih1 ih2 =>
    intro env h x env' h' hx a w σ Q he r hQ
    simp only [exec] at hx
    unfold seqK at hx
    split at hx
    · rename_i e1 h1 hx1
      refine wp_seq (ih1 env h .normal e1 h1 hx1 a w σ _ he r ?_)
      intro a' w' σ' he' r' hext
      exact ih2 e1 h1 x env' h' hx a' w' σ' Q he' r' fun a2 w2 σ2 he2 r2 x2 => hQ a2 w2 σ2 he2 r2 (hext.trans x2)
    · rename_i hne
      refine wp_seq (ih1 env h x env' h' hx a w σ _ he r ?_)
      intro a' w' σ' he' r' hext
      have := hQ a' w' σ' he' r' hext
      cases x with
      | normal => exact absurd hx (hne _ _)
      | exit id => exact this
      | ret => exact this
  | @cond c d a1 b1 x1 y1 hd _ _ ih1 ih2 =>
    intro env h x env' h' hx a w σ Q he r hQ
    have hv := cOpd_rel (tmps := a.tmps) he.val hd a.defers
    simp only [exec] at hx
    split at hx
    · rename_i hev
      rw [hev] at hv
      exact wp_cond_true (vrel_bool hv) (ih1 env h x env' h' hx a w σ Q he r hQ)
    · rename_i hev
      rw [hev] at hv
      exact wp_cond_false (vrel_bool hv) (ih2 env h x env' h' hx a w σ Q he r hQ)
    · cases hx
  | @block id a1 x1 _ ih =>
    intro env h x env' h' hx a w σ Q he r hQ
    simp only [exec] at hx
    unfold blockK at hx
    split at hx
    · rename_i id' e1 h1 hx1
      refine wp_block (ih env h (.exit id') e1 h1 hx1 a w σ _ he r ?_)
      intro a' w' σ' he' r' hext
      simp only [toExit, Exit.inBlock]
      split at hx
      · rename_i hid
        rw [if_pos hid]
        cases hx
        exact hQ a' w' σ' he' r' hext
      · rename_i hid
        rw [if_neg hid]
        cases hx
        exact hQ a' w' σ' he' r' hext
    · rename_i hne
      refine wp_block (ih env h x env' h' hx a w σ _ he r ?_)
      intro a' w' σ' he' r' hext
      have := hQ a' w' σ' he' r' hext
      cases x with
      | normal => exact this
      | exit id' => exact absurd hx (hne _ _ _)
      | ret => exact this
  | @loop live a1 x1 _ ih =>
    intro env h x env' h' hx a w σ Q he r hQ
    simp only [exec, itn] at hx
    have key : ∀ (m : Nat) (env : Env) (h : H) (a : Act) (w : World) (σ : Inj), iter (fun env => exec cf (itn n) x1 (keepFrom live 0 env)) m env h = some ((x, env'), h') → EnvRel σ env a → Rep σ h w → Post σ h w x env' h' Q → Code.rounds P a1 Q m a w := by
      intro m
      induction m with
      | zero => intro env h a w σ hx; simp [iter] at hx
      | succ m ihm =>
        intro env h a w σ hx he r hQ
        simp only [iter] at hx
        rw [rounds_succ]
        split at hx
        · rename_i e1 h1 hx1
          refine ih (keepFrom live 0 env) h .normal e1 h1 hx1 a w σ _ (he.keep live) r ?_
          intro a' w' σ' he' r' hext
          exact ihm e1 h1 a' w' σ' hx he' r' fun a2 w2 σ2 he2 r2 x2 => hQ a2 w2 σ2 he2 r2 (hext.trans x2)
        · rename_i hne
          refine ih (keepFrom live 0 env) h x env' h' hx a w σ _ (he.keep live) r ?_
          intro a' w' σ' he' r' hext
          have := hQ a' w' σ' he' r' hext
          cases x with
          | normal => exact absurd hx (hne _ _)
          | exit id => exact this
          | ret => exact this
    exact wp_loop_rounds n (key n env h a w σ hx he r hQ)
  | exit id =>
    intro env h x env' h' hx a w σ Q he r hQ
    simp only [exec, Option.some.injEq, Prod.mk.injEq] at hx
    obtain ⟨⟨rfl, rfl⟩, rfl⟩ := hx
    exact wp_exit (hQ a w σ he r (Ext.refl _ _ _))
  | @scope a1 x1 _ ih =>
    intro env h x env' h' hx a w σ Q he r hQ
    simp only [exec] at hx
    refine wp_scope_straight (ih env h x env' h' hx a w σ _ he r ?_)
    intro a' w' σ' he' r' hext
    have := hQ a' w' σ' he' r' hext
    cases x <;> exact this
  | ret =>
    intro env h x env' h' hx a w σ Q he r hQ
    simp only [exec, Option.some.injEq, Prod.mk.injEq] at hx
    obtain ⟨⟨rfl, rfl⟩, rfl⟩ := hx
    exact wp_ret (hQ a w σ he r (Ext.refl _ _ _))


/-! ### Calls -/
theorem res_run {σ : Inj} {h : H} {w : World} (r : Rep σ h w) {env : Env} {a : Act} (he : EnvRel σ env a) : ∀ (rs : List ResultVar) (srs : List SRes) (l : List AV), cRes P rs = some srs → resVals env h srs = some l →
    ∃ cs : List Value, (rs.mapM (fun (x : ResultVar) => match x with | .tmp t => (pure (a.tmps.getD t Go.undef) : Sem Value) | .cell b t => (do loadVar t (← asAddr (a.tmps.getD b Go.undef)) : Sem Value))).run P w = .ok cs w ∧ VRels σ l cs
  | [], srs, l, h1, h2 => by
    simp only [cRes, Option.some.injEq] at h1; subst h1
    simp only [resVals, Option.some.injEq] at h2; subst h2
    exact ⟨[], by simp, trivial⟩
  | .tmp t :: rs, srs, l, h1, h2 => by
    simp only [cRes, Option.map_eq_some_iff] at h1
    obtain ⟨srs', h1, rfl⟩ := h1
    simp only [resVals, resVal] at h2
    simp only [Option.map_eq_some_iff] at h2
    obtain ⟨l', h2, rfl⟩ := h2
    obtain ⟨cs, h3, h4⟩ := res_run r he rs srs' l' h1 h2
    refine ⟨a.tmps.getD t Go.undef :: cs, ?_, he.val t, h4⟩
    simp only [List.mapM_cons, Sem.run_bind, Sem.run_pure, Result.andThen_ok, h3]
  | .cell b t :: rs, srs, l, h1, h2 => by
    simp only [cRes] at h1
    split at h1
    · rename_i n hn
      simp only [Option.map_eq_some_iff] at h1
      obtain ⟨srs', h1, rfl⟩ := h1
      simp only [resVals] at h2
      split at h2
      · rename_i v hv
        simp only [Option.map_eq_some_iff] at h2
        obtain ⟨l', h2, rfl⟩ := h2
        obtain ⟨cs, h3, h4⟩ := res_run r he rs srs' l' h1 h2
        simp only [resVal] at hv
        have hb := he.val b
        cases hq : env.getD b .undef with
        | ptr bb i j =>
          rw [hq] at hv hb
          simp only [evalR, Option.bind_eq_some_iff] at hv
          obtain ⟨e, e1, e2⟩ := hv
          obtain ⟨lo, hl, hx⟩ := vrel_ptr hb
          obtain ⟨c, hc, hcr⟩ := load_run (P := P) r hn hl e1 e2
          refine ⟨c :: cs, ?_, hcr, h4⟩
          have hA : (asAddr (a.tmps.getD b Go.undef)).run P w = .ok ⟨lo.cb, lo.base + i * lo.es + j, none⟩ w := by rw [hx]; rfl
          simp only [List.mapM_cons, Sem.run_bind, Sem.run_pure, Result.andThen_ok, hA, hc, h3]
        | _ => rw [hq] at hv; simp [evalR] at hv
      · cases h2
    · cases h1

/-- What is known of the translations that calls use. -/
def FsOk (P : Program) (fs : FuncId → Option SFunc) : Prop := ∀ f sf, fs f = some sf → ∃ fn keep np, P.funcs[f]? = some fn ∧ cFunc P keep np fn = some sf

theorem runFn_sound (hcf : CfSound P cf) {f : FuncId} {fn : Func} (hf : P.funcs[f]? = some fn) {keep : Bool} {np : Nat} {sf : SFunc} (hc : cFunc P keep np fn = some sf) (n : Nat) {vs : List AV} {h : H} {v : AV} {h' : H} (hr : runFn cf (itn n) sf vs h = some (v, h')) :
    fnOk P f = true ∧ ∀ (σ : Inj) (w : World) (cs : List Value), Rep σ h w → VRels σ vs cs → Calls P f cs.toArray w fun e w' => ∃ c σ', e = .returned c ∧ VRel σ' v c ∧ Rep σ' h' w' ∧ Ext σ h w σ' h' w' := by
  unfold cFunc at hc
  split at hc
  · cases hc
  · rename_i code hb
    split at hc
    · cases hc
    · rename_i hname
      split at hc
      · rename_i sc rs hsc hrs
        cases hc
        refine ⟨by simp [fnOk, hf, hb, hname], fun σ w cs r hvs => ?_⟩
        have ht := trans_live (trans_of code sc hsc) fn.ntmps (finBits rs) [] (finBits rs)
        unfold runFn at hr
        simp only at hr
        split at hr
        · rename_i hlen
          have hcl := vrels_len hvs
          have henv : EnvRel σ (vs ++ List.replicate (fn.ntmps - np) (.tuple [])) ⟨cs.toArray ++ Array.replicate (fn.ntmps - cs.toArray.size) Go.undef, []⟩ := by
            refine ⟨by simp; omega, fun t => ?_, rfl⟩
            rw [List.getD_eq_getElem?_getD, Array.getD_eq_getD_getElem?]
            by_cases hlt : t < vs.length
            · rw [List.getElem?_append_left hlt, Array.getElem?_append_left (by simp; omega)]
              obtain ⟨x, hx⟩ : ∃ x, vs[t]? = some x := ⟨_, List.getElem?_eq_getElem hlt⟩
              obtain ⟨c, hc1, hc2⟩ := vrels_get hvs hx
              simp [hx, hc1, hc2]
            · rw [List.getElem?_append_right (by omega), Array.getElem?_append_right (by simp; omega)]
              rw [List.getElem?_replicate, Array.getElem?_replicate]
              have hsz : cs.toArray.size = vs.length := by simp [hcl]
              rw [hsz, hlen]
              split
              · simp [VRel, VRels, Go.undef]
              · simp [VRel]
          refine calls_of_wp hf hb ?_
          unfold endFn at hr
          split at hr
          · cases hr
          · rename_i x env2 h2 hne hx
            refine exec_wp hcf n ht _ h x env2 h2 hx _ w σ _ henv r ?_
            intro a' w' σ' he' r' hext
            simp only [Option.map_eq_some_iff, Prod.mk.injEq] at hr
            obtain ⟨l, hl, rfl, rfl⟩ := hr
            obtain ⟨rcs, g1, g2⟩ := res_run r' he' fn.results.toList rs l hrs hl
            have hres : ∃ c, (results fn a'.tmps).run P w' = .ok c w' ∧ VRel σ' (resOf l) c := by
              have hm : (results fn a'.tmps).run P w' = .ok (if hh : rcs.toArray.size = 1 then rcs.toArray[0] else .tuple rcs.toArray) w' := by
                unfold results
                rw [Array.mapM_eq_mapM_toList]
                simp only [Sem.run_bind, Sem.run_map]
                erw [g1]
                rfl
              refine ⟨_, hm, ?_⟩
              have hll := vrels_len g2
              match l, rcs, g2 with
              | [], [], _ => simp [resOf, VRel, VRels]
              | [a], [b], g2 => simpa [resOf] using g2.1
              | a :: b :: l, c :: d :: m, g2 => simp only [resOf]; rw [dif_neg (by simp)]; simpa [VRel] using g2
            obtain ⟨c, hc1, hc2⟩ := hres
            cases x with
            | normal => exact ⟨he'.defers, c, hc1, c, σ', rfl, hc2, r', hext⟩
            | exit id => exact absurd rfl (hne id)
            | ret => exact ⟨he'.defers, c, hc1, c, σ', rfl, hc2, r', hext⟩
          · cases hr
        · cases hr
      · cases hc

theorem callN_sound {fs : FuncId → Option SFunc} (hfs : FsOk P fs) {ex : FuncId → List AV → M AV} (hex : CfSound P ex) : ∀ n, CfSound P (callN fs ex n)
  | 0 => fun f vs h v h' hr => by
    simp only [callN] at hr
    split at hr
    · cases hr
    · exact hex f vs h v h' hr
  | n + 1 => fun f vs h v h' hr => by
    simp only [callN] at hr
    split at hr
    · rename_i sf hsf
      obtain ⟨fn, keep, np, hf, hc⟩ := hfs f sf hsf
      exact runFn_sound (callN_sound hfs hex n) hf hc n hr
    · exact hex f vs h v h' hr

theorem noEx_sound : CfSound P noEx := fun f vs h v h' hr => by simp [noEx] at hr

end
end Go.Eng
