/- The engine, part M: regions that draw their order, whole. -/
import Derived.Test.YtgnenipkebelfaaGreatDoorEngL
set_option linter.unusedVariables false
set_option linter.unusedSimpArgs false
namespace Go.Eng
open Go

theorem Ext.pushes {σ : Inj} {h h' : H} {w : World} (r : Rep σ h w) (hlen : h.length ≤ h'.length) (hold : ∀ b : Nat, b < h.length → h'[b]? = h[b]?) : Ext σ h w σ h' w := by
  refine ⟨hlen, fun _ _ h => h, fun b hb hs => ⟨hs, hold b hb⟩, rfl, rfl, rfl, Nat.le_refl _, fun _ _ _ => rfl, ?_⟩
  rintro cb _ ⟨b, l, hb, rfl, ho⟩
  rw [hold b (r.dom b l hb)] at ho
  exact ⟨b, l, hb, rfl, ho⟩

/-- A block that was told before takes its place. -/
theorem Ext.float {σ0 σ : Inj} {h0 h : H} {w0 w w' : World} (x : Ext σ0 h0 w0 σ h w) {id : Nat} (hid : σ id = none) (hlow : h0.length ≤ id) {l : Loc} (hl : l.cb = w.heap.size) {obj : Obj} (hg : Grew w w' obj) : Ext σ0 h0 w0 (σ.bind id l) h w' := by
  refine ⟨x.len, fun b m hb => le_bind hid b m (x.inj b m hb), ?_, hg.tape.trans x.tape, hg.os.trans x.os, hg.output.trans x.output, ?_, ?_, ?_⟩
  · intro b hb hs
    refine ⟨?_, (x.non b hb hs).2⟩
    unfold Inj.bind
    rw [if_neg (by omega)]
    exact (x.non b hb hs).1
  · have := x.size; rw [hg.heap]; simp; omega
  · intro cb hcb hn
    rw [heap_push hg.heap (by have := x.size; omega)]
    exact x.old cb hcb hn
  · rintro cb hcb ⟨b, m, hb, rfl, ho⟩
    by_cases e : b = id
    · subst e
      have hm : l = m := by simpa [Inj.bind] using hb
      subst hm
      have := x.size
      omega
    · have hm : σ b = some m := by simpa [Inj.bind, e] using hb
      exact x.own _ hcb ⟨b, m, hm, rfl, ho⟩

section
variable {P : Program} {cf : FuncId → List AV → M AV}

/-- What slot t holds when the operations of D are done. -/
def Cur (sops : List SOper) (D : Array Bool) (env0 E : Env) (t : Nat) (v : AV) : Prop :=
  (∃ (i : Nat) (s : SOper), sops[i]? = some s ∧ s.dst = some t ∧ D.getD i false = true ∧ v = E.getD t .undef) ∨
  ((∀ (i : Nat) (s : SOper), sops[i]? = some s → s.dst = some t → D.getD i false = false) ∧ v = env0.getD t .undef)

theorem getD_tf {D : Array Bool} {i : Nat} (h : D.getD i true = false) : D.getD i false = false := by
  rw [Array.getD_eq_getD_getElem?] at *
  cases hq : D[i]? with
  | none => rfl
  | some b => rw [hq] at h; simpa using h

theorem getD_set {D : Array Bool} {i j : Nat} (hi : i < D.size) : (D.setIfInBounds i true).getD j false = if j = i then true else D.getD j false := by
  rw [Array.getD_eq_getD_getElem?, Array.getD_eq_getD_getElem?, Array.getElem?_setIfInBounds]
  by_cases e : i = j
  · subst e; simp [hi]
  · rw [if_neg e, if_neg (Ne.symm e)]

structure Inv (P : Program) (keep : Bool) (cf : FuncId → List AV → M AV) (ops : Array Oper) (sops : List SOper) (pl : List (List Nat)) (env0 : Env) (σ0 : Inj) (h0 : H) (w0 : World) (X : List Nat) (E : Env) (h : H) (D : Array Bool) (σ : Inj) (bid : Nat → Nat) (a : Act) (w : World) : Prop where
  can : Can sops pl env0 X E
  facts : Facts cf sops pl env0 h0.length (fun j => ¬ D.getD j false = true) (fun j => D.getD j false = true) σ X E h bid
  rep : Rep σ h w
  ext : Ext σ0 h0 w0 σ h w
  dsz : D.size = ops.size
  dcl : ClosedD ops D
  dsub : ∀ j, D.getD j false = true → j ∈ X
  hvs : ∀ j ∈ X, isHeavyAt sops j = true → D.getD j false = true
  slots : ∀ t v, Cur sops D env0 E t v → VRel σ v (a.tmps.getD t Go.undef)
  alen : env0.length ≤ a.tmps.size
  defers : a.defers = []

theorem depsOf_binds {o : Oper} {e : Nat} (he : e ∈ depsOf o) : ∃ x ∈ o.after, Region.binds .any x = true ∧ x.on = e := by
  unfold depsOf at he
  obtain ⟨x, hx, rfl⟩ := List.mem_map.1 he
  obtain ⟨h1, h2⟩ := List.mem_filter.1 hx
  exact ⟨x, Array.mem_toList_iff.1 h1, h2, rfl⟩

/-- What an operation sees that is ready, as the program has it. -/
theorem view_rel {keep : Bool} {ops : Array Oper} {sops : List SOper} {pl : List (List Nat)} (st : Stat P keep ops sops pl) {env0 E : Env} {σ0 σ : Inj} {h0 h : H} {w0 w : World} {X : List Nat} {D : Array Bool} {bid : Nat → Nat} {a : Act}
    (inv : Inv P keep cf ops sops pl env0 σ0 h0 w0 X E h D σ bid a w) {i : Nat} {o : Oper} {s : SOper} (ho : ops[i]? = some o) (hs : sops[i]? = some s) (hnd : D.getD i false = false) (hd : ∀ e ∈ depsOf o, D.getD e false = true) :
    EnvRel σ (view sops pl env0 E i s) a := by
  have hpl := closed_pl st inv.dsz inv.dcl i o ho hd
  refine ⟨by unfold view; rw [List.length_map, List.length_range, inv.can.len]; exact inv.alen, fun t => ?_, inv.defers⟩
  rw [view_get]
  split
  · rename_i ht
    split
    · rename_i hp
      obtain ⟨k, sk, h1, h2, h3⟩ := pw_iff.1 hp
      exact inv.slots t _ (.inl ⟨k, sk, h1, h2, hpl k h3, rfl⟩)
    · rename_i hp
      refine inv.slots t _ (.inr ⟨?_, rfl⟩)
      intro k sk h1 h2
      rcases st.ord i k s sk t hs h1 h2 ht.2 with h3 | ⟨_, h3⟩
      · exact absurd (pw_iff.2 ⟨k, sk, h1, h2, h3⟩) hp
      · cases hq : D.getD k false with
        | false => rfl
        | true =>
          exfalso
          obtain ⟨ok, hok⟩ : ∃ ok, ops[k]? = some ok := ⟨_, Array.getElem?_eq_getElem (by have := (List.getElem?_eq_some_iff.1 h1).1; rw [st.len]; exact this)⟩
          have := closed_pl st inv.dsz inv.dcl k ok hok (inv.dcl k ok hok hq) i h3
          rw [hnd] at this; cases this
  · simp [VRel]

theorem any_wp (hcf : CfSound P cf) {keep : Bool} {ops : Array Oper} {sops : List SOper} {pl : List (List Nat)} (st : Stat P keep ops sops pl) {env0 Ef : Env} {hf : H} {σ0 : Inj} {h0 : H} {w0 : World} {Q : Exit → Act → World → Prop}
    (hQ : ∀ a' w' σ', EnvRel σ' Ef a' → Rep σ' hf w' → Ext σ0 h0 w0 σ' hf w' → Q .normal a' w') :
    ∀ (fuel : Nat) (X : List Nat) (E : Env) (h : H) (hv : Option Nat) (rest : List IStage) (D : Array Bool) (σ : Inj) (bid : Nat → Nat) (a : Act) (w : World) (U : List Nat), U.length ≤ fuel → (∀ j, j < ops.size → D.getD j false = false → j ∈ U) →
      NextOk sops pl X hv rest → RunOn cf sops E h Ef hf rest hv → Inv P keep cf ops sops pl env0 σ0 h0 w0 X E h D σ bid a w → wpAny P .any ops Q fuel D a w := by
  -- when all is done
  have fin : ∀ (X : List Nat) (E : Env) (h : H) (hv : Option Nat) (rest : List IStage) (D : Array Bool) (σ : Inj) (bid : Nat → Nat) (a : Act) (w : World),
      NextOk sops pl X hv rest → RunOn cf sops E h Ef hf rest hv → Inv P keep cf ops sops pl env0 σ0 h0 w0 X E h D σ bid a w → (∀ j, j < ops.size → D.getD j false = true) → Q .normal a w := by
    intro X E h hv rest D σ bid a w hn hr inv hall
    have hlen := st.len
    cases hv with
    | some i =>
      obtain ⟨n1, n2, _⟩ := hn.next
      have hi : i < sops.length := by
        unfold isHeavyAt at n1
        split at n1
        · rename_i s hs; exact (List.getElem?_eq_some_iff.1 hs).1
        · cases n1
      exact absurd (inv.dsub i (hall i (by omega))) n2
    | none =>
      obtain ⟨rfl, rfl⟩ := hr
      refine hQ a w σ ⟨by rw [inv.can.len]; exact inv.alen, fun t => ?_, inv.defers⟩ inv.rep inv.ext
      refine inv.slots t _ ?_
      by_cases hw : ∃ (i : Nat) (s : SOper), sops[i]? = some s ∧ s.dst = some t
      · obtain ⟨i, s, h1, h2⟩ := hw
        exact .inl ⟨i, s, h1, h2, hall i (by have := (List.getElem?_eq_some_iff.1 h1).1; omega), rfl⟩
      · right
        refine ⟨fun i s h1 h2 => absurd ⟨i, s, h1, h2⟩ hw, ?_⟩
        exact inv.can.base t fun i s h1 h2 => absurd ⟨i, s, h1, h2⟩ hw
  -- when nothing is ready
  have idle : ∀ (D : Array Bool), D.size = ops.size → Region.ready .any ops D = [] → ∀ j, j < ops.size → D.getD j false = true := by
    intro D hsz hr j
    induction j using Nat.strongRecOn with
    | _ j ih =>
      intro hj
      cases hq : D.getD j false with
      | true => rfl
      | false =>
        exfalso
        obtain ⟨o, ho⟩ : ∃ o, ops[j]? = some o := ⟨_, Array.getElem?_eq_getElem hj⟩
        have : j ∈ Region.ready .any ops D := by
          refine mem_ready.2 ⟨?_, o, ho, fun e he hb => ?_⟩
          · rw [Array.getD_eq_getD_getElem?] at hq ⊢
            rw [Array.getElem?_eq_getElem (by omega)] at hq ⊢
            simpa using hq
          · have hlt := st.back j o ho e.on (by unfold depsOf; exact List.mem_map.2 ⟨e, List.mem_filter.2 ⟨Array.mem_toList_iff.2 he, hb⟩, rfl⟩)
            exact ih e.on hlt (by omega)
        rw [hr] at this
        cases this
  intro fuel
  induction fuel with
  | zero =>
    intro X E h hv rest D σ bid a w U hU hUm hn hr inv
    have hU0 : U = [] := List.length_eq_zero_iff.1 (by omega)
    subst hU0
    have hall : ∀ j, j < ops.size → D.getD j false = true := by
      intro j hj
      cases hq : D.getD j false with
      | true => rfl
      | false => have := hUm j hj hq; cases this
    refine ⟨?_, fin X E h hv rest D σ bid a w hn hr inv hall⟩
    cases hq : Region.ready .any ops D with
    | nil => rfl
    | cons j js =>
      exfalso
      obtain ⟨h1, o, ho, _⟩ := mem_ready.1 (show j ∈ Region.ready .any ops D by rw [hq]; simp)
      have := hall j (Array.getElem?_eq_some_iff.1 ho).1
      rw [getD_tf h1] at this; cases this
  | succ fuel ih =>
    intro X E h hv rest D σ bid a w U hU hUm hn hr inv
    refine ⟨fun hemp => fin X E h hv rest D σ bid a w hn hr inv (idle D inv.dsz hemp), fun i hi => ?_⟩
    obtain ⟨hi1, o, ho, hdeps⟩ := mem_ready.1 hi
    have hnd := getD_tf hi1
    have hin : i < ops.size := (Array.getElem?_eq_some_iff.1 ho).1
    have hins : i < sops.length := by rw [← st.len]; exact hin
    obtain ⟨s, hs⟩ : ∃ s, sops[i]? = some s := ⟨_, List.getElem?_eq_getElem hins⟩
    have hd : ∀ e ∈ depsOf o, D.getD e false = true := by
      intro e he
      obtain ⟨x, hx, hb, rfl⟩ := depsOf_binds he
      exact hdeps x hx hb
    obtain ⟨o', ho', hok⟩ := st.ok i s hs
    rw [ho] at ho'; cases ho'
    have hpl := closed_pl st inv.dsz inv.dcl i o ho hd
    have henv := view_rel st inv ho hs hnd hd
    -- what is left
    have hU' : (U.erase i).length ≤ fuel := by rw [List.length_erase_of_mem (hUm i hin hnd)]; omega
    have hUm' : ∀ j, j < ops.size → (D.setIfInBounds i true).getD j false = false → j ∈ U.erase i := by
      intro j hj hq
      rw [getD_set (by rw [inv.dsz]; exact hin)] at hq
      split at hq
      · cases hq
      · rename_i hne
        exact (List.mem_erase_of_ne hne).2 (hUm j hj hq)
    have hset : ∀ j, (D.setIfInBounds i true).getD j false = if j = i then true else D.getD j false := fun j => getD_set (by rw [inv.dsz]; exact hin)
    have hcl' : ClosedD ops (D.setIfInBounds i true) := by
      intro j oj hoj hj e he
      rw [hset] at hj ⊢
      split at hj
      · rename_i e1; subst e1
        rw [ho] at hoj; cases hoj
        split
        · rfl
        · exact hd e he
      · split
        · rfl
        · exact inv.dcl j oj hoj hj e he
    have hdst := hok.1
    -- the slots behind it
    have slots' : ∀ (E' : Env) (σ' : Inj) (c : Value) (a' : Act), σ.le σ' → a'.tmps = (a.put o.dst c).tmps → (∀ d, s.dst = some d → VRel σ' (E'.getD d .undef) c ∨ ¬ d < E'.length) → (∀ t, s.dst ≠ some t → (∃ (k : Nat) (sk : SOper), sops[k]? = some sk ∧ sk.dst = some t ∧ D.getD k false = true) → E'.getD t .undef = E.getD t .undef) →
        ∀ t v, Cur sops (D.setIfInBounds i true) env0 E' t v → E'.length = env0.length → VRel σ' v (a'.tmps.getD t Go.undef) := by
      intro E' σ' c a' hle ha' hself hkeep t v hc hlen'
      rw [ha']
      by_cases hdt : s.dst = some t
      · have hodst : o.dst = some t := by rw [← hdst]; exact hdt
        rcases hc with ⟨k, sk, k1, k2, k3, rfl⟩ | ⟨k1, rfl⟩
        · rcases hself t hdt with hv | hge
          · simp only [hodst, Act.put]
            rw [Array.getD_eq_getD_getElem?, Array.getElem?_setIfInBounds]
            simp only [if_true]
            split
            · exact hv
            · rename_i hge
              have : ¬ t < E'.length := by rw [hlen']; have := inv.alen; omega
              rw [getD_ge this]; simp [VRel]
          · rw [getD_ge hge]; simp [VRel]
        · have := k1 i s hs hdt
          rw [hset, if_pos rfl] at this; cases this
      · have hodst : o.dst ≠ some t := by rw [← hdst]; exact hdt
        have hat : (a.put o.dst c).tmps.getD t Go.undef = a.tmps.getD t Go.undef := by
          cases hq : o.dst with
          | none => rfl
          | some d =>
            have hne : d ≠ t := by intro e; subst e; exact hodst hq
            simp only [Act.put]
            rw [Array.getD_eq_getD_getElem?, Array.getElem?_setIfInBounds, if_neg hne, Array.getD_eq_getD_getElem?]
        rw [hat]
        refine vrel_le hle _ _ (inv.slots t v ?_)
        rcases hc with ⟨k, sk, k1, k2, k3, rfl⟩ | ⟨k1, rfl⟩
        · left
          have hki : k ≠ i := by intro e; subst e; rw [hs] at k1; cases k1; exact hdt k2
          rw [hset, if_neg hki] at k3
          exact ⟨k, sk, k1, k2, k3, hkeep t hdt ⟨k, sk, k1, k2, k3⟩⟩
        · right
          refine ⟨fun k sk q1 q2 => ?_, rfl⟩
          have := k1 k sk q1 q2
          rw [hset] at this
          split at this
          · cases this
          · exact this
    by_cases hh : isHeavyAt sops i = true
    · -- a heavy one: it is the next
      have hiX : i ∉ X := fun hm => by have := inv.hvs i hm hh; rw [hnd] at this; cases this
      cases hv with
      | none => exact absurd (hn.next.2 i hins) hiX
      | some k =>
        obtain ⟨n1, n2, n3, n4, n5, n6⟩ := hn.next
        have hik : i = k := by
          rcases n4 i hins hh with hq | hq | hq
          · exact absurd hq hiX
          · exact hq
          · have := hpl k hq
            exact absurd (inv.dsub k this) n2
        subst hik
        obtain ⟨s', E1, h1, hs', hst, hrun⟩ := hr
        rw [hs] at hs'; cases hs'
        rw [stepOp_eq] at hst
        simp only [Option.map_eq_some_iff, Prod.mk.injEq] at hst
        obtain ⟨⟨v, h2⟩, hv2, rfl, rfl⟩ := hst
        have hvn := view_now st inv.can hs n2 n3
        have hvv : stepV cf s (view sops pl env0 E i s) h = some (v, h2) := by rw [stepV_congr cf hvn]; exact hv2
        refine stepV_wp hcf hok ho henv inv.rep hvv _ Q fun c w' σ' hr' hrep hext => ?_
        obtain ⟨s2, ss2, rfl⟩ : ∃ s2 ss2, rest = s2 :: ss2 := by cases rest with | nil => exact absurd rfl n5 | cons x xs => exact ⟨x, xs, rfl⟩
        have can1 := can_put st inv.can hs n3 v
        have hlenE : (E.put s.dst v).length = E.length := by cases s.dst <;> simp [Env.put]
        -- the facts behind the heavy one: reads are to be done anew
        have facts1 : Facts cf sops pl env0 h0.length (fun _ => False) (fun j => (D.setIfInBounds i true).getD j false = true) σ' (i :: X) (E.put s.dst v) h2 bid := by
          refine ⟨?_, ?_, ?_⟩
          · intro j hj sj hsj hhv
            rcases List.mem_cons.1 hj with e | e
            · subst e
              rw [hs] at hsj; cases hsj
              simp [isHeavyAt, hs, hhv] at hh
            · have hji : j ≠ i := fun q => n2 (q ▸ e)
              obtain ⟨u, u1, u2⟩ := inv.facts.all j e sj hsj hhv
              refine ⟨u, ?_, ?_⟩
              · intro d hdj hlt
                rw [put_other st hs v (fun q => hji (st.uniq j i sj s d hsj hs hdj q))]
                exact u1 d hdj (by omega)
              · rw [view_put st inv.can hs n2 v e sj]
                cases hop : sj.op with
                | p q => rw [hop] at u2; exact u2
                | r q => rw [hop] at u2; exact ⟨u2.1, fun hf => hf.elim⟩
                | h q => rw [hop] at u2; exact u2
                | a q =>
                  rw [hop] at u2
                  rcases u2 with u2 | ⟨a1, blk, k, a2, a3, a4, a5⟩
                  · exact .inl u2
                  · right
                    refine ⟨a1, blk, k, a2, a3, Nat.lt_of_lt_of_le a4 hext.len, fun hnj => ?_⟩
                    have hnj' : ¬ (D.setIfInBounds i true).getD j false = true := hnj
                    rw [hset, if_neg hji] at hnj'
                    obtain ⟨b1, b2⟩ := a5 hnj'
                    obtain ⟨c1, c2⟩ := hext.non _ a4 b1
                    exact ⟨c1, c2.trans b2⟩
          · intro j hj j' hj' hne m1 m2
            have nohv : ∀ k, MakesAt sops pl env0 (E.put s.dst v) k → k ≠ i := by
              rintro k ⟨sk, op, k1, k2, _⟩ rfl
              rw [hs] at k1; cases k1
              simp [isHeavyAt, hs, SOper.heavy, k2] at hh
            have hjX : j ∈ X := (List.mem_cons.1 hj).resolve_left (nohv j m1)
            have hjX' : j' ∈ X := (List.mem_cons.1 hj').resolve_left (nohv j' m2)
            exact inv.facts.inj j hjX j' hjX' hne (makesAt_put st inv.can hs n2 v hjX m1) (makesAt_put st inv.can hs n2 v hjX' m2)
          · intro j hj m1
            have hji : j ≠ i := by
              rintro rfl
              obtain ⟨sk, op, k1, k2, _⟩ := m1
              rw [hs] at k1; cases k1
              simp [isHeavyAt, hs, SOper.heavy, k2] at hh
            have hjX : j ∈ X := (List.mem_cons.1 hj).resolve_left hji
            exact inv.facts.low j hjX (makesAt_put st inv.can hs n2 v hjX m1)
        obtain ⟨Y, E2, h3, bid', c1, c2, c3, c4, c5, c6, c7, c8, c9, c10⟩ := enter st n6 hrun can1 facts1 hrep (by
            intro j hj
            rw [hset] at hj
            split at hj
            · rename_i e; subst e; simp
            · exact List.mem_cons_of_mem _ (inv.dsub j hj)) (by
            intro k hk hkh j hj
            rw [hset]
            split
            · rfl
            · rcases List.mem_cons.1 hk with e | e
              · subst e; exact hpl j hj
              · have hkD := inv.hvs k e hkh
                have hkn : k < ops.size := by
                  unfold isHeavyAt at hkh
                  split at hkh
                  · rename_i sk hsk; rw [st.len]; exact (List.getElem?_eq_some_iff.1 hsk).1
                  · cases hkh
                obtain ⟨ok, hok'⟩ : ∃ ok, ops[k]? = some ok := ⟨_, Array.getElem?_eq_getElem hkn⟩
                exact closed_pl st inv.dsz inv.dcl k ok hok' (inv.dcl k ok hok' hkD) j hj) (Nat.le_trans inv.ext.len hext.len)
        refine ih Y E2 h3 s2.heavy ss2 (D.setIfInBounds i true) σ' bid' (a.put o.dst c) w' (U.erase i) hU' hUm' c4 c5 ⟨c1, c2, c3, (inv.ext.trans hext).trans (Ext.pushes hrep c8 c9), by simp [inv.dsz], hcl', ?_, ?_, ?_, ?_, ?_⟩
        · intro j hj
          rw [hset] at hj
          refine c6 j ?_
          split at hj
          · rename_i e; subst e; simp
          · exact List.mem_cons_of_mem _ (inv.dsub j hj)
        · intro j hj hjh
          rw [hset]
          split
          · rfl
          · rename_i hne
            rcases c7 j hj with hq | hq
            · exact inv.hvs j ((List.mem_cons.1 hq).resolve_left hne) hjh
            · rw [hq] at hjh; cases hjh
        · intro t u hc
          refine slots' E2 σ' c (a.put o.dst c) hext.inj rfl ?_ ?_ t u hc c1.len
          · intro d hdd
            by_cases hlt : d < E2.length
            · left
              -- the slot that the heavy one wrote: nobody wrote it since
              have hE2 : E2.getD d .undef = v := by
                rw [c10 d i s (by simp) hs hdd, hdd]
                have hlt' : d < E.length := by rw [inv.can.len, ← c1.len]; exact hlt
                simp [Env.put, List.getD_eq_getElem?_getD, hlt']
              rw [hE2]; exact hr'
            · exact .inr hlt
          · rintro t' ht' ⟨k, sk, k1, k2, k3⟩
            rw [c10 t' k sk (List.mem_cons_of_mem _ (inv.dsub k k3)) k1 k2]
            exact put_other st hs v ht'
        · cases o.dst <;> simp [Act.put, inv.alen]
        · cases o.dst <;> simp [Act.put, inv.defers]
    · -- a light one: the canonical run has done it
      have hhf : s.heavy = false := by
        cases hq : s.heavy with
        | false => rfl
        | true => simp [isHeavyAt, hs, hq] at hh
      have hiX : i ∈ X := by
        rcases hn.maxi i hins with hq | hq | ⟨k, k1, k2, k3⟩
        · exact absurd hq hh
        · exact hq
        · exact absurd (inv.dsub k (hpl k k1)) k3
      obtain ⟨v, v1, v2⟩ := inv.facts.all i hiX s hs hhf
      have cont : ∀ (c : Value) (w' : World) (σ' : Inj), VRel σ' v c → Rep σ' h w' → Ext σ0 h0 w0 σ' h w' → σ.le σ' → (∀ j ∈ X, j ≠ i → MakesAt sops pl env0 E j → bid j < h.length → σ (bid j) = none → σ' (bid j) = none) → wpAny P .any ops Q fuel (D.setIfInBounds i true) (a.put o.dst c) w' := by
        intro c w' σ' hr' hrep hext hle hnone
        refine ih X E h hv rest (D.setIfInBounds i true) σ' bid (a.put o.dst c) w' (U.erase i) hU' hUm' hn hr ⟨inv.can, ⟨?_, inv.facts.inj, inv.facts.low⟩, hrep, hext, by simp [inv.dsz], hcl', ?_, ?_, ?_, ?_, ?_⟩
        · intro j hj sj hsj hhv
          obtain ⟨u, u1, u2⟩ := inv.facts.all j hj sj hsj hhv
          refine ⟨u, u1, ?_⟩
          cases hop : sj.op with
          | p q => rw [hop] at u2; exact u2
          | r q =>
            rw [hop] at u2
            refine ⟨u2.1, fun hf => u2.2 fun hq => hf ?_⟩
            show (D.setIfInBounds i true).getD j false = true
            rw [hset]; split
            · rfl
            · exact hq
          | h q => rw [hop] at u2; exact u2
          | a q =>
            rw [hop] at u2
            rcases u2 with u2 | ⟨a1, blk, k, a2, a3, a4, a5⟩
            · exact .inl u2
            · right
              refine ⟨a1, blk, k, a2, a3, a4, fun hnj => ?_⟩
              have hnj' : ¬ (D.setIfInBounds i true).getD j false = true := hnj
              rw [hset] at hnj'
              have hji : j ≠ i := by intro e; subst e; simp at hnj'
              rw [if_neg hji] at hnj'
              obtain ⟨b1, b2⟩ := a5 hnj'
              exact ⟨hnone j hj hji ⟨sj, q, hsj, hop, a1⟩ a4 b1, b2⟩
        · intro j hj
          rw [hset] at hj
          split at hj
          · rename_i e; subst e; exact hiX
          · exact inv.dsub j hj
        · intro j hj hjh
          rw [hset]
          split
          · rfl
          · exact inv.hvs j hj hjh
        · intro t u hc
          refine slots' E σ' c (a.put o.dst c) hle rfl ?_ ?_ t u hc inv.can.len
          · intro d hdd
            by_cases hlt : d < E.length
            · left; rw [v1 d hdd hlt]; exact hr'
            · exact .inr hlt
          · exact fun _ _ _ => rfl
        · cases o.dst <;> simp [Act.put, inv.alen]
        · cases o.dst <;> simp [Act.put, inv.defers]
      have plain : stepV cf s (view sops pl env0 E i s) h = some (v, h) → wpOp P ops Q i (wpAny P .any ops Q fuel (D.setIfInBounds i true)) a w := by
        intro hvv
        refine stepV_wp hcf hok ho henv inv.rep hvv _ Q fun c w' σ' hr' hrep hext => ?_
        exact cont c w' σ' hr' hrep (inv.ext.trans hext) hext.inj fun j _ _ _ hlt hno => (hext.non _ hlt hno).1
      cases hop : s.op with
      | p q => rw [hop] at v2; exact plain (v2 h)
      | r q => rw [hop] at v2; exact plain (v2.2 (by show ¬ D.getD i false = true; rw [hnd]; simp))
      | h q => simp [SOper.heavy, hop] at hhf
      | a q =>
        rw [hop] at v2
        rcases v2 with ⟨w1, rfl⟩ | ⟨w1, blk, k, w2, w3, w4, w5⟩
        · refine plain ?_
          unfold stepV
          rw [w1]
        · obtain ⟨b1, b2⟩ := w5 (by show ¬ D.getD i false = true; rw [hnd]; simp)
          refine float_wp hok ho hop henv inv.rep w1 w2 b1 b2 _ Q fun c w' l hr' hrep _ hl hobj => ?_
          obtain ⟨obj, hg⟩ := hobj
          have hmi : MakesAt sops pl env0 E i := ⟨s, q, hs, hop, w1⟩
          refine cont c w' (σ.bind (bid i) l) (by rw [w3]; exact hr') hrep (inv.ext.float b1 (inv.facts.low i hiX hmi) hl hg) (le_bind b1) ?_
          intro j hj hji hmj _ hno
          unfold Inj.bind
          rw [if_neg (inv.facts.inj j hj i hiX hji hmj hmi)]
          exact hno

end
end Go.Eng
