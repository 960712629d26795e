/- The engine, part J: every operation that the translation takes is sound. -/
import Derived.Test.YtgnenipkebelfaaGreatDoorEngI
set_option linter.unusedVariables false
set_option linter.unusedSimpArgs false
namespace Go.Eng
open Go

section
variable {P : Program} {σ : Inj} {h : H} {w : World} {ρ : Operand → Value}

theorem sound_p {keep : Bool} {o : Op} {pop : POp} {xs : List Operand} (hc : cOp P keep o = some (.p pop, xs)) {vs : List AV} {v : AV} (hv : VRels σ vs (xs.map ρ)) (he : evalP pop vs = some v) : Yield P σ ρ o v := by
  cases o <;> simp only [cOp] at hc <;> try (cases hc; done)
  case move x => cases hc; exact yield_move hv he
  case assign x => cases hc; exact yield_assign hv he
  case pick a b c => cases hc; exact yield_pick hv he
  case alloc t => simp only [Option.bind_eq_some_iff] at hc; obtain ⟨z, _, a, _, hc⟩ := hc; cases hc
  case box t x => split at hc <;> simp at hc
  case build t ps =>
    split at hc
    · rename_i fs hu
      split at hc
      · cases hc
      · rename_i hinf
        simp only [Option.bind_eq_some_iff, Option.some.injEq, Prod.mk.injEq, SOp.p.injEq] at hc
        obtain ⟨z, hz, l, hl, hpop, hxs⟩ := hc
        subst hpop hxs
        refine yield_build hu ?_ hz hl ?_ he
        · intro f hf
          have : (fs.toList.all fun f => (P.info? f.type).isSome) = true := by
            cases hq : (fs.toList.all fun f => (P.info? f.type).isSome) with
            | true => rfl
            | false => rw [hq] at hinf; simp at hinf
          exact List.all_eq_true.1 this f hf
        · simpa [Op.operands] using hv
    · cases hc
  case buildSlice t len ps =>
    split at hc
    · simp only [Option.bind_eq_some_iff] at hc; obtain ⟨z, _, hc⟩ := hc; split at hc <;> simp at hc
    · cases hc
  case load t x => simp only [Option.bind_eq_some_iff] at hc; obtain ⟨z, _, hc⟩ := hc; simp at hc
  case store t x y => split at hc <;> simp at hc
  case nilCheck x => cases hc; exact yield_nilCheck hv he
  case binOp op t x y ty =>
    split at hc
    · cases hc; exact yield_bin hv he
    · cases hc; exact yield_bin hv he
    · split at hc
      · simp only [Option.bind_eq_some_iff, Option.some.injEq, Prod.mk.injEq, SOp.p.injEq] at hc
        obtain ⟨s, hs, hpop, hxs⟩ := hc
        subst hpop hxs
        exact yield_eq (.inl ⟨rfl, rfl⟩) hs hv he
      · simp only [Option.bind_eq_some_iff, Option.some.injEq, Prod.mk.injEq, SOp.p.injEq] at hc
        obtain ⟨s, hs, hpop, hxs⟩ := hc
        subst hpop hxs
        exact yield_eq (.inr ⟨rfl, rfl⟩) hs hv he
      · cases hc
    · cases hc
  case unOp op t x =>
    split at hc
    · cases hc; exact yield_neg hv he
    · cases hc; exact yield_inv hv he
    · cases hc; exact yield_not hv he
    · cases hc
  case convert src dst x =>
    split at hc
    · rename_i hs hd; cases hc; exact yield_convInt hs hd hv he
    · rename_i hs hd; cases hc; exact yield_convStr hs hd hv he
    · split at hc
      · split at hc <;> simp at hc
      · cases hc
    · split at hc
      · split at hc <;> simp at hc
      · cases hc
    · cases hc
  case makeFunc fn first caps =>
    split at hc
    · split at hc
      · rename_i h0; cases hc; exact yield_mkfn h0 hv he
      · cases hc
    · cases hc
  case makeMap t r =>
    split at hc <;> cases hc
  case makeSlice t x y =>
    split at hc
    · simp only [Option.bind_eq_some_iff] at hc; obtain ⟨z, _, hc⟩ := hc; split at hc <;> simp at hc
    · cases hc
  case slice t x lo hi mx =>
    split at hc
    · rename_i hu
      split at hc
      · cases hc
      · rename_i hmx
        cases hc
        have hm : mx = none := by cases mx <;> simp_all
        subst hm
        refine yield_sliceStr hu ?_ he
        simpa [Op.operands] using hv
    · rename_i e hu
      split at hc
      · cases hc
      · rename_i hz
        cases hc
        refine yield_sliceSl hu (fun e => hz (.inl e)) ?_ ?_ he
        · intro hm
          cases hh : hi.isSome with
          | true => rfl
          | false => exact absurd (.inr (by simp [hm, hh])) hz
        · simpa [Op.operands] using hv
    · cases hc
  case fieldAddr s x i =>
    simp only [Option.bind_eq_some_iff] at hc
    obtain ⟨f, hf, hc⟩ := hc
    split at hc
    · cases hc
    · rename_i hz; cases hc; exact yield_fieldAddr hf hz hv he
  case field s x i =>
    simp only [Option.bind_eq_some_iff] at hc
    obtain ⟨f, hf, n, hn, hc⟩ := hc
    cases hc
    exact yield_field hf hn hv he
  case indexAddr t x i =>
    split at hc
    · rename_i e hu
      split at hc
      · cases hc
      · rename_i hz; cases hc; exact yield_indexAddr hu hz hv he
    · cases hc
  case index t x i =>
    split at hc
    · rename_i hu; cases hc; exact yield_indexStr hu hv he
    · cases hc
  case lookup t x i ok =>
    split at hc
    · split at hc
      · split at hc
        · simp only [Option.bind_eq_some_iff] at hc; obtain ⟨z, _, hc⟩ := hc; simp at hc
        · cases hc
      · cases hc
    · cases hc
  case mapUpdate t x y z =>
    split at hc
    · simp only [Option.bind_eq_some_iff] at hc; obtain ⟨z, _, hc⟩ := hc; simp at hc
    · cases hc
  case extract x i => cases hc; exact yield_extract hv he
  case call c =>
    simp only [cCall] at hc
    split at hc
    · split at hc <;> simp at hc
    · simp at hc
    · rename_i b hb
      split at hc
      · split at hc
        · rename_i hu
          split at hc
          · cases hc
          · rename_i h0; cases hc; exact yield_lenStr hb h0 rfl hu hv he
        · rename_i e hu
          split at hc
          · cases hc
          · rename_i h0; cases hc; exact yield_lenSl hb h0 rfl hu hv he
        · split at hc <;> simp at hc
        · cases hc
      · split at hc
        · cases hc
        · split at hc
          · split at hc <;> cases hc
          · split at hc <;> cases hc
          · cases hc
      · cases hc; exact yield_min hb hv he
      · cases hc; exact yield_max hb hv he
      · split at hc
        · cases hc
        · split at hc
          · simp only [Option.bind_eq_some_iff] at hc; obtain ⟨z, _, hc⟩ := hc; split at hc <;> simp at hc
          · cases hc
      · split at hc
        · cases hc
        · split at hc
          · simp at hc
          · cases hc
      · cases hc
    · cases hc

theorem sound_r {keep : Bool} {o : Op} {rop : ROp} {xs : List Operand} (hc : cOp P keep o = some (.r rop, xs)) (r : Rep σ h w) {vs : List AV} {v : AV} (hv : VRels σ vs (xs.map ρ)) (he : evalR rop vs h = some v) : ReadsAs P σ ρ w o v := by
  cases o <;> simp only [cOp] at hc <;> try (cases hc; done)
  case alloc t => simp only [Option.bind_eq_some_iff] at hc; obtain ⟨z, _, a, _, hc⟩ := hc; cases hc
  case box t x => split at hc <;> simp at hc
  case build t ps =>
    split at hc
    · split at hc
      · cases hc
      · simp only [Option.bind_eq_some_iff] at hc
        obtain ⟨z, hz, l, hl, hc⟩ := hc
        simp at hc
    · cases hc
  case buildSlice t len ps =>
    split at hc
    · simp only [Option.bind_eq_some_iff] at hc; obtain ⟨z, _, hc⟩ := hc; split at hc <;> simp at hc
    · cases hc
  case load t x =>
    simp only [Option.bind_eq_some_iff] at hc
    obtain ⟨n, hn, hc⟩ := hc
    cases hc
    exact reads_load r hn hv he
  case store t x y => split at hc <;> simp at hc
  case binOp op t x y ty =>
    split at hc
    · cases hc
    · cases hc
    · split at hc
      · simp only [Option.bind_eq_some_iff] at hc; obtain ⟨z, _, hc⟩ := hc; cases hc
      · simp only [Option.bind_eq_some_iff] at hc; obtain ⟨z, _, hc⟩ := hc; cases hc
      · cases hc
    · cases hc
  case unOp op t x => split at hc <;> cases hc
  case convert src dst x =>
    split at hc
    · cases hc
    · cases hc
    · split at hc
      · split at hc <;> simp at hc
      · cases hc
    · rename_i e hs hd
      split at hc
      · rename_i h8
        split at hc
        · cases hc; exact reads_toStr r hs hd h8 hv he
        · cases hc
      · cases hc
    · cases hc
  case makeFunc fn first caps =>
    split at hc
    · split at hc <;> cases hc
    · cases hc
  case makeMap t r =>
    split at hc <;> cases hc
  case makeSlice t x y =>
    split at hc
    · simp only [Option.bind_eq_some_iff] at hc; obtain ⟨z, _, hc⟩ := hc; split at hc <;> simp at hc
    · cases hc
  case slice t x lo hi mx =>
    split at hc
    · split at hc <;> cases hc
    · split at hc <;> cases hc
    · cases hc
  case fieldAddr s x i =>
    simp only [Option.bind_eq_some_iff] at hc
    obtain ⟨f, hf, hc⟩ := hc
    split at hc <;> cases hc
  case field s x i =>
    simp only [Option.bind_eq_some_iff] at hc
    obtain ⟨f, hf, n, hn, hc⟩ := hc
    cases hc
  case indexAddr t x i =>
    split at hc
    · split at hc <;> cases hc
    · cases hc
  case index t x i => split at hc <;> cases hc
  case lookup t x i ok =>
    split at hc
    · rename_i k e ht
      split at hc
      · rename_i kd hk
        split at hc
        · rename_i zv hz
          simp only [Option.bind_eq_some_iff] at hc
          obtain ⟨z, hzz, hc⟩ := hc
          cases hc
          simp only [Option.map_eq_some_iff] at hz
          obtain ⟨ti, hti, hz⟩ := hz
          exact reads_lookup r ht hk hti hz hzz hv he
        · cases hc
      · cases hc
    · cases hc
  case mapUpdate t x y z =>
    split at hc
    · simp only [Option.bind_eq_some_iff] at hc; obtain ⟨z, _, hc⟩ := hc; simp at hc
    · cases hc
  case call c =>
    simp only [cCall] at hc
    split at hc
    · split at hc <;> simp at hc
    · simp at hc
    · rename_i b hb
      split at hc
      · split at hc
        · split at hc <;> cases hc
        · split at hc <;> cases hc
        · rename_i k e hu
          split at hc
          · cases hc
          · rename_i h0; cases hc; exact reads_lenMap r hb h0 rfl hu hv he
        · cases hc
      · split at hc
        · cases hc
        · split at hc
          · split at hc <;> cases hc
          · split at hc <;> cases hc
          · cases hc
      · cases hc
      · cases hc
      · split at hc
        · cases hc
        · split at hc
          · simp only [Option.bind_eq_some_iff] at hc; obtain ⟨z, _, hc⟩ := hc; split at hc <;> simp at hc
          · cases hc
      · split at hc
        · cases hc
        · split at hc
          · simp at hc
          · cases hc
      · cases hc
    · cases hc

theorem sound_a {keep : Bool} {o : Op} {aop : AOp} {xs : List Operand} (hc : cOp P keep o = some (.a aop, xs)) {vs : List AV} {blk : Blk} {k : Nat → AV} (hv : VRels σ vs (xs.map ρ)) (he : evalA aop vs = some (blk, k)) : Makes P σ ρ w o blk k := by
  cases o <;> simp only [cOp] at hc <;> try (cases hc; done)
  case alloc t =>
    simp only [Option.bind_eq_some_iff] at hc
    obtain ⟨z, hz, a, ha, hc⟩ := hc
    cases hc
    unfold cAlloc at ha
    split at ha
    · rename_i ht
      split at ha
      · rename_i hb
        have := isBld_eq hb
        subst this
        cases ha
        cases vs with
        | nil => simp only [evalA, Option.some.injEq, Prod.mk.injEq] at he; obtain ⟨rfl, rfl⟩ := he; exact makes_newBld ht hz
        | cons a l => simp [evalA] at he
      · cases ha
    · split at ha
      · cases ha
      · cases ha
        cases vs with
        | nil => simp only [evalA, Option.some.injEq, Prod.mk.injEq] at he; obtain ⟨rfl, rfl⟩ := he; exact makes_alloc hz
        | cons a l => simp [evalA] at he
  case box t x =>
    split at hc
    · cases hc
    · cases hc
      obtain ⟨a, rfl, ha⟩ := map1 hv
      simp only [evalA, Option.map_eq_some_iff, Prod.mk.injEq] at he
      obtain ⟨cs, hcs, rfl, rfl⟩ := he
      exact makes_box ha hcs
  case build t ps =>
    split at hc
    · split at hc
      · cases hc
      · simp only [Option.bind_eq_some_iff] at hc
        obtain ⟨z, hz, l, hl, hc⟩ := hc
        simp at hc
    · cases hc
  case buildSlice t len ps =>
    split at hc
    · rename_i e hu
      simp only [Option.bind_eq_some_iff] at hc
      obtain ⟨z, hz, hc⟩ := hc
      split at hc
      · rename_i hcc
        obtain ⟨h1, h2, h3⟩ := hcc
        cases hc
        have he' : (fillEls (P.cellsOf e) (List.replicate len z) (ps.toList.map (·.1)) vs).map (fun els => (Blk.row (P.cellsOf e) els true true, fun b => AV.slice b (P.cellsOf e) 0 len len true)) = some (blk, k) := by
          simpa [evalA] using he
        simp only [Option.map_eq_some_iff, Prod.mk.injEq] at he'
        obtain ⟨els, hels, rfl, rfl⟩ := he'
        exact makes_buildSlice hu hz h1 h2 h3 (by simpa [Op.operands] using hv) hels
      · cases hc
    · cases hc
  case load t x => simp only [Option.bind_eq_some_iff] at hc; obtain ⟨z, _, hc⟩ := hc; simp at hc
  case store t x y => split at hc <;> simp at hc
  case binOp op t x y ty =>
    split at hc
    · cases hc
    · cases hc
    · split at hc
      · simp only [Option.bind_eq_some_iff] at hc; obtain ⟨z, _, hc⟩ := hc; cases hc
      · simp only [Option.bind_eq_some_iff] at hc; obtain ⟨z, _, hc⟩ := hc; cases hc
      · cases hc
    · cases hc
  case unOp op t x => split at hc <;> cases hc
  case convert src dst x =>
    split at hc
    · cases hc
    · cases hc
    · rename_i e hs hd
      split at hc
      · rename_i h8
        split at hc
        · cases hc
          obtain ⟨a, rfl, ha⟩ := map1 hv
          cases a with
          | str s =>
            simp only [evalA, Option.some.injEq, Prod.mk.injEq] at he
            obtain ⟨rfl, rfl⟩ := he
            exact makes_toBytes hs hd h8 ha
          | _ => simp [evalA] at he
        · cases hc
      · cases hc
    · split at hc
      · split at hc <;> simp at hc
      · cases hc
    · cases hc
  case makeFunc fn first caps =>
    split at hc
    · split at hc <;> cases hc
    · cases hc
  case makeMap t r =>
    split at hc
    · cases hc
      cases vs with
      | nil => simp only [evalA, Option.some.injEq, Prod.mk.injEq] at he; obtain ⟨rfl, rfl⟩ := he; exact makes_makeMap
      | cons a l => simp [evalA] at he
    · cases hc
  case makeSlice t x y =>
    split at hc
    · rename_i e hu
      simp only [Option.bind_eq_some_iff] at hc
      obtain ⟨z, hz, hc⟩ := hc
      split at hc
      · rename_i hcc
        obtain ⟨h1, h2, h3⟩ := hcc
        cases hc
        exact makes_makeSlice hu hz h1 h2 h3 hv he
      · cases hc
    · cases hc
  case slice t x lo hi mx =>
    split at hc
    · split at hc <;> cases hc
    · split at hc <;> cases hc
    · cases hc
  case fieldAddr s x i =>
    simp only [Option.bind_eq_some_iff] at hc
    obtain ⟨f, hf, hc⟩ := hc
    split at hc <;> cases hc
  case field s x i =>
    simp only [Option.bind_eq_some_iff] at hc
    obtain ⟨f, hf, n, hn, hc⟩ := hc
    cases hc
  case indexAddr t x i =>
    split at hc
    · split at hc <;> cases hc
    · cases hc
  case index t x i => split at hc <;> cases hc
  case lookup t x i ok =>
    split at hc
    · split at hc
      · split at hc
        · simp only [Option.bind_eq_some_iff] at hc; obtain ⟨z, _, hc⟩ := hc; simp at hc
        · cases hc
      · cases hc
    · cases hc
  case mapUpdate t x y z =>
    split at hc
    · simp only [Option.bind_eq_some_iff] at hc; obtain ⟨z, _, hc⟩ := hc; simp at hc
    · cases hc
  case call c =>
    simp only [cCall] at hc
    split at hc
    · split at hc <;> simp at hc
    · simp at hc
    · rename_i b hb
      split at hc
      · split at hc
        · split at hc <;> cases hc
        · split at hc <;> cases hc
        · split at hc <;> cases hc
        · cases hc
      · split at hc
        · cases hc
        · split at hc
          · split at hc <;> cases hc
          · split at hc <;> cases hc
          · cases hc
      · cases hc
      · cases hc
      · split at hc
        · cases hc
        · split at hc
          · simp only [Option.bind_eq_some_iff] at hc; obtain ⟨z, _, hc⟩ := hc; split at hc <;> simp at hc
          · cases hc
      · split at hc
        · cases hc
        · split at hc
          · simp at hc
          · cases hc
      · cases hc
    · cases hc

/-- Heavy operations that call no function of the program's. -/
theorem sound_h {keep : Bool} {o : Op} {hop : HOp} {xs : List Operand} (hc : cOp P keep o = some (.h hop, xs)) (r : Rep σ h w) {vs : List AV} {v : AV} {h' : H} (hv : VRels σ vs (xs.map ρ)) (he : evalHeap hop vs h = some (v, h')) : Works P σ h ρ w o v h' := by
  cases o <;> simp only [cOp] at hc <;> try (cases hc; done)
  case alloc t => simp only [Option.bind_eq_some_iff] at hc; obtain ⟨z, _, a, _, hc⟩ := hc; cases hc
  case box t x => split at hc <;> simp at hc
  case build t ps =>
    split at hc
    · split at hc
      · cases hc
      · simp only [Option.bind_eq_some_iff] at hc
        obtain ⟨z, hz, l, hl, hc⟩ := hc
        simp at hc
    · cases hc
  case buildSlice t len ps =>
    split at hc
    · simp only [Option.bind_eq_some_iff] at hc; obtain ⟨z, _, hc⟩ := hc; split at hc <;> simp at hc
    · cases hc
  case load t x => simp only [Option.bind_eq_some_iff] at hc; obtain ⟨z, _, hc⟩ := hc; simp at hc
  case store t x y =>
    split at hc
    · cases hc
    · rename_i hz; cases hc; exact works_store r hz hv he
  case binOp op t x y ty =>
    split at hc
    · cases hc
    · cases hc
    · split at hc
      · simp only [Option.bind_eq_some_iff] at hc; obtain ⟨z, _, hc⟩ := hc; cases hc
      · simp only [Option.bind_eq_some_iff] at hc; obtain ⟨z, _, hc⟩ := hc; cases hc
      · cases hc
    · cases hc
  case unOp op t x => split at hc <;> cases hc
  case convert src dst x =>
    split at hc
    · cases hc
    · cases hc
    · split at hc
      · split at hc <;> simp at hc
      · cases hc
    · split at hc
      · split at hc <;> simp at hc
      · cases hc
    · cases hc
  case makeFunc fn first caps =>
    split at hc
    · split at hc <;> cases hc
    · cases hc
  case makeMap t r =>
    split at hc <;> cases hc
  case makeSlice t x y =>
    split at hc
    · simp only [Option.bind_eq_some_iff] at hc; obtain ⟨z, _, hc⟩ := hc; split at hc <;> simp at hc
    · cases hc
  case slice t x lo hi mx =>
    split at hc
    · split at hc <;> cases hc
    · split at hc <;> cases hc
    · cases hc
  case fieldAddr s x i =>
    simp only [Option.bind_eq_some_iff] at hc
    obtain ⟨f, hf, hc⟩ := hc
    split at hc <;> cases hc
  case field s x i =>
    simp only [Option.bind_eq_some_iff] at hc
    obtain ⟨f, hf, n, hn, hc⟩ := hc
    cases hc
  case indexAddr t x i =>
    split at hc
    · split at hc <;> cases hc
    · cases hc
  case index t x i => split at hc <;> cases hc
  case lookup t x i ok =>
    split at hc
    · split at hc
      · split at hc
        · simp only [Option.bind_eq_some_iff] at hc; obtain ⟨z, _, hc⟩ := hc; simp at hc
        · cases hc
      · cases hc
    · cases hc
  case mapUpdate t x y z =>
    split at hc
    · rename_i k e ht
      simp only [Option.bind_eq_some_iff] at hc
      obtain ⟨kd, hk, hc⟩ := hc
      cases hc
      exact works_mapUpdate r ht hk hv he
    · cases hc
  case call c =>
    simp only [cCall] at hc
    split at hc
    · split at hc
      · cases hc; simp [evalHeap] at he
      · cases hc
    · cases hc; simp [evalHeap] at he
    · rename_i b hb
      split at hc
      · split at hc
        · split at hc <;> cases hc
        · split at hc <;> cases hc
        · split at hc <;> cases hc
        · cases hc
      · split at hc
        · cases hc
        · rename_i hn
          split at hc
          · rename_i e e2 hu hxt
            split at hc
            · cases hc
            · rename_i hcc
              cases hc
              refine works_append r hb hn rfl hu rfl hxt (fun h => hcc (.inl h)) (Nat.le_of_not_gt fun h => hcc (.inr (.inr (.inl h)))) (fun h => hcc (.inr (.inl h))) (Nat.le_of_not_gt fun h => hcc (.inr (.inr (.inr (.inl h))))) (Classical.not_not.1 fun h => hcc (.inr (.inr (.inr (.inr h))))) hv he
          · rename_i e hu hxt
            split at hc
            · rename_i hcc
              cases hc
              exact works_appendStr r hb hn rfl hu rfl hxt hcc.1 hcc.2.1 hcc.2.2 hv he
            · cases hc
          · cases hc
      · cases hc
      · cases hc
      · split at hc
        · cases hc
        · rename_i hn
          split at hc
          · rename_i e hu
            simp only [Option.bind_eq_some_iff] at hc
            obtain ⟨z, hz, hc⟩ := hc
            split at hc
            · rename_i hcc
              cases hc
              exact works_clear r hb hn rfl hu hz hcc.1 hcc.2 hv he
            · cases hc
          · cases hc
      · split at hc
        · cases hc
        · rename_i hn
          split at hc
          · rename_i k e hu
            simp only [Option.map_eq_some_iff, Prod.mk.injEq, SOp.h.injEq] at hc
            obtain ⟨kd, hk, rfl, rfl⟩ := hc
            exact works_delete r hb hn rfl hu hk hv he
          · cases hc
      · cases hc
    · cases hc

end
end Go.Eng
