/- The engine, part O: no bound on rounds any more. -/
import Derived.Test.YtgnenipkebelfaaGreatDoorEngN
set_option linter.unusedVariables false
set_option linter.unusedSimpArgs false
namespace Go.Eng
open Go

def MLe {α : Type} (a b : M α) : Prop := ∀ h r, a h = some r → b h = some r
def CLe (cf cf' : FuncId → List AV → M AV) : Prop := ∀ f vs, MLe (cf f vs) (cf' f vs)
def LLe (lp lp' : Looper) : Prop := ∀ f f' : Env → M (Ex × Env), (∀ e, MLe (f e) (f' e)) → ∀ e, MLe (lp f e) (lp' f' e)

section
variable {cf cf' : FuncId → List AV → M AV} {lp lp' : Looper}

theorem evalH_le (hc : CLe cf cf') (o : HOp) (vs : List AV) : MLe (evalH cf o vs) (evalH cf' o vs) := by
  intro h r hr
  cases o with
  | call f => simp only [evalH] at hr ⊢; exact hc f vs h r hr
  | callV =>
    match vs, hr with
    | .func f cs :: vs, hr => simp only [evalH] at hr ⊢; exact hc f _ h r hr
    | [], hr => simp [evalH, evalHeap] at hr
  | _ => simpa only [evalH] using hr

theorem evalOp_le (hc : CLe cf cf') (o : SOp) (vs : List AV) : MLe (evalOp cf o vs) (evalOp cf' o vs) := by
  intro h r hr
  cases o with
  | h o => exact evalH_le hc o vs h r hr
  | _ => exact hr

theorem stepOp_le (hc : CLe cf cf') (o : SOper) (e : Env) : MLe (stepOp cf o e) (stepOp cf' o e) := by
  intro h r hr
  unfold stepOp at hr ⊢
  split at hr
  · rename_i hw
    simp only [Option.map_eq_some_iff] at hr ⊢
    obtain ⟨p, hp, h2⟩ := hr
    exact ⟨p, evalOp_le hc _ _ h p hp, h2⟩
  · exact hr
  · cases hr

theorem stepOps_le (hc : CLe cf cf') : ∀ (os : List SOper) (e : Env), MLe (stepOps cf os e) (stepOps cf' os e)
  | [], e, h, r, hr => hr
  | o :: os, e, h, r, hr => by
    simp only [stepOps] at hr ⊢
    split at hr
    · rename_i e1 h1 hs
      rw [stepOp_le hc o e h _ hs]
      exact stepOps_le hc os e1 h1 r hr
    · cases hr

theorem stepStages_le (hc : CLe cf cf') : ∀ (ss : List Stage) (e : Env), MLe (stepStages cf ss e) (stepStages cf' ss e)
  | [], e, h, r, hr => hr
  | s :: ss, e, h, r, hr => by
    simp only [stepStages] at hr ⊢
    split at hr
    · cases hr
    · rename_i e1 h1 hs
      rw [stepOps_le hc s.pre e h _ hs]
      simp only
      split at hr
      · rename_i hall
        rw [if_pos hall]
        cases hh : s.heavy with
        | none => rw [hh] at hr; exact stepStages_le hc ss e1 h1 r hr
        | some o =>
          rw [hh] at hr
          simp only at hr ⊢
          split at hr
          · cases hr
          · rename_i e2 h2 hs2
            rw [stepOp_le hc o e1 h1 _ hs2]
            exact stepStages_le hc ss e2 h2 r hr
      · cases hr

theorem exec_le (hc : CLe cf cf') (hl : LLe lp lp') : ∀ (s : SCode) (e : Env), MLe (exec cf lp s e) (exec cf' lp' s e)
  | .skip, e, h, r, hr => hr
  | .reg os, e, h, r, hr => by
    simp only [exec, Option.map_eq_some_iff] at hr ⊢
    obtain ⟨p, hp, h2⟩ := hr
    exact ⟨p, stepOps_le hc os e h p hp, h2⟩
  | .dreg ss, e, h, r, hr => by
    simp only [exec, Option.map_eq_some_iff] at hr ⊢
    obtain ⟨p, hp, h2⟩ := hr
    exact ⟨p, stepStages_le hc ss e h p hp, h2⟩
  | .seq a b, e, h, r, hr => by
    simp only [exec] at hr ⊢
    cases ha : exec cf lp a e h with
    | none => rw [ha] at hr; simp [seqK] at hr
    | some p =>
      rw [exec_le hc hl a e h p ha]
      rw [ha] at hr
      obtain ⟨⟨x, e1⟩, h1⟩ := p
      cases x with
      | normal => simp only [seqK] at hr ⊢; exact exec_le hc hl b e1 h1 r hr
      | exit id => exact hr
      | ret => exact hr
  | .cond c a b, e, h, r, hr => by
    simp only [exec] at hr ⊢
    split at hr
    · exact exec_le hc hl a e h r hr
    · exact exec_le hc hl b e h r hr
    · cases hr
  | .block id a, e, h, r, hr => by
    simp only [exec] at hr ⊢
    cases ha : exec cf lp a e h with
    | none => rw [ha] at hr; simp [blockK] at hr
    | some p => rw [exec_le hc hl a e h p ha]; rw [ha] at hr; exact hr
  | .loop live a, e, h, r, hr => by
    simp only [exec] at hr ⊢
    exact hl _ _ (fun e => exec_le hc hl a _) e h r hr
  | .exit id, e, h, r, hr => hr
  | .scope a, e, h, r, hr => by simp only [exec] at hr ⊢; exact exec_le hc hl a e h r hr
  | .ret, e, h, r, hr => hr

theorem runFn_le (hc : CLe cf cf') (hl : LLe lp lp') (f : SFunc) (vs : List AV) : MLe (runFn cf lp f vs) (runFn cf' lp' f vs) := by
  intro h r hr
  unfold runFn at hr ⊢
  split at hr
  · rename_i hlen
    rw [if_pos hlen]
    cases ha : exec cf lp f.body (vs ++ List.replicate (f.nt - f.np) (.tuple [])) h with
    | none => rw [ha] at hr; simp [endFn] at hr
    | some p => rw [exec_le hc hl f.body _ h p ha]; rw [ha] at hr; exact hr
  · cases hr

theorem iter_le {f f' : Env → M (Ex × Env)} (hf : ∀ e, MLe (f e) (f' e)) : ∀ (n m : Nat), n ≤ m → ∀ e, MLe (iter f n e) (iter f' m e)
  | 0, m, _, e, h, r, hr => by simp [iter] at hr
  | n + 1, 0, hnm, _, _, _, _ => by omega
  | n + 1, m + 1, hnm, e, h, r, hr => by
    simp only [iter] at hr ⊢
    cases ha : f e h with
    | none => rw [ha] at hr; simp at hr
    | some p =>
      rw [hf e h p ha]
      rw [ha] at hr
      obtain ⟨⟨x, e1⟩, h1⟩ := p
      cases x with
      | normal => simp only at hr ⊢; exact iter_le hf n m (by omega) e1 h1 r hr
      | exit id => exact hr
      | ret => exact hr

theorem itn_le {n m : Nat} (h : n ≤ m) : LLe (itn n) (itn m) := fun f f' hf e => iter_le hf n m h e
end

section
variable (fs : FuncId → Option SFunc) (ex : FuncId → List AV → M AV)

theorem callN_le : ∀ (n m : Nat), n ≤ m → CLe (callN fs ex n) (callN fs ex m)
  | 0, m, _, f, vs, h, r, hr => by
    simp only [callN] at hr
    cases hf : fs f with
    | some sf => rw [hf] at hr; cases hr
    | none =>
      rw [hf] at hr
      cases m with
      | zero => simp only [callN, hf]; exact hr
      | succ m => simp only [callN, hf]; exact hr
  | n + 1, 0, hnm, _, _, _, _, _ => by omega
  | n + 1, m + 1, hnm, f, vs, h, r, hr => by
    simp only [callN] at hr ⊢
    split at hr
    · exact runFn_le (callN_le n m (by omega)) (itn_le (by omega)) _ vs h r hr
    · exact hr

open Classical in
/-- A call, with as many rounds as it needs. -/
noncomputable def call : FuncId → List AV → M AV := fun f vs h => if hx : ∃ r, ∃ n, callN fs ex n f vs h = some r then some (Classical.choose hx) else none

theorem call_iff {f : FuncId} {vs : List AV} {h : H} {r : AV × H} : call fs ex f vs h = some r ↔ ∃ n, callN fs ex n f vs h = some r := by
  unfold call
  constructor
  · intro hr
    split at hr
    · rename_i hx
      have := Classical.choose_spec hx
      cases hr
      exact this
    · cases hr
  · rintro ⟨n, hn⟩
    have hx : ∃ r, ∃ n, callN fs ex n f vs h = some r := ⟨r, n, hn⟩
    rw [dif_pos hx]
    obtain ⟨m, hm⟩ := Classical.choose_spec hx
    have h1 := callN_le fs ex n (max n m) (by omega) f vs h r hn
    have h2 := callN_le fs ex m (max n m) (by omega) f vs h _ hm
    rw [h1] at h2
    exact h2.symm

open Classical in
noncomputable def itw : Looper := fun f e h => if hx : ∃ r, ∃ n, iter f n e h = some r then some (Classical.choose hx) else none

theorem itw_iff {f : Env → M (Ex × Env)} {e : Env} {h : H} {r : (Ex × Env) × H} : itw f e h = some r ↔ ∃ n, iter f n e h = some r := by
  unfold itw
  constructor
  · intro hr
    split at hr
    · rename_i hx
      have := Classical.choose_spec hx
      cases hr
      exact this
    · cases hr
  · rintro ⟨n, hn⟩
    have hx : ∃ r, ∃ n, iter f n e h = some r := ⟨r, n, hn⟩
    rw [dif_pos hx]
    obtain ⟨m, hm⟩ := Classical.choose_spec hx
    have h1 := iter_le (fun e => fun h r hr => hr) n (max n m) (by omega) e h r hn
    have h2 := iter_le (fun e => fun h r hr => hr) m (max n m) (by omega) e h _ hm
    rw [h1] at h2
    exact h2.symm

/-- One round of a loop. -/
theorem itw_eq (f : Env → M (Ex × Env)) (e : Env) (h : H) : itw f e h = seqK (itw f) (f e h) := by
  apply Option.ext
  intro r
  rw [itw_iff]
  constructor
  · rintro ⟨n, hn⟩
    cases n with
    | zero => simp [iter] at hn
    | succ n =>
      simp only [iter] at hn
      cases ha : f e h with
      | none => rw [ha] at hn; simp at hn
      | some p =>
        rw [ha] at hn
        obtain ⟨⟨x, e1⟩, h1⟩ := p
        cases x with
        | normal => simp only [seqK] at hn ⊢; exact itw_iff.2 ⟨n, hn⟩
        | exit id => exact hn
        | ret => exact hn
  · intro hr
    cases ha : f e h with
    | none => rw [ha] at hr; simp [seqK] at hr
    | some p =>
      rw [ha] at hr
      obtain ⟨⟨x, e1⟩, h1⟩ := p
      cases x with
      | normal =>
        simp only [seqK] at hr
        obtain ⟨n, hn⟩ := itw_iff.1 hr
        exact ⟨n + 1, by simp only [iter, ha]; exact hn⟩
      | exit id => exact ⟨1, by simp only [iter, ha]; exact hr⟩
      | ret => exact ⟨1, by simp only [iter, ha]; exact hr⟩

theorem callN_le_call (n : Nat) : CLe (callN fs ex n) (call fs ex) := fun f vs h r hr => (call_iff fs ex).2 ⟨n, hr⟩
theorem itn_le_itw (n : Nat) : LLe (itn n) itw := fun f f' hf e h r hr => itw_iff.2 ⟨n, iter_le hf n n (Nat.le_refl _) e h r hr⟩

/-! ### What needs no bound needs some bound -/
theorem op_fin {o : SOp} {vs : List AV} {h : H} {r : AV × H} (hr : evalOp (call fs ex) o vs h = some r) : ∃ n, evalOp (callN fs ex n) o vs h = some r := by
  cases o with
  | h o =>
    simp only [evalOp] at hr ⊢
    cases o with
    | call f => simp only [evalH] at hr ⊢; exact (call_iff fs ex).1 hr
    | callV =>
      match vs, hr with
      | .func f cs :: vs, hr => simp only [evalH] at hr ⊢; exact (call_iff fs ex).1 hr
      | [], hr => simp [evalH, evalHeap] at hr
    | _ => exact ⟨0, by simpa only [evalH] using hr⟩
  | _ => exact ⟨0, hr⟩

theorem stepOp_fin {o : SOper} {e : Env} {h : H} {r : Env × H} (hr : stepOp (call fs ex) o e h = some r) : ∃ n, stepOp (callN fs ex n) o e h = some r := by
  unfold stepOp at hr ⊢
  split at hr
  · rename_i hw
    simp only [Option.map_eq_some_iff] at hr
    obtain ⟨p, hp, h2⟩ := hr
    obtain ⟨n, hn⟩ := op_fin fs ex hp
    exact ⟨n, by simp only [hn, Option.map_some]; rw [← h2]⟩
  · exact ⟨0, hr⟩
  · cases hr

theorem stepOps_fin : ∀ {os : List SOper} {e : Env} {h : H} {r : Env × H}, stepOps (call fs ex) os e h = some r → ∃ n, stepOps (callN fs ex n) os e h = some r
  | [], e, h, r, hr => ⟨0, hr⟩
  | o :: os, e, h, r, hr => by
    simp only [stepOps] at hr
    split at hr
    · rename_i e1 h1 hs
      obtain ⟨n, hn⟩ := stepOp_fin fs ex hs
      obtain ⟨m, hm⟩ := stepOps_fin hr
      refine ⟨max n m, ?_⟩
      simp only [stepOps]
      rw [stepOp_le (callN_le fs ex n (max n m) (by omega)) o e h _ hn]
      exact stepOps_le (callN_le fs ex m (max n m) (by omega)) os e1 h1 r hm
    · cases hr

theorem stepStages_fin : ∀ {ss : List Stage} {e : Env} {h : H} {r : Env × H}, stepStages (call fs ex) ss e h = some r → ∃ n, stepStages (callN fs ex n) ss e h = some r
  | [], e, h, r, hr => ⟨0, hr⟩
  | s :: ss, e, h, r, hr => by
    simp only [stepStages] at hr
    split at hr
    · cases hr
    · rename_i e1 h1 hs
      obtain ⟨n, hn⟩ := stepOps_fin fs ex hs
      split at hr
      · rename_i hall
        cases hh : s.heavy with
        | none =>
          rw [hh] at hr
          obtain ⟨m, hm⟩ := stepStages_fin hr
          refine ⟨max n m, ?_⟩
          simp only [stepStages]
          rw [stepOps_le (callN_le fs ex n (max n m) (by omega)) s.pre e h _ hn]
          simp only [hall, if_true, hh]
          exact stepStages_le (callN_le fs ex m (max n m) (by omega)) ss e1 h1 r hm
        | some o =>
          rw [hh] at hr
          simp only at hr
          split at hr
          · cases hr
          · rename_i e2 h2 hs2
            obtain ⟨k, hk⟩ := stepOp_fin fs ex hs2
            obtain ⟨m, hm⟩ := stepStages_fin hr
            refine ⟨max n (max k m), ?_⟩
            simp only [stepStages]
            rw [stepOps_le (callN_le fs ex n (max n (max k m)) (by omega)) s.pre e h _ hn]
            simp only [hall, if_true, hh]
            rw [stepOp_le (callN_le fs ex k (max n (max k m)) (by omega)) o e1 h1 _ hk]
            exact stepStages_le (callN_le fs ex m (max n (max k m)) (by omega)) ss e2 h2 r hm
      · cases hr

theorem exec_fin : ∀ (s : SCode) {e : Env} {h : H} {r : (Ex × Env) × H}, exec (call fs ex) itw s e h = some r → ∃ n, exec (callN fs ex n) (itn n) s e h = some r
  | .skip, e, h, r, hr => ⟨0, hr⟩
  | .reg os, e, h, r, hr => by
    simp only [exec, Option.map_eq_some_iff] at hr
    obtain ⟨p, hp, h2⟩ := hr
    obtain ⟨n, hn⟩ := stepOps_fin fs ex hp
    exact ⟨n, by simp only [exec, hn, Option.map_some]; rw [← h2]⟩
  | .dreg ss, e, h, r, hr => by
    simp only [exec, Option.map_eq_some_iff] at hr
    obtain ⟨p, hp, h2⟩ := hr
    obtain ⟨n, hn⟩ := stepStages_fin fs ex hp
    exact ⟨n, by simp only [exec, hn, Option.map_some]; rw [← h2]⟩
  | .seq a b, e, h, r, hr => by
    simp only [exec] at hr
    cases ha : exec (call fs ex) itw a e h with
    | none => rw [ha] at hr; simp [seqK] at hr
    | some p =>
      obtain ⟨n, hn⟩ := exec_fin a ha
      rw [ha] at hr
      obtain ⟨⟨x, e1⟩, h1⟩ := p
      cases x with
      | normal =>
        simp only [seqK] at hr
        obtain ⟨m, hm⟩ := exec_fin b hr
        refine ⟨max n m, ?_⟩
        simp only [exec]
        rw [exec_le (callN_le fs ex n (max n m) (by omega)) (itn_le (by omega)) a e h _ hn]
        simp only [seqK]
        exact exec_le (callN_le fs ex m (max n m) (by omega)) (itn_le (by omega)) b e1 h1 r hm
      | exit id => exact ⟨n, by simp only [exec, hn]; exact hr⟩
      | ret => exact ⟨n, by simp only [exec, hn]; exact hr⟩
  | .cond c a b, e, h, r, hr => by
    simp only [exec] at hr
    split at hr
    · rename_i hc
      obtain ⟨n, hn⟩ := exec_fin a hr
      exact ⟨n, by simp only [exec, hc]; exact hn⟩
    · rename_i hc
      obtain ⟨n, hn⟩ := exec_fin b hr
      exact ⟨n, by simp only [exec, hc]; exact hn⟩
    · cases hr
  | .block id a, e, h, r, hr => by
    simp only [exec] at hr
    cases ha : exec (call fs ex) itw a e h with
    | none => rw [ha] at hr; simp [blockK] at hr
    | some p =>
      obtain ⟨n, hn⟩ := exec_fin a ha
      rw [ha] at hr
      exact ⟨n, by simp only [exec, hn]; exact hr⟩
  | .loop live a, e, h, r, hr => by
    simp only [exec] at hr
    obtain ⟨m, hm⟩ := itw_iff.1 hr
    have key : ∀ (m : Nat) (e : Env) (h : H), iter (fun env => exec (call fs ex) itw a (keepFrom live 0 env)) m e h = some r → ∃ n, iter (fun env => exec (callN fs ex n) (itn n) a (keepFrom live 0 env)) n e h = some r := by
      intro m
      induction m with
      | zero => intro e h hm; simp [iter] at hm
      | succ m ih =>
        intro e h hm
        simp only [iter] at hm
        cases ha : exec (call fs ex) itw a (keepFrom live 0 e) h with
        | none => rw [ha] at hm; simp at hm
        | some p =>
          obtain ⟨n, hn⟩ := exec_fin a ha
          rw [ha] at hm
          obtain ⟨⟨x, e1⟩, h1⟩ := p
          have mono : ∀ n k, n ≤ k → ∀ env, MLe (exec (callN fs ex n) (itn n) a (keepFrom live 0 env)) (exec (callN fs ex k) (itn k) a (keepFrom live 0 env)) := fun n k hk env => exec_le (callN_le fs ex n k hk) (itn_le hk) a _
          cases x with
          | normal =>
            simp only at hm
            obtain ⟨k, hk⟩ := ih e1 h1 hm
            refine ⟨max n k + 1, ?_⟩
            simp only [iter]
            rw [mono n (max n k + 1) (by omega) e h _ hn]
            simp only
            exact iter_le (mono k (max n k + 1) (by omega)) k (max n k) (by omega) e1 h1 r hk
          | exit id =>
            refine ⟨n + 1, ?_⟩
            simp only [iter]
            rw [mono n (n + 1) (by omega) e h _ hn]
            exact hm
          | ret =>
            refine ⟨n + 1, ?_⟩
            simp only [iter]
            rw [mono n (n + 1) (by omega) e h _ hn]
            exact hm
    obtain ⟨n, hn⟩ := key m e h hm
    exact ⟨n, by simp only [exec, itn]; exact hn⟩
  | .exit id, e, h, r, hr => ⟨0, hr⟩
  | .scope a, e, h, r, hr => by
    simp only [exec] at hr
    obtain ⟨n, hn⟩ := exec_fin a hr
    exact ⟨n, by simp only [exec]; exact hn⟩
  | .ret, e, h, r, hr => ⟨0, hr⟩

/-- A call is its body's run. -/
theorem call_eq {f : FuncId} {sf : SFunc} (hf : fs f = some sf) (vs : List AV) (h : H) : call fs ex f vs h = runFn (call fs ex) itw sf vs h := by
  apply Option.ext
  intro r
  rw [call_iff]
  constructor
  · rintro ⟨n, hn⟩
    cases n with
    | zero => simp only [callN, hf] at hn; cases hn
    | succ n =>
      simp only [callN, hf] at hn
      exact runFn_le (callN_le_call fs ex n) (itn_le_itw n) sf vs h r hn
  · intro hr
    unfold runFn at hr
    split at hr
    · rename_i hlen
      cases ha : exec (call fs ex) itw sf.body (vs ++ List.replicate (sf.nt - sf.np) (.tuple [])) h with
      | none => rw [ha] at hr; simp [endFn] at hr
      | some p =>
        obtain ⟨n, hn⟩ := exec_fin fs ex _ ha
        rw [ha] at hr
        refine ⟨n + 1, ?_⟩
        simp only [callN, hf]
        unfold runFn
        rw [if_pos hlen, hn]
        exact hr
    · cases hr

theorem call_sound {P : Program} (hfs : FsOk P fs) (hex : CfSound P ex) : CfSound P (call fs ex) := fun f vs h v h' hr => by
  obtain ⟨n, hn⟩ := (call_iff fs ex).1 hr
  exact callN_sound hfs hex n f vs h v h' hn

/-- A call of a function that is not run. -/
theorem call_ex {f : FuncId} (hf : fs f = none) (vs : List AV) (h : H) : call fs ex f vs h = ex f vs h := by
  apply Option.ext
  intro r
  rw [call_iff]
  constructor
  · rintro ⟨n, hn⟩
    cases n with
    | zero => simp only [callN, hf] at hn; exact hn
    | succ n => simp only [callN, hf] at hn; exact hn
  · intro hr
    exact ⟨0, by simp only [callN, hf]; exact hr⟩

/-- A call that the machine itself has run to its end. -/
theorem call_of {f : FuncId} {vs : List AV} {h : H} {r : AV × H} (n : Nat) (hn : callN fs ex n f vs h = some r) : call fs ex f vs h = some r := (call_iff fs ex).2 ⟨n, hn⟩
end
end Go.Eng
