/- Letters: a reader beside a block that is filled. -/
import Derived.Test.YtgnenipkebelfaaGreatDoorLtH
set_option maxRecDepth 100000
set_option linter.unusedVariables false
set_option linter.unusedSimpArgs false
namespace Go.Proofs.YtgnenipkebelfaaGreatDoor.Lt
open Go Go.Eng F Pk Bk

/-- A table in which a reader's functions are run. -/
structure TblR (fs : FuncId → Option SFunc) (ex : FuncId → List AV → M AV) : Prop where
  nums : fs 83 = some sf83
  list : fs 85 = some sf85
  read : fs 39 = some sf39
  ritems : fs 91 = some sf91
  rletter : fs 41 = some sf41
  F : ∀ vs h, call fs ex 38 vs h = exR 38 vs h
  B : ∀ vs h, call fs ex 88 vs h = exR 88 vs h
  E : ∀ vs h, call fs ex 40 vs h = exR 40 vs h
  N : ∀ vs h, call fs ex 87 vs h = exR 87 vs h
  T : ∀ vs h, call fs ex 86 vs h = exR 86 vs h
  W : ∀ vs h, call fs ex 84 vs h = exR 84 vs h
  rN : ∀ vs h, call fs ex 89 vs h = exV 89 vs h
  rT : ∀ vs h, call fs ex 92 vs h = exV 92 vs h
  rW : ∀ vs h, call fs ex 90 vs h = exV 90 vs h
theorem tblRC : TblR fsC exC := ⟨rfl, rfl, rfl, rfl, rfl,
  fun _ _ => (eC_From _ _).trans ((eB_From _ _).trans (eA_From _ _)), fun _ _ => (eC_Bad _ _).trans ((eB_Bad _ _).trans (eA_Bad _ _)), fun _ _ => (eC_End _ _).trans ((eB_End _ _).trans (eA_End _ _)),
  fun _ _ => (eC_pNum _ _).trans ((eB_pNum _ _).trans (eA_pNum _ _)), fun _ _ => (eC_pText _ _).trans ((eB_pText _ _).trans (eA_pText _ _)), fun _ _ => (eC_pWide _ _).trans ((eB_pWide _ _).trans (eA_pWide _ _)),
  fun _ _ => (eC_rrNum _ _).trans ((eB_rrNum _ _).trans (eA_rrNum _ _)), fun _ _ => (eC_rrText _ _).trans ((eB_rrText _ _).trans (eA_rrText _ _)), fun _ _ => (eC_rrWide _ _).trans ((eB_rrWide _ _).trans (eA_rrWide _ _))⟩
theorem num_le (x : Rd) : x.num.2.b.length ≤ x.b.length := take_left x 2
theorem num_lt (x : Rd) : x.num.1 ≤ 65535 := by have : x.num.1 < 256 ^ 2 := number_lt x 2; omega
theorem wide_le (x : Rd) : x.wide.2.b.length ≤ x.b.length := take_left x 8
theorem wide_lt (x : Rd) : x.wide.1 ≤ 18446744073709551615 := by have : x.wide.1 < 256 ^ 8 := number_lt x 8; omega
theorem text_le (x : Rd) : x.text.2.b.length ≤ x.b.length := Nat.le_trans (take_left _ _) (take_left x 1)
theorem num_bad {x : Rd} (h : x.bad = true) : x.num = (0, x) := by
  unfold Rd.num Rd.number
  rw [take_bad x 2 h]
  rfl
/-- A reader at r, a block at q with cells c; what was before K0 stays but the reader; lists that were read. -/
structure St (K0 K : H) (r q es : Nat) (x : Rd) (c : List AV) (Ls : List (AV × List It)) : Prop where
  r0 : r < K0.length
  q0 : K0.length ≤ q
  hr : K[r]? = some x.blk
  hx : x.b.length ≤ 281474976710656
  hq : K[q]? = some (.row es [c] true true)
  chg : Chg K0 K [r]
  own : ∀ p ∈ Ls, OwnE K 2 p.1 (p.2.map itc) ∧ ∀ a ∈ foot p.1, a ≠ q ∧ K0.length ≤ a
  apart : Ls.Pairwise fun a b => ∀ y ∈ foot a.1, y ∉ foot b.1
section
variable {fs : FuncId → Option SFunc} {ex : FuncId → List AV → M AV} {K0 K : H} {r q es : Nat} {x : Rd} {c : List AV} {Ls : List (AV × List It)}
theorem St.rq (s : St K0 K r q es x c Ls) : r ≠ q := by have := s.r0; have := s.q0; omega
theorem St.step (s : St K0 K r q es x c Ls) {x' : Rd} (h : x'.b.length ≤ x.b.length) : St K0 (K.set r x'.blk) r q es x' c Ls := by
  have hc : Chg K (K.set r x'.blk) [r] := (Chg.refl _ _).set (.inl (by simp))
  refine ⟨s.r0, s.q0, get_set_same s.hr, Nat.le_trans h s.hx, hc.2 _ _ (by simpa using s.rq.symm) s.hq, s.chg.set (.inl (by simp)), fun p hp => ?_, s.apart⟩
  obtain ⟨h1, h2⟩ := s.own p hp
  exact ⟨h1.keep hc fun a ha => by have := (h2 a ha).2; have := s.r0; simp; omega, h2⟩
theorem St.set (s : St K0 K r q es x c Ls) (c' : List AV) : St K0 (K.set q (.row es [c'] true true)) r q es x c' Ls := by
  have hc : Chg K (K.set q (.row es [c'] true true)) [q] := (Chg.refl _ _).set (.inl (by simp))
  refine ⟨s.r0, s.q0, hc.2 _ _ (by simpa using s.rq) s.hr, s.hx, get_set_same s.hq, s.chg.set (.inr s.q0), fun p hp => ?_, s.apart⟩
  obtain ⟨h1, h2⟩ := s.own p hp
  exact ⟨h1.keep hc fun a ha => by have := (h2 a ha).1; simpa using this, h2⟩
theorem St.more (s : St K0 K r q es x c Ls) (z : H) : St K0 (K ++ z) r q es x c Ls :=
  ⟨s.r0, s.q0, get_app s.hr, s.hx, get_app s.hq, s.chg.more, fun p hp => ⟨own_app1 (s.own p hp).1, (s.own p hp).2⟩, s.apart⟩
theorem St.num (T : TblR fs ex) (s : St K0 K r q es x c Ls) : ∃ K', call fs ex 87 [.ptr r 0 0] K = some (.int .i64 x.num.1, K') ∧ St K0 K' r q es x.num.2 c Ls :=
  ⟨_, by rw [T.N]; simp only [exR, rdOf_eq s.hr, s.hx, if_true], s.step (num_le x)⟩
theorem St.text (T : TblR fs ex) (s : St K0 K r q es x c Ls) : ∃ K', call fs ex 86 [.ptr r 0 0] K = some (.str x.text.1, K') ∧ St K0 K' r q es x.text.2 c Ls :=
  ⟨_, by rw [T.T]; simp only [exR, rdOf_eq s.hr, s.hx, if_true], s.step (text_le x)⟩
theorem St.wide (T : TblR fs ex) (s : St K0 K r q es x c Ls) : ∃ K', call fs ex 84 [.ptr r 0 0] K = some (.int .u64 x.wide.1, K') ∧ St K0 K' r q es x.wide.2 c Ls :=
  ⟨_, by rw [T.W]; simp only [exR, rdOf_eq s.hr, s.hx, if_true], s.step (wide_le x)⟩
theorem St.rnum (T : TblR fs ex) (s : St K0 K r q es x c Ls) : ∃ K', call fs ex 89 [.ptr r 0 0] K = some (.int .i64 x.num.1, K') ∧ St K0 K' r q es x.num.2 c Ls :=
  ⟨_, by rw [T.rN]; simp only [exV, rdOf_eq s.hr, s.hx, if_true], s.step (num_le x)⟩
theorem St.rtext (T : TblR fs ex) (s : St K0 K r q es x c Ls) : ∃ K', call fs ex 92 [.ptr r 0 0] K = some (.str x.text.1, K') ∧ St K0 K' r q es x.text.2 c Ls :=
  ⟨_, by rw [T.rT]; simp only [exV, rdOf_eq s.hr, s.hx, if_true], s.step (text_le x)⟩
theorem St.rwide (T : TblR fs ex) (s : St K0 K r q es x c Ls) : ∃ K', call fs ex 90 [.ptr r 0 0] K = some (.int .u64 x.wide.1, K') ∧ St K0 K' r q es x.wide.2 c Ls :=
  ⟨_, by rw [T.rW]; simp only [exV, rdOf_eq s.hr, s.hx, if_true], s.step (wide_le x)⟩
theorem St.bad (T : TblR fs ex) (s : St K0 K r q es x c Ls) : call fs ex 88 [.ptr r 0 0] K = some (.bool x.bad, K) := by
  rw [T.B]; simp only [exR, rdOf_eq s.hr]
theorem St.fin (T : TblR fs ex) (s : St K0 K r q es x c Ls) : call fs ex 40 [.ptr r 0 0] K = some (.bool x.fin, K) := by
  rw [T.E]; simp only [exR, rdOf_eq s.hr]
/-- Cells filled by numbers. -/
def numsGo : List Nat → List AV → Rd → List AV × Rd
  | [], c, x => (c, x)
  | o :: os, c, x => numsGo os (c.set o (.int .i64 x.num.1)) x.num.2
theorem numsGo_bad : ∀ (os : List Nat) (c : List AV) (x : Rd), x.bad = true → (∀ o ∈ os, c[o]? = some (.int .i64 0)) → numsGo os c x = (c, x)
  | [], c, x, _, _ => rfl
  | o :: os, c, x, hb, h => by
    have h0 : c.set o (.int .i64 ((0 : Nat) : Int)) = c := by
      apply List.ext_getElem?
      intro i
      by_cases hi : o = i
      · subst hi
        have := h o (by simp)
        rw [List.getElem?_set_self (List.getElem?_eq_some_iff.1 this).1, this]; rfl
      · rw [List.getElem?_set_ne hi]
    unfold numsGo
    rw [num_bad hb, h0]
    exact numsGo_bad os c x hb fun p hp => h p (by simp [hp])
theorem numsGo_len : ∀ (os : List Nat) (c : List AV) (x : Rd), (numsGo os c x).1.length = c.length
  | [], _, _ => rfl
  | o :: os, c, x => by unfold numsGo; rw [numsGo_len os]; simp
theorem numsGo_app (os : List Nat) (o : Nat) : ∀ (c : List AV) (x : Rd), numsGo (os ++ [o]) c x = ((numsGo os c x).1.set o (.int .i64 (numsGo os c x).2.num.1), (numsGo os c x).2.num.2) := by
  induction os with
  | nil => intro c x; rfl
  | cons p os ih => intro c x; simp only [List.cons_append, numsGo]; exact ih _ _
theorem numsGo_cat (a b : List Nat) : ∀ (c : List AV) (x : Rd), numsGo (a ++ b) c x = numsGo b (numsGo a c x).1 (numsGo a c x).2 := by
  induction a with
  | nil => intro c x; rfl
  | cons p a ih => intro c x; simp only [List.cons_append, numsGo]; exact ih _ _
theorem numsGo_other : ∀ (os : List Nat) (c : List AV) (x : Rd) (o : Nat), o ∉ os → (numsGo os c x).1[o]? = c[o]?
  | [], _, _, _, _ => rfl
  | p :: os, c, x, o, h => by
    unfold numsGo
    rw [numsGo_other os _ _ o (fun hm => h (by simp [hm]))]
    exact List.getElem?_set_ne (by rintro rfl; exact h (by simp))
set_option maxHeartbeats 4000000 in
theorem nums_at (T : TblR fs ex) {os : List Nat} (s : St K0 K r q es x c Ls) (hos : ∀ o ∈ os, c[o]? = some (.int .i64 0)) (hnd : os.Nodup) (hl : os.length < 1000) :
    Yld (call fs ex 83 [.ptr r 0 0, .slice K.length 1 0 os.length os.length true] (K ++ [.row 1 (os.map fun o => [.ptr q 0 o]) true true])) fun res => ∃ K', res = (.tuple [], K') ∧ St K0 K' r q es (numsGo os c x).2 (numsGo os c x).1 Ls := by
  refine yld_shut fun Q hQ => ?_
  rw [call_eq fs ex (f := 83) (sf := sf83) T.nums]
  simp [sf83, evB, recheck, wantsOp, AV.same, sames, eqCells, eqLeaf, toL_some, asc, fzero, fnone, List.map_cons, List.map_nil, resVals, resVal, resOf, partV, fillA, putCells, fillEls, strBin, minV, optNat, appendEls, elsOf, sliceSlV, sliceStrV, List.replicate, List.getElem?_append_left, List.getElem?_append_right, List.set_append_left, List.set_append_right, List.getElem?_set_self, List.getElem?_set_ne]
  repeat (first | apply yld_endFn | apply yld_seqK | apply yld_blockK | apply yld_regK | apply yld_opsK | apply yld_putK | apply yld_stgK | apply yld_chkK)
  have hlt : q < K.length := (List.getElem?_eq_some_iff.1 s.hq).1
  have hltr : r < K.length := (List.getElem?_eq_some_iff.1 s.hr).1
  refine yld_rounds (fun m e k' => ∃ f j, e = toL 19 f ∧ m = os.length - j ∧ j ≤ os.length ∧ f 0 = .ptr r 0 0 ∧ f 6 = .slice K.length 1 0 os.length os.length true ∧ f 7 = .int .i64 (os.length : Nat) ∧ f 8 = .int .i64 (j : Nat) ∧
    St K0 k' r q es (numsGo (os.take j) c x).2 (numsGo (os.take j) c x).1 Ls ∧ k'[K.length]? = some (.row 1 (os.map fun o => [.ptr q 0 o]) true true)) (os.length - 0) ?_ ?_
  · exact ⟨_, 0, rfl, rfl, Nat.zero_le _, rfl, rfl, rfl, rfl, s.more _, by simp⟩
  · rintro J R hJ hR m e k' ⟨f, j, rfl, rfl, hj, f0, f6, f7, f8, s', ha⟩
    by_cases hjn : j < os.length
    · have d0 : decide ((j : Int) < (os.length : Nat)) = true := dec_true (by omega)
      have hwj : IntKind.i64.wrap ((j : Int) + 1) = ((j + 1 : Nat) : Int) := wrap_i64 (by omega) (by omega)
      have hg : (os.map fun o => [AV.ptr q 0 o])[j]? = some [.ptr q 0 os[j]] := by simp [hjn]
      have htk : os.take (j + 1) = os.take j ++ [os[j]] := take_succ_get hjn
      generalize hcx : numsGo (os.take j) c x = cx at s'
      have hoc : os[j] + 1 ≤ cx.1.length := by
        rw [← hcx, numsGo_len]
        exact (List.getElem?_eq_some_iff.1 (hos _ (List.getElem_mem hjn))).1
      obtain ⟨K2, e1, s2⟩ := s'.num T
      have hK2 : K2[K.length]? = some (.row 1 (os.map fun o => [.ptr q 0 o]) true true) := by
        have h1 : call fs ex 87 [.ptr r 0 0] k' = some (.int .i64 cx.2.num.1, k'.set r cx.2.num.2.blk) := by rw [T.N]; simp only [exR, rdOf_eq s'.hr, s'.hx, if_true]
        rw [e1] at h1
        cases h1
        rw [List.getElem?_set_ne (by omega)]; exact ha
      have s3 := s2.set (cx.1.set os[j] (.int .i64 cx.2.num.1))
      have e2 := s3.bad T
      have h3 : (K2.set q (.row es [cx.1.set os[j] (.int .i64 cx.2.num.1)] true true))[K.length]? = some (.row 1 (os.map fun o => [.ptr q 0 o]) true true) := by rw [List.getElem?_set_ne (by omega)]; exact hK2
      have hq2 := s2.hq
      have hnx : numsGo (os.take (j + 1)) c x = (cx.1.set os[j] (.int .i64 cx.2.num.1), cx.2.num.2) := by rw [htk, numsGo_app, hcx]
      cases hbad : cx.2.num.2.bad
      · rw [hbad] at e2
        simp [evB, recheck, wantsOp, AV.same, sames, eqCells, eqLeaf, toL_some, asc, fzero, fnone, List.map_cons, List.map_nil, resVals, resVal, resOf, partV, fillA, putCells, fillEls, strBin, minV, optNat, appendEls, elsOf, sliceSlV, sliceStrV, List.replicate, List.getElem?_append_left, List.getElem?_append_right, List.set_append_left, List.set_append_right, List.getElem?_set_self, List.getElem?_set_ne, f0, f6, f7, f8, ha, hg, d0, hjn, hwj, e1, e2, hq2, get_app hq2, set_app hq2, get_set_same hq2, get_set_app hq2, set_set_app hq2, len_beq hq2, beq_len hq2, hoc]
        exact ⟨os.length - (j + 1), by omega, hJ _ _ _ ⟨_, j + 1, rfl, rfl, hjn, rfl, rfl, rfl, rfl, by rw [hnx]; exact s3, h3⟩⟩
      · rw [hbad] at e2
        simp [evB, recheck, wantsOp, AV.same, sames, eqCells, eqLeaf, toL_some, asc, fzero, fnone, List.map_cons, List.map_nil, resVals, resVal, resOf, partV, fillA, putCells, fillEls, strBin, minV, optNat, appendEls, elsOf, sliceSlV, sliceStrV, List.replicate, List.getElem?_append_left, List.getElem?_append_right, List.set_append_left, List.set_append_right, List.getElem?_set_self, List.getElem?_set_ne, f0, f6, f7, f8, ha, hg, d0, hjn, hwj, e1, e2, hq2, get_app hq2, set_app hq2, get_set_same hq2, get_set_app hq2, set_set_app hq2, len_beq hq2, beq_len hq2, hoc]
        refine hR _ ?_
        simp [evB, recheck, wantsOp, AV.same, sames, eqCells, eqLeaf, toL_some, asc, fzero, fnone, List.map_cons, List.map_nil, resVals, resVal, resOf, partV, fillA, putCells, fillEls, strBin, minV, optNat, appendEls, elsOf, sliceSlV, sliceStrV, List.replicate, List.getElem?_append_left, List.getElem?_append_right, List.set_append_left, List.set_append_right, List.getElem?_set_self, List.getElem?_set_ne]
        refine hQ _ ⟨_, rfl, ?_⟩
        have hall : numsGo os c x = (cx.1.set os[j] (.int .i64 cx.2.num.1), cx.2.num.2) := by
          have hcat := numsGo_cat (os.take (j + 1)) (os.drop (j + 1)) c x
          rw [List.take_append_drop, hnx] at hcat
          rw [hcat]
          refine numsGo_bad _ _ _ hbad fun o ho => ?_
          have h1 : o ∉ os.take (j + 1) := fun h2 => by
            have h3 := hnd
            rw [← List.take_append_drop (j + 1) os] at h3
            exact (List.nodup_append.1 h3).2.2 o h2 o ho rfl
          have h4 := numsGo_other (os.take (j + 1)) c x o h1
          rw [hnx] at h4
          exact h4.trans (hos o (List.mem_of_mem_drop ho))
        rw [hall]
        exact s3
    · have d0 : decide ((j : Int) < (os.length : Nat)) = false := dec_false (by omega)
      rw [List.take_of_length_le (by omega)] at s'
      simp [evB, recheck, wantsOp, AV.same, sames, eqCells, eqLeaf, toL_some, asc, fzero, fnone, List.map_cons, List.map_nil, resVals, resVal, resOf, partV, fillA, putCells, fillEls, strBin, minV, optNat, appendEls, elsOf, sliceSlV, sliceStrV, List.replicate, List.getElem?_append_left, List.getElem?_append_right, List.set_append_left, List.set_append_right, List.getElem?_set_self, List.getElem?_set_ne, f0, f6, f7, f8, d0, hjn]
      refine hR _ ?_
      simp [evB, recheck, wantsOp, AV.same, sames, eqCells, eqLeaf, toL_some, asc, fzero, fnone, List.map_cons, List.map_nil, resVals, resVal, resOf, partV, fillA, putCells, fillEls, strBin, minV, optNat, appendEls, elsOf, sliceSlV, sliceStrV, List.replicate, List.getElem?_append_left, List.getElem?_append_right, List.set_append_left, List.set_append_right, List.getElem?_set_self, List.getElem?_set_ne]
      exact hQ _ ⟨k', rfl, s'⟩
end
end Go.Proofs.YtgnenipkebelfaaGreatDoor.Lt
