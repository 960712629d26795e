/- Chapter 7: what the engine does not run is known: sound. -/
import Derived.Test.YtgnenipkebelfaaGreatDoorLtS
set_option maxRecDepth 100000
set_option linter.unusedVariables false
set_option linter.unusedSimpArgs false
namespace Go.Proofs.YtgnenipkebelfaaGreatDoor.Lt
open Go Go.Eng F

def bytesB : List (List AV) → Option (List UInt8)
  | [] => some []
  | [.int .u8 n] :: l => if 0 ≤ n ∧ n ≤ 255 then (bytesB l).map (UInt8.ofNat n.toNat :: ·) else none
  | _ => none
theorem bytesB_get : ∀ {els : List (List AV)} {l : List UInt8}, bytesB els = some l → els.length = l.length ∧ ∀ (j : Nat) (x : UInt8), l[j]? = some x → els[j]? = some [.int .u8 (x.toNat : Int)]
  | [], l, h => by simp [bytesB] at h; subst h; simp
  | e :: els, l, h => by
    unfold bytesB at h
    split at h
    · rename_i h0; cases h0
    · rename_i n l0 h0
      cases h0
      split at h
      · rename_i hn
        simp only [Option.map_eq_some_iff] at h
        obtain ⟨m, hm, rfl⟩ := h
        obtain ⟨h1, h2⟩ := bytesB_get hm
        refine ⟨by simp [h1], fun j x hx => ?_⟩
        cases j with
        | zero =>
          simp at hx; subst hx
          have h9 : (UInt8.ofNat n.toNat).toNat = n.toNat := by
            rw [UInt8.toNat_ofNat']; omega
          rw [h9, Int.toNat_of_nonneg hn.1]; rfl
        | succ j => simpa using h2 j x (by simpa using hx)
      · cases h
    · cases h
theorem bytesB_of (l : List UInt8) : bytesB (l.map fun c => [.int .u8 (c.toNat : Int)]) = some l := by
  induction l with
  | nil => rfl
  | cons c l ih =>
    have := c.toNat_lt
    have h : (0 : Int) ≤ c.toNat ∧ (c.toNat : Int) ≤ 255 := by omega
    simp only [List.map_cons, bytesB, h, and_self, if_true, ih, Option.map]
    simp
/-- A buffer is appended to: other blocks that are no rows stay. -/
theorem append_other {keep : Bool} {es : Nat} {s : AV} {xs : List (List AV)} {h : H} {v : AV} {h' : H} (he : appendEls keep es s xs h = some (v, h')) {b : Nat} {x : AV} (hb : h[b]? = some (.bld x)) : h'[b]? = some (.bld x) := by
  have hlt := (List.getElem?_eq_some_iff.1 hb).1
  unfold appendEls at he
  split at he
  · split at he
    · cases he; exact hb
    · cases he; exact hb
    · cases he
  · split at he
    · split at he
      · cases he; exact get_app hb
      · cases he
    · split at he
      · split at he
        · split at he
          · cases he; exact get_app hb
          · split at he
            · cases he
              refine get_app ((List.getElem?_set_ne ?_).trans hb)
              rintro rfl
              simp_all
            · cases he
        · cases he
      · cases he
    · cases he
def exW : FuncId → List AV → M AV
  | 20, [.ptr b 0 0, .str s], h => match h[b]? with
    | some (.bld v) => match appendEls false 1 v (s.map fun c => [.int .u8 (c.toNat : Int)]) h with
      | some (v', h1) => some (.tuple [.int .i64 s.length, .undef], h1.set b (.bld v'))
      | none => none
    | _ => none
  | 24, [.ptr b 0 0], h => match h[b]? with
    | some (.bld .nilslice) => some (.str [], h)
    | some (.bld (.slice g 1 0 n c false)) => match h[g]? with
      | some (.row 1 els true true) => if n ≠ 0 ∧ n ≤ els.length ∧ n ≤ 4611686018427387904 then (match bytesB (els.take n) with | some l => some (.str l, h.set g .dead) | none => none) else none
      | _ => none
    | _ => none
  | 43, [.str s], h => if s.length < 4294967281 ∧ (s.all fun c => decide (c.toNat < 128)) = true then some (.slice h.length 1 0 (Lib.fields s).length (Lib.fields s).length true, h ++ [.row 1 ((Lib.fields s).map fun l => [.str l]) true true]) else none
  | _, _, _ => none
theorem writes_sound {σ : Inj} {h : H} {w : World} (r : Rep σ h w) {b : Nat} {l : Eng.Loc} (hl : σ b = some l) {v : AV} (hb : h[b]? = some (.bld v)) (s : List UInt8) {v' : AV} {h1 : H} (he : appendEls false 1 v (s.map fun c => [.int .u8 (c.toNat : Int)]) h = some (v', h1)) :
    Calls Tryz.prog 20 #[.pointer (some ⟨l.cb, 0, none⟩), .string ⟨s.toArray⟩] w fun e w' => ∃ c σ', e = .returned c ∧ VRel σ' (.tuple [.int .i64 s.length, .undef]) c ∧ Rep σ' (h1.set b (.bld v')) w' ∧ Ext σ h w σ' (h1.set b (.bld v')) w' := by
  obtain ⟨⟨l1, l2, l3⟩, T, c0, cv, hT, hh, hc0, hcv, hbo⟩ := r.blk b l _ hl hb
  have hT' : T = 64 := by
    have h1 : bldTy = some 64 := rfl
    rw [h1] at hT; cases hT; rfl
  subst hT'
  have hset : h.set b (.bld v) = h := by
    apply List.ext_getElem?
    intro i
    by_cases hi : b = i
    · subst hi; rw [List.getElem?_set_self (List.getElem?_eq_some_iff.1 hb).1, hb]
    · rw [List.getElem?_set_ne hi]
  have key : ∃ w1 : World, Calls Tryz.prog 73 #[.pointer (some ⟨l.cb, 0, none⟩)] w (fun e w' => e = .returned (.tuple #[]) ∧ w' = w1) ∧ Rep σ h w1 ∧ Ext σ h w σ h w1 ∧ w1.heap[l.cb]? = some (.cells #[.pointer (some ⟨l.cb, 0, none⟩), cv] 64 (0, 0)) := by
    rcases hc0 with rfl | rfl
    · have hsh : w.shape? l.cb = some (64, 2) := by simp [World.shape?, hh]
      have hc : w.cell? ⟨l.cb, 0, none⟩ = some (.pointer none) := by simp [World.cell?, hh]
      have hf : w.frozen? ⟨l.cb, 0, none⟩ = false := by simp [World.frozen?, hh]
      have hw1 := setCell_heap w l.cb 0 (.pointer (some ⟨l.cb, 0, none⟩)) hh
      obtain ⟨r1, r2, r3, r4⟩ := setCells_rest [.pointer (some ⟨l.cb, 0, none⟩)] 0 w l.cb
      have ho : ∀ k, k ≠ l.cb → (w.setCell ⟨l.cb, 0, none⟩ (.pointer (some ⟨l.cb, 0, none⟩))).heap[k]? = w.heap[k]? := fun k hk => setCells_other [.pointer (some ⟨l.cb, 0, none⟩)] 0 w l.cb k hk
      have hw2 : (w.setCell ⟨l.cb, 0, none⟩ (.pointer (some ⟨l.cb, 0, none⟩))).heap[l.cb]? = some (.cells #[.pointer (some ⟨l.cb, 0, none⟩), cv] 64 (0, 0)) := by rw [hw1]; rfl
      have R := r.upd hl hb trivial (x' := .bld v) (w' := w.setCell ⟨l.cb, 0, none⟩ (.pointer (some ⟨l.cb, 0, none⟩))) r1 ho ⟨⟨l1, l2, l3⟩, _, _, cv, hT, hw2, .inr rfl, hcv, hbo⟩
      have X := Ext.upd r hl hb (owned_bld hl hb) (x' := .bld v) (w' := w.setCell ⟨l.cb, 0, none⟩ (.pointer (some ⟨l.cb, 0, none⟩))) r1 ho r2 r3 r4
      rw [hset] at R X
      exact ⟨_, check_fresh l.cb w hc hsh hf, R, X, hw2⟩
    · have hc : w.cell? ⟨l.cb, 0, none⟩ = some (.pointer (some ⟨l.cb, 0, none⟩)) := by simp [World.cell?, hh]
      exact ⟨w, check_used l.cb w hc, r, Ext.refl _ _ _, hh⟩
  obtain ⟨w1, hck, R1, X1, hh1⟩ := key
  have hf : ∀ l : List UInt8, VRels σ (l.map fun c => [AV.int .u8 (c.toNat : Int)]).flatten (l.map fun c => Value.int .u8 c.toNat) := by
    intro l
    induction l with
    | nil => trivial
    | cons c l ih => exact ⟨by simp [VRel], ih⟩
  have hb5 : Tryz.prog.bytesOf 5 = 1 := by kernel_rfl
  have hz5 : (zeroOf Tryz.prog 5).map List.length = some 1 := by kernel_rfl
  obtain ⟨z, hz, hzl⟩ := Option.map_eq_some_iff.1 hz5
  have hc5 : Tryz.prog.cellsOf 5 = 1 := by kernel_rfl
  obtain ⟨c, w2, σ2, hrun, hv2, R2, X2, hty⟩ := append_run5 (P := Tryz.prog) R1 Tryz.underlying60 hc5 (by omega) (by omega) (by omega) (by omega) hz hzl (argTypes := #[60, 9]) rfl rfl Tryz.underlying9 (.inr rfl) (ty := 60) hcv (hf s) (by intro e' he'; simp at he'; obtain ⟨_, _, rfl⟩ := he'; rfl)
      (by simp [AV.scalar]) (xv := .string ⟨s.toArray⟩) (by
        intro w' _
        have : ((⟨s.toArray⟩ : ByteArray).extract 0 s.length) = ⟨s.toArray⟩ := by
          have : s.length = (⟨s.toArray⟩ : ByteArray).size := by simp [ByteArray.size]
          rw [this, ByteArray.extract_zero_size]
        simp [Builtin.firstCells, this]) (by simp [Builtin.lenOf, ByteArray.size]) he
  have hb1 := append_other he hb
  have hl2 := X2.inj b l hl
  obtain ⟨_, T2, d0, dv, hT2, hh2, hd0, hdv, hdo⟩ := R2.blk b l _ hl2 hb1
  have hT2' : T2 = 64 := by
    have h1 : bldTy = some 64 := rfl
    rw [h1] at hT2; cases hT2; rfl
  subst hT2'
  obtain ⟨ao, m, cap, rfl⟩ : ∃ ao m cap, c = .slice ao m cap := by
    have hs : v' = .nilslice ∨ ∃ g n c, v' = .slice g 1 0 n c false := by
      rcases hty with rfl | ⟨g, n, c, lg, rfl, _⟩
      · rcases hbo with rfl | ⟨g, n, c, lg, rfl, _⟩
        · exact .inl rfl
        · exact .inr ⟨_, _, _, rfl⟩
      · exact .inr ⟨_, _, _, rfl⟩
    rcases hs with rfl | ⟨g, n, c', rfl⟩
    · exact ⟨_, _, _, vrel_nilslice hv2⟩
    · obtain ⟨a, c1, e, _⟩ := vrel_slice hv2
      exact ⟨_, _, _, e⟩
  have hbuf : BufOk σ2 v' := by
    rcases hty with rfl | ⟨g, n, c, lg, rfl, k1, k2⟩
    · exact hbo.imp id fun ⟨g, n, c, lg, q1, q2, q3⟩ => ⟨g, n, c, lg, q1, X2.inj _ _ q2, q3⟩
    · refine .inr ⟨g, n, c, lg, rfl, k1, ?_⟩
      rcases k2 with k2 | ⟨b0, i0, n0, c0, x0, l0, rfl, q1, q2, q3⟩
      · exact k2
      · rcases hbo with hbo | ⟨g1, n1, c1, lg1, e1, e2, e3, e4⟩
        · cases hbo
        · cases e1
          rw [q1] at e2; cases e2
          exact ⟨by rw [q2, e3], by rw [q3, e4]⟩
  have ow : ∀ k, k ≠ l.cb → (w2.setCell ⟨l.cb, 1, none⟩ (.slice ao m cap)).heap[k]? = w2.heap[k]? := fun k hk => setCells_other [.slice ao m cap] 1 w2 l.cb k hk
  obtain ⟨r1, r2, r3, r4⟩ := setCells_rest [.slice ao m cap] 1 w2 l.cb
  have hh3 : (w2.setCell ⟨l.cb, 1, none⟩ (.slice ao m cap)).heap[l.cb]? = some (.cells #[d0, .slice ao m cap] 64 (0, 0)) := setCell_heap w2 l.cb 1 (.slice ao m cap) hh2
  have R3 := R2.upd hl2 hb1 trivial (x' := .bld v') (w' := w2.setCell ⟨l.cb, 1, none⟩ (.slice ao m cap)) r1 ow ⟨⟨l1, l2, l3⟩, _, d0, .slice ao m cap, hT2, hh3, hd0, hv2, hbuf⟩
  have X3 := Ext.upd R2 hl2 hb1 (owned_bld hl2 hb1) (x' := .bld v') (w' := w2.setCell ⟨l.cb, 1, none⟩ (.slice ao m cap)) r1 ow r2 r3 r4
  refine (write_walk l.cb w w1 w2 dv cv ao m cap ⟨s.toArray⟩ hck (by simp [World.cell?, hh1]) hrun (by simp [World.cell?, hh2]) (by simp [World.frozen?, hh2])).mono ?_
  rintro e w3 ⟨rfl, rfl⟩
  exact ⟨_, σ2, rfl, by simp [VRel, VRels, ByteArray.size], R3, (X1.trans X2).trans X3⟩
/-- A writer's text, of a buffer with something in it. -/
theorem text_sound {σ : Inj} {h : H} {w : World} (r : Rep σ h w) {b : Nat} {l : Eng.Loc} (hl : σ b = some l) {g n c : Nat} (hb : h[b]? = some (.bld (.slice g 1 0 n c false))) {els : List (List AV)} (hg : h[g]? = some (.row 1 els true true)) (hn0 : n ≠ 0) (hn : n ≤ els.length) (hn3 : n ≤ 4611686018427387904) {s : List UInt8} (hs : bytesB (els.take n) = some s) :
    Calls Tryz.prog 24 #[.pointer (some ⟨l.cb, 0, none⟩)] w fun e w' => ∃ c σ', e = .returned c ∧ VRel σ' (.str s) c ∧ Rep σ' (h.set g .dead) w' ∧ Ext σ h w σ' (h.set g .dead) w' := by
  obtain ⟨⟨l1, l2, l3⟩, T, c0, cv, hT, hh, hc0, hcv, hbo⟩ := r.blk b l _ hl hb
  obtain ⟨a, c', rfl, h1, h2, _, lg, hlg, he1, hlim, hle, had⟩ := vrel_slice hcv
  have had := had.resolve_left (by omega)
  rcases hbo with hbo | ⟨g1, n1, k1, lg1, e1, e2, e3, e4⟩
  · cases hbo
  cases e1
  rw [hlg] at e2; cases e2
  obtain ⟨q1, q2, q3, cs, ty, fz, hgh, ⟨q5, q6⟩, q7, q8⟩ := r.blk g lg _ hlg hg
  have ha : a = ⟨lg.cb, 0, none⟩ := by rw [had, e3]; simp
  subst ha
  rw [q6, e4] at hgh
  obtain ⟨b1, b2⟩ := bytesB_get hs
  have hsl : s.length = n := by rw [← b1, List.length_take, Nat.min_eq_left hn]
  have hs0 : s ≠ [] := by rintro rfl; simp at hsl; omega
  have hcell : ∀ j x, s[j]? = some x → w.drew.cell? ((⟨lg.cb, 0, none⟩ : Addr).add j) = some (.int .u8 (x.toNat : Int)) := by
    intro j x hx
    have hj := (List.getElem?_eq_some_iff.1 hx).1
    have := b2 j x hx
    rw [List.getElem?_take, if_pos (by omega)] at this
    obtain ⟨v1, v2⟩ := q7 j _ this
    obtain ⟨cc, hcc, hr⟩ := v2 0 _ rfl
    rw [vrel_int hr] at hcc
    have hd : w.drew.heap[lg.cb]? = some (.cells cs 5 fz) := hgh
    rw [addr_add]
    simp only [World.cell?, hd]
    rw [e3] at hcc
    simpa using hcc
  have c1 : w.drew.cell? ⟨l.cb, 1, none⟩ = some (.slice (some ⟨lg.cb, 0, none⟩) n c') := by
    have hd : w.drew.heap[l.cb]? = _ := hh
    simp [World.cell?, hd]
  have hSD : (Builtin.unsafeSliceData_ #[60] 108 #[.slice (some ⟨lg.cb, 0, none⟩) n c']).run Tryz.prog w.drew = .ok (.pointer (some ⟨lg.cb, 0, none⟩)) w.drew := Lib.run_unsafeSliceData_row _ _ _ _ _ _ (by omega)
  have hsz : n ≤ cs.size := by
    have := q2
    rw [e3, ← q1] at q5
    omega
  have hUS : (Builtin.unsafeString_ #[108, 3] 9 #[.pointer (some ⟨lg.cb, 0, none⟩), .int .i64 n]).run Tryz.prog w.drew = .ok (.string ⟨s.toArray⟩) (w.drew.freeze ⟨lg.cb, 0, none⟩ n) := by
    have hd : w.drew.heap[lg.cb]? = some (.cells cs 5 fz) := hgh
    have := Lib.run_unsafeString_row (P := Tryz.prog) w.drew 108 3 9 5 Tryz.underlying108 (by kernel_rfl) lg.cb cs.size (by simp [World.shape?, hd]) s hs0 (by omega) (by omega) hcell
    rw [hsl] at this
    exact this
  have hfz : ∀ k, k ≠ lg.cb → (w.drew.freeze ⟨lg.cb, 0, none⟩ n).heap[k]? = w.heap[k]? := by
    intro k hk
    unfold World.freeze
    rw [if_neg hn0]
    simp only [Array.getElem?_modify]
    rw [if_neg (Ne.symm hk)]; rfl
  have hfs : (w.drew.freeze ⟨lg.cb, 0, none⟩ n).heap.size = w.heap.size := by
    unfold World.freeze
    rw [if_neg hn0]
    simp
  have hrest : (w.drew.freeze ⟨lg.cb, 0, none⟩ n).tape = w.tape ∧ (w.drew.freeze ⟨lg.cb, 0, none⟩ n).os = w.os ∧ (w.drew.freeze ⟨lg.cb, 0, none⟩ n).output = w.output := by
    unfold World.freeze
    rw [if_neg hn0]
    exact ⟨rfl, rfl, rfl⟩
  have R := r.upd hlg hg rfl (x' := .dead) (w' := w.drew.freeze ⟨lg.cb, 0, none⟩ n) hfs hfz trivial
  have X := Ext.upd r hlg hg (owned_of hlg hg) (x' := .dead) (w' := w.drew.freeze ⟨lg.cb, 0, none⟩ n) hfs hfz hrest.1 hrest.2.1 hrest.2.2
  refine (text_walk l.cb lg.cb w n c' s c1 hSD hUS).mono ?_
  rintro e w3 ⟨rfl, rfl⟩
  exact ⟨_, σ, rfl, by simp [VRel], R, X⟩
theorem text0_sound {σ : Inj} {h : H} {w : World} (r : Rep σ h w) {b : Nat} {l : Eng.Loc} (hl : σ b = some l) (hb : h[b]? = some (.bld .nilslice)) :
    Calls Tryz.prog 24 #[.pointer (some ⟨l.cb, 0, none⟩)] w fun e w' => ∃ c σ', e = .returned c ∧ VRel σ' (.str []) c ∧ Rep σ' h w' ∧ Ext σ h w σ' h w' := by
  obtain ⟨⟨l1, l2, l3⟩, T, c0, cv, hT, hh, hc0, hcv, hbo⟩ := r.blk b l _ hl hb
  obtain rfl := vrel_nilslice hcv
  have c1 : w.drew.cell? ⟨l.cb, 1, none⟩ = some (.slice none 0 0) := by
    have hd : w.drew.heap[l.cb]? = _ := hh
    simp [World.cell?, hd]
  refine (text0_walk l.cb w c1).mono ?_
  rintro e w3 ⟨rfl, rfl⟩
  exact ⟨_, σ, rfl, by simp [VRel], r.drew rfl, Ext.drew ⟨rfl, rfl, rfl, rfl⟩⟩
theorem sp_tab : ∀ c : Nat, c < 256 → (if Lib.isSp (UInt8.ofNat c) = true then (1 : Int) else 0) = if c = 32 ∨ (9 ≤ c ∧ c ≤ 13) then 1 else 0 := by decide
theorem fields_sound {σ : Inj} {h : H} {w : World} (r : Rep σ h w) (s : List UInt8) (hs : s.length < 4294967281) (ha : (s.all fun c => decide (c.toNat < 128)) = true) :
    Calls Tryz.prog 43 #[.string ⟨s.toArray⟩] w fun e w' => ∃ c σ', e = .returned c ∧ VRel σ' (.slice h.length 1 0 (Lib.fields s).length (Lib.fields s).length true) c ∧ Rep σ' (h ++ [.row 1 ((Lib.fields s).map fun l => [.str l]) true true]) w' ∧
      Ext σ h w σ' (h ++ [.row 1 ((Lib.fields s).map fun l => [.str l]) true true]) w' := by
  obtain ⟨o, ho, cs, ty, fz, rfl, hcs⟩ := r.lay.is_ _ (List.Mem.head _)
  have hT : ∀ c : Nat, c < 256 → w.cell? ⟨Tryz.lays157_ren.g 0, c, none⟩ = some (.int .u8 (if Lib.isSp (UInt8.ofNat c) then 1 else 0)) := by
    intro c hc
    have := sp_tab c hc
    rw [this]
    have h0 : w.heap[Tryz.lays157_ren.g 0]? = some (.cells cs ty fz) := ho
    simp only [World.cell?, h0]
    simpa using hcs c hc
  have hc := Any.strings_Fields_core Tryz.lays157 (by kernel_rfl) ⟨s.toArray⟩ w (by simpa [ByteArray.size] using hs) (by
    intro j b hj
    have : b ∈ s := List.mem_of_getElem? (by simpa using hj)
    simpa using (List.all_eq_true.1 ha) b this) hT
  obtain ⟨F, hF⟩ : ∃ F, F = Lib.fields s := ⟨_, rfl⟩
  have hd : (⟨s.toArray⟩ : ByteArray).data.toList = s := by simp
  rw [hd, ← hF] at hc
  rw [← hF]
  refine hc.mono ?_
  rintro e w' ⟨rfl, rfl⟩
  have hfr : σ h.length = none := by
    cases hq : σ h.length with
    | none => rfl
    | some m => have := r.dom _ m hq; omega
  have hgrew : Grew w (w.alloc (.cells (F.map fun l => Value.string ⟨l.toArray⟩).toArray 9 (0, 0))) (.cells (F.map fun l => Value.string ⟨l.toArray⟩).toArray 9 (0, 0)) := ⟨rfl, rfl, rfl, rfl⟩
  have hrel : BlkRel (σ.bind h.length ⟨w.heap.size, 0, 1, F.length, 9⟩) (w.alloc (.cells (F.map fun l => Value.string ⟨l.toArray⟩).toArray 9 (0, 0))) ⟨w.heap.size, 0, 1, F.length, 9⟩ (.row 1 (F.map fun l => [.str l]) true true) := by
    refine row_rel rfl rfl (by simp) (by intro e he; simp at he; obtain ⟨_, _, rfl⟩ := he; rfl) (push_at w _) rfl (by simp) ?_ (by intro o _; simp) _ _ (fun h => h)
    have ht : (F.map fun l => Value.string ⟨l.toArray⟩).toArray.toList.take ((F.map fun l => [AV.str l]).length * 1) = F.map fun l => Value.string ⟨l.toArray⟩ := by
      simp
      exact List.take_of_length_le (by simp)
    rw [ht]
    have : ∀ (τ : Inj) (F : List (List UInt8)), VRels τ (F.map fun l => [AV.str l]).flatten (F.map fun l => Value.string ⟨l.toArray⟩) := by
      intro τ F
      induction F with
      | nil => trivial
      | cons c l ih => exact ⟨by simp [VRel], ih⟩
    exact this _ F
  exact ⟨_, σ.bind h.length ⟨w.heap.size, 0, 1, F.length, 9⟩, rfl, by simp [VRel, Inj.bind], (r.push _).make hfr (by simp) hgrew.heap rfl hrel, Ext.make r rfl hgrew rfl⟩
theorem exW_ok : CfSound Tryz.prog exW := by
  intro f vs h v h' hr
  unfold exW at hr
  split at hr
  · rename_i h b s
    split at hr
    · rename_i v0 hb
      split at hr
      · rename_i v' h1 he
        cases hr
        refine ⟨by kernel_rfl, fun σ w cs r hvs => ?_⟩
        obtain ⟨c, cs', rfl, e1, e2⟩ := vrels_cons hvs
        obtain ⟨c2, cs2, rfl, e3, e4⟩ := vrels_cons e2
        obtain rfl := vrels_nil e4
        obtain rfl := vrel_str e3
        obtain ⟨l, hl, rfl⟩ := vrel_ptr e1
        have h0 := (r.blk b l _ hl hb).1.1
        have := writes_sound r hl hb s he
        simpa [h0] using this
      · cases hr
    · cases hr
  · rename_i h b
    split at hr
    · rename_i hb
      cases hr
      refine ⟨by kernel_rfl, fun σ w cs r hvs => ?_⟩
      obtain ⟨c, cs', rfl, e1, e2⟩ := vrels_cons hvs
      obtain rfl := vrels_nil e2
      obtain ⟨l, hl, rfl⟩ := vrel_ptr e1
      have h0 := (r.blk b l _ hl hb).1.1
      have := text0_sound r hl hb
      simpa [h0] using this
    · rename_i g n c hb
      split at hr
      · rename_i els hg
        split at hr
        · rename_i hn
          split at hr
          · rename_i s hs
            cases hr
            refine ⟨by kernel_rfl, fun σ w cs r hvs => ?_⟩
            obtain ⟨c, cs', rfl, e1, e2⟩ := vrels_cons hvs
            obtain rfl := vrels_nil e2
            obtain ⟨l, hl, rfl⟩ := vrel_ptr e1
            have h0 := (r.blk b l _ hl hb).1.1
            have := text_sound r hl hb hg hn.1 hn.2.1 hn.2.2 hs
            simpa [h0] using this
          · cases hr
        · cases hr
      · cases hr
    · cases hr
  · split at hr
    · rename_i h s hn
      cases hr
      refine ⟨by kernel_rfl, fun σ w cs r hvs => ?_⟩
      obtain ⟨c, cs', rfl, e1, e2⟩ := vrels_cons hvs
      obtain rfl := vrels_nil e2
      obtain rfl := vrel_str e1
      exact fields_sound r s hn.1 hn.2
    · cases hr
  · cases hr
end Go.Proofs.YtgnenipkebelfaaGreatDoor.Lt
