/- The engine, part W: blocks behind a heap whose length is not known; layers. -/
import Derived.Test.YtgnenipkebelfaaGreatDoorEngV
set_option linter.unusedVariables false
set_option linter.unusedSimpArgs false
namespace Go.Eng
open Go

theorem lp_get {α : Type} (h l : List α) (n : Nat) : (h ++ l)[h.length + n]? = l[n]? := by rw [List.getElem?_append_right (by omega)]; congr 1; omega
theorem lp_set {α : Type} (h l : List α) (n : Nat) (x : α) : (h ++ l).set (h.length + n) x = h ++ l.set n x := by rw [List.set_append_right _ _ (by omega)]; congr 2; omega
theorem hp_get0 (h l : H) : (h ++ l)[h.length]? = l[0]? := lp_get h l 0
theorem hp_get (h l : H) (n : Nat) : (h ++ l)[h.length + n]? = l[n]? := lp_get h l n
theorem hp_get2 (h l : H) (n m : Nat) : (h ++ l)[h.length + n + m]? = l[n + m]? := by rw [Nat.add_assoc]; exact lp_get h l (n + m)
theorem hp_get3 (h l : H) (n m k : Nat) : (h ++ l)[h.length + n + m + k]? = l[n + m + k]? := by
  have : h.length + n + m + k = h.length + (n + m + k) := by omega
  rw [this]; exact lp_get h l (n + m + k)
theorem hp_set0 (h l : H) (x : Blk) : (h ++ l).set h.length x = h ++ l.set 0 x := lp_set h l 0 x
theorem hp_set (h l : H) (n : Nat) (x : Blk) : (h ++ l).set (h.length + n) x = h ++ l.set n x := lp_set h l n x
theorem hp_set2 (h l : H) (n m : Nat) (x : Blk) : (h ++ l).set (h.length + n + m) x = h ++ l.set (n + m) x := by rw [Nat.add_assoc]; exact lp_set h l (n + m) x
theorem hp_set3 (h l : H) (n m k : Nat) (x : Blk) : (h ++ l).set (h.length + n + m + k) x = h ++ l.set (n + m + k) x := by
  have : h.length + n + m + k = h.length + (n + m + k) := by omega
  rw [this]; exact lp_set h l (n + m + k) x

theorem lq_get {α : Type} (h l : List α) (n : Nat) (hp : h.length + n < (h ++ l).length) : (h ++ l)[h.length + n] = l[n]'(by rw [List.length_append] at hp; omega) := by
  have := lp_get h l n
  rw [List.getElem?_eq_getElem hp, List.getElem?_eq_getElem (by rw [List.length_append] at hp; omega)] at this
  exact Option.some.inj this
theorem hq_get0 (h l : H) (hp : h.length < (h ++ l).length) : (h ++ l)[h.length] = l[0]'(by rw [List.length_append] at hp; omega) := lq_get h l 0 hp
theorem hq_get (h l : H) (n : Nat) (hp : h.length + n < (h ++ l).length) : (h ++ l)[h.length + n] = l[n]'(by rw [List.length_append] at hp; omega) := lq_get h l n hp
theorem hq_get2 (h l : H) (n m : Nat) (hp : h.length + n + m < (h ++ l).length) : (h ++ l)[h.length + n + m] = l[n + m]'(by rw [List.length_append] at hp; omega) := by
  have := lq_get h l (n + m) (by omega)
  simpa only [← Nat.add_assoc] using this
theorem hq_get3 (h l : H) (n m k : Nat) (hp : h.length + n + m + k < (h ++ l).length) : (h ++ l)[h.length + n + m + k] = l[n + m + k]'(by rw [List.length_append] at hp; omega) := by
  have := lq_get h l (n + m + k) (by omega)
  simpa only [← Nat.add_assoc] using this

theorem wr_0 : IntKind.i64.wrap 0 = 0 := wrap_i64 (by omega) (by omega)
theorem wr_1 : IntKind.i64.wrap 1 = 1 := wrap_i64 (by omega) (by omega)
theorem wr_2 : IntKind.i64.wrap 2 = 2 := wrap_i64 (by omega) (by omega)
theorem wr_3 : IntKind.i64.wrap 3 = 3 := wrap_i64 (by omega) (by omega)
theorem wr_4 : IntKind.i64.wrap 4 = 4 := wrap_i64 (by omega) (by omega)
theorem wr_n1 : IntKind.i64.wrap (-1) = -1 := wrap_i64 (by omega) (by omega)
theorem wf_i64 {n : Int} (h : (Lit.int .i64 n).wf = true) : -9223372036854775808 ≤ n ∧ n ≤ 9223372036854775807 := by
  simp [Lit.wf, IntKind.min, IntKind.max, IntKind.signed, IntKind.bits] at h
  omega
theorem wf_u64 {n : Int} (h : (Lit.int .u64 n).wf = true) : 0 ≤ n ∧ n ≤ 18446744073709551615 := by
  simp [Lit.wf, IntKind.min, IntKind.max, IntKind.signed, IntKind.bits] at h
  omega
/-- A layer: what was shown of calls is known. -/
theorem sub_sound {P : Program} {cf ex : FuncId → List AV → M AV} (hcf : CfSound P cf) (hex : ∀ (f : FuncId) (vs : List AV) (h : H) (r : AV × H), ex f vs h = some r → cf f vs h = some r) : CfSound P ex :=
  fun f vs h v h' hr => hcf f vs h v h' (hex f vs h _ hr)
theorem bne_true {a b : Int} (h : a ≠ b) : (a != b) = true := by simpa using h
theorem bne_false {a b : Int} (h : a = b) : (a != b) = false := by simpa using h
theorem beq_false {a b : Int} (h : a ≠ b) : (a == b) = false := by simpa using h
theorem beq_true {a b : Int} (h : a = b) : (a == b) = true := by simpa using h
theorem dec_true {p : Prop} [Decidable p] (h : p) : decide p = true := by simpa using h
theorem dec_false {p : Prop} [Decidable p] (h : ¬ p) : decide p = false := by simpa using h
end Go.Eng
