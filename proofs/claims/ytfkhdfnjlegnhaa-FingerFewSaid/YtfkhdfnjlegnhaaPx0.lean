-- Printed by this session's program wip/lprint.py (a changed copy of the kit's print), out of the translation. Not trusted: Lean checks it.
import Derived.Test.YtfkhdfnjlegnhaaProg
import Derived.Below
import Derived.Deep.Draws
import Derived.Deep.AppendLies
import Derived.Maps.AppendAt
import Derived.OwnWalk
import Derived.Laws.BytesArg
import Derived.Laws.MakeOwn
import Derived.Laws.OwnMore
import Derived.Deep.OwnRows
import Derived.Tactics
import Derived.Lib.ConvBytes
import Derived.Laws.Slices
import Derived.WalkKit
import Derived.KernelRfl
import Derived.RowKit3
import Derived.Deep.LoopGhost
import Derived.Deep.QuietTactic
import Derived.BigQuiet
import Derived.WideLaws
import Derived.Deep.DeepCutAuto
import Derived.Deep.CutBlock
import Derived.Deep.RegionHeld3
import Derived.Laws.Rows
import Derived.Lib.AppendStr
import Derived.ArgAppend
import Derived.Laws.IdiomCopy
import Derived.OrdersHeld
import Derived.Laws.BitsLemmas
import Derived.RowKit
import Derived.WalkMore
import Derived.Test.YtfkhdfnjlegnhaaWWords
import Derived.Test.YtfkhdfnjlegnhaaWLast
import Derived.Test.YtfkhdfnjlegnhaaWTab
import Derived.Test.YtfkhdfnjlegnhaaWFour
import Derived.Test.YtfkhdfnjlegnhaaWQPut
import Derived.Test.YtfkhdfnjlegnhaaWApart
import Derived.Test.YtfkhdfnjlegnhaaWArr
import Derived.Test.YtfkhdfnjlegnhaaWZeros
import Derived.Test.YtfkhdfnjlegnhaaWFoot
import Derived.Test.YtfkhdfnjlegnhaaWKept
import Derived.Test.YtfkhdfnjlegnhaaWShare
import Derived.Test.YtfkhdfnjlegnhaaWN
import Derived.Test.YtfkhdfnjlegnhaaWFootNe
import Derived.Test.YtfkhdfnjlegnhaaWAt
import Derived.Test.YtfkhdfnjlegnhaaWEqStruct
import Derived.Test.YtfkhdfnjlegnhaaWRepsOne
import Derived.Test.YtfkhdfnjlegnhaaWInv
import Derived.Test.YtfkhdfnjlegnhaaWInvWords
import Derived.Test.YtfkhdfnjlegnhaaWGuard
import Derived.Test.YtfkhdfnjlegnhaaWNEv
import Derived.Test.YtfkhdfnjlegnhaaWMore
namespace Go.Proofs.Ytfkhdfnjlegnhaa.P
open Go.RowKit Go.Proofs.YtfkhdfnjlegnhaaW.PrintWords Go.Proofs.YtfkhdfnjlegnhaaW.PrintLast Go.Proofs.YtfkhdfnjlegnhaaW.PrintMore
attribute [local go_sem] max2_int min2_int max_two min_two max_three min_three max_four min_four   -- for this text's walks alone
set_option linter.unusedVariables false
set_option linter.unusedSimpArgs false



def errW : Option Int → Value
  | none => .nilIface
  | some c => .iface 0 (.int .i64 c)
theorem errW_none : errW none = .nilIface := rfl
theorem errW_some (c : Int) : errW (some c) = .iface 0 (.int .i64 c) := rfl

theorem info3 : (Try.prog.info? 3).map (fun i => (i.zero, i.size, i.bytes)) = some (some (.int .i64 0), 1, 8) := by kernel_rfl
theorem info5 : (Try.prog.info? 5).map (fun i => (i.zero, i.size, i.bytes)) = some (some (.int .u8 0), 1, 1) := by kernel_rfl
theorem info9 : (Try.prog.info? 9).map (fun i => (i.zero, i.size, i.bytes)) = some (some (.string ⟨#[]⟩), 1, 16) := by kernel_rfl
theorem info22 : (Try.prog.info? 22).map (fun i => (i.zero, i.size, i.bytes)) = some (some (.int .u64 0), 1, 8) := by kernel_rfl
theorem info87 : (Try.prog.info? 87).map (fun i => (i.zero, i.size, i.bytes)) = some (some (.agg #[(.int .i64 0), (.int .i64 0), (.int .i64 0), (.int .i64 0), (.int .i64 0), (.string ⟨#[]⟩), (.string ⟨#[]⟩), (.string ⟨#[]⟩), (.int .i64 0), (.int .i64 0), (.string ⟨#[]⟩), (.slice none 0 0), (.bool false), (.string ⟨#[]⟩), (.int .i64 0)]), 15, 176) := by kernel_rfl
theorem info92 : (Try.prog.info? 92).map (fun i => (i.zero, i.size, i.bytes)) = some (some (.agg #[(.int .i64 0), (.int .i64 0), (.int .i64 0), (.int .i64 0), (.int .i64 0), (.string ⟨#[]⟩), (.string ⟨#[]⟩), (.string ⟨#[]⟩), (.int .i64 0), (.int .i64 0), (.string ⟨#[]⟩), (.slice none 0 0), (.bool false), (.string ⟨#[]⟩), (.int .i64 0), (.int .u64 0), (.int .u64 0), (.int .i64 0), (.slice none 0 0), (.int .i64 0), (.int .i64 0)]), 21, 240) := by kernel_rfl
theorem info98 : (Try.prog.info? 98).map (fun i => (i.zero, i.size, i.bytes)) = some (some (.agg #[(.string ⟨#[]⟩), (.string ⟨#[]⟩)]), 2, 32) := by kernel_rfl
theorem info101 : (Try.prog.info? 101).map (fun i => (i.zero, i.size, i.bytes)) = some (some (.agg #[(.int .u64 0), (.int .u64 0), (.int .i64 0), (.int .i64 0)]), 4, 32) := by kernel_rfl
-- the values' own types
def rd_L2 (xs : List (List ByteArray)) (i : Int) : (List ByteArray) := xs.getD i.toNat ([] : List ByteArray)
theorem at_L2 {w : World} {A : Option Addr} {n : Nat} {xs : List (List ByteArray)} (h : Kd.C (Kd.slice 9 Kd.string) w A n xs) (i : Int) (h0 : 0 ≤ i) (h1 : i < n) : ∃ ad A0 c0, A = some ad ∧ w.cell? (ad.add i.toNat) = some (.slice A0 (rd_L2 xs i).length c0) ∧ (rd_L2 xs i).length ≤ c0 ∧ Kd.string.C w A0 (rd_L2 xs i).length (rd_L2 xs i) := by
  obtain ⟨ad, c, e, _, hK, hc0⟩ := Kd.C_get h ([] : List ByteArray) i h0 h1
  have hc : ∀ j u, c[j]? = some u → w.cell? (ad.add (i.toNat * 1 + j)) = some u := hc0
  obtain ⟨A0, c0, rfl, l0, g0⟩ := hK
  exact ⟨ad, A0, c0, e, by have hq := hc 0 _ rfl; rwa [Nat.mul_one, Nat.add_zero] at hq, l0, g0⟩

def rd_L4 (xs : List (List Int)) (i : Int) : (List Int) := xs.getD i.toNat ([] : List Int)
theorem at_L4 {w : World} {A : Option Addr} {n : Nat} {xs : List (List Int)} (h : Kd.C (Kd.slice 3 (Kd.int .i64)) w A n xs) (i : Int) (h0 : 0 ≤ i) (h1 : i < n) : ∃ ad A0 c0, A = some ad ∧ w.cell? (ad.add i.toNat) = some (.slice A0 (rd_L4 xs i).length c0) ∧ (rd_L4 xs i).length ≤ c0 ∧ (Kd.int .i64).C w A0 (rd_L4 xs i).length (rd_L4 xs i) := by
  obtain ⟨ad, c, e, _, hK, hc0⟩ := Kd.C_get h ([] : List Int) i h0 h1
  have hc : ∀ j u, c[j]? = some u → w.cell? (ad.add (i.toNat * 1 + j)) = some u := hc0
  obtain ⟨A0, c0, rfl, l0, g0⟩ := hK
  exact ⟨ad, A0, c0, e, by have hq := hc 0 _ rfl; rwa [Nat.mul_one, Nat.add_zero] at hq, l0, g0⟩

def rd_L5 (xs : List (List Int)) (i : Int) : (List Int) := xs.getD i.toNat ([] : List Int)
theorem at_L5 {w : World} {A : Option Addr} {n : Nat} {xs : List (List Int)} (h : Kd.C (Kd.slice 22 (Kd.int .u64)) w A n xs) (i : Int) (h0 : 0 ≤ i) (h1 : i < n) : ∃ ad A0 c0, A = some ad ∧ w.cell? (ad.add i.toNat) = some (.slice A0 (rd_L5 xs i).length c0) ∧ (rd_L5 xs i).length ≤ c0 ∧ (Kd.int .u64).C w A0 (rd_L5 xs i).length (rd_L5 xs i) := by
  obtain ⟨ad, c, e, _, hK, hc0⟩ := Kd.C_get h ([] : List Int) i h0 h1
  have hc : ∀ j u, c[j]? = some u → w.cell? (ad.add (i.toNat * 1 + j)) = some u := hc0
  obtain ⟨A0, c0, rfl, l0, g0⟩ := hK
  exact ⟨ad, A0, c0, e, by have hq := hc 0 _ rfl; rwa [Nat.mul_one, Nat.add_zero] at hq, l0, g0⟩

/-! #### struct type 98 -/
structure S98 where
  f0 : ByteArray
  f1 : ByteArray
def z98 : S98 := ⟨(⟨#[]⟩ : ByteArray), (⟨#[]⟩ : ByteArray)⟩
def k98 : Kd S98 := Kd.iso (Kd.pair Kd.string Kd.string) (fun x : S98 => (x.f0, x.f1))
theorem k98_open {w : World} {x : S98} {cs : List Value} (h : k98.K w x cs) : cs = [.string x.f0, .string x.f1] := by
  obtain ⟨_, _, rfl, rfl, rfl⟩ := h
  exact rfl
theorem k98_openM {w : World} {base : Nat} {ok : Nat → Prop} {x : S98} {cs : List Value} (h : k98.M w base ok x cs) : cs = [.string x.f0, .string x.f1] := by
  obtain ⟨_, _, rfl, rfl, rfl⟩ := h
  exact rfl
theorem k98_mk (w : World) (x : S98)  : k98.K w x [.string x.f0, .string x.f1] := ⟨[.string x.f0], [.string x.f1], rfl, rfl, rfl⟩
theorem k98_mkM (w : World) (base : Nat) (ok : Nat → Prop) (x : S98)  : k98.M w base ok x [.string x.f0, .string x.f1] := ⟨[.string x.f0], [.string x.f1], rfl, rfl, rfl⟩
theorem k98_mkF (W : World) (ok : Nat → Prop) (x : S98) : Kd.FK k98 W ok x [.string x.f0, .string x.f1] := fun W2 _ => k98_mk W2 x
def rd_T98 (xs : List S98) (i : Int) : S98 := xs.getD i.toNat z98
theorem at_T98 {w : World} {A : Option Addr} {n : Nat} {xs : List S98} (h : Kd.C k98 w A n xs) (i : Int) (h0 : 0 ≤ i) (h1 : i < n) : ∃ ad , A = some ad ∧ w.cell? (ad.add (i.toNat * 2)) = some (.string (rd_T98 xs i).f0) ∧ w.cell? ⟨(ad.add (i.toNat * 2)).block, (ad.add (i.toNat * 2)).off + 1, none⟩ = some (.string (rd_T98 xs i).f1) := by
  obtain ⟨ad, c, e, _, hK, hc0⟩ := Kd.C_get h z98 i h0 h1
  have hc : ∀ j u, c[j]? = some u → w.cell? (ad.add (i.toNat * 2 + j)) = some u := hc0
  obtain rfl := k98_open hK
  exact ⟨ad, e, hc 0 _ rfl, by rw [← add_field _ _ 1 (by omega)]; exact hc 1 _ rfl⟩

def rd_L7 (xs : List (List S98)) (i : Int) : (List S98) := xs.getD i.toNat ([] : List S98)
theorem at_L7 {w : World} {A : Option Addr} {n : Nat} {xs : List (List S98)} (h : Kd.C (Kd.slice 98 k98) w A n xs) (i : Int) (h0 : 0 ≤ i) (h1 : i < n) : ∃ ad A0 c0, A = some ad ∧ w.cell? (ad.add i.toNat) = some (.slice A0 (rd_L7 xs i).length c0) ∧ (rd_L7 xs i).length ≤ c0 ∧ k98.C w A0 (rd_L7 xs i).length (rd_L7 xs i) := by
  obtain ⟨ad, c, e, _, hK, hc0⟩ := Kd.C_get h ([] : List S98) i h0 h1
  have hc : ∀ j u, c[j]? = some u → w.cell? (ad.add (i.toNat * 1 + j)) = some u := hc0
  obtain ⟨A0, c0, rfl, l0, g0⟩ := hK
  exact ⟨ad, A0, c0, e, by have hq := hc 0 _ rfl; rwa [Nat.mul_one, Nat.add_zero] at hq, l0, g0⟩

/-! #### struct type 90 -/
structure S90 where
  f0 : Int
  f1 : Int
def z90 : S90 := ⟨(0 : Int), (0 : Int)⟩
def k90 : Kd S90 := Kd.iso (Kd.pair (Kd.int .u64) (Kd.int .u64)) (fun x : S90 => (x.f0, x.f1))
theorem k90_open {w : World} {x : S90} {cs : List Value} (h : k90.K w x cs) : cs = [.int .u64 x.f0, .int .u64 x.f1] := by
  obtain ⟨_, _, rfl, rfl, rfl⟩ := h
  exact rfl
theorem k90_openM {w : World} {base : Nat} {ok : Nat → Prop} {x : S90} {cs : List Value} (h : k90.M w base ok x cs) : cs = [.int .u64 x.f0, .int .u64 x.f1] := by
  obtain ⟨_, _, rfl, rfl, rfl⟩ := h
  exact rfl
theorem k90_mk (w : World) (x : S90)  : k90.K w x [.int .u64 x.f0, .int .u64 x.f1] := ⟨[.int .u64 x.f0], [.int .u64 x.f1], rfl, rfl, rfl⟩
theorem k90_mkM (w : World) (base : Nat) (ok : Nat → Prop) (x : S90)  : k90.M w base ok x [.int .u64 x.f0, .int .u64 x.f1] := ⟨[.int .u64 x.f0], [.int .u64 x.f1], rfl, rfl, rfl⟩
theorem k90_mkF (W : World) (ok : Nat → Prop) (x : S90) : Kd.FK k90 W ok x [.int .u64 x.f0, .int .u64 x.f1] := fun W2 _ => k90_mk W2 x
def rd_T90 (xs : List S90) (i : Int) : S90 := xs.getD i.toNat z90
theorem at_T90 {w : World} {A : Option Addr} {n : Nat} {xs : List S90} (h : Kd.C k90 w A n xs) (i : Int) (h0 : 0 ≤ i) (h1 : i < n) : ∃ ad , A = some ad ∧ w.cell? (ad.add (i.toNat * 2)) = some (.int .u64 (rd_T90 xs i).f0) ∧ w.cell? ⟨(ad.add (i.toNat * 2)).block, (ad.add (i.toNat * 2)).off + 1, none⟩ = some (.int .u64 (rd_T90 xs i).f1) := by
  obtain ⟨ad, c, e, _, hK, hc0⟩ := Kd.C_get h z90 i h0 h1
  have hc : ∀ j u, c[j]? = some u → w.cell? (ad.add (i.toNat * 2 + j)) = some u := hc0
  obtain rfl := k90_open hK
  exact ⟨ad, e, hc 0 _ rfl, by rw [← add_field _ _ 1 (by omega)]; exact hc 1 _ rfl⟩

/-! #### struct type 101 -/
structure S101 where
  f0 : S90
  f1 : Int
  f2 : Int
def z101 : S101 := ⟨z90, (0 : Int), (0 : Int)⟩
def k101 : Kd S101 := Kd.iso (Kd.pair k90 (Kd.pair (Kd.int .i64) (Kd.int .i64))) (fun x : S101 => (x.f0, x.f1, x.f2))
theorem k101_open {w : World} {x : S101} {cs : List Value} (h : k101.K w x cs) : cs = [.int .u64 x.f0.f0, .int .u64 x.f0.f1, .int .i64 x.f1, .int .i64 x.f2] := by
  obtain ⟨_, _, rfl, s0, ⟨_, _, rfl, rfl, rfl⟩⟩ := h
  obtain rfl := k90_open s0
  exact rfl
theorem k101_openM {w : World} {base : Nat} {ok : Nat → Prop} {x : S101} {cs : List Value} (h : k101.M w base ok x cs) : cs = [.int .u64 x.f0.f0, .int .u64 x.f0.f1, .int .i64 x.f1, .int .i64 x.f2] := by
  obtain ⟨_, _, rfl, s0, ⟨_, _, rfl, rfl, rfl⟩⟩ := h
  obtain rfl := k90_openM s0
  exact rfl
theorem k101_mk (w : World) (x : S101)  : k101.K w x [.int .u64 x.f0.f0, .int .u64 x.f0.f1, .int .i64 x.f1, .int .i64 x.f2] := ⟨[.int .u64 x.f0.f0, .int .u64 x.f0.f1], [.int .i64 x.f1, .int .i64 x.f2], rfl, (k90_mk w x.f0 ), ⟨[.int .i64 x.f1], [.int .i64 x.f2], rfl, rfl, rfl⟩⟩
theorem k101_mkM (w : World) (base : Nat) (ok : Nat → Prop) (x : S101)  : k101.M w base ok x [.int .u64 x.f0.f0, .int .u64 x.f0.f1, .int .i64 x.f1, .int .i64 x.f2] := ⟨[.int .u64 x.f0.f0, .int .u64 x.f0.f1], [.int .i64 x.f1, .int .i64 x.f2], rfl, (k90_mkM w base ok x.f0 ), ⟨[.int .i64 x.f1], [.int .i64 x.f2], rfl, rfl, rfl⟩⟩
theorem k101_mkF (W : World) (ok : Nat → Prop) (x : S101) : Kd.FK k101 W ok x [.int .u64 x.f0.f0, .int .u64 x.f0.f1, .int .i64 x.f1, .int .i64 x.f2] := fun W2 _ => k101_mk W2 x
def rd_T101 (xs : List S101) (i : Int) : S101 := xs.getD i.toNat z101
theorem at_T101 {w : World} {A : Option Addr} {n : Nat} {xs : List S101} (h : Kd.C k101 w A n xs) (i : Int) (h0 : 0 ≤ i) (h1 : i < n) : ∃ ad , A = some ad ∧ w.cell? (ad.add (i.toNat * 4)) = some (.int .u64 (rd_T101 xs i).f0.f0) ∧ w.cell? ⟨(ad.add (i.toNat * 4)).block, (ad.add (i.toNat * 4)).off + 1, none⟩ = some (.int .u64 (rd_T101 xs i).f0.f1) ∧ w.cell? ⟨(ad.add (i.toNat * 4)).block, (ad.add (i.toNat * 4)).off + 2, none⟩ = some (.int .i64 (rd_T101 xs i).f1) ∧ w.cell? ⟨(ad.add (i.toNat * 4)).block, (ad.add (i.toNat * 4)).off + 3, none⟩ = some (.int .i64 (rd_T101 xs i).f2) := by
  obtain ⟨ad, c, e, _, hK, hc0⟩ := Kd.C_get h z101 i h0 h1
  have hc : ∀ j u, c[j]? = some u → w.cell? (ad.add (i.toNat * 4 + j)) = some u := hc0
  obtain rfl := k101_open hK
  exact ⟨ad, e, hc 0 _ rfl, by rw [← add_field _ _ 1 (by omega)]; exact hc 1 _ rfl, by rw [← add_field _ _ 2 (by omega)]; exact hc 2 _ rfl, by rw [← add_field _ _ 3 (by omega)]; exact hc 3 _ rfl⟩

def rd_L10 (xs : List (List S101)) (i : Int) : (List S101) := xs.getD i.toNat ([] : List S101)
theorem at_L10 {w : World} {A : Option Addr} {n : Nat} {xs : List (List S101)} (h : Kd.C (Kd.slice 101 k101) w A n xs) (i : Int) (h0 : 0 ≤ i) (h1 : i < n) : ∃ ad A0 c0, A = some ad ∧ w.cell? (ad.add i.toNat) = some (.slice A0 (rd_L10 xs i).length c0) ∧ (rd_L10 xs i).length ≤ c0 ∧ k101.C w A0 (rd_L10 xs i).length (rd_L10 xs i) := by
  obtain ⟨ad, c, e, _, hK, hc0⟩ := Kd.C_get h ([] : List S101) i h0 h1
  have hc : ∀ j u, c[j]? = some u → w.cell? (ad.add (i.toNat * 1 + j)) = some u := hc0
  obtain ⟨A0, c0, rfl, l0, g0⟩ := hK
  exact ⟨ad, A0, c0, e, by have hq := hc 0 _ rfl; rwa [Nat.mul_one, Nat.add_zero] at hq, l0, g0⟩

/-! #### struct type 82 -/
structure S82 where
  f0 : Int
  f1 : ByteArray
  f2 : ByteArray
  f3 : ByteArray
  f4 : Int
def z82 : S82 := ⟨(0 : Int), (⟨#[]⟩ : ByteArray), (⟨#[]⟩ : ByteArray), (⟨#[]⟩ : ByteArray), (0 : Int)⟩
def k82 : Kd S82 := Kd.iso (Kd.pair (Kd.int .i64) (Kd.pair Kd.string (Kd.pair Kd.string (Kd.pair Kd.string (Kd.int .i64))))) (fun x : S82 => (x.f0, x.f1, x.f2, x.f3, x.f4))
theorem k82_open {w : World} {x : S82} {cs : List Value} (h : k82.K w x cs) : cs = [.int .i64 x.f0, .string x.f1, .string x.f2, .string x.f3, .int .i64 x.f4] := by
  obtain ⟨_, _, rfl, rfl, ⟨_, _, rfl, rfl, ⟨_, _, rfl, rfl, ⟨_, _, rfl, rfl, rfl⟩⟩⟩⟩ := h
  exact rfl
theorem k82_openM {w : World} {base : Nat} {ok : Nat → Prop} {x : S82} {cs : List Value} (h : k82.M w base ok x cs) : cs = [.int .i64 x.f0, .string x.f1, .string x.f2, .string x.f3, .int .i64 x.f4] := by
  obtain ⟨_, _, rfl, rfl, ⟨_, _, rfl, rfl, ⟨_, _, rfl, rfl, ⟨_, _, rfl, rfl, rfl⟩⟩⟩⟩ := h
  exact rfl
theorem k82_mk (w : World) (x : S82)  : k82.K w x [.int .i64 x.f0, .string x.f1, .string x.f2, .string x.f3, .int .i64 x.f4] := ⟨[.int .i64 x.f0], [.string x.f1, .string x.f2, .string x.f3, .int .i64 x.f4], rfl, rfl, ⟨[.string x.f1], [.string x.f2, .string x.f3, .int .i64 x.f4], rfl, rfl, ⟨[.string x.f2], [.string x.f3, .int .i64 x.f4], rfl, rfl, ⟨[.string x.f3], [.int .i64 x.f4], rfl, rfl, rfl⟩⟩⟩⟩
theorem k82_mkM (w : World) (base : Nat) (ok : Nat → Prop) (x : S82)  : k82.M w base ok x [.int .i64 x.f0, .string x.f1, .string x.f2, .string x.f3, .int .i64 x.f4] := ⟨[.int .i64 x.f0], [.string x.f1, .string x.f2, .string x.f3, .int .i64 x.f4], rfl, rfl, ⟨[.string x.f1], [.string x.f2, .string x.f3, .int .i64 x.f4], rfl, rfl, ⟨[.string x.f2], [.string x.f3, .int .i64 x.f4], rfl, rfl, ⟨[.string x.f3], [.int .i64 x.f4], rfl, rfl, rfl⟩⟩⟩⟩
theorem k82_mkF (W : World) (ok : Nat → Prop) (x : S82) : Kd.FK k82 W ok x [.int .i64 x.f0, .string x.f1, .string x.f2, .string x.f3, .int .i64 x.f4] := fun W2 _ => k82_mk W2 x
def rd_T82 (xs : List S82) (i : Int) : S82 := xs.getD i.toNat z82
theorem at_T82 {w : World} {A : Option Addr} {n : Nat} {xs : List S82} (h : Kd.C k82 w A n xs) (i : Int) (h0 : 0 ≤ i) (h1 : i < n) : ∃ ad , A = some ad ∧ w.cell? (ad.add (i.toNat * 5)) = some (.int .i64 (rd_T82 xs i).f0) ∧ w.cell? ⟨(ad.add (i.toNat * 5)).block, (ad.add (i.toNat * 5)).off + 1, none⟩ = some (.string (rd_T82 xs i).f1) ∧ w.cell? ⟨(ad.add (i.toNat * 5)).block, (ad.add (i.toNat * 5)).off + 2, none⟩ = some (.string (rd_T82 xs i).f2) ∧ w.cell? ⟨(ad.add (i.toNat * 5)).block, (ad.add (i.toNat * 5)).off + 3, none⟩ = some (.string (rd_T82 xs i).f3) ∧ w.cell? ⟨(ad.add (i.toNat * 5)).block, (ad.add (i.toNat * 5)).off + 4, none⟩ = some (.int .i64 (rd_T82 xs i).f4) := by
  obtain ⟨ad, c, e, _, hK, hc0⟩ := Kd.C_get h z82 i h0 h1
  have hc : ∀ j u, c[j]? = some u → w.cell? (ad.add (i.toNat * 5 + j)) = some u := hc0
  obtain rfl := k82_open hK
  exact ⟨ad, e, hc 0 _ rfl, by rw [← add_field _ _ 1 (by omega)]; exact hc 1 _ rfl, by rw [← add_field _ _ 2 (by omega)]; exact hc 2 _ rfl, by rw [← add_field _ _ 3 (by omega)]; exact hc 3 _ rfl, by rw [← add_field _ _ 4 (by omega)]; exact hc 4 _ rfl⟩

/-! #### struct type 85 -/
structure S85 where
  f0 : Int
  f1 : ByteArray
  f2 : (List S98)
  f3 : Bool
  f4 : ByteArray
  f5 : Int
def z85 : S85 := ⟨(0 : Int), (⟨#[]⟩ : ByteArray), ([] : List S98), false, (⟨#[]⟩ : ByteArray), (0 : Int)⟩
def k85 : Kd S85 := Kd.iso (Kd.pair (Kd.int .i64) (Kd.pair Kd.string (Kd.pair (Kd.slice 98 k98) (Kd.pair Kd.bool (Kd.pair Kd.string (Kd.int .i64)))))) (fun x : S85 => (x.f0, x.f1, x.f2, x.f3, x.f4, x.f5))
theorem k85_open {w : World} {x : S85} {cs : List Value} (h : k85.K w x cs) : ∃ A2 c2, cs = [.int .i64 x.f0, .string x.f1, .slice A2 x.f2.length c2, .bool x.f3, .string x.f4, .int .i64 x.f5] ∧ x.f2.length ≤ c2 ∧ k98.C w A2 x.f2.length x.f2 := by
  obtain ⟨_, _, rfl, rfl, ⟨_, _, rfl, rfl, ⟨_, _, rfl, ⟨A2, c2, rfl, l2, g2⟩, ⟨_, _, rfl, rfl, ⟨_, _, rfl, rfl, rfl⟩⟩⟩⟩⟩ := h
  exact ⟨A2, c2, rfl, l2, g2⟩
theorem k85_openM {w : World} {base : Nat} {ok : Nat → Prop} {x : S85} {cs : List Value} (h : k85.M w base ok x cs) : ∃ v2, cs = [.int .i64 x.f0, .string x.f1, v2, .bool x.f3, .string x.f4, .int .i64 x.f5] ∧ k98.R 98 w base ok v2 x.f2 := by
  obtain ⟨_, _, rfl, rfl, ⟨_, _, rfl, rfl, ⟨_, _, rfl, ⟨v2, rfl, g2⟩, ⟨_, _, rfl, rfl, ⟨_, _, rfl, rfl, rfl⟩⟩⟩⟩⟩ := h
  exact ⟨v2, rfl, g2⟩
theorem k85_mk (w : World) (x : S85) {A2 : Option Addr} {c2 : Nat} (l2 : x.f2.length ≤ c2) (g2 : k98.C w A2 x.f2.length x.f2) : k85.K w x [.int .i64 x.f0, .string x.f1, .slice A2 x.f2.length c2, .bool x.f3, .string x.f4, .int .i64 x.f5] := ⟨[.int .i64 x.f0], [.string x.f1, .slice A2 x.f2.length c2, .bool x.f3, .string x.f4, .int .i64 x.f5], rfl, rfl, ⟨[.string x.f1], [.slice A2 x.f2.length c2, .bool x.f3, .string x.f4, .int .i64 x.f5], rfl, rfl, ⟨[.slice A2 x.f2.length c2], [.bool x.f3, .string x.f4, .int .i64 x.f5], rfl, ⟨A2, c2, rfl, l2, g2⟩, ⟨[.bool x.f3], [.string x.f4, .int .i64 x.f5], rfl, rfl, ⟨[.string x.f4], [.int .i64 x.f5], rfl, rfl, rfl⟩⟩⟩⟩⟩
theorem k85_mkM (w : World) (base : Nat) (ok : Nat → Prop) (x : S85) {v2 : Value} (g2 : k98.R 98 w base ok v2 x.f2) : k85.M w base ok x [.int .i64 x.f0, .string x.f1, v2, .bool x.f3, .string x.f4, .int .i64 x.f5] := ⟨[.int .i64 x.f0], [.string x.f1, v2, .bool x.f3, .string x.f4, .int .i64 x.f5], rfl, rfl, ⟨[.string x.f1], [v2, .bool x.f3, .string x.f4, .int .i64 x.f5], rfl, rfl, ⟨[v2], [.bool x.f3, .string x.f4, .int .i64 x.f5], rfl, ⟨v2, rfl, g2⟩, ⟨[.bool x.f3], [.string x.f4, .int .i64 x.f5], rfl, rfl, ⟨[.string x.f4], [.int .i64 x.f5], rfl, rfl, rfl⟩⟩⟩⟩⟩
theorem k85_openF {W : World} {ok : Nat → Prop} {x : S85} {cs : List Value} (h : Kd.FK k85 W ok x cs) : ∃ A2 c2, cs = [.int .i64 x.f0, .string x.f1, .slice A2 x.f2.length c2, .bool x.f3, .string x.f4, .int .i64 x.f5] ∧ x.f2.length ≤ c2 ∧ Kd.F k98 W ok A2 x.f2.length x.f2 := by
  obtain ⟨A2, c2, rfl, l2, _⟩ := k85_open (Kd.FK_now h)
  exact ⟨A2, c2, rfl, l2, (fun W' hW => by obtain ⟨A2_, c2_, he, l2_, g2_⟩ := k85_open (h W' hW); injection (Option.some.inj (show some (Value.slice A2 x.f2.length c2) = some (Value.slice A2_ x.f2.length c2_) from congrArg (fun l => l[2]?) he)) with ha_ _ _; rw [ha_]; exact g2_)⟩
theorem k85_mkF (W : World) (ok : Nat → Prop) (x : S85) {A2 : Option Addr} {c2 : Nat} (l2 : x.f2.length ≤ c2) (g2 : Kd.F k98 W ok A2 x.f2.length x.f2) : Kd.FK k85 W ok x [.int .i64 x.f0, .string x.f1, .slice A2 x.f2.length c2, .bool x.f3, .string x.f4, .int .i64 x.f5] := fun W2 hW => k85_mk W2 x l2 (g2 W2 hW)
def rd_T85 (xs : List S85) (i : Int) : S85 := xs.getD i.toNat z85
theorem at_T85 {w : World} {A : Option Addr} {n : Nat} {xs : List S85} (h : Kd.C k85 w A n xs) (i : Int) (h0 : 0 ≤ i) (h1 : i < n) : ∃ ad A2 c2, A = some ad ∧ w.cell? (ad.add (i.toNat * 6)) = some (.int .i64 (rd_T85 xs i).f0) ∧ w.cell? ⟨(ad.add (i.toNat * 6)).block, (ad.add (i.toNat * 6)).off + 1, none⟩ = some (.string (rd_T85 xs i).f1) ∧ w.cell? ⟨(ad.add (i.toNat * 6)).block, (ad.add (i.toNat * 6)).off + 2, none⟩ = some (.slice A2 (rd_T85 xs i).f2.length c2) ∧ w.cell? ⟨(ad.add (i.toNat * 6)).block, (ad.add (i.toNat * 6)).off + 3, none⟩ = some (.bool (rd_T85 xs i).f3) ∧ w.cell? ⟨(ad.add (i.toNat * 6)).block, (ad.add (i.toNat * 6)).off + 4, none⟩ = some (.string (rd_T85 xs i).f4) ∧ w.cell? ⟨(ad.add (i.toNat * 6)).block, (ad.add (i.toNat * 6)).off + 5, none⟩ = some (.int .i64 (rd_T85 xs i).f5) ∧ (rd_T85 xs i).f2.length ≤ c2 ∧ k98.C w A2 (rd_T85 xs i).f2.length (rd_T85 xs i).f2 := by
  obtain ⟨ad, c, e, _, hK, hc0⟩ := Kd.C_get h z85 i h0 h1
  have hc : ∀ j u, c[j]? = some u → w.cell? (ad.add (i.toNat * 6 + j)) = some u := hc0
  obtain ⟨A2, c2, rfl, l2, g2⟩ := k85_open hK
  exact ⟨ad, A2, c2, e, hc 0 _ rfl, by rw [← add_field _ _ 1 (by omega)]; exact hc 1 _ rfl, by rw [← add_field _ _ 2 (by omega)]; exact hc 2 _ rfl, by rw [← add_field _ _ 3 (by omega)]; exact hc 3 _ rfl, by rw [← add_field _ _ 4 (by omega)]; exact hc 4 _ rfl, by rw [← add_field _ _ 5 (by omega)]; exact hc 5 _ rfl, l2, g2⟩

/-! #### struct type 87 -/
structure S87 where
  f0 : Int
  f1 : Int
  f2 : Int
  f3 : Int
  f4 : S82
  f5 : S85
def z87 : S87 := ⟨(0 : Int), (0 : Int), (0 : Int), (0 : Int), z82, z85⟩
def k87 : Kd S87 := Kd.iso (Kd.pair (Kd.int .i64) (Kd.pair (Kd.int .i64) (Kd.pair (Kd.int .i64) (Kd.pair (Kd.int .i64) (Kd.pair k82 k85))))) (fun x : S87 => (x.f0, x.f1, x.f2, x.f3, x.f4, x.f5))
theorem k87_open {w : World} {x : S87} {cs : List Value} (h : k87.K w x cs) : ∃ A11 c11, cs = [.int .i64 x.f0, .int .i64 x.f1, .int .i64 x.f2, .int .i64 x.f3, .int .i64 x.f4.f0, .string x.f4.f1, .string x.f4.f2, .string x.f4.f3, .int .i64 x.f4.f4, .int .i64 x.f5.f0, .string x.f5.f1, .slice A11 x.f5.f2.length c11, .bool x.f5.f3, .string x.f5.f4, .int .i64 x.f5.f5] ∧ x.f5.f2.length ≤ c11 ∧ k98.C w A11 x.f5.f2.length x.f5.f2 := by
  obtain ⟨_, _, rfl, rfl, ⟨_, _, rfl, rfl, ⟨_, _, rfl, rfl, ⟨_, _, rfl, rfl, ⟨_, _, rfl, s4, s9⟩⟩⟩⟩⟩ := h
  obtain rfl := k82_open s4
  obtain ⟨A11, c11, rfl, l11, g11⟩ := k85_open s9
  exact ⟨A11, c11, rfl, l11, g11⟩
theorem k87_openM {w : World} {base : Nat} {ok : Nat → Prop} {x : S87} {cs : List Value} (h : k87.M w base ok x cs) : ∃ v11, cs = [.int .i64 x.f0, .int .i64 x.f1, .int .i64 x.f2, .int .i64 x.f3, .int .i64 x.f4.f0, .string x.f4.f1, .string x.f4.f2, .string x.f4.f3, .int .i64 x.f4.f4, .int .i64 x.f5.f0, .string x.f5.f1, v11, .bool x.f5.f3, .string x.f5.f4, .int .i64 x.f5.f5] ∧ k98.R 98 w base ok v11 x.f5.f2 := by
  obtain ⟨_, _, rfl, rfl, ⟨_, _, rfl, rfl, ⟨_, _, rfl, rfl, ⟨_, _, rfl, rfl, ⟨_, _, rfl, s4, s9⟩⟩⟩⟩⟩ := h
  obtain rfl := k82_openM s4
  obtain ⟨v11, rfl, g11⟩ := k85_openM s9
  exact ⟨v11, rfl, g11⟩
theorem k87_mk (w : World) (x : S87) {A11 : Option Addr} {c11 : Nat} (l11 : x.f5.f2.length ≤ c11) (g11 : k98.C w A11 x.f5.f2.length x.f5.f2) : k87.K w x [.int .i64 x.f0, .int .i64 x.f1, .int .i64 x.f2, .int .i64 x.f3, .int .i64 x.f4.f0, .string x.f4.f1, .string x.f4.f2, .string x.f4.f3, .int .i64 x.f4.f4, .int .i64 x.f5.f0, .string x.f5.f1, .slice A11 x.f5.f2.length c11, .bool x.f5.f3, .string x.f5.f4, .int .i64 x.f5.f5] := ⟨[.int .i64 x.f0], [.int .i64 x.f1, .int .i64 x.f2, .int .i64 x.f3, .int .i64 x.f4.f0, .string x.f4.f1, .string x.f4.f2, .string x.f4.f3, .int .i64 x.f4.f4, .int .i64 x.f5.f0, .string x.f5.f1, .slice A11 x.f5.f2.length c11, .bool x.f5.f3, .string x.f5.f4, .int .i64 x.f5.f5], rfl, rfl, ⟨[.int .i64 x.f1], [.int .i64 x.f2, .int .i64 x.f3, .int .i64 x.f4.f0, .string x.f4.f1, .string x.f4.f2, .string x.f4.f3, .int .i64 x.f4.f4, .int .i64 x.f5.f0, .string x.f5.f1, .slice A11 x.f5.f2.length c11, .bool x.f5.f3, .string x.f5.f4, .int .i64 x.f5.f5], rfl, rfl, ⟨[.int .i64 x.f2], [.int .i64 x.f3, .int .i64 x.f4.f0, .string x.f4.f1, .string x.f4.f2, .string x.f4.f3, .int .i64 x.f4.f4, .int .i64 x.f5.f0, .string x.f5.f1, .slice A11 x.f5.f2.length c11, .bool x.f5.f3, .string x.f5.f4, .int .i64 x.f5.f5], rfl, rfl, ⟨[.int .i64 x.f3], [.int .i64 x.f4.f0, .string x.f4.f1, .string x.f4.f2, .string x.f4.f3, .int .i64 x.f4.f4, .int .i64 x.f5.f0, .string x.f5.f1, .slice A11 x.f5.f2.length c11, .bool x.f5.f3, .string x.f5.f4, .int .i64 x.f5.f5], rfl, rfl, ⟨[.int .i64 x.f4.f0, .string x.f4.f1, .string x.f4.f2, .string x.f4.f3, .int .i64 x.f4.f4], [.int .i64 x.f5.f0, .string x.f5.f1, .slice A11 x.f5.f2.length c11, .bool x.f5.f3, .string x.f5.f4, .int .i64 x.f5.f5], rfl, (k82_mk w x.f4 ), (k85_mk w x.f5 l11 g11)⟩⟩⟩⟩⟩
theorem k87_mkM (w : World) (base : Nat) (ok : Nat → Prop) (x : S87) {v11 : Value} (g11 : k98.R 98 w base ok v11 x.f5.f2) : k87.M w base ok x [.int .i64 x.f0, .int .i64 x.f1, .int .i64 x.f2, .int .i64 x.f3, .int .i64 x.f4.f0, .string x.f4.f1, .string x.f4.f2, .string x.f4.f3, .int .i64 x.f4.f4, .int .i64 x.f5.f0, .string x.f5.f1, v11, .bool x.f5.f3, .string x.f5.f4, .int .i64 x.f5.f5] := ⟨[.int .i64 x.f0], [.int .i64 x.f1, .int .i64 x.f2, .int .i64 x.f3, .int .i64 x.f4.f0, .string x.f4.f1, .string x.f4.f2, .string x.f4.f3, .int .i64 x.f4.f4, .int .i64 x.f5.f0, .string x.f5.f1, v11, .bool x.f5.f3, .string x.f5.f4, .int .i64 x.f5.f5], rfl, rfl, ⟨[.int .i64 x.f1], [.int .i64 x.f2, .int .i64 x.f3, .int .i64 x.f4.f0, .string x.f4.f1, .string x.f4.f2, .string x.f4.f3, .int .i64 x.f4.f4, .int .i64 x.f5.f0, .string x.f5.f1, v11, .bool x.f5.f3, .string x.f5.f4, .int .i64 x.f5.f5], rfl, rfl, ⟨[.int .i64 x.f2], [.int .i64 x.f3, .int .i64 x.f4.f0, .string x.f4.f1, .string x.f4.f2, .string x.f4.f3, .int .i64 x.f4.f4, .int .i64 x.f5.f0, .string x.f5.f1, v11, .bool x.f5.f3, .string x.f5.f4, .int .i64 x.f5.f5], rfl, rfl, ⟨[.int .i64 x.f3], [.int .i64 x.f4.f0, .string x.f4.f1, .string x.f4.f2, .string x.f4.f3, .int .i64 x.f4.f4, .int .i64 x.f5.f0, .string x.f5.f1, v11, .bool x.f5.f3, .string x.f5.f4, .int .i64 x.f5.f5], rfl, rfl, ⟨[.int .i64 x.f4.f0, .string x.f4.f1, .string x.f4.f2, .string x.f4.f3, .int .i64 x.f4.f4], [.int .i64 x.f5.f0, .string x.f5.f1, v11, .bool x.f5.f3, .string x.f5.f4, .int .i64 x.f5.f5], rfl, (k82_mkM w base ok x.f4 ), (k85_mkM w base ok x.f5 g11)⟩⟩⟩⟩⟩
theorem k87_openF {W : World} {ok : Nat → Prop} {x : S87} {cs : List Value} (h : Kd.FK k87 W ok x cs) : ∃ A11 c11, cs = [.int .i64 x.f0, .int .i64 x.f1, .int .i64 x.f2, .int .i64 x.f3, .int .i64 x.f4.f0, .string x.f4.f1, .string x.f4.f2, .string x.f4.f3, .int .i64 x.f4.f4, .int .i64 x.f5.f0, .string x.f5.f1, .slice A11 x.f5.f2.length c11, .bool x.f5.f3, .string x.f5.f4, .int .i64 x.f5.f5] ∧ x.f5.f2.length ≤ c11 ∧ Kd.F k98 W ok A11 x.f5.f2.length x.f5.f2 := by
  obtain ⟨A11, c11, rfl, l11, _⟩ := k87_open (Kd.FK_now h)
  exact ⟨A11, c11, rfl, l11, (fun W' hW => by obtain ⟨A11_, c11_, he, l11_, g11_⟩ := k87_open (h W' hW); injection (Option.some.inj (show some (Value.slice A11 x.f5.f2.length c11) = some (Value.slice A11_ x.f5.f2.length c11_) from congrArg (fun l => l[11]?) he)) with ha_ _ _; rw [ha_]; exact g11_)⟩
theorem k87_mkF (W : World) (ok : Nat → Prop) (x : S87) {A11 : Option Addr} {c11 : Nat} (l11 : x.f5.f2.length ≤ c11) (g11 : Kd.F k98 W ok A11 x.f5.f2.length x.f5.f2) : Kd.FK k87 W ok x [.int .i64 x.f0, .int .i64 x.f1, .int .i64 x.f2, .int .i64 x.f3, .int .i64 x.f4.f0, .string x.f4.f1, .string x.f4.f2, .string x.f4.f3, .int .i64 x.f4.f4, .int .i64 x.f5.f0, .string x.f5.f1, .slice A11 x.f5.f2.length c11, .bool x.f5.f3, .string x.f5.f4, .int .i64 x.f5.f5] := fun W2 hW => k87_mk W2 x l11 (g11 W2 hW)
def rd_T87 (xs : List S87) (i : Int) : S87 := xs.getD i.toNat z87
theorem at_T87 {w : World} {A : Option Addr} {n : Nat} {xs : List S87} (h : Kd.C k87 w A n xs) (i : Int) (h0 : 0 ≤ i) (h1 : i < n) : ∃ ad A11 c11, A = some ad ∧ w.cell? (ad.add (i.toNat * 15)) = some (.int .i64 (rd_T87 xs i).f0) ∧ w.cell? ⟨(ad.add (i.toNat * 15)).block, (ad.add (i.toNat * 15)).off + 1, none⟩ = some (.int .i64 (rd_T87 xs i).f1) ∧ w.cell? ⟨(ad.add (i.toNat * 15)).block, (ad.add (i.toNat * 15)).off + 2, none⟩ = some (.int .i64 (rd_T87 xs i).f2) ∧ w.cell? ⟨(ad.add (i.toNat * 15)).block, (ad.add (i.toNat * 15)).off + 3, none⟩ = some (.int .i64 (rd_T87 xs i).f3) ∧ w.cell? ⟨(ad.add (i.toNat * 15)).block, (ad.add (i.toNat * 15)).off + 4, none⟩ = some (.int .i64 (rd_T87 xs i).f4.f0) ∧ w.cell? ⟨(ad.add (i.toNat * 15)).block, (ad.add (i.toNat * 15)).off + 5, none⟩ = some (.string (rd_T87 xs i).f4.f1) ∧ w.cell? ⟨(ad.add (i.toNat * 15)).block, (ad.add (i.toNat * 15)).off + 6, none⟩ = some (.string (rd_T87 xs i).f4.f2) ∧ w.cell? ⟨(ad.add (i.toNat * 15)).block, (ad.add (i.toNat * 15)).off + 7, none⟩ = some (.string (rd_T87 xs i).f4.f3) ∧ w.cell? ⟨(ad.add (i.toNat * 15)).block, (ad.add (i.toNat * 15)).off + 8, none⟩ = some (.int .i64 (rd_T87 xs i).f4.f4) ∧ w.cell? ⟨(ad.add (i.toNat * 15)).block, (ad.add (i.toNat * 15)).off + 9, none⟩ = some (.int .i64 (rd_T87 xs i).f5.f0) ∧ w.cell? ⟨(ad.add (i.toNat * 15)).block, (ad.add (i.toNat * 15)).off + 10, none⟩ = some (.string (rd_T87 xs i).f5.f1) ∧ w.cell? ⟨(ad.add (i.toNat * 15)).block, (ad.add (i.toNat * 15)).off + 11, none⟩ = some (.slice A11 (rd_T87 xs i).f5.f2.length c11) ∧ w.cell? ⟨(ad.add (i.toNat * 15)).block, (ad.add (i.toNat * 15)).off + 12, none⟩ = some (.bool (rd_T87 xs i).f5.f3) ∧ w.cell? ⟨(ad.add (i.toNat * 15)).block, (ad.add (i.toNat * 15)).off + 13, none⟩ = some (.string (rd_T87 xs i).f5.f4) ∧ w.cell? ⟨(ad.add (i.toNat * 15)).block, (ad.add (i.toNat * 15)).off + 14, none⟩ = some (.int .i64 (rd_T87 xs i).f5.f5) ∧ (rd_T87 xs i).f5.f2.length ≤ c11 ∧ k98.C w A11 (rd_T87 xs i).f5.f2.length (rd_T87 xs i).f5.f2 := by
  obtain ⟨ad, c, e, _, hK, hc0⟩ := Kd.C_get h z87 i h0 h1
  have hc : ∀ j u, c[j]? = some u → w.cell? (ad.add (i.toNat * 15 + j)) = some u := hc0
  obtain ⟨A11, c11, rfl, l11, g11⟩ := k87_open hK
  exact ⟨ad, A11, c11, e, hc 0 _ rfl, by rw [← add_field _ _ 1 (by omega)]; exact hc 1 _ rfl, by rw [← add_field _ _ 2 (by omega)]; exact hc 2 _ rfl, by rw [← add_field _ _ 3 (by omega)]; exact hc 3 _ rfl, by rw [← add_field _ _ 4 (by omega)]; exact hc 4 _ rfl, by rw [← add_field _ _ 5 (by omega)]; exact hc 5 _ rfl, by rw [← add_field _ _ 6 (by omega)]; exact hc 6 _ rfl, by rw [← add_field _ _ 7 (by omega)]; exact hc 7 _ rfl, by rw [← add_field _ _ 8 (by omega)]; exact hc 8 _ rfl, by rw [← add_field _ _ 9 (by omega)]; exact hc 9 _ rfl, by rw [← add_field _ _ 10 (by omega)]; exact hc 10 _ rfl, by rw [← add_field _ _ 11 (by omega)]; exact hc 11 _ rfl, by rw [← add_field _ _ 12 (by omega)]; exact hc 12 _ rfl, by rw [← add_field _ _ 13 (by omega)]; exact hc 13 _ rfl, by rw [← add_field _ _ 14 (by omega)]; exact hc 14 _ rfl, l11, g11⟩

def rd_L15 (xs : List (List S87)) (i : Int) : (List S87) := xs.getD i.toNat ([] : List S87)
theorem at_L15 {w : World} {A : Option Addr} {n : Nat} {xs : List (List S87)} (h : Kd.C (Kd.slice 87 k87) w A n xs) (i : Int) (h0 : 0 ≤ i) (h1 : i < n) : ∃ ad A0 c0, A = some ad ∧ w.cell? (ad.add i.toNat) = some (.slice A0 (rd_L15 xs i).length c0) ∧ (rd_L15 xs i).length ≤ c0 ∧ k87.C w A0 (rd_L15 xs i).length (rd_L15 xs i) := by
  obtain ⟨ad, c, e, _, hK, hc0⟩ := Kd.C_get h ([] : List S87) i h0 h1
  have hc : ∀ j u, c[j]? = some u → w.cell? (ad.add (i.toNat * 1 + j)) = some u := hc0
  obtain ⟨A0, c0, rfl, l0, g0⟩ := hK
  exact ⟨ad, A0, c0, e, by have hq := hc 0 _ rfl; rwa [Nat.mul_one, Nat.add_zero] at hq, l0, g0⟩

/-! #### struct type 92 -/
structure S92 where
  f0 : Int
  f1 : Int
  f2 : Int
  f3 : Int
  f4 : S82
  f5 : S85
  f6 : S90
  f7 : Int
  f8 : (List S98)
  f9 : Int
  f10 : Int
def z92 : S92 := ⟨(0 : Int), (0 : Int), (0 : Int), (0 : Int), z82, z85, z90, (0 : Int), ([] : List S98), (0 : Int), (0 : Int)⟩
def k92 : Kd S92 := Kd.iso (Kd.pair (Kd.int .i64) (Kd.pair (Kd.int .i64) (Kd.pair (Kd.int .i64) (Kd.pair (Kd.int .i64) (Kd.pair k82 (Kd.pair k85 (Kd.pair k90 (Kd.pair (Kd.int .i64) (Kd.pair (Kd.slice 98 k98) (Kd.pair (Kd.int .i64) (Kd.int .i64))))))))))) (fun x : S92 => (x.f0, x.f1, x.f2, x.f3, x.f4, x.f5, x.f6, x.f7, x.f8, x.f9, x.f10))
theorem k92_open {w : World} {x : S92} {cs : List Value} (h : k92.K w x cs) : ∃ A11 c11 A18 c18, cs = [.int .i64 x.f0, .int .i64 x.f1, .int .i64 x.f2, .int .i64 x.f3, .int .i64 x.f4.f0, .string x.f4.f1, .string x.f4.f2, .string x.f4.f3, .int .i64 x.f4.f4, .int .i64 x.f5.f0, .string x.f5.f1, .slice A11 x.f5.f2.length c11, .bool x.f5.f3, .string x.f5.f4, .int .i64 x.f5.f5, .int .u64 x.f6.f0, .int .u64 x.f6.f1, .int .i64 x.f7, .slice A18 x.f8.length c18, .int .i64 x.f9, .int .i64 x.f10] ∧ x.f5.f2.length ≤ c11 ∧ k98.C w A11 x.f5.f2.length x.f5.f2 ∧ x.f8.length ≤ c18 ∧ k98.C w A18 x.f8.length x.f8 := by
  obtain ⟨_, _, rfl, rfl, ⟨_, _, rfl, rfl, ⟨_, _, rfl, rfl, ⟨_, _, rfl, rfl, ⟨_, _, rfl, s4, ⟨_, _, rfl, s9, ⟨_, _, rfl, s15, ⟨_, _, rfl, rfl, ⟨_, _, rfl, ⟨A18, c18, rfl, l18, g18⟩, ⟨_, _, rfl, rfl, rfl⟩⟩⟩⟩⟩⟩⟩⟩⟩⟩ := h
  obtain rfl := k82_open s4
  obtain ⟨A11, c11, rfl, l11, g11⟩ := k85_open s9
  obtain rfl := k90_open s15
  exact ⟨A11, c11, A18, c18, rfl, l11, g11, l18, g18⟩
theorem k92_openM {w : World} {base : Nat} {ok : Nat → Prop} {x : S92} {cs : List Value} (h : k92.M w base ok x cs) : ∃ v11 v18, cs = [.int .i64 x.f0, .int .i64 x.f1, .int .i64 x.f2, .int .i64 x.f3, .int .i64 x.f4.f0, .string x.f4.f1, .string x.f4.f2, .string x.f4.f3, .int .i64 x.f4.f4, .int .i64 x.f5.f0, .string x.f5.f1, v11, .bool x.f5.f3, .string x.f5.f4, .int .i64 x.f5.f5, .int .u64 x.f6.f0, .int .u64 x.f6.f1, .int .i64 x.f7, v18, .int .i64 x.f9, .int .i64 x.f10] ∧ k98.R 98 w base ok v11 x.f5.f2 ∧ k98.R 98 w base ok v18 x.f8 := by
  obtain ⟨_, _, rfl, rfl, ⟨_, _, rfl, rfl, ⟨_, _, rfl, rfl, ⟨_, _, rfl, rfl, ⟨_, _, rfl, s4, ⟨_, _, rfl, s9, ⟨_, _, rfl, s15, ⟨_, _, rfl, rfl, ⟨_, _, rfl, ⟨v18, rfl, g18⟩, ⟨_, _, rfl, rfl, rfl⟩⟩⟩⟩⟩⟩⟩⟩⟩⟩ := h
  obtain rfl := k82_openM s4
  obtain ⟨v11, rfl, g11⟩ := k85_openM s9
  obtain rfl := k90_openM s15
  exact ⟨v11, v18, rfl, g11, g18⟩
theorem k92_mk (w : World) (x : S92) {A11 : Option Addr} {c11 : Nat} (l11 : x.f5.f2.length ≤ c11) (g11 : k98.C w A11 x.f5.f2.length x.f5.f2) {A18 : Option Addr} {c18 : Nat} (l18 : x.f8.length ≤ c18) (g18 : k98.C w A18 x.f8.length x.f8) : k92.K w x [.int .i64 x.f0, .int .i64 x.f1, .int .i64 x.f2, .int .i64 x.f3, .int .i64 x.f4.f0, .string x.f4.f1, .string x.f4.f2, .string x.f4.f3, .int .i64 x.f4.f4, .int .i64 x.f5.f0, .string x.f5.f1, .slice A11 x.f5.f2.length c11, .bool x.f5.f3, .string x.f5.f4, .int .i64 x.f5.f5, .int .u64 x.f6.f0, .int .u64 x.f6.f1, .int .i64 x.f7, .slice A18 x.f8.length c18, .int .i64 x.f9, .int .i64 x.f10] := ⟨[.int .i64 x.f0], [.int .i64 x.f1, .int .i64 x.f2, .int .i64 x.f3, .int .i64 x.f4.f0, .string x.f4.f1, .string x.f4.f2, .string x.f4.f3, .int .i64 x.f4.f4, .int .i64 x.f5.f0, .string x.f5.f1, .slice A11 x.f5.f2.length c11, .bool x.f5.f3, .string x.f5.f4, .int .i64 x.f5.f5, .int .u64 x.f6.f0, .int .u64 x.f6.f1, .int .i64 x.f7, .slice A18 x.f8.length c18, .int .i64 x.f9, .int .i64 x.f10], rfl, rfl, ⟨[.int .i64 x.f1], [.int .i64 x.f2, .int .i64 x.f3, .int .i64 x.f4.f0, .string x.f4.f1, .string x.f4.f2, .string x.f4.f3, .int .i64 x.f4.f4, .int .i64 x.f5.f0, .string x.f5.f1, .slice A11 x.f5.f2.length c11, .bool x.f5.f3, .string x.f5.f4, .int .i64 x.f5.f5, .int .u64 x.f6.f0, .int .u64 x.f6.f1, .int .i64 x.f7, .slice A18 x.f8.length c18, .int .i64 x.f9, .int .i64 x.f10], rfl, rfl, ⟨[.int .i64 x.f2], [.int .i64 x.f3, .int .i64 x.f4.f0, .string x.f4.f1, .string x.f4.f2, .string x.f4.f3, .int .i64 x.f4.f4, .int .i64 x.f5.f0, .string x.f5.f1, .slice A11 x.f5.f2.length c11, .bool x.f5.f3, .string x.f5.f4, .int .i64 x.f5.f5, .int .u64 x.f6.f0, .int .u64 x.f6.f1, .int .i64 x.f7, .slice A18 x.f8.length c18, .int .i64 x.f9, .int .i64 x.f10], rfl, rfl, ⟨[.int .i64 x.f3], [.int .i64 x.f4.f0, .string x.f4.f1, .string x.f4.f2, .string x.f4.f3, .int .i64 x.f4.f4, .int .i64 x.f5.f0, .string x.f5.f1, .slice A11 x.f5.f2.length c11, .bool x.f5.f3, .string x.f5.f4, .int .i64 x.f5.f5, .int .u64 x.f6.f0, .int .u64 x.f6.f1, .int .i64 x.f7, .slice A18 x.f8.length c18, .int .i64 x.f9, .int .i64 x.f10], rfl, rfl, ⟨[.int .i64 x.f4.f0, .string x.f4.f1, .string x.f4.f2, .string x.f4.f3, .int .i64 x.f4.f4], [.int .i64 x.f5.f0, .string x.f5.f1, .slice A11 x.f5.f2.length c11, .bool x.f5.f3, .string x.f5.f4, .int .i64 x.f5.f5, .int .u64 x.f6.f0, .int .u64 x.f6.f1, .int .i64 x.f7, .slice A18 x.f8.length c18, .int .i64 x.f9, .int .i64 x.f10], rfl, (k82_mk w x.f4 ), ⟨[.int .i64 x.f5.f0, .string x.f5.f1, .slice A11 x.f5.f2.length c11, .bool x.f5.f3, .string x.f5.f4, .int .i64 x.f5.f5], [.int .u64 x.f6.f0, .int .u64 x.f6.f1, .int .i64 x.f7, .slice A18 x.f8.length c18, .int .i64 x.f9, .int .i64 x.f10], rfl, (k85_mk w x.f5 l11 g11), ⟨[.int .u64 x.f6.f0, .int .u64 x.f6.f1], [.int .i64 x.f7, .slice A18 x.f8.length c18, .int .i64 x.f9, .int .i64 x.f10], rfl, (k90_mk w x.f6 ), ⟨[.int .i64 x.f7], [.slice A18 x.f8.length c18, .int .i64 x.f9, .int .i64 x.f10], rfl, rfl, ⟨[.slice A18 x.f8.length c18], [.int .i64 x.f9, .int .i64 x.f10], rfl, ⟨A18, c18, rfl, l18, g18⟩, ⟨[.int .i64 x.f9], [.int .i64 x.f10], rfl, rfl, rfl⟩⟩⟩⟩⟩⟩⟩⟩⟩⟩
theorem k92_mkM (w : World) (base : Nat) (ok : Nat → Prop) (x : S92) {v11 : Value} (g11 : k98.R 98 w base ok v11 x.f5.f2) {v18 : Value} (g18 : k98.R 98 w base ok v18 x.f8) : k92.M w base ok x [.int .i64 x.f0, .int .i64 x.f1, .int .i64 x.f2, .int .i64 x.f3, .int .i64 x.f4.f0, .string x.f4.f1, .string x.f4.f2, .string x.f4.f3, .int .i64 x.f4.f4, .int .i64 x.f5.f0, .string x.f5.f1, v11, .bool x.f5.f3, .string x.f5.f4, .int .i64 x.f5.f5, .int .u64 x.f6.f0, .int .u64 x.f6.f1, .int .i64 x.f7, v18, .int .i64 x.f9, .int .i64 x.f10] := ⟨[.int .i64 x.f0], [.int .i64 x.f1, .int .i64 x.f2, .int .i64 x.f3, .int .i64 x.f4.f0, .string x.f4.f1, .string x.f4.f2, .string x.f4.f3, .int .i64 x.f4.f4, .int .i64 x.f5.f0, .string x.f5.f1, v11, .bool x.f5.f3, .string x.f5.f4, .int .i64 x.f5.f5, .int .u64 x.f6.f0, .int .u64 x.f6.f1, .int .i64 x.f7, v18, .int .i64 x.f9, .int .i64 x.f10], rfl, rfl, ⟨[.int .i64 x.f1], [.int .i64 x.f2, .int .i64 x.f3, .int .i64 x.f4.f0, .string x.f4.f1, .string x.f4.f2, .string x.f4.f3, .int .i64 x.f4.f4, .int .i64 x.f5.f0, .string x.f5.f1, v11, .bool x.f5.f3, .string x.f5.f4, .int .i64 x.f5.f5, .int .u64 x.f6.f0, .int .u64 x.f6.f1, .int .i64 x.f7, v18, .int .i64 x.f9, .int .i64 x.f10], rfl, rfl, ⟨[.int .i64 x.f2], [.int .i64 x.f3, .int .i64 x.f4.f0, .string x.f4.f1, .string x.f4.f2, .string x.f4.f3, .int .i64 x.f4.f4, .int .i64 x.f5.f0, .string x.f5.f1, v11, .bool x.f5.f3, .string x.f5.f4, .int .i64 x.f5.f5, .int .u64 x.f6.f0, .int .u64 x.f6.f1, .int .i64 x.f7, v18, .int .i64 x.f9, .int .i64 x.f10], rfl, rfl, ⟨[.int .i64 x.f3], [.int .i64 x.f4.f0, .string x.f4.f1, .string x.f4.f2, .string x.f4.f3, .int .i64 x.f4.f4, .int .i64 x.f5.f0, .string x.f5.f1, v11, .bool x.f5.f3, .string x.f5.f4, .int .i64 x.f5.f5, .int .u64 x.f6.f0, .int .u64 x.f6.f1, .int .i64 x.f7, v18, .int .i64 x.f9, .int .i64 x.f10], rfl, rfl, ⟨[.int .i64 x.f4.f0, .string x.f4.f1, .string x.f4.f2, .string x.f4.f3, .int .i64 x.f4.f4], [.int .i64 x.f5.f0, .string x.f5.f1, v11, .bool x.f5.f3, .string x.f5.f4, .int .i64 x.f5.f5, .int .u64 x.f6.f0, .int .u64 x.f6.f1, .int .i64 x.f7, v18, .int .i64 x.f9, .int .i64 x.f10], rfl, (k82_mkM w base ok x.f4 ), ⟨[.int .i64 x.f5.f0, .string x.f5.f1, v11, .bool x.f5.f3, .string x.f5.f4, .int .i64 x.f5.f5], [.int .u64 x.f6.f0, .int .u64 x.f6.f1, .int .i64 x.f7, v18, .int .i64 x.f9, .int .i64 x.f10], rfl, (k85_mkM w base ok x.f5 g11), ⟨[.int .u64 x.f6.f0, .int .u64 x.f6.f1], [.int .i64 x.f7, v18, .int .i64 x.f9, .int .i64 x.f10], rfl, (k90_mkM w base ok x.f6 ), ⟨[.int .i64 x.f7], [v18, .int .i64 x.f9, .int .i64 x.f10], rfl, rfl, ⟨[v18], [.int .i64 x.f9, .int .i64 x.f10], rfl, ⟨v18, rfl, g18⟩, ⟨[.int .i64 x.f9], [.int .i64 x.f10], rfl, rfl, rfl⟩⟩⟩⟩⟩⟩⟩⟩⟩⟩
theorem k92_openF {W : World} {ok : Nat → Prop} {x : S92} {cs : List Value} (h : Kd.FK k92 W ok x cs) : ∃ A11 c11 A18 c18, cs = [.int .i64 x.f0, .int .i64 x.f1, .int .i64 x.f2, .int .i64 x.f3, .int .i64 x.f4.f0, .string x.f4.f1, .string x.f4.f2, .string x.f4.f3, .int .i64 x.f4.f4, .int .i64 x.f5.f0, .string x.f5.f1, .slice A11 x.f5.f2.length c11, .bool x.f5.f3, .string x.f5.f4, .int .i64 x.f5.f5, .int .u64 x.f6.f0, .int .u64 x.f6.f1, .int .i64 x.f7, .slice A18 x.f8.length c18, .int .i64 x.f9, .int .i64 x.f10] ∧ x.f5.f2.length ≤ c11 ∧ Kd.F k98 W ok A11 x.f5.f2.length x.f5.f2 ∧ x.f8.length ≤ c18 ∧ Kd.F k98 W ok A18 x.f8.length x.f8 := by
  obtain ⟨A11, c11, A18, c18, rfl, l11, _, l18, _⟩ := k92_open (Kd.FK_now h)
  exact ⟨A11, c11, A18, c18, rfl, l11, (fun W' hW => by obtain ⟨A11_, c11_, A18_, c18_, he, l11_, g11_, l18_, g18_⟩ := k92_open (h W' hW); injection (Option.some.inj (show some (Value.slice A11 x.f5.f2.length c11) = some (Value.slice A11_ x.f5.f2.length c11_) from congrArg (fun l => l[11]?) he)) with ha_ _ _; rw [ha_]; exact g11_), l18, (fun W' hW => by obtain ⟨A11_, c11_, A18_, c18_, he, l11_, g11_, l18_, g18_⟩ := k92_open (h W' hW); injection (Option.some.inj (show some (Value.slice A18 x.f8.length c18) = some (Value.slice A18_ x.f8.length c18_) from congrArg (fun l => l[18]?) he)) with ha_ _ _; rw [ha_]; exact g18_)⟩
theorem k92_mkF (W : World) (ok : Nat → Prop) (x : S92) {A11 : Option Addr} {c11 : Nat} (l11 : x.f5.f2.length ≤ c11) (g11 : Kd.F k98 W ok A11 x.f5.f2.length x.f5.f2) {A18 : Option Addr} {c18 : Nat} (l18 : x.f8.length ≤ c18) (g18 : Kd.F k98 W ok A18 x.f8.length x.f8) : Kd.FK k92 W ok x [.int .i64 x.f0, .int .i64 x.f1, .int .i64 x.f2, .int .i64 x.f3, .int .i64 x.f4.f0, .string x.f4.f1, .string x.f4.f2, .string x.f4.f3, .int .i64 x.f4.f4, .int .i64 x.f5.f0, .string x.f5.f1, .slice A11 x.f5.f2.length c11, .bool x.f5.f3, .string x.f5.f4, .int .i64 x.f5.f5, .int .u64 x.f6.f0, .int .u64 x.f6.f1, .int .i64 x.f7, .slice A18 x.f8.length c18, .int .i64 x.f9, .int .i64 x.f10] := fun W2 hW => k92_mk W2 x l11 (g11 W2 hW) l18 (g18 W2 hW)
def rd_T92 (xs : List S92) (i : Int) : S92 := xs.getD i.toNat z92
theorem at_T92 {w : World} {A : Option Addr} {n : Nat} {xs : List S92} (h : Kd.C k92 w A n xs) (i : Int) (h0 : 0 ≤ i) (h1 : i < n) : ∃ ad A11 c11 A18 c18, A = some ad ∧ w.cell? (ad.add (i.toNat * 21)) = some (.int .i64 (rd_T92 xs i).f0) ∧ w.cell? ⟨(ad.add (i.toNat * 21)).block, (ad.add (i.toNat * 21)).off + 1, none⟩ = some (.int .i64 (rd_T92 xs i).f1) ∧ w.cell? ⟨(ad.add (i.toNat * 21)).block, (ad.add (i.toNat * 21)).off + 2, none⟩ = some (.int .i64 (rd_T92 xs i).f2) ∧ w.cell? ⟨(ad.add (i.toNat * 21)).block, (ad.add (i.toNat * 21)).off + 3, none⟩ = some (.int .i64 (rd_T92 xs i).f3) ∧ w.cell? ⟨(ad.add (i.toNat * 21)).block, (ad.add (i.toNat * 21)).off + 4, none⟩ = some (.int .i64 (rd_T92 xs i).f4.f0) ∧ w.cell? ⟨(ad.add (i.toNat * 21)).block, (ad.add (i.toNat * 21)).off + 5, none⟩ = some (.string (rd_T92 xs i).f4.f1) ∧ w.cell? ⟨(ad.add (i.toNat * 21)).block, (ad.add (i.toNat * 21)).off + 6, none⟩ = some (.string (rd_T92 xs i).f4.f2) ∧ w.cell? ⟨(ad.add (i.toNat * 21)).block, (ad.add (i.toNat * 21)).off + 7, none⟩ = some (.string (rd_T92 xs i).f4.f3) ∧ w.cell? ⟨(ad.add (i.toNat * 21)).block, (ad.add (i.toNat * 21)).off + 8, none⟩ = some (.int .i64 (rd_T92 xs i).f4.f4) ∧ w.cell? ⟨(ad.add (i.toNat * 21)).block, (ad.add (i.toNat * 21)).off + 9, none⟩ = some (.int .i64 (rd_T92 xs i).f5.f0) ∧ w.cell? ⟨(ad.add (i.toNat * 21)).block, (ad.add (i.toNat * 21)).off + 10, none⟩ = some (.string (rd_T92 xs i).f5.f1) ∧ w.cell? ⟨(ad.add (i.toNat * 21)).block, (ad.add (i.toNat * 21)).off + 11, none⟩ = some (.slice A11 (rd_T92 xs i).f5.f2.length c11) ∧ w.cell? ⟨(ad.add (i.toNat * 21)).block, (ad.add (i.toNat * 21)).off + 12, none⟩ = some (.bool (rd_T92 xs i).f5.f3) ∧ w.cell? ⟨(ad.add (i.toNat * 21)).block, (ad.add (i.toNat * 21)).off + 13, none⟩ = some (.string (rd_T92 xs i).f5.f4) ∧ w.cell? ⟨(ad.add (i.toNat * 21)).block, (ad.add (i.toNat * 21)).off + 14, none⟩ = some (.int .i64 (rd_T92 xs i).f5.f5) ∧ w.cell? ⟨(ad.add (i.toNat * 21)).block, (ad.add (i.toNat * 21)).off + 15, none⟩ = some (.int .u64 (rd_T92 xs i).f6.f0) ∧ w.cell? ⟨(ad.add (i.toNat * 21)).block, (ad.add (i.toNat * 21)).off + 16, none⟩ = some (.int .u64 (rd_T92 xs i).f6.f1) ∧ w.cell? ⟨(ad.add (i.toNat * 21)).block, (ad.add (i.toNat * 21)).off + 17, none⟩ = some (.int .i64 (rd_T92 xs i).f7) ∧ w.cell? ⟨(ad.add (i.toNat * 21)).block, (ad.add (i.toNat * 21)).off + 18, none⟩ = some (.slice A18 (rd_T92 xs i).f8.length c18) ∧ w.cell? ⟨(ad.add (i.toNat * 21)).block, (ad.add (i.toNat * 21)).off + 19, none⟩ = some (.int .i64 (rd_T92 xs i).f9) ∧ w.cell? ⟨(ad.add (i.toNat * 21)).block, (ad.add (i.toNat * 21)).off + 20, none⟩ = some (.int .i64 (rd_T92 xs i).f10) ∧ (rd_T92 xs i).f5.f2.length ≤ c11 ∧ k98.C w A11 (rd_T92 xs i).f5.f2.length (rd_T92 xs i).f5.f2 ∧ (rd_T92 xs i).f8.length ≤ c18 ∧ k98.C w A18 (rd_T92 xs i).f8.length (rd_T92 xs i).f8 := by
  obtain ⟨ad, c, e, _, hK, hc0⟩ := Kd.C_get h z92 i h0 h1
  have hc : ∀ j u, c[j]? = some u → w.cell? (ad.add (i.toNat * 21 + j)) = some u := hc0
  obtain ⟨A11, c11, A18, c18, rfl, l11, g11, l18, g18⟩ := k92_open hK
  exact ⟨ad, A11, c11, A18, c18, e, hc 0 _ rfl, by rw [← add_field _ _ 1 (by omega)]; exact hc 1 _ rfl, by rw [← add_field _ _ 2 (by omega)]; exact hc 2 _ rfl, by rw [← add_field _ _ 3 (by omega)]; exact hc 3 _ rfl, by rw [← add_field _ _ 4 (by omega)]; exact hc 4 _ rfl, by rw [← add_field _ _ 5 (by omega)]; exact hc 5 _ rfl, by rw [← add_field _ _ 6 (by omega)]; exact hc 6 _ rfl, by rw [← add_field _ _ 7 (by omega)]; exact hc 7 _ rfl, by rw [← add_field _ _ 8 (by omega)]; exact hc 8 _ rfl, by rw [← add_field _ _ 9 (by omega)]; exact hc 9 _ rfl, by rw [← add_field _ _ 10 (by omega)]; exact hc 10 _ rfl, by rw [← add_field _ _ 11 (by omega)]; exact hc 11 _ rfl, by rw [← add_field _ _ 12 (by omega)]; exact hc 12 _ rfl, by rw [← add_field _ _ 13 (by omega)]; exact hc 13 _ rfl, by rw [← add_field _ _ 14 (by omega)]; exact hc 14 _ rfl, by rw [← add_field _ _ 15 (by omega)]; exact hc 15 _ rfl, by rw [← add_field _ _ 16 (by omega)]; exact hc 16 _ rfl, by rw [← add_field _ _ 17 (by omega)]; exact hc 17 _ rfl, by rw [← add_field _ _ 18 (by omega)]; exact hc 18 _ rfl, by rw [← add_field _ _ 19 (by omega)]; exact hc 19 _ rfl, by rw [← add_field _ _ 20 (by omega)]; exact hc 20 _ rfl, l11, g11, l18, g18⟩

def rd_L17 (xs : List (List S92)) (i : Int) : (List S92) := xs.getD i.toNat ([] : List S92)
theorem at_L17 {w : World} {A : Option Addr} {n : Nat} {xs : List (List S92)} (h : Kd.C (Kd.slice 92 k92) w A n xs) (i : Int) (h0 : 0 ≤ i) (h1 : i < n) : ∃ ad A0 c0, A = some ad ∧ w.cell? (ad.add i.toNat) = some (.slice A0 (rd_L17 xs i).length c0) ∧ (rd_L17 xs i).length ≤ c0 ∧ k92.C w A0 (rd_L17 xs i).length (rd_L17 xs i) := by
  obtain ⟨ad, c, e, _, hK, hc0⟩ := Kd.C_get h ([] : List S92) i h0 h1
  have hc : ∀ j u, c[j]? = some u → w.cell? (ad.add (i.toNat * 1 + j)) = some u := hc0
  obtain ⟨A0, c0, rfl, l0, g0⟩ := hK
  exact ⟨ad, A0, c0, e, by have hq := hc 0 _ rfl; rwa [Nat.mul_one, Nat.add_zero] at hq, l0, g0⟩

end Go.Proofs.Ytfkhdfnjlegnhaa.P
