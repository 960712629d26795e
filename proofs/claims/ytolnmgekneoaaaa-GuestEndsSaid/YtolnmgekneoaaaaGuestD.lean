/- Guest: the layer on which the laws stand. -/
import Derived.Test.YtolnmgekneoaaaaGuestC
set_option maxRecDepth 100000
set_option linter.unusedVariables false
set_option linter.unusedSimpArgs false
namespace Go.Proofs.Ytolnmgekneoaaaa.Gu
open Go Go.Eng F

def startR (s : Gs) (h : H) (g : Nat) (a : As) (x : Int) : Option (AV × H) :=
  if (s.on || ((a.op != 1) && (a.op != 2) && (a.op != 3)) || !(decide (0 ≤ x) && decide (x < s.nodes))) = true then some (.tuple [.nilslice, .bool false], h ++ [.row 5 [a.av] true true])
  else some (.tuple [.slice (h.length + 1) 21 0 1 1 true, .bool true], h.set g (.row 20 [(s.start a x).av] true true) ++ [.row 5 [a.av] true true, .row 21 [(s.start a x).ltr] true true])
def newR (me nodes : Int) (h : H) : Option (AV × H) :=
  if (decide (nodes < 1) || decide (16 < nodes)) = true then some (.nilptr, h) else some (.ptr h.length 0 0, h ++ [.row 20 [(Gs.fresh me nodes).av] true true])
def resR (s : Gs) (h : H) : Option (AV × H) :=
  if s.over = true then some (.tuple [.agg s.t.av, .bool true], h ++ [.row 6 [s.t.av] true true, .row 6 [s.t.av] true true]) else some (.tuple [.agg Te.zero.av, .bool false], h ++ [.row 6 [Te.zero.av] true true])
def ex2 : FuncId → List AV → M AV
  | 10, [], h => some (.bool true, h)
  | 11, [.int .i64 me, .int .i64 nodes], h => newR me nodes h
  | 12, [.ptr g 0 0, .agg [.int .i64 op, .str key, .str value, .str to, .int .i64 most], .int .i64 x], h => match gsOf h g with
    | some s => startR s h g ⟨op, key, value, to, most⟩ x
    | none => none
  | 13, [.ptr g 0 0, .agg [.int .i64 kind, .int .i64 frm, .int .i64 to, .int .i64 id, .int .i64 op, .str key, .str value, .str to2, .int .i64 most, .int .i64 errno, .str tv, .nilslice, .bool more, .str next, .int .i64 tnode, .int .u64 af, .int .u64 at_, .int .i64 ep, .nilslice, .int .i64 n, .int .i64 node]], h => match gsOf h g with
    | some s => if s.nodes = 0 then none else gotR s h g ⟨kind, frm, to, id, ⟨op, key, value, to2, most⟩, ⟨errno, tv, more, next, tnode⟩, af, at_, ep, n, node⟩
    | none => none
  | 14, [.ptr g 0 0], h => match gsOf h g with
    | some s => resR s h
    | none => none
  | 15, [.ptr g 0 0], h => match gsOf h g with
    | some s => tickR s h g
    | none => none
  | 16, [.ptr g 0 0], h => match gsOf h g with
    | some s => some (.int .i64 s.tried, h)
    | none => none
  | 24, [.ptr g 0 0], h => match gsOf h g with
    | some s => some (.int .i64 s.id, h)
    | none => none
  | _, _, _ => none
theorem ex2_ok : CfSound Try.prog ex2 := by
  intro f vs h v h' hr
  unfold ex2 at hr
  split at hr
  · exact exA_ok 10 [] h v h' (by rw [← hr]; rfl)
  · refine call_sound fs1 ex1 fs1_ok ex1_ok _ _ _ _ _ ?_
    rw [new_eq]; exact hr
  all_goals first | cases hr; done | skip
  all_goals
    split at hr
    · rename_i hg
      first
      | (split at hr
         · cases hr
         · rename_i hn
           refine call_sound fs1 ex1 fs1_ok ex1_ok _ _ _ _ _ ?_
           exact (got_eq (gsOf_some hg) ⟨_, _, _, _, ⟨_, _, _, _, _⟩, ⟨_, _, _, _, _⟩, _, _, _, _, _⟩ hn).trans hr)
      | (refine call_sound fs1 ex1 fs1_ok ex1_ok _ _ _ _ _ ?_
         first
         | exact (start_eq (gsOf_some hg) ⟨_, _, _, _, _⟩ _).trans hr
         | exact (result_eq (gsOf_some hg)).trans hr
         | exact (tick_eq (gsOf_some hg)).trans hr
         | exact (tried_eq (gsOf_some hg)).trans hr
         | exact (id_eq (gsOf_some hg)).trans hr)
    · cases hr
def fs2 := fsBut fs [10, 11, 12, 13, 14, 15, 16, 24]
theorem fs2_ok : FsOk Try.prog fs2 := fsBut_ok fsOk _
theorem e2_10 (vs : List AV) (h : H) : call fs2 ex2 10 vs h = ex2 10 vs h := call_ex fs2 ex2 rfl _ _
theorem e2_11 (vs : List AV) (h : H) : call fs2 ex2 11 vs h = ex2 11 vs h := call_ex fs2 ex2 rfl _ _
theorem e2_12 (vs : List AV) (h : H) : call fs2 ex2 12 vs h = ex2 12 vs h := call_ex fs2 ex2 rfl _ _
theorem e2_13 (vs : List AV) (h : H) : call fs2 ex2 13 vs h = ex2 13 vs h := call_ex fs2 ex2 rfl _ _
theorem e2_14 (vs : List AV) (h : H) : call fs2 ex2 14 vs h = ex2 14 vs h := call_ex fs2 ex2 rfl _ _
theorem e2_15 (vs : List AV) (h : H) : call fs2 ex2 15 vs h = ex2 15 vs h := call_ex fs2 ex2 rfl _ _
theorem e2_16 (vs : List AV) (h : H) : call fs2 ex2 16 vs h = ex2 16 vs h := call_ex fs2 ex2 rfl _ _
theorem e2_24 (vs : List AV) (h : H) : call fs2 ex2 24 vs h = ex2 24 vs h := call_ex fs2 ex2 rfl _ _
end Go.Proofs.Ytolnmgekneoaaaa.Gu
