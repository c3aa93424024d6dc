/- slices.Insert into nothing; slices.Clone; on data. No condition but lengths. -/
import Derived.Test.YtjmjnndmpeeppaaAhNbF
namespace Go.Proofs.Ytjmjnndmpeeppaa
open Go.RowKit
set_option linter.unusedVariables false
set_option linter.unusedSimpArgs false
set_option maxRecDepth 100000
set_option maxHeartbeats 4000000

theorem ins0_w (base : Option Addr) (gv ov cv : Nat) (curv : Array Value) (ev : TypeId) (vs : List Value) (w : World) (hgv : w.heap[gv]? = some (.cells curv ev (0, 0)))
    (hvl : vs.length = 3) (hvs : ∀ (j : Nat) v, vs[j]? = some v → curv[ov + j]? = some v) (h1v : ∀ v ∈ vs, v.oneCell' = true) :
    Calls Try.prog 64 #[.slice base 0 0, .int .i64 0, .slice (some ⟨gv, ov, none⟩) 1 cv] w fun e w' => w'.os = w.os ∧ w'.tape = w.tape ∧ w'.output = w.output ∧
      ∃ (cur' : Array Value) (cap' : Nat), e = .returned (.slice (some ⟨w.heap.size, 0, none⟩) 1 cap') ∧ 1 ≤ cap' ∧ cap' ≤ maxLen ∧ cap' * 3 ≤ cur'.size ∧ w'.heap = w.heap.push (.cells cur' 74 (0, 0)) ∧
      ∀ k, k < 3 → cur'[k]? = vs[k]? := by
  obtain ⟨i0, hi0, hz0, hz1, hz2⟩ : ∃ q, (Try.prog).info? 74 = some q ∧ q.zero = some (.agg #[.int .i64 0, .int .i64 0, .int .i64 0]) ∧ q.size = 3 ∧ q.bytes = 24 := by
    have : ((Try.prog).info? 74).map (fun q => (q.zero, q.size, q.bytes)) = some (some (.agg #[.int .i64 0, .int .i64 0, .int .i64 0]), 3, 24) := by kernel_rfl
    simp only [Option.map_eq_some_iff, Prod.mk.injEq] at this
    obtain ⟨q, h1, h2, h3, h4⟩ := this
    exact ⟨q, h1, h2, h3, h4⟩
  have ht := Try.underlying59
  have hsrc : Src Try.prog i0.size 59 (.slice (some ⟨gv, ov, none⟩) 1 cv) 1 vs w := by
    rw [hz1]
    exact Src.ofSlice w ht ⟨gv, ov, none⟩ 1 cv vs (by omega) (fun j u hj => by rw [add_none]; simp [World.cell?, hgv, hvs j u hj]) h1v
  have hold : ∀ base : Option Addr, (Builtin.firstCells i0.size 0 (.slice base 0 0)).run Try.prog w.drew = .ok ([] : List Value).toArray w.drew := fun base => by
    rw [hz1]
    cases base with
    | none => exact run_firstCells_none w.drew 3 0 0 0
    | some a => exact run_firstCells_some w.drew 3 0 a 0 0 [] rfl (fun j v hj => by simp at hj)
  have hrun : ∀ ty, (Builtin.append_ #[59, 59] ty #[.slice base 0 0, .slice (some ⟨gv, ov, none⟩) 1 cv]).run Try.prog w = _ := fun ty =>
    run_append_grow_src w _ _ ty _ i0 _ ht hi0 hz0 base 0 0 [] (hold base) _ 1 vs hsrc (by omega) (by omega) (by rw [hz2]; exact growslice_fits (by omega) (by omega))
  have hge := grownCap_ge w 1 0 74
  have hle := grownCap_le_maxLen w 1 0 74 (by unfold maxLen; omega)
  have fin : ∀ k, k < 3 → ((([] : List Value) ++ vs).toArray ++ Builtin.zeroCells #[.int .i64 0, .int .i64 0, .int .i64 0] (grownCap w 1 0 74 - 1))[k]? = vs[k]? := fun k hk => by
    rw [Array.getElem?_append_left (by simp; omega)]
    simp
  have fsz : grownCap w 1 0 74 * 3 ≤ ((([] : List Value) ++ vs).toArray ++ Builtin.zeroCells #[.int .i64 0, .int .i64 0, .int .i64 0] (grownCap w 1 0 74 - 1)).size := by
    simp [size_zeroCells, hvl]; omega
  cases base with
  | none =>
    go_enter Try.func64, Try.ntmps64
    go_wp2_with (at_builtin; refine Lib.wpList_append_run _ rfl _ _ _ _ rfl _ _ rfl rfl _ _ (hrun _) ?_)
    go_ret
    exact ⟨rfl, rfl, rfl, _, _, rfl, hge, hle, fsz, rfl, fin⟩
  | some a =>
    go_enter Try.func64, Try.ntmps64
    go_wp2_with (at_builtin; refine Lib.wpList_append_run _ rfl _ _ _ _ rfl _ _ rfl rfl _ _ (hrun _) ?_)
    go_ret
    exact ⟨rfl, rfl, rfl, _, _, rfl, hge, hle, fsz, rfl, fin⟩
end Go.Proofs.Ytjmjnndmpeeppaa
