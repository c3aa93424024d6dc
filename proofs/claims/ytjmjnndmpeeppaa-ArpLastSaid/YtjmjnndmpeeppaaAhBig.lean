/- Numbers as bytes on data. No condition. -/
import Derived.Test.YtjmjnndmpeeppaaAhBytes
import Derived.Test.YtjmjnndmpeeppaaAhiC
namespace Go.Proofs.Ytjmjnndmpeeppaa
open Go.RowKit
set_option linter.unusedVariables false
set_option linter.unusedSimpArgs false
set_option maxRecDepth 100000
set_option maxHeartbeats 4000000

theorem num_l (n m : Int) : ACallL Try.prog 58 [.val (.int .i64 n), .val (.int .i64 m)] [.perm] (.val (.bool (decide (0 ≤ n ∧ n ≤ m)))) [.perm] := by
  refine ACallL.of_ev mixed Try.func58 rfl (fun a w => Try.call58 a w) (congrArg Array.toList Try.results58) Try.ntmps58 fun B hB => ?_; ((conv => whnf); (repeat' ((first | (with_reducible refine qif_t (by assumption) ?_) | (with_reducible refine qif_f (by assumption) ?_) | ((with_reducible refine qif_t ?_ ?_); focus decide) | ((with_reducible refine qif_f ?_ ?_); focus decide) | with_reducible refine qif_i (fun _ => ?_) (fun _ => ?_)) <;> (conv => whnf)))); all_goals (refine qConv.of hB [] [(0, 0)] [] (by rfl) ?_; focus ((conv => whnf); (repeat (refine And.intro ?_ ?_; rotate_left; (conv => whnf))); exact trivial; all_goals (try (first | (with_reducible rfl) | (refine RowsRen.pl rfl rfl ?_; first | assumption | (focus (unfold PlRows; (repeat (first | exact .val _ | assumption | exact .any | (refine .agg _ ?_) | (refine .tup _ ?_) | (refine .list _ _ ?_) | (refine PlRows.mapF _ _ fun _ _ => ?_) | (simp only [List.forall_mem_cons]) | (refine ⟨?_, ?_⟩) | (exact fun _ h => absurd h List.not_mem_nil))); done)) | (focus (refine PlRows.mapF _ _ fun _ _ => ?_; (repeat (first | exact .val _ | assumption | exact .any | (refine .agg _ ?_) | (refine .tup _ ?_) | (refine .list _ _ ?_) | (refine PlRows.mapF _ _ fun _ _ => ?_) | (simp only [List.forall_mem_cons]) | (refine ⟨?_, ?_⟩) | (exact fun _ h => absurd h List.not_mem_nil))); done))))))); all_goals ((try congr 1); first | done | omega | (simp_all; done) | (simp_all; omega))
theorem macOk_l (n : Int) : ACallL Try.prog 42 [.val (.int .i64 n)] [.perm] (.val (.bool (decide (0 ≤ n ∧ n ≤ 281474976710655)))) [.perm] := by
  refine ACallL.of_ev mixed Try.func42 rfl (fun a w => Try.call42 a w) (congrArg Array.toList Try.results42) Try.ntmps42 fun B hB => ?_
  ((conv => whnf); (repeat' ((first | (with_reducible refine qif_n ?_) | (with_reducible refine qif_t (by assumption) ?_) | (with_reducible refine qif_f (by assumption) ?_) | ((with_reducible refine qif_t ?_ ?_); focus decide) | ((with_reducible refine qif_f ?_ ?_); focus decide) | (with_reducible refine And.intro (orderOk_i ?ho) ?_; (case ho => kernel_rfl)) | (with_reducible refine qif_i (fun _ => ?_) (fun _ => ?_)) | (with_reducible refine frcVs_i ?_) | (with_reducible refine frcRs_i ?_) | ((with_reducible refine qCall.pure (num_l _ _) ?_ ?_ ?_ ?_); rotate_left 3; rotate_left; exact trivial; exact (by repeat (first | exact .val _ | assumption | exact .any | (refine .agg _ ?_) | (refine .tup _ ?_) | (refine .list _ _ ?_) | (refine PlRows.mapF _ _ fun _ _ => ?_) | (simp only [List.forall_mem_cons]) | (refine ⟨?_, ?_⟩) | (exact fun _ h => absurd h List.not_mem_nil))); exact (by repeat (first | exact .val _ | assumption | exact .any | (refine .agg _ ?_) | (refine .tup _ ?_) | (refine .list _ _ ?_) | (refine PlRows.mapF _ _ fun _ _ => ?_) | (simp only [List.forall_mem_cons]) | (refine ⟨?_, ?_⟩) | (exact fun _ h => absurd h List.not_mem_nil))))) <;> (conv => whnf))))
  (all_goals (refine qConv.of hB [] [(0, 0)] [] (by rfl) ?_; focus ((conv => whnf); (repeat (refine And.intro ?_ ?_; rotate_left; (conv => whnf))); exact trivial; all_goals (try (first | (with_reducible rfl) | (refine RowsRen.pl rfl rfl ?_; first | assumption | (focus (unfold PlRows; (repeat (first | exact .val _ | assumption | exact .any | (refine .agg _ ?_) | (refine .tup _ ?_) | (refine .list _ _ ?_) | (refine PlRows.mapF _ _ fun _ _ => ?_) | (simp only [List.forall_mem_cons]) | (refine ⟨?_, ?_⟩) | (exact fun _ h => absurd h List.not_mem_nil))); done)) | (focus (refine PlRows.mapF _ _ fun _ _ => ?_; (repeat (first | exact .val _ | assumption | exact .any | (refine .agg _ ?_) | (refine .tup _ ?_) | (refine .list _ _ ?_) | (refine PlRows.mapF _ _ fun _ _ => ?_) | (simp only [List.forall_mem_cons]) | (refine ⟨?_, ?_⟩) | (exact fun _ h => absurd h List.not_mem_nil))); done))))))); all_goals (try (congr 1)); all_goals (first | done | omega | (simp_all []; done) | (simp_all []; omega)))

def ofSt (v b : Int) : Int := bits .or .i64 (IntKind.i64.wrap (v * 2 ^ (min (8 : Int).toNat 64))) (IntKind.i64.wrap b)
def ofB (xs : List Int) : Int := xs.foldl ofSt 0
theorem ofB_snoc {xs : List Int} {k : Nat} {x : Int} (h : xs[k]? = some x) : ofB (xs.take (k + 1)) = ofSt (ofB (xs.take k)) x := by
  rw [take_snoc h]; simp [ofB]
theorem of_l (xs : List Int) (hx : xs.length ≤ 100000000) : ACallL Try.prog 69 [bL 0 xs] [.perm] (.val (.int .i64 (ofB xs))) [.perm] := by
  have lx : (xs.map bR).length = xs.length := by simp
  refine ACallL.of_ev mixed Try.func69 rfl (fun a w => Try.call69 a w) (congrArg Array.toList Try.results69) Try.ntmps69 fun B hB => ?_
  ((conv => whnf); (repeat' ((first | (with_reducible refine qif_n ?_) | (with_reducible refine qif_t (by assumption) ?_) | (with_reducible refine qif_f (by assumption) ?_) | ((with_reducible refine qif_t ?_ ?_); focus decide) | ((with_reducible refine qif_f ?_ ?_); focus decide) | (with_reducible refine And.intro (orderOk_i ?ho) ?_; (case ho => kernel_rfl)) | (with_reducible refine qif_i (fun _ => ?_) (fun _ => ?_)) | (with_reducible refine frcVs_i ?_) | (with_reducible refine frcRs_i ?_)) <;> (conv => whnf))))
  refine qAW.loop mixed (X := Nat) (fun k => slotsOf 20 [(0, bL 0 xs), (3, .val (.int .i64 (ofB (xs.take k)))), (4, .val (.int .i64 k))]) (fun k => [.perm]) (fun k => k ≤ xs.length) (fun k => xs.length - k) 0 (Nat.zero_le _) ?_ ?_
  · (refine qConv.of hB [] [(0, 0)] [] (by rfl) ?_; focus ((conv => whnf); (repeat (refine And.intro ?_ ?_; rotate_left; (conv => whnf))); exact trivial; all_goals (try (first | (with_reducible rfl) | (refine RowsRen.pl rfl rfl ?_; first | assumption | (focus (unfold PlRows; (repeat (first | exact .val _ | assumption | exact .any | (refine .agg _ ?_) | (refine .tup _ ?_) | (refine .list _ _ ?_) | (refine PlRows.mapF _ _ fun _ _ => ?_) | (simp only [List.forall_mem_cons]) | (refine ⟨?_, ?_⟩) | (exact fun _ h => absurd h List.not_mem_nil))); done)) | (focus (refine PlRows.mapF _ _ fun _ _ => ?_; (repeat (first | exact .val _ | assumption | exact .any | (refine .agg _ ?_) | (refine .tup _ ?_) | (refine .list _ _ ?_) | (refine PlRows.mapF _ _ fun _ _ => ?_) | (simp only [List.forall_mem_cons]) | (refine ⟨?_, ?_⟩) | (exact fun _ h => absurd h List.not_mem_nil))); done)))))))
    all_goals rfl
  · intro k hk
    by_cases hlt : k < xs.length
    · obtain ⟨x, hxk⟩ : ∃ x, xs[k]? = some x := ⟨_, List.getElem?_eq_getElem hlt⟩
      have hrx : (xs.map bR)[(k : Int).toNat]? = some (bR x) := by simp [hxk]
      have w := IntWalk.i64_in (k + 1) (by omega)
      ((conv => whnf); (repeat' ((first | (with_reducible refine qif_n ?_) | (with_reducible refine qif_t (by assumption) ?_) | (with_reducible refine qif_f (by assumption) ?_) | ((with_reducible refine qif_t ?_ ?_); focus decide) | ((with_reducible refine qif_f ?_ ?_); focus decide) | (with_reducible refine And.intro (orderOk_i ?ho) ?_; (case ho => kernel_rfl)) | ((with_reducible refine qif_t ?_ ?_); focus (simp [lx, hlt]; done)) | ((with_reducible refine qif_f ?_ ?_); focus (simp [lx, hlt]; done)) | (with_reducible refine qif_i (fun _ => ?_) (fun _ => ?_)) | (with_reducible refine frcVs_i ?_) | (with_reducible refine frcRs_i ?_) | (refine qCase_i (idxL rfl rfl rfl rfl rfl rfl (by omega) hrx) ?_)) <;> (conv => whnf))))
      refine ⟨k + 1, by omega, by omega, ?_⟩
      (refine qConv.of hB [] [(0, 0)] [] (by rfl) ?_; focus ((conv => whnf); (repeat (refine And.intro ?_ ?_; rotate_left; (conv => whnf))); exact trivial; all_goals (try (first | (with_reducible rfl) | (refine RowsRen.pl rfl rfl ?_; first | assumption | (focus (unfold PlRows; (repeat (first | exact .val _ | assumption | exact .any | (refine .agg _ ?_) | (refine .tup _ ?_) | (refine .list _ _ ?_) | (refine PlRows.mapF _ _ fun _ _ => ?_) | (simp only [List.forall_mem_cons]) | (refine ⟨?_, ?_⟩) | (exact fun _ h => absurd h List.not_mem_nil))); done)) | (focus (refine PlRows.mapF _ _ fun _ _ => ?_; (repeat (first | exact .val _ | assumption | exact .any | (refine .agg _ ?_) | (refine .tup _ ?_) | (refine .list _ _ ?_) | (refine PlRows.mapF _ _ fun _ _ => ?_) | (simp only [List.forall_mem_cons]) | (refine ⟨?_, ?_⟩) | (exact fun _ h => absurd h List.not_mem_nil))); done)))))))
      all_goals first | rfl | (simp [w]; done) | (rw [ofB_snoc hxk]; rfl)
    · ((conv => whnf); (repeat' ((first | (with_reducible refine qif_n ?_) | (with_reducible refine qif_t (by assumption) ?_) | (with_reducible refine qif_f (by assumption) ?_) | ((with_reducible refine qif_t ?_ ?_); focus decide) | ((with_reducible refine qif_f ?_ ?_); focus decide) | (with_reducible refine And.intro (orderOk_i ?ho) ?_; (case ho => kernel_rfl)) | ((with_reducible refine qif_t ?_ ?_); focus (simp [lx, hlt]; done)) | ((with_reducible refine qif_f ?_ ?_); focus (simp [lx, hlt]; done)) | (with_reducible refine qif_i (fun _ => ?_) (fun _ => ?_)) | (with_reducible refine frcVs_i ?_) | (with_reducible refine frcRs_i ?_)) <;> (conv => whnf))))
      have : k = xs.length := by omega
      subst this
      (refine qConv.of hB [] [(0, 0)] [] (by rfl) ?_; focus ((conv => whnf); (repeat (refine And.intro ?_ ?_; rotate_left; (conv => whnf))); exact trivial; all_goals (try (first | (with_reducible rfl) | (refine RowsRen.pl rfl rfl ?_; first | assumption | (focus (unfold PlRows; (repeat (first | exact .val _ | assumption | exact .any | (refine .agg _ ?_) | (refine .tup _ ?_) | (refine .list _ _ ?_) | (refine PlRows.mapF _ _ fun _ _ => ?_) | (simp only [List.forall_mem_cons]) | (refine ⟨?_, ?_⟩) | (exact fun _ h => absurd h List.not_mem_nil))); done)) | (focus (refine PlRows.mapF _ _ fun _ _ => ?_; (repeat (first | exact .val _ | assumption | exact .any | (refine .agg _ ?_) | (refine .tup _ ?_) | (refine .list _ _ ?_) | (refine PlRows.mapF _ _ fun _ _ => ?_) | (simp only [List.forall_mem_cons]) | (refine ⟨?_, ?_⟩) | (exact fun _ h => absurd h List.not_mem_nil))); done)))))))
      all_goals simp
theorem get_l (xs : List Int) (hx : xs.length ≤ 100000000) : ACallL Try.prog 67 [bL 0 xs] [.perm] (.val (.int .i64 (ofB xs))) [.perm] := by
  have lx : (xs.map bR).length = xs.length := by simp
  refine ACallL.of_ev mixed Try.func67 rfl (fun a w => Try.call67 a w) (congrArg Array.toList Try.results67) Try.ntmps67 fun B hB => ?_
  ((conv => whnf); (repeat' ((first | (with_reducible refine qif_n ?_) | (with_reducible refine qif_t (by assumption) ?_) | (with_reducible refine qif_f (by assumption) ?_) | ((with_reducible refine qif_t ?_ ?_); focus decide) | ((with_reducible refine qif_f ?_ ?_); focus decide) | (with_reducible refine And.intro (orderOk_i ?ho) ?_; (case ho => kernel_rfl)) | (with_reducible refine qif_i (fun _ => ?_) (fun _ => ?_)) | (with_reducible refine frcVs_i ?_) | (with_reducible refine frcRs_i ?_)) <;> (conv => whnf))))
  refine qAW.loop mixed (X := Nat) (fun k => slotsOf 18 [(0, bL 0 xs), (2, .val (.int .i64 (ofB (xs.take k)))), (5, bL 0 xs), (6, .val (.int .i64 xs.length)), (7, .val (.int .i64 k))]) (fun k => [.perm]) (fun k => k ≤ xs.length) (fun k => xs.length - k) 0 (Nat.zero_le _) ?_ ?_
  · (refine qConv.of hB [] [(0, 0)] [] (by rfl) ?_; focus ((conv => whnf); (repeat (refine And.intro ?_ ?_; rotate_left; (conv => whnf))); exact trivial; all_goals (try (first | (with_reducible rfl) | (refine RowsRen.pl rfl rfl ?_; first | assumption | (focus (unfold PlRows; (repeat (first | exact .val _ | assumption | exact .any | (refine .agg _ ?_) | (refine .tup _ ?_) | (refine .list _ _ ?_) | (refine PlRows.mapF _ _ fun _ _ => ?_) | (simp only [List.forall_mem_cons]) | (refine ⟨?_, ?_⟩) | (exact fun _ h => absurd h List.not_mem_nil))); done)) | (focus (refine PlRows.mapF _ _ fun _ _ => ?_; (repeat (first | exact .val _ | assumption | exact .any | (refine .agg _ ?_) | (refine .tup _ ?_) | (refine .list _ _ ?_) | (refine PlRows.mapF _ _ fun _ _ => ?_) | (simp only [List.forall_mem_cons]) | (refine ⟨?_, ?_⟩) | (exact fun _ h => absurd h List.not_mem_nil))); done)))))))
    all_goals first | rfl | (rw [lx])
  · intro k hk
    by_cases hlt : k < xs.length
    · obtain ⟨x, hxk⟩ : ∃ x, xs[k]? = some x := ⟨_, List.getElem?_eq_getElem hlt⟩
      have hrx : (xs.map bR)[(k : Int).toNat]? = some (bR x) := by simp [hxk]
      have w := IntWalk.i64_in (k + 1) (by omega)
      ((conv => whnf); (repeat' ((first | (with_reducible refine qif_n ?_) | (with_reducible refine qif_t (by assumption) ?_) | (with_reducible refine qif_f (by assumption) ?_) | ((with_reducible refine qif_t ?_ ?_); focus decide) | ((with_reducible refine qif_f ?_ ?_); focus decide) | (with_reducible refine And.intro (orderOk_i ?ho) ?_; (case ho => kernel_rfl)) | ((with_reducible refine qif_t ?_ ?_); focus (simp [lx, hlt]; done)) | ((with_reducible refine qif_f ?_ ?_); focus (simp [lx, hlt]; done)) | (with_reducible refine qif_i (fun _ => ?_) (fun _ => ?_)) | (with_reducible refine frcVs_i ?_) | (with_reducible refine frcRs_i ?_) | (refine qCase_i (idxL rfl rfl rfl rfl rfl rfl (by omega) hrx) ?_)) <;> (conv => whnf))))
      refine ⟨k + 1, by omega, by omega, ?_⟩
      (refine qConv.of hB [] [(0, 0)] [] (by rfl) ?_; focus ((conv => whnf); (repeat (refine And.intro ?_ ?_; rotate_left; (conv => whnf))); exact trivial; all_goals (try (first | (with_reducible rfl) | (refine RowsRen.pl rfl rfl ?_; first | assumption | (focus (unfold PlRows; (repeat (first | exact .val _ | assumption | exact .any | (refine .agg _ ?_) | (refine .tup _ ?_) | (refine .list _ _ ?_) | (refine PlRows.mapF _ _ fun _ _ => ?_) | (simp only [List.forall_mem_cons]) | (refine ⟨?_, ?_⟩) | (exact fun _ h => absurd h List.not_mem_nil))); done)) | (focus (refine PlRows.mapF _ _ fun _ _ => ?_; (repeat (first | exact .val _ | assumption | exact .any | (refine .agg _ ?_) | (refine .tup _ ?_) | (refine .list _ _ ?_) | (refine PlRows.mapF _ _ fun _ _ => ?_) | (simp only [List.forall_mem_cons]) | (refine ⟨?_, ?_⟩) | (exact fun _ h => absurd h List.not_mem_nil))); done)))))))
      all_goals first | rfl | (simp [w]; done) | (rw [ofB_snoc hxk]; rfl)
    · ((conv => whnf); (repeat' ((first | (with_reducible refine qif_n ?_) | (with_reducible refine qif_t (by assumption) ?_) | (with_reducible refine qif_f (by assumption) ?_) | ((with_reducible refine qif_t ?_ ?_); focus decide) | ((with_reducible refine qif_f ?_ ?_); focus decide) | (with_reducible refine And.intro (orderOk_i ?ho) ?_; (case ho => kernel_rfl)) | ((with_reducible refine qif_t ?_ ?_); focus (simp [lx, hlt]; done)) | ((with_reducible refine qif_f ?_ ?_); focus (simp [lx, hlt]; done)) | (with_reducible refine qif_i (fun _ => ?_) (fun _ => ?_)) | (with_reducible refine frcVs_i ?_) | (with_reducible refine frcRs_i ?_)) <;> (conv => whnf))))
      have : k = xs.length := by omega
      subst this
      (refine qConv.of hB [] [(0, 0)] [] (by rfl) ?_; focus ((conv => whnf); (repeat (refine And.intro ?_ ?_; rotate_left; (conv => whnf))); exact trivial; all_goals (try (first | (with_reducible rfl) | (refine RowsRen.pl rfl rfl ?_; first | assumption | (focus (unfold PlRows; (repeat (first | exact .val _ | assumption | exact .any | (refine .agg _ ?_) | (refine .tup _ ?_) | (refine .list _ _ ?_) | (refine PlRows.mapF _ _ fun _ _ => ?_) | (simp only [List.forall_mem_cons]) | (refine ⟨?_, ?_⟩) | (exact fun _ h => absurd h List.not_mem_nil))); done)) | (focus (refine PlRows.mapF _ _ fun _ _ => ?_; (repeat (first | exact .val _ | assumption | exact .any | (refine .agg _ ?_) | (refine .tup _ ?_) | (refine .list _ _ ?_) | (refine PlRows.mapF _ _ fun _ _ => ?_) | (simp only [List.forall_mem_cons]) | (refine ⟨?_, ?_⟩) | (exact fun _ h => absurd h List.not_mem_nil))); done)))))))
      all_goals simp

def byteAt (v s : Int) : Int := IntKind.u8.wrap (v.fdiv (2 ^ (min s.toNat 64)))
def bB6 (v : Int) : List Int := [byteAt v 40, byteAt v 32, byteAt v 24, byteAt v 16, byteAt v 8, byteAt v 0]
def bB4 (v : Int) : List Int := [byteAt v 24, byteAt v 16, byteAt v 8, byteAt v 0]
def bB2 (v : Int) : List Int := [byteAt v 8, byteAt v 0]
theorem big6_l (v : Int) : ACallL Try.prog 66 [.val (.int .i64 v), .val (.int .i64 6)] [.perm] (gL 1 (bB6 v)) [.perm, .uniq] := by
  refine ACallL.of_ev mixed Try.func66 rfl (fun a w => Try.call66 a w) (congrArg Array.toList Try.results66) Try.ntmps66 fun B hB => ?_
  ((conv => whnf); (repeat' ((first | (with_reducible refine qif_n ?_) | (with_reducible refine qif_t (by assumption) ?_) | (with_reducible refine qif_f (by assumption) ?_) | ((with_reducible refine qif_t ?_ ?_); focus decide) | ((with_reducible refine qif_f ?_ ?_); focus decide) | (with_reducible refine And.intro (orderOk_i ?ho) ?_; (case ho => kernel_rfl)) | (with_reducible refine qif_i (fun _ => ?_) (fun _ => ?_)) | (with_reducible refine frcVs_i ?_) | (with_reducible refine frcRs_i ?_) | (refine qAW.unroll mixed 7 ?_)) <;> (conv => whnf))))
  (refine qConv.of hB [] [(0, 0)] [(12, 1)] (by rfl) ?_; focus ((conv => whnf); (repeat (refine And.intro ?_ ?_; rotate_left; (conv => whnf))); exact trivial; all_goals (try (first | (with_reducible rfl) | (refine RowsRen.pl rfl rfl ?_; first | assumption | (focus (unfold PlRows; (repeat (first | exact .val _ | assumption | exact .any | (refine .agg _ ?_) | (refine .tup _ ?_) | (refine .list _ _ ?_) | (refine PlRows.mapF _ _ fun _ _ => ?_) | (simp only [List.forall_mem_cons]) | (refine ⟨?_, ?_⟩) | (exact fun _ h => absurd h List.not_mem_nil))); done)) | (focus (refine PlRows.mapF _ _ fun _ _ => ?_; (repeat (first | exact .val _ | assumption | exact .any | (refine .agg _ ?_) | (refine .tup _ ?_) | (refine .list _ _ ?_) | (refine PlRows.mapF _ _ fun _ _ => ?_) | (simp only [List.forall_mem_cons]) | (refine ⟨?_, ?_⟩) | (exact fun _ h => absurd h List.not_mem_nil))); done)))))))
  all_goals exact bytes_ren' rfl rfl
theorem big2_l (v : Int) : ACallL Try.prog 66 [.val (.int .i64 v), .val (.int .i64 2)] [.perm] (gL 1 (bB2 v)) [.perm, .uniq] := by
  refine ACallL.of_ev mixed Try.func66 rfl (fun a w => Try.call66 a w) (congrArg Array.toList Try.results66) Try.ntmps66 fun B hB => ?_
  ((conv => whnf); (repeat' ((first | (with_reducible refine qif_n ?_) | (with_reducible refine qif_t (by assumption) ?_) | (with_reducible refine qif_f (by assumption) ?_) | ((with_reducible refine qif_t ?_ ?_); focus decide) | ((with_reducible refine qif_f ?_ ?_); focus decide) | (with_reducible refine And.intro (orderOk_i ?ho) ?_; (case ho => kernel_rfl)) | (with_reducible refine qif_i (fun _ => ?_) (fun _ => ?_)) | (with_reducible refine frcVs_i ?_) | (with_reducible refine frcRs_i ?_) | (refine qAW.unroll mixed 7 ?_)) <;> (conv => whnf))))
  (refine qConv.of hB [] [(0, 0)] [(4, 1)] (by rfl) ?_; focus ((conv => whnf); (repeat (refine And.intro ?_ ?_; rotate_left; (conv => whnf))); exact trivial; all_goals (try (first | (with_reducible rfl) | (refine RowsRen.pl rfl rfl ?_; first | assumption | (focus (unfold PlRows; (repeat (first | exact .val _ | assumption | exact .any | (refine .agg _ ?_) | (refine .tup _ ?_) | (refine .list _ _ ?_) | (refine PlRows.mapF _ _ fun _ _ => ?_) | (simp only [List.forall_mem_cons]) | (refine ⟨?_, ?_⟩) | (exact fun _ h => absurd h List.not_mem_nil))); done)) | (focus (refine PlRows.mapF _ _ fun _ _ => ?_; (repeat (first | exact .val _ | assumption | exact .any | (refine .agg _ ?_) | (refine .tup _ ?_) | (refine .list _ _ ?_) | (refine PlRows.mapF _ _ fun _ _ => ?_) | (simp only [List.forall_mem_cons]) | (refine ⟨?_, ?_⟩) | (exact fun _ h => absurd h List.not_mem_nil))); done)))))))
  all_goals exact bytes_ren' rfl rfl
theorem big4_l (v : Int) : ACallL Try.prog 66 [.val (.int .i64 v), .val (.int .i64 4)] [.perm] (gL 1 (bB4 v)) [.perm, .uniq] := by
  refine ACallL.of_ev mixed Try.func66 rfl (fun a w => Try.call66 a w) (congrArg Array.toList Try.results66) Try.ntmps66 fun B hB => ?_
  ((conv => whnf); (repeat' ((first | (with_reducible refine qif_n ?_) | (with_reducible refine qif_t (by assumption) ?_) | (with_reducible refine qif_f (by assumption) ?_) | ((with_reducible refine qif_t ?_ ?_); focus decide) | ((with_reducible refine qif_f ?_ ?_); focus decide) | (with_reducible refine And.intro (orderOk_i ?ho) ?_; (case ho => kernel_rfl)) | (with_reducible refine qif_i (fun _ => ?_) (fun _ => ?_)) | (with_reducible refine frcVs_i ?_) | (with_reducible refine frcRs_i ?_) | (refine qAW.unroll mixed 7 ?_)) <;> (conv => whnf))))
  (refine qConv.of hB [] [(0, 0)] [(8, 1)] (by rfl) ?_; focus ((conv => whnf); (repeat (refine And.intro ?_ ?_; rotate_left; (conv => whnf))); exact trivial; all_goals (try (first | (with_reducible rfl) | (refine RowsRen.pl rfl rfl ?_; first | assumption | (focus (unfold PlRows; (repeat (first | exact .val _ | assumption | exact .any | (refine .agg _ ?_) | (refine .tup _ ?_) | (refine .list _ _ ?_) | (refine PlRows.mapF _ _ fun _ _ => ?_) | (simp only [List.forall_mem_cons]) | (refine ⟨?_, ?_⟩) | (exact fun _ h => absurd h List.not_mem_nil))); done)) | (focus (refine PlRows.mapF _ _ fun _ _ => ?_; (repeat (first | exact .val _ | assumption | exact .any | (refine .agg _ ?_) | (refine .tup _ ?_) | (refine .list _ _ ?_) | (refine PlRows.mapF _ _ fun _ _ => ?_) | (simp only [List.forall_mem_cons]) | (refine ⟨?_, ?_⟩) | (exact fun _ h => absurd h List.not_mem_nil))); done)))))))
  all_goals exact bytes_ren' rfl rfl
theorem put6S_l (ys : List Int) (v : Int) (n : Nat) (hn : n = ys.length) (hy : ys.length ≤ 100000000) : ACallL Try.prog 65 [.sl 1 0 n, .val (.int .i64 6), .val (.int .i64 v)] [.perm, .live ⟨1, 5, ys.map bR⟩] (.sl 2 0 (n + 6)) [.perm, .dead, .live ⟨1, 5, (ys ++ bB6 v).map bR⟩] := by
  refine ACallL.of_ev mixed Try.func65 rfl (fun a w => Try.call65 a w) (congrArg Array.toList Try.results65) Try.ntmps65 fun B hB => ?_
  ((conv => whnf); (repeat' ((first | (with_reducible refine qif_n ?_) | (with_reducible refine qif_t (by assumption) ?_) | (with_reducible refine qif_f (by assumption) ?_) | ((with_reducible refine qif_t ?_ ?_); focus decide) | ((with_reducible refine qif_f ?_ ?_); focus decide) | (with_reducible refine And.intro (orderOk_i ?ho) ?_; (case ho => kernel_rfl)) | (with_reducible refine qif_i (fun _ => ?_) (fun _ => ?_)) | (with_reducible refine frcVs_i ?_) | (with_reducible refine frcRs_i ?_) | (refine qAW.jump mixed 7 ?_) | (refine qCase_i (apS (sz := 1) (nb := 1) rfl rfl rfl rfl rfl rfl rfl rfl rfl rfl (by decide) rfl ⟨rfl, rfl, by simp [hn]⟩ (by simp [AV.one, Value.oneCell']) (by simp; omega)) ?_)) <;> (conv => whnf))))
  (refine qConv.of hB [(13, 2)] [(0, 0)] [] (by rfl) ?_; focus ((conv => whnf); (repeat (refine And.intro ?_ ?_; rotate_left; (conv => whnf))); exact trivial; all_goals (try (first | (with_reducible rfl) | (refine RowsRen.pl rfl rfl ?_; first | assumption | (focus (unfold PlRows; (repeat (first | exact .val _ | assumption | exact .any | (refine .agg _ ?_) | (refine .tup _ ?_) | (refine .list _ _ ?_) | (refine PlRows.mapF _ _ fun _ _ => ?_) | (simp only [List.forall_mem_cons]) | (refine ⟨?_, ?_⟩) | (exact fun _ h => absurd h List.not_mem_nil))); done)) | (focus (refine PlRows.mapF _ _ fun _ _ => ?_; (repeat (first | exact .val _ | assumption | exact .any | (refine .agg _ ?_) | (refine .tup _ ?_) | (refine .list _ _ ?_) | (refine PlRows.mapF _ _ fun _ _ => ?_) | (simp only [List.forall_mem_cons]) | (refine ⟨?_, ?_⟩) | (exact fun _ h => absurd h List.not_mem_nil))); done)))))))
  all_goals first | rfl | exact bytes_ren' rfl (by simp [bB6]; exact ⟨rfl, rfl, rfl, rfl, rfl, rfl⟩)
theorem put4S_l (ys : List Int) (v : Int) (n : Nat) (hn : n = ys.length) (hy : ys.length ≤ 100000000) : ACallL Try.prog 65 [.sl 1 0 n, .val (.int .i64 4), .val (.int .i64 v)] [.perm, .live ⟨1, 5, ys.map bR⟩] (.sl 2 0 (n + 4)) [.perm, .dead, .live ⟨1, 5, (ys ++ bB4 v).map bR⟩] := by
  refine ACallL.of_ev mixed Try.func65 rfl (fun a w => Try.call65 a w) (congrArg Array.toList Try.results65) Try.ntmps65 fun B hB => ?_
  ((conv => whnf); (repeat' ((first | (with_reducible refine qif_n ?_) | (with_reducible refine qif_t (by assumption) ?_) | (with_reducible refine qif_f (by assumption) ?_) | ((with_reducible refine qif_t ?_ ?_); focus decide) | ((with_reducible refine qif_f ?_ ?_); focus decide) | (with_reducible refine And.intro (orderOk_i ?ho) ?_; (case ho => kernel_rfl)) | (with_reducible refine qif_i (fun _ => ?_) (fun _ => ?_)) | (with_reducible refine frcVs_i ?_) | (with_reducible refine frcRs_i ?_) | (refine qAW.jump mixed 7 ?_) | (refine qCase_i (apS (sz := 1) (nb := 1) rfl rfl rfl rfl rfl rfl rfl rfl rfl rfl (by decide) rfl ⟨rfl, rfl, by simp [hn]⟩ (by simp [AV.one, Value.oneCell']) (by simp; omega)) ?_)) <;> (conv => whnf))))
  (refine qConv.of hB [(9, 2)] [(0, 0)] [] (by rfl) ?_; focus ((conv => whnf); (repeat (refine And.intro ?_ ?_; rotate_left; (conv => whnf))); exact trivial; all_goals (try (first | (with_reducible rfl) | (refine RowsRen.pl rfl rfl ?_; first | assumption | (focus (unfold PlRows; (repeat (first | exact .val _ | assumption | exact .any | (refine .agg _ ?_) | (refine .tup _ ?_) | (refine .list _ _ ?_) | (refine PlRows.mapF _ _ fun _ _ => ?_) | (simp only [List.forall_mem_cons]) | (refine ⟨?_, ?_⟩) | (exact fun _ h => absurd h List.not_mem_nil))); done)) | (focus (refine PlRows.mapF _ _ fun _ _ => ?_; (repeat (first | exact .val _ | assumption | exact .any | (refine .agg _ ?_) | (refine .tup _ ?_) | (refine .list _ _ ?_) | (refine PlRows.mapF _ _ fun _ _ => ?_) | (simp only [List.forall_mem_cons]) | (refine ⟨?_, ?_⟩) | (exact fun _ h => absurd h List.not_mem_nil))); done)))))))
  all_goals first | rfl | exact bytes_ren' rfl (by simp [bB4]; exact ⟨rfl, rfl, rfl, rfl⟩)
theorem put2S_l (ys : List Int) (v : Int) (n : Nat) (hn : n = ys.length) (hy : ys.length ≤ 100000000) : ACallL Try.prog 65 [.sl 1 0 n, .val (.int .i64 2), .val (.int .i64 v)] [.perm, .live ⟨1, 5, ys.map bR⟩] (.sl 2 0 (n + 2)) [.perm, .dead, .live ⟨1, 5, (ys ++ bB2 v).map bR⟩] := by
  refine ACallL.of_ev mixed Try.func65 rfl (fun a w => Try.call65 a w) (congrArg Array.toList Try.results65) Try.ntmps65 fun B hB => ?_
  ((conv => whnf); (repeat' ((first | (with_reducible refine qif_n ?_) | (with_reducible refine qif_t (by assumption) ?_) | (with_reducible refine qif_f (by assumption) ?_) | ((with_reducible refine qif_t ?_ ?_); focus decide) | ((with_reducible refine qif_f ?_ ?_); focus decide) | (with_reducible refine And.intro (orderOk_i ?ho) ?_; (case ho => kernel_rfl)) | (with_reducible refine qif_i (fun _ => ?_) (fun _ => ?_)) | (with_reducible refine frcVs_i ?_) | (with_reducible refine frcRs_i ?_) | (refine qAW.jump mixed 7 ?_) | (refine qCase_i (apS (sz := 1) (nb := 1) rfl rfl rfl rfl rfl rfl rfl rfl rfl rfl (by decide) rfl ⟨rfl, rfl, by simp [hn]⟩ (by simp [AV.one, Value.oneCell']) (by simp; omega)) ?_)) <;> (conv => whnf))))
  (refine qConv.of hB [(5, 2)] [(0, 0)] [] (by rfl) ?_; focus ((conv => whnf); (repeat (refine And.intro ?_ ?_; rotate_left; (conv => whnf))); exact trivial; all_goals (try (first | (with_reducible rfl) | (refine RowsRen.pl rfl rfl ?_; first | assumption | (focus (unfold PlRows; (repeat (first | exact .val _ | assumption | exact .any | (refine .agg _ ?_) | (refine .tup _ ?_) | (refine .list _ _ ?_) | (refine PlRows.mapF _ _ fun _ _ => ?_) | (simp only [List.forall_mem_cons]) | (refine ⟨?_, ?_⟩) | (exact fun _ h => absurd h List.not_mem_nil))); done)) | (focus (refine PlRows.mapF _ _ fun _ _ => ?_; (repeat (first | exact .val _ | assumption | exact .any | (refine .agg _ ?_) | (refine .tup _ ?_) | (refine .list _ _ ?_) | (refine PlRows.mapF _ _ fun _ _ => ?_) | (simp only [List.forall_mem_cons]) | (refine ⟨?_, ?_⟩) | (exact fun _ h => absurd h List.not_mem_nil))); done)))))))
  all_goals first | rfl | exact bytes_ren' rfl (by simp [bB2]; exact ⟨rfl, rfl⟩)
set_option maxRecDepth 10000 in
theorem bits_or_byte (s x : Int) (h0 : 0 ≤ s) (h1 : s < 36028797018963968) (x0 : 0 ≤ x) (x1 : x ≤ 255) : bits .or .i64 (s * 256) x = s * 256 + x := by
  have e64 : ((2 ^ 64 : Nat) : Int) = 18446744073709551616 := rfl
  have hN : ((BitVec.ofInt 64 (s * 256) ||| BitVec.ofInt 64 x).toNat : Int) = s * 256 + x := by
    obtain ⟨a, rfl⟩ := Int.eq_ofNat_of_zero_le h0
    obtain ⟨b, rfl⟩ := Int.eq_ofNat_of_zero_le x0
    have ea : (BitVec.ofInt 64 ((a : Int) * 256)).toNat = 2 ^ 8 * a := by
      rw [BitVec.toNat_ofInt, e64, Int.emod_eq_of_lt (by omega) (by omega)]
      omega
    have eb : (BitVec.ofInt 64 ((b : Int))).toNat = b := by
      rw [BitVec.toNat_ofInt, e64, Int.emod_eq_of_lt (by omega) (by omega)]
      omega
    rw [BitVec.toNat_or, ea, eb, ← Nat.two_pow_add_eq_or_of_lt (by omega)]
    omega
  show IntKind.i64.wrap ((BitVec.ofInt 64 (s * 256) ||| BitVec.ofInt 64 x).toNat : Int) = _
  rw [hN, IntKind.wrap_i64]
  omega
def isB (x : Int) : Prop := 0 ≤ x ∧ x ≤ 255
theorem ofS_small {v b : Int} (h0 : 0 ≤ v) (h1 : v < 36028797018963968) (hb : isB b) : ofSt v b = v * 256 + b := by
  unfold ofSt
  have e : (2 : Int) ^ (min (8 : Int).toNat 64) = 256 := by decide
  rw [e, IntWalk.i64_in (v * 256) (by omega), IntWalk.i64_in b (by have := hb.1; have := hb.2; omega)]
  exact bits_or_byte v b h0 h1 hb.1 hb.2
theorem ofB6 {a b c d e f : Int} (ha : isB a) (hb : isB b) (hc : isB c) (hd : isB d) (he : isB e) (hf : isB f) :
    ofB [a, b, c, d, e, f] = ((((a * 256 + b) * 256 + c) * 256 + d) * 256 + e) * 256 + f := by
  obtain ⟨a0, a1⟩ := ha; obtain ⟨b0, b1⟩ := hb; obtain ⟨c0, c1⟩ := hc; obtain ⟨d0, d1⟩ := hd; obtain ⟨e0, e1⟩ := he; obtain ⟨f0, f1⟩ := hf
  simp only [ofB, List.foldl]
  rw [ofS_small (v := 0) (by omega) (by omega) ⟨a0, a1⟩, ofS_small (by omega) (by omega) ⟨b0, b1⟩, ofS_small (by omega) (by omega) ⟨c0, c1⟩, ofS_small (by omega) (by omega) ⟨d0, d1⟩, ofS_small (by omega) (by omega) ⟨e0, e1⟩, ofS_small (by omega) (by omega) ⟨f0, f1⟩]
  omega
theorem ofB4 {c d e f : Int} (hc : isB c) (hd : isB d) (he : isB e) (hf : isB f) : ofB [c, d, e, f] = ((c * 256 + d) * 256 + e) * 256 + f := by
  obtain ⟨c0, c1⟩ := hc; obtain ⟨d0, d1⟩ := hd; obtain ⟨e0, e1⟩ := he; obtain ⟨f0, f1⟩ := hf
  simp only [ofB, List.foldl]
  rw [ofS_small (v := 0) (by omega) (by omega) ⟨c0, c1⟩, ofS_small (by omega) (by omega) ⟨d0, d1⟩, ofS_small (by omega) (by omega) ⟨e0, e1⟩, ofS_small (by omega) (by omega) ⟨f0, f1⟩]
  omega
theorem ofB2 {a b : Int} (ha : isB a) (hb : isB b) : ofB [a, b] = a * 256 + b := by
  obtain ⟨a0, a1⟩ := ha; obtain ⟨b0, b1⟩ := hb
  simp only [ofB, List.foldl]
  rw [ofS_small (v := 0) (by omega) (by omega) ⟨a0, a1⟩, ofS_small (by omega) (by omega) ⟨b0, b1⟩]
  omega
theorem byteAt_eq {v : Int} (h : 0 ≤ v) (s : Int) (n : Nat) (hs : s = n) (hn : n ≤ 64) : byteAt v s = v / 2 ^ n % 256 := by
  subst hs
  unfold byteAt
  rw [show min (n : Int).toNat 64 = n by simp; omega, Int.fdiv_eq_ediv_of_nonneg _ (by exact_mod_cast Nat.zero_le (2 ^ n))]
  rw [show ∀ x : Int, IntKind.u8.wrap x = x % 256 from fun x => rfl]
theorem byteAt_isB (v s : Int) : isB (byteAt v s) := by
  unfold byteAt
  rw [show ∀ x : Int, IntKind.u8.wrap x = x % 256 from fun x => rfl]
  constructor <;> omega
theorem bB6_eq {v : Int} (h : 0 ≤ v) : bB6 v = [v / 1099511627776 % 256, v / 4294967296 % 256, v / 16777216 % 256, v / 65536 % 256, v / 256 % 256, v % 256] := by
  unfold bB6
  rw [byteAt_eq h 40 40 rfl (by omega), byteAt_eq h 32 32 rfl (by omega), byteAt_eq h 24 24 rfl (by omega), byteAt_eq h 16 16 rfl (by omega), byteAt_eq h 8 8 rfl (by omega), byteAt_eq h 0 0 rfl (by omega)]
  simp
theorem bB4_eq {v : Int} (h : 0 ≤ v) : bB4 v = [v / 16777216 % 256, v / 65536 % 256, v / 256 % 256, v % 256] := by
  unfold bB4
  rw [byteAt_eq h 24 24 rfl (by omega), byteAt_eq h 16 16 rfl (by omega), byteAt_eq h 8 8 rfl (by omega), byteAt_eq h 0 0 rfl (by omega)]
  simp
theorem bB2_eq {v : Int} (h : 0 ≤ v) : bB2 v = [v / 256 % 256, v % 256] := by
  unfold bB2
  rw [byteAt_eq h 8 8 rfl (by omega), byteAt_eq h 0 0 rfl (by omega)]
  simp
theorem ofB_bB6 {v : Int} (h0 : 0 ≤ v) (h1 : v ≤ 281474976710655) : ofB (bB6 v) = v := by
  rw [bB6_eq h0, ofB6 (by constructor <;> omega) (by constructor <;> omega) (by constructor <;> omega) (by constructor <;> omega) (by constructor <;> omega) (by constructor <;> omega)]
  omega
theorem ofB_bB4 {v : Int} (h0 : 0 ≤ v) (h1 : v ≤ 4294967295) : ofB (bB4 v) = v := by
  rw [bB4_eq h0, ofB4 (by constructor <;> omega) (by constructor <;> omega) (by constructor <;> omega) (by constructor <;> omega)]
  omega
theorem ofB_bB2 {v : Int} (h0 : 0 ≤ v) (h1 : v ≤ 65535) : ofB (bB2 v) = v := by
  rw [bB2_eq h0, ofB2 (by constructor <;> omega) (by constructor <;> omega)]
  omega
theorem bB6_ofB {l : List Int} (hl : l.length = 6) (hb : ∀ x ∈ l, isB x) : bB6 (ofB l) = l ∧ 0 ≤ ofB l ∧ ofB l ≤ 281474976710655 := by
  match l, hl with
  | [a, b, c, d, e, f], _ =>
    simp only [List.forall_mem_cons] at hb
    obtain ⟨ha, hb, hc, hd, he, hf, -⟩ := hb
    rw [ofB6 ha hb hc hd he hf]
    obtain ⟨a0, a1⟩ := ha; obtain ⟨b0, b1⟩ := hb; obtain ⟨c0, c1⟩ := hc; obtain ⟨d0, d1⟩ := hd; obtain ⟨e0, e1⟩ := he; obtain ⟨f0, f1⟩ := hf
    rw [bB6_eq (by omega)]
    refine ⟨?_, by omega, by omega⟩
    simp only [List.cons.injEq, and_true]
    omega
theorem bB4_ofB {l : List Int} (hl : l.length = 4) (hb : ∀ x ∈ l, isB x) : bB4 (ofB l) = l ∧ 0 ≤ ofB l ∧ ofB l ≤ 4294967295 := by
  match l, hl with
  | [c, d, e, f], _ =>
    simp only [List.forall_mem_cons] at hb
    obtain ⟨hc, hd, he, hf, -⟩ := hb
    rw [ofB4 hc hd he hf]
    obtain ⟨c0, c1⟩ := hc; obtain ⟨d0, d1⟩ := hd; obtain ⟨e0, e1⟩ := he; obtain ⟨f0, f1⟩ := hf
    rw [bB4_eq (by omega)]
    refine ⟨?_, by omega, by omega⟩
    simp only [List.cons.injEq, and_true]
    omega
theorem bB2_ofB {l : List Int} (hl : l.length = 2) (hb : ∀ x ∈ l, isB x) : bB2 (ofB l) = l ∧ 0 ≤ ofB l ∧ ofB l ≤ 65535 := by
  match l, hl with
  | [a, b], _ =>
    simp only [List.forall_mem_cons] at hb
    obtain ⟨ha, hb, -⟩ := hb
    rw [ofB2 ha hb]
    obtain ⟨a0, a1⟩ := ha; obtain ⟨b0, b1⟩ := hb
    rw [bB2_eq (by omega)]
    refine ⟨?_, by omega, by omega⟩
    simp only [List.cons.injEq, and_true]
    omega
end Go.Proofs.Ytjmjnndmpeeppaa
