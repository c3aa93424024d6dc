/- Numbers and spans on data: out of the contracts of the walk. No condition but bounds. -/
import Derived.Test.YtjmjnndmpeeppaaAhBig
import Derived.Test.YtjmjnndmpeeppaaSpanOk
namespace Go.Proofs.Ytjmjnndmpeeppaa
open Go.RowKit
set_option linter.unusedVariables false
set_option linter.unusedSimpArgs false
set_option maxRecDepth 100000
set_option maxHeartbeats 4000000

theorem RL.vals {m : Nm} {h : Hp} {w : World} : ∀ {us : List Value} {vs : Array Value}, RL m h w (us.map AV.val) vs → vs = us.toArray
  | us, ⟨vs⟩, hl => by
    congr 1
    refine List.ext_getElem? fun i => ?_
    have h1 := hl.1
    simp at h1
    rcases Nat.lt_or_ge i us.length with h2 | h2
    · have h3 : i < vs.length := by omega
      have := hl.2 i (.val us[i]) vs[i] (by simp [h2]) (by simp [h3])
      rw [List.getElem?_eq_getElem h2, List.getElem?_eq_getElem h3, this.val_inv]
    · rw [List.getElem?_eq_none h2, List.getElem?_eq_none (by omega)]
theorem ACallL.of_vals {P : Program} {f : FuncId} {us : List Value} {res : AV} {v : Value} (hc : Callable P f) (H : ∀ w, Calls P f us.toArray w fun e w' => e = .returned v ∧ w = w') (hr : ∀ m h w, R m h w res v) :
    ACallL P f (us.map AV.val) [.perm] res [.perm] :=
  ⟨hc, fun m w vs rel hl => by
    rw [hl.vals]
    exact (H w).mono fun e w' ⟨h1, h2⟩ => by subst h2; exact ⟨v, m, h1, rel, Ev.refl _ _ _, hr _ _ _⟩⟩
theorem R.tup2 {m : Nm} {h : Hp} {w : World} (a b : Value) : R m h w (.tup [.val a, .val b]) (.tuple #[a, b]) :=
  .tup _ _ rfl fun i c v h1 h2 => by rcases i with _ | _ | i <;> simp at h1 h2 <;> (subst h1 h2; exact .val _)
theorem R.tup3 {m : Nm} {h : Hp} {w : World} (a b c : Value) : R m h w (.tup [.val a, .val b, .val c]) (.tuple #[a, b, c]) :=
  .tup _ _ rfl fun i c v h1 h2 => by rcases i with _ | _ | _ | i <;> simp at h1 h2 <;> (subst h1 h2; exact .val _)

theorem spanAdd_l (s n : Int) : ACallL Try.prog 74 [.val (.int .i64 s), .val (.int .i64 n)] [.perm] (.val (.int .i64 (wadd s n))) [.perm] :=
  ACallL.of_vals (us := [.int .i64 s, .int .i64 n]) (fun a w => Try.call74 a w) (spanAdd_c s n) fun _ _ _ => .val _
theorem refAdd_l (s n : Int) : ACallL Try.prog 16 [.val (.int .i64 s), .val (.int .i64 n)] [.perm] (.val (.int .i64 (wadd s n))) [.perm] :=
  ACallL.of_vals (us := [.int .i64 s, .int .i64 n]) (fun a w => Try.call16 a w) (refAdd_c s n) fun _ _ _ => .val _
theorem spanDiff_l (s n : Int) : ACallL Try.prog 70 [.val (.int .i64 s), .val (.int .i64 n)] [.perm] (.val (.int .i64 (wdiff s n))) [.perm] :=
  ACallL.of_vals (us := [.int .i64 s, .int .i64 n]) (fun a w => Try.call70 a w) (spanDiff_c s n) fun _ _ _ => .val _
theorem refOff_l (s n : Int) : ACallL Try.prog 57 [.val (.int .i64 s), .val (.int .i64 n)] [.perm] (.val (.int .i64 (woff s n))) [.perm] :=
  ACallL.of_vals (us := [.int .i64 s, .int .i64 n]) (fun a w => Try.call57 a w) (refOff_c s n) fun _ _ _ => .val _
theorem spanIs_l (n : Int) : ACallL Try.prog 52 [.val (.int .i64 n)] [.perm] (.val (.bool (within n 4294967295))) [.perm] :=
  ACallL.of_vals (us := [.int .i64 n]) (fun a w => Try.call52 a w) (spanIs_c n) fun _ _ _ => .val _
theorem refWord_l (n : Int) : ACallL Try.prog 26 [.val (.int .i64 n)] [.perm] (.val (.bool (within n 4294967295))) [.perm] :=
  ACallL.of_vals (us := [.int .i64 n]) (fun a w => Try.call26 a w) (refWord_c n) fun _ _ _ => .val _
theorem ofOk_l (s n : Int) (hs : 0 ≤ s ∧ s ≤ 4294967295) (hn : 0 ≤ n ∧ n ≤ 65536) : ACallL Try.prog 87 [.val (.int .i64 s), .val (.int .i64 n)] [.perm] (.tup [.val (.complex .f64 (fI s) (fI n)), .val (.int .i64 0)]) [.perm] :=
  ACallL.of_vals (us := [.int .i64 s, .int .i64 n]) (fun a w => Try.call87 a w) (of_ok_c s n hs hn) fun _ _ _ => R.tup2 _ _
theorem partsOk_l (s n : Int) (hs : 0 ≤ s ∧ s ≤ 4294967295) (hn : 0 ≤ n ∧ n ≤ 65536) : ACallL Try.prog 89 [.val (.complex .f64 (fI s) (fI n))] [.perm] (.tup [.val (.int .i64 s), .val (.int .i64 n), .val (.int .i64 0)]) [.perm] :=
  ACallL.of_vals (us := [.complex .f64 (fI s) (fI n)]) (fun a w => Try.call89 a w) (parts_ok_c s n hs hn) fun _ _ _ => R.tup3 _ _ _
theorem meetOk_l (s n t m : Int) (hs : 0 ≤ s ∧ s ≤ 4294967295) (hn : 0 ≤ n ∧ n ≤ 65536) (ht : 0 ≤ t ∧ t ≤ 4294967295) (hm : 0 ≤ m ∧ m ≤ 65536) :
    ACallL Try.prog 88 [.val (.complex .f64 (fI s) (fI n)), .val (.complex .f64 (fI t) (fI m))] [.perm] (.tup [.val (.complex .f64 (fI (meetS s n t m)) (fI (meetN s n t m))), .val (.int .i64 0)]) [.perm] :=
  ACallL.of_vals (us := [.complex .f64 (fI s) (fI n), .complex .f64 (fI t) (fI m)]) (fun a w => Try.call88 a w) (meet_ok_c s n t m hs hn ht hm) fun _ _ _ => R.tup2 _ _
/-- a remainder -/
theorem remN {P : Program} {o : Oper} {sl : List AV} {h : List Own} {t u : TypeId} {x y : Operand} {k : IntKind} {a b : Int} (ho : o.op = .binOp .rem t x y u) (hx : ae sl x = .val (.int k a)) (hy : ae sl y = .val (.int k b)) (hb : b ≠ 0) : aop P o sl h = some ⟨.val (.int k (a.tmod b)), [], []⟩ := by
  unfold aop
  rw [ho]
  simp only [hx, hy]
  simp [abin, hb]
/-- a number from 0 below n -/
def bring (i n : Int) : Int := (i % 18446744073709551616) % n
theorem bring_bd (i n : Int) (h : 0 < n) : 0 ≤ bring i n ∧ bring i n < n := ⟨Int.emod_nonneg _ (by omega), Int.emod_lt_of_pos _ h⟩
theorem bring_l (i n : Int) (h0 : 0 < n) (h1 : n ≤ 4611686018427387904) : ACallL Try.prog 30 [.val (.int .i64 i), .val (.int .i64 n)] [.perm] (.val (.int .i64 (bring i n))) [.perm] := by
  have b := bring_bd i n h0
  have hz : ¬ n = 0 := by omega
  have e2 : IntKind.u64.wrap i = i % 18446744073709551616 := IntKind.wrap_u64 i
  have e3 : IntKind.u64.wrap n = n := IntKind.wrap_u64 n ▸ Int.emod_eq_of_lt (by omega) (by omega)
  have e1 : ((i % 18446744073709551616).tmod n) = (i % 18446744073709551616) % n := Int.tmod_eq_emod_of_nonneg (Int.emod_nonneg _ (by decide))
  have e4 : IntKind.i64.wrap (bring i n) = bring i n := IntWalk.i64_in _ (by omega)
  refine ACallL.of_ev mixed Try.func30 rfl (fun a w => Try.call30 a w) (congrArg Array.toList Try.results30) Try.ntmps30 fun B hB => ?_
  ((conv => whnf); (repeat' ((first | (with_reducible refine qif_n ?_) | (with_reducible refine qif_t (by assumption) ?_) | (with_reducible refine qif_f (by assumption) ?_) | ((with_reducible refine qif_t ?_ ?_); focus decide) | ((with_reducible refine qif_f ?_ ?_); focus decide) | (with_reducible refine And.intro (orderOk_i ?ho) ?_; (case ho => kernel_rfl)) | ((with_reducible refine qif_t ?_ ?_); focus (simp [e3, hz]; done)) | ((with_reducible refine qif_f ?_ ?_); focus (simp [e3, hz]; done)) | (with_reducible refine qif_i (fun _ => ?_) (fun _ => ?_)) | (with_reducible refine frcVs_i ?_) | (with_reducible refine frcRs_i ?_) | (refine qCase_i (remN rfl rfl rfl (by rw [e3]; exact hz)) ?_)) <;> (conv => whnf))))
  all_goals (refine qConv.of hB [] [(0, 0)] [] (by rfl) ?_; focus ((conv => whnf); (repeat (refine And.intro ?_ ?_; rotate_left; (conv => whnf))); exact trivial; all_goals (try (first | (with_reducible rfl) | (refine RowsRen.pl rfl rfl ?_; first | assumption | (focus (unfold PlRows; (repeat (first | exact .val _ | assumption | exact .any | (refine .agg _ ?_) | (refine .tup _ ?_) | (refine .list _ _ ?_) | (refine PlRows.mapF _ _ fun _ _ => ?_) | (simp only [List.forall_mem_cons]) | (refine ⟨?_, ?_⟩) | (exact fun _ h => absurd h List.not_mem_nil))); done)) | (focus (refine PlRows.mapF _ _ fun _ _ => ?_; (repeat (first | exact .val _ | assumption | exact .any | (refine .agg _ ?_) | (refine .tup _ ?_) | (refine .list _ _ ?_) | (refine PlRows.mapF _ _ fun _ _ => ?_) | (simp only [List.forall_mem_cons]) | (refine ⟨?_, ?_⟩) | (exact fun _ h => absurd h List.not_mem_nil))); done)))))))
  all_goals (rw [e2, e3, e1]; congr 2)
end Go.Proofs.Ytjmjnndmpeeppaa
