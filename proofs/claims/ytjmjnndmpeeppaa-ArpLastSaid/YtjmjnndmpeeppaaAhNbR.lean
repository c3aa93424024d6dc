/- A neighbour is learnt, on data. Condition: lengths. -/
import Derived.Test.YtjmjnndmpeeppaaAhNbF
-- light
namespace Go.Proofs.Ytjmjnndmpeeppaa
open Go.RowKit
set_option linter.unusedVariables false
set_option linter.unusedSimpArgs false
set_option maxRecDepth 100000
set_option maxHeartbeats 4000000

theorem cloneN_l (p : Nb) (l : List Nb) (hl : (p :: l).length ≤ 1000) : ACallL Try.prog 61 [.list 0 3 ((p :: l).map nbR)] [.perm] (.sl 1 0 (p :: l).length) [.perm, .live ⟨3, 74, (p :: l).map nbR⟩] := by
  refine ACallL.of_ev mixed Try.func61 rfl (fun a w => Try.call61 a w) (congrArg Array.toList Try.results61) Try.ntmps61 fun B hB => ?_
  ((conv => whnf); (repeat' ((first | (with_reducible refine qif_n ?_) | (with_reducible refine qif_t (by assumption) ?_) | (with_reducible refine qif_f (by assumption) ?_) | ((with_reducible refine qif_t ?_ ?_); focus decide) | ((with_reducible refine qif_f ?_ ?_); focus decide) | (with_reducible refine And.intro (orderOk_i ?ho) ?_; (case ho => kernel_rfl)) | (with_reducible refine qif_i (fun _ => ?_) (fun _ => ?_)) | (with_reducible refine frcVs_i ?_) | (with_reducible refine frcRs_i ?_) | (refine qOpen.nilF rfl rfl rfl rfl rfl ?_) | (refine qCase_i (apS (nb := 24) rfl rfl rfl rfl rfl rfl rfl rfl rfl rfl (by decide) (ones_nbs (_ :: _)) ⟨rfl, rfl, rfl⟩ rfl (by simp at hl ⊢; omega)) ?_)) <;> (conv => whnf))))
  (refine qConv.of hB [(2, 1)] [(0, 0)] [] (by rfl) ?_; focus ((conv => whnf); (repeat (refine And.intro ?_ ?_; rotate_left; (conv => whnf))); exact trivial; all_goals (try (first | (with_reducible rfl) | (refine RowsRen.pl rfl rfl ?_; first | assumption | (focus (unfold PlRows; (repeat (first | exact .val _ | assumption | exact .any | (refine .agg _ ?_) | (refine .tup _ ?_) | (refine .list _ _ ?_) | (refine PlRows.mapF _ _ fun _ _ => ?_) | (simp only [List.forall_mem_cons]) | (refine ⟨?_, ?_⟩) | (exact fun _ h => absurd h List.not_mem_nil))); done)) | (focus (refine PlRows.mapF _ _ fun _ _ => ?_; (repeat (first | exact .val _ | assumption | exact .any | (refine .agg _ ?_) | (refine .tup _ ?_) | (refine .list _ _ ?_) | (refine PlRows.mapF _ _ fun _ _ => ?_) | (simp only [List.forall_mem_cons]) | (refine ⟨?_, ?_⟩) | (exact fun _ h => absurd h List.not_mem_nil))); done)))))))
  all_goals first | rfl | (refine RowsRen.vals (by simp [List.take_of_length_le]) (ones_vals (p :: l))) | (simp; done) | skip
/-- the place of the one that was silent longest -/
def oldN (l : List Nb) : Nat → Nat
  | 0 => 0
  | k + 1 => if (l.getD (oldN l k) (0, 0, 0)).2.2 < (l.getD k (0, 0, 0)).2.2 then k else oldN l k
theorem oldN_lt (l : List Nb) : ∀ k, oldN l k ≤ k - 1
  | 0 => Nat.le_refl _
  | k + 1 => by
    have := oldN_lt l k
    unfold oldN
    split <;> omega
/-- who is known behind it -/
def learnS (l : List Nb) (ip mac : Int) : List Nb :=
  if thereN l ip then l.set (posN l ip) (ip, mac, 0)
  else if l.length = 16 then (l.eraseIdx (oldN l 16)).take (posN (l.eraseIdx (oldN l 16)) ip) ++ [(ip, mac, 0)] ++ (l.eraseIdx (oldN l 16)).drop (posN (l.eraseIdx (oldN l 16)) ip)
  else l.take (posN l ip) ++ [(ip, mac, 0)] ++ l.drop (posN l ip)
theorem Learn_no (l : List Nb) (ip mac : Int) (hl : l.length ≤ 1000) (h : (mayN l && pairB ip mac) = false) : ACallL Try.prog 32 [.list 0 3 (l.map nbR), .val (.int .i64 ip), .val (.int .i64 mac)] [.perm] (.tup [.val (.slice none 0 0), .val (.int .i64 1)]) [.perm] := by
  have px := pl_nbs l
  have cM := mayN_l l (by omega)
  have cP := pair_l ip mac
  obtain ⟨b1, h1⟩ : ∃ b, mayN l = b := ⟨_, rfl⟩
  obtain ⟨b2, h2⟩ : ∃ b, pairB ip mac = b := ⟨_, rfl⟩
  rw [h1, h2] at h
  rw [h1] at cM
  rw [h2] at cP
  cases b1
  · refine ACallL.of_ev mixed Try.func32 rfl (fun a w => Try.call32 a w) (congrArg Array.toList Try.results32) Try.ntmps32 fun B hB => ?_
    ((conv => whnf); (repeat' ((first | (with_reducible refine qif_n ?_) | (with_reducible refine qif_t (by assumption) ?_) | (with_reducible refine qif_f (by assumption) ?_) | ((with_reducible refine qif_t ?_ ?_); focus decide) | ((with_reducible refine qif_f ?_ ?_); focus decide) | (with_reducible refine And.intro (orderOk_i ?ho) ?_; (case ho => kernel_rfl)) | (with_reducible refine qif_i (fun _ => ?_) (fun _ => ?_)) | (with_reducible refine frcVs_i ?_) | (with_reducible refine frcRs_i ?_) | ((with_reducible refine qCall.pure (cM) ?_ ?_ ?_ ?_); rotate_left 3; rotate_left; exact trivial; exact (by repeat (first | exact .val _ | assumption | exact .any | (refine .agg _ ?_) | (refine .tup _ ?_) | (refine .list _ _ ?_) | (refine PlRows.mapF _ _ fun _ _ => ?_) | (simp only [List.forall_mem_cons]) | (refine ⟨?_, ?_⟩) | (exact fun _ h => absurd h List.not_mem_nil))); exact (by repeat (first | exact .val _ | assumption | exact .any | (refine .agg _ ?_) | (refine .tup _ ?_) | (refine .list _ _ ?_) | (refine PlRows.mapF _ _ fun _ _ => ?_) | (simp only [List.forall_mem_cons]) | (refine ⟨?_, ?_⟩) | (exact fun _ h => absurd h List.not_mem_nil)))) | ((with_reducible refine qCall.pure (cP) ?_ ?_ ?_ ?_); rotate_left 3; rotate_left; exact trivial; exact (by repeat (first | exact .val _ | assumption | exact .any | (refine .agg _ ?_) | (refine .tup _ ?_) | (refine .list _ _ ?_) | (refine PlRows.mapF _ _ fun _ _ => ?_) | (simp only [List.forall_mem_cons]) | (refine ⟨?_, ?_⟩) | (exact fun _ h => absurd h List.not_mem_nil))); exact (by repeat (first | exact .val _ | assumption | exact .any | (refine .agg _ ?_) | (refine .tup _ ?_) | (refine .list _ _ ?_) | (refine PlRows.mapF _ _ fun _ _ => ?_) | (simp only [List.forall_mem_cons]) | (refine ⟨?_, ?_⟩) | (exact fun _ h => absurd h List.not_mem_nil))))) <;> (conv => whnf))))
    all_goals (refine qConv.of hB [] [(0, 0)] [] (by rfl) ?_; focus ((conv => whnf); (repeat (refine And.intro ?_ ?_; rotate_left; (conv => whnf))); exact trivial; all_goals (try (first | (with_reducible rfl) | (refine RowsRen.pl rfl rfl ?_; first | assumption | (focus (unfold PlRows; (repeat (first | exact .val _ | assumption | exact .any | (refine .agg _ ?_) | (refine .tup _ ?_) | (refine .list _ _ ?_) | (refine PlRows.mapF _ _ fun _ _ => ?_) | (simp only [List.forall_mem_cons]) | (refine ⟨?_, ?_⟩) | (exact fun _ h => absurd h List.not_mem_nil))); done)) | (focus (refine PlRows.mapF _ _ fun _ _ => ?_; (repeat (first | exact .val _ | assumption | exact .any | (refine .agg _ ?_) | (refine .tup _ ?_) | (refine .list _ _ ?_) | (refine PlRows.mapF _ _ fun _ _ => ?_) | (simp only [List.forall_mem_cons]) | (refine ⟨?_, ?_⟩) | (exact fun _ h => absurd h List.not_mem_nil))); done)))))))
  · cases b2
    · refine ACallL.of_ev mixed Try.func32 rfl (fun a w => Try.call32 a w) (congrArg Array.toList Try.results32) Try.ntmps32 fun B hB => ?_
      ((conv => whnf); (repeat' ((first | (with_reducible refine qif_n ?_) | (with_reducible refine qif_t (by assumption) ?_) | (with_reducible refine qif_f (by assumption) ?_) | ((with_reducible refine qif_t ?_ ?_); focus decide) | ((with_reducible refine qif_f ?_ ?_); focus decide) | (with_reducible refine And.intro (orderOk_i ?ho) ?_; (case ho => kernel_rfl)) | (with_reducible refine qif_i (fun _ => ?_) (fun _ => ?_)) | (with_reducible refine frcVs_i ?_) | (with_reducible refine frcRs_i ?_) | ((with_reducible refine qCall.pure (cM) ?_ ?_ ?_ ?_); rotate_left 3; rotate_left; exact trivial; exact (by repeat (first | exact .val _ | assumption | exact .any | (refine .agg _ ?_) | (refine .tup _ ?_) | (refine .list _ _ ?_) | (refine PlRows.mapF _ _ fun _ _ => ?_) | (simp only [List.forall_mem_cons]) | (refine ⟨?_, ?_⟩) | (exact fun _ h => absurd h List.not_mem_nil))); exact (by repeat (first | exact .val _ | assumption | exact .any | (refine .agg _ ?_) | (refine .tup _ ?_) | (refine .list _ _ ?_) | (refine PlRows.mapF _ _ fun _ _ => ?_) | (simp only [List.forall_mem_cons]) | (refine ⟨?_, ?_⟩) | (exact fun _ h => absurd h List.not_mem_nil)))) | ((with_reducible refine qCall.pure (cP) ?_ ?_ ?_ ?_); rotate_left 3; rotate_left; exact trivial; exact (by repeat (first | exact .val _ | assumption | exact .any | (refine .agg _ ?_) | (refine .tup _ ?_) | (refine .list _ _ ?_) | (refine PlRows.mapF _ _ fun _ _ => ?_) | (simp only [List.forall_mem_cons]) | (refine ⟨?_, ?_⟩) | (exact fun _ h => absurd h List.not_mem_nil))); exact (by repeat (first | exact .val _ | assumption | exact .any | (refine .agg _ ?_) | (refine .tup _ ?_) | (refine .list _ _ ?_) | (refine PlRows.mapF _ _ fun _ _ => ?_) | (simp only [List.forall_mem_cons]) | (refine ⟨?_, ?_⟩) | (exact fun _ h => absurd h List.not_mem_nil))))) <;> (conv => whnf))))
      all_goals (refine qConv.of hB [] [(0, 0)] [] (by rfl) ?_; focus ((conv => whnf); (repeat (refine And.intro ?_ ?_; rotate_left; (conv => whnf))); exact trivial; all_goals (try (first | (with_reducible rfl) | (refine RowsRen.pl rfl rfl ?_; first | assumption | (focus (unfold PlRows; (repeat (first | exact .val _ | assumption | exact .any | (refine .agg _ ?_) | (refine .tup _ ?_) | (refine .list _ _ ?_) | (refine PlRows.mapF _ _ fun _ _ => ?_) | (simp only [List.forall_mem_cons]) | (refine ⟨?_, ?_⟩) | (exact fun _ h => absurd h List.not_mem_nil))); done)) | (focus (refine PlRows.mapF _ _ fun _ _ => ?_; (repeat (first | exact .val _ | assumption | exact .any | (refine .agg _ ?_) | (refine .tup _ ?_) | (refine .list _ _ ?_) | (refine PlRows.mapF _ _ fun _ _ => ?_) | (simp only [List.forall_mem_cons]) | (refine ⟨?_, ?_⟩) | (exact fun _ h => absurd h List.not_mem_nil))); done)))))))
    · cases h
theorem Learn_at (l : List Nb) (ip mac : Int) (hm : mayN l = true) (hp : pairB ip mac = true) (ht : thereN l ip = true) : ACallL Try.prog 32 [.list 0 3 (l.map nbR), .val (.int .i64 ip), .val (.int .i64 mac)] [.perm] (.tup [.sl 1 0 (learnS l ip mac).length, .val (.int .i64 0)]) [.perm, .live ⟨3, 74, (learnS l ip mac).map nbR⟩] := by
  have px := pl_nbs l
  have h16 := (mayN_all hm).2
  have cM := mayN_l l (by omega)
  have cP := pair_l ip mac
  rw [hm] at cM
  rw [hp] at cP
  have cF := find_l l ip (mayN_srt hm) (by omega)
  rw [ht] at cF
  have h1 := ht
  unfold thereN at h1
  obtain ⟨row, hrow⟩ : ∃ row, l[posN l ip]? = some row := by
    cases h : l[posN l ip]? with
    | none => rw [h] at h1; cases h1
    | some p => exact ⟨p, rfl⟩
  have hlt := (List.getElem?_eq_some_iff.1 hrow).1
  have hres : learnS l ip mac = l.set (posN l ip) (ip, mac, 0) := by simp [learnS, ht]
  rw [hres]
  obtain ⟨n, hn⟩ : ∃ n, posN l ip = n := ⟨_, rfl⟩
  rw [hn] at hrow hlt cF ⊢
  have hrow' : (l.map nbR)[n]? = some (nbR row) := by simp [hrow]
  have hset : (l.map nbR).set n (nR ip mac 0) = (l.set n (ip, mac, 0)).map nbR := by rw [List.map_set]
  have hlen : (l.set n (ip, mac, 0)).length = l.length := by simp
  rw [hlen]
  obtain ⟨p0, l0, rfl⟩ : ∃ p0 l0, l = p0 :: l0 := by
    cases l with
    | nil => simp at hlt
    | cons a b => exact ⟨a, b, rfl⟩
  have cC := cloneN_l p0 l0 (by omega)
  generalize (p0 :: l0).set n (ip, mac, 0) = res at *
  generalize p0 :: l0 = l at *
  have e1 : 0 + (n : Int).toNat = n := by omega
  refine ACallL.of_ev mixed Try.func32 rfl (fun a w => Try.call32 a w) (congrArg Array.toList Try.results32) Try.ntmps32 fun B hB => ?_
  ((conv => whnf); (repeat' ((first | (with_reducible refine qif_n ?_) | (with_reducible refine qif_t (by assumption) ?_) | (with_reducible refine qif_f (by assumption) ?_) | ((with_reducible refine qif_t ?_ ?_); focus decide) | ((with_reducible refine qif_f ?_ ?_); focus decide) | (with_reducible refine And.intro (orderOk_i ?ho) ?_; (case ho => kernel_rfl)) | (with_reducible refine qif_i (fun _ => ?_) (fun _ => ?_)) | (with_reducible refine frcVs_i ?_) | (with_reducible refine frcRs_i ?_) | ((with_reducible refine qCall.pure (cM) ?_ ?_ ?_ ?_); rotate_left 3; rotate_left; exact trivial; exact (by repeat (first | exact .val _ | assumption | exact .any | (refine .agg _ ?_) | (refine .tup _ ?_) | (refine .list _ _ ?_) | (refine PlRows.mapF _ _ fun _ _ => ?_) | (simp only [List.forall_mem_cons]) | (refine ⟨?_, ?_⟩) | (exact fun _ h => absurd h List.not_mem_nil))); exact (by repeat (first | exact .val _ | assumption | exact .any | (refine .agg _ ?_) | (refine .tup _ ?_) | (refine .list _ _ ?_) | (refine PlRows.mapF _ _ fun _ _ => ?_) | (simp only [List.forall_mem_cons]) | (refine ⟨?_, ?_⟩) | (exact fun _ h => absurd h List.not_mem_nil)))) | ((with_reducible refine qCall.pure (cP) ?_ ?_ ?_ ?_); rotate_left 3; rotate_left; exact trivial; exact (by repeat (first | exact .val _ | assumption | exact .any | (refine .agg _ ?_) | (refine .tup _ ?_) | (refine .list _ _ ?_) | (refine PlRows.mapF _ _ fun _ _ => ?_) | (simp only [List.forall_mem_cons]) | (refine ⟨?_, ?_⟩) | (exact fun _ h => absurd h List.not_mem_nil))); exact (by repeat (first | exact .val _ | assumption | exact .any | (refine .agg _ ?_) | (refine .tup _ ?_) | (refine .list _ _ ?_) | (refine PlRows.mapF _ _ fun _ _ => ?_) | (simp only [List.forall_mem_cons]) | (refine ⟨?_, ?_⟩) | (exact fun _ h => absurd h List.not_mem_nil))))) <;> (conv => whnf))))
  ((with_reducible refine qCall.of (cC) [] [(0, 0)] [] [(1, 1)] [(1, .live ⟨3, 74, l.map nbR⟩)] (.sl 1 0 l.length) ?hk ?_); (case hk => rfl); (conv => whnf); (repeat (refine And.intro ?_ ?_; (focus (first | (with_reducible refine orderOk_i ?_; kernel_rfl) | (with_reducible rfl) | rfl | assumption | (refine RowsRen.vals ?_ ?_; (focus (first | rfl | assumption | (simp [List.take_of_length_le]; done))); (focus (simp [AV.isVal]; done))))); (conv => whnf))); (fail_if_success (with_reducible refine And.intro (eqv_i ?_) ?_)); (fail_if_success (with_reducible refine And.intro (ren_i ?_) ?_)))
  ((conv => whnf); (repeat' ((first | (with_reducible refine qif_n ?_) | (with_reducible refine qif_t (by assumption) ?_) | (with_reducible refine qif_f (by assumption) ?_) | ((with_reducible refine qif_t ?_ ?_); focus decide) | ((with_reducible refine qif_f ?_ ?_); focus decide) | (with_reducible refine And.intro (orderOk_i ?ho) ?_; (case ho => kernel_rfl)) | (with_reducible refine qif_i (fun _ => ?_) (fun _ => ?_)) | (with_reducible refine frcVs_i ?_) | (with_reducible refine frcRs_i ?_)) <;> (conv => whnf))))
  ((with_reducible refine qCall.reads (cF) [(0, 0)] [(0, 1)] ?hk ?_); (case hk => rfl); (conv => whnf); (repeat (refine And.intro ?_ ?_; (focus (first | (with_reducible refine orderOk_i ?_; kernel_rfl) | (with_reducible rfl) | rfl | assumption | (refine RowsRen.vals ?_ ?_; (focus (first | rfl | assumption | (simp [List.take_of_length_le]; done))); (focus (simp [AV.isVal]; done))))); (conv => whnf))); (fail_if_success (with_reducible refine And.intro (eqv_i ?_) ?_)); (fail_if_success (with_reducible refine And.intro (ren_i ?_) ?_)))
  ((conv => whnf); (repeat' ((first | (with_reducible refine qif_n ?_) | (with_reducible refine qif_t (by assumption) ?_) | (with_reducible refine qif_f (by assumption) ?_) | ((with_reducible refine qif_t ?_ ?_); focus decide) | ((with_reducible refine qif_f ?_ ?_); focus decide) | (with_reducible refine And.intro (orderOk_i ?ho) ?_; (case ho => kernel_rfl)) | (with_reducible refine qif_i (fun _ => ?_) (fun _ => ?_)) | (with_reducible refine frcVs_i ?_) | (with_reducible refine frcRs_i ?_) | (refine qCase_i (idxS rfl rfl rfl rfl rfl rfl rfl rfl (by omega)) ?_) | (refine qCase_i (stR' rfl rfl rfl rfl (by with_reducible exact e1) hrow' rfl rfl (Nat.le_of_ble_eq_true rfl)) ?_)) <;> (conv => whnf))))
  (refine qConv.of hB [(1, 1)] [(0, 0)] [] (by rfl) ?_; focus ((conv => whnf); (repeat (refine And.intro ?_ ?_; rotate_left; (conv => whnf))); exact trivial; all_goals (try (first | (with_reducible rfl) | (refine RowsRen.pl rfl rfl ?_; first | assumption | (focus (unfold PlRows; (repeat (first | exact .val _ | assumption | exact .any | (refine .agg _ ?_) | (refine .tup _ ?_) | (refine .list _ _ ?_) | (refine PlRows.mapF _ _ fun _ _ => ?_) | (simp only [List.forall_mem_cons]) | (refine ⟨?_, ?_⟩) | (exact fun _ h => absurd h List.not_mem_nil))); done)) | (focus (refine PlRows.mapF _ _ fun _ _ => ?_; (repeat (first | exact .val _ | assumption | exact .any | (refine .agg _ ?_) | (refine .tup _ ?_) | (refine .list _ _ ?_) | (refine PlRows.mapF _ _ fun _ _ => ?_) | (simp only [List.forall_mem_cons]) | (refine ⟨?_, ?_⟩) | (exact fun _ h => absurd h List.not_mem_nil))); done)))))))
  all_goals first | rfl | exact RowsRen.vals hset (ones_vals res) | skip
theorem ones_mem (l : List Nb) : ∀ r ∈ l.map nbR, ∀ c ∈ r, c.one = true := fun r hr c hc => by
  have := List.all_eq_true.1 (ones_nbs l) r hr
  exact List.all_eq_true.1 this c hc
theorem insR_nbs (l : List Nb) (zs : List (List AV)) (p : Nb) {i n : Nat} (hn : n = l.length) (hi : i ≤ n) : insR (l.map nbR ++ zs) (nbR p) i n = (l.take i ++ [p] ++ l.drop i).map nbR := by
  subst hn
  unfold insR
  rw [List.take_append_of_le_length (by simp; omega), List.take_append_of_le_length (by simp)]
  simp [List.map_take, List.map_drop, List.take_of_length_le]
theorem Learn_new (p0 : Nb) (l0 : List Nb) (ip mac : Int) (hm : mayN (p0 :: l0) = true) (hp : pairB ip mac = true) (ht : thereN (p0 :: l0) ip = false) (h15 : (p0 :: l0).length ≠ 16) : ACallL Try.prog 32 [.list 0 3 ((p0 :: l0).map nbR), .val (.int .i64 ip), .val (.int .i64 mac)] [.perm] (.tup [.sl 1 0 (learnS (p0 :: l0) ip mac).length, .val (.int .i64 0)]) [.perm, .live ⟨3, 74, (learnS (p0 :: l0) ip mac).map nbR⟩] := by
  have px := pl_nbs (p0 :: l0)
  have h16 := (mayN_all hm).2
  have cM := mayN_l (p0 :: l0) (by omega)
  have cP := pair_l ip mac
  rw [hm] at cM
  rw [hp] at cP
  have cF := find_l (p0 :: l0) ip (mayN_srt hm) (by omega)
  rw [ht] at cF
  have hres : learnS (p0 :: l0) ip mac = (p0 :: l0).take (posN (p0 :: l0) ip) ++ [(ip, mac, 0)] ++ (p0 :: l0).drop (posN (p0 :: l0) ip) := by unfold learnS; rw [if_neg (by rw [ht]; decide), if_neg h15]
  rw [hres]
  have hple := posN_le ip (p0 :: l0)
  have h0 : 0 < (p0 :: l0).length := by simp
  have cC := cloneN_l p0 l0 (by omega)
  generalize p0 :: l0 = l at *
  obtain ⟨n, hn⟩ : ∃ n, posN l ip = n := ⟨_, rfl⟩
  rw [hn] at cF hple ⊢
  have hll : (l.map nbR).length = l.length := by simp
  have cI := insert_l (l.map nbR) (nR ip mac 0) l.length n h0 (by omega) (by omega) (by omega) hple (ones_mem l) (by simp [AV.one, Value.oneCell'])
  have hins : insR (l.map nbR) (nR ip mac 0) n l.length = (l.take n ++ [(ip, mac, 0)] ++ l.drop n).map nbR := by
    have := insR_nbs l [] (ip, mac, 0) rfl hple
    rwa [List.append_nil] at this
  rw [hins] at cI
  have hlen : (l.take n ++ [(ip, mac, 0)] ++ l.drop n).length = l.length + 1 := by simp; omega
  rw [hlen]
  generalize l.take n ++ [(ip, mac, 0)] ++ l.drop n = res at *
  refine ACallL.of_ev mixed Try.func32 rfl (fun a w => Try.call32 a w) (congrArg Array.toList Try.results32) Try.ntmps32 fun B hB => ?_
  ((conv => whnf); (repeat' ((first | (with_reducible refine qif_n ?_) | (with_reducible refine qif_t (by assumption) ?_) | (with_reducible refine qif_f (by assumption) ?_) | ((with_reducible refine qif_t ?_ ?_); focus decide) | ((with_reducible refine qif_f ?_ ?_); focus decide) | (with_reducible refine And.intro (orderOk_i ?ho) ?_; (case ho => kernel_rfl)) | (with_reducible refine qif_i (fun _ => ?_) (fun _ => ?_)) | (with_reducible refine frcVs_i ?_) | (with_reducible refine frcRs_i ?_) | ((with_reducible refine qCall.pure (cM) ?_ ?_ ?_ ?_); rotate_left 3; rotate_left; exact trivial; exact (by repeat (first | exact .val _ | assumption | exact .any | (refine .agg _ ?_) | (refine .tup _ ?_) | (refine .list _ _ ?_) | (refine PlRows.mapF _ _ fun _ _ => ?_) | (simp only [List.forall_mem_cons]) | (refine ⟨?_, ?_⟩) | (exact fun _ h => absurd h List.not_mem_nil))); exact (by repeat (first | exact .val _ | assumption | exact .any | (refine .agg _ ?_) | (refine .tup _ ?_) | (refine .list _ _ ?_) | (refine PlRows.mapF _ _ fun _ _ => ?_) | (simp only [List.forall_mem_cons]) | (refine ⟨?_, ?_⟩) | (exact fun _ h => absurd h List.not_mem_nil)))) | ((with_reducible refine qCall.pure (cP) ?_ ?_ ?_ ?_); rotate_left 3; rotate_left; exact trivial; exact (by repeat (first | exact .val _ | assumption | exact .any | (refine .agg _ ?_) | (refine .tup _ ?_) | (refine .list _ _ ?_) | (refine PlRows.mapF _ _ fun _ _ => ?_) | (simp only [List.forall_mem_cons]) | (refine ⟨?_, ?_⟩) | (exact fun _ h => absurd h List.not_mem_nil))); exact (by repeat (first | exact .val _ | assumption | exact .any | (refine .agg _ ?_) | (refine .tup _ ?_) | (refine .list _ _ ?_) | (refine PlRows.mapF _ _ fun _ _ => ?_) | (simp only [List.forall_mem_cons]) | (refine ⟨?_, ?_⟩) | (exact fun _ h => absurd h List.not_mem_nil))))) <;> (conv => whnf))))
  ((with_reducible refine qCall.of (cC) [] [(0, 0)] [] [(1, 1)] [(1, .live ⟨3, 74, l.map nbR⟩)] (.sl 1 0 l.length) ?hk ?_); (case hk => rfl); (conv => whnf); (repeat (refine And.intro ?_ ?_; (focus (first | (with_reducible refine orderOk_i ?_; kernel_rfl) | (with_reducible rfl) | rfl | assumption | (refine RowsRen.vals ?_ ?_; (focus (first | rfl | assumption | (simp [List.take_of_length_le]; done))); (focus (simp [AV.isVal]; done))))); (conv => whnf))); (fail_if_success (with_reducible refine And.intro (eqv_i ?_) ?_)); (fail_if_success (with_reducible refine And.intro (ren_i ?_) ?_)))
  ((conv => whnf); (repeat' ((first | (with_reducible refine qif_n ?_) | (with_reducible refine qif_t (by assumption) ?_) | (with_reducible refine qif_f (by assumption) ?_) | ((with_reducible refine qif_t ?_ ?_); focus decide) | ((with_reducible refine qif_f ?_ ?_); focus decide) | (with_reducible refine And.intro (orderOk_i ?ho) ?_; (case ho => kernel_rfl)) | (with_reducible refine qif_i (fun _ => ?_) (fun _ => ?_)) | (with_reducible refine frcVs_i ?_) | (with_reducible refine frcRs_i ?_)) <;> (conv => whnf))))
  ((with_reducible refine qCall.reads (cF) [(0, 0)] [(0, 1)] ?hk ?_); (case hk => rfl); (conv => whnf); (repeat (refine And.intro ?_ ?_; (focus (first | (with_reducible refine orderOk_i ?_; kernel_rfl) | (with_reducible rfl) | rfl | assumption | (refine RowsRen.vals ?_ ?_; (focus (first | rfl | assumption | (simp [List.take_of_length_le]; done))); (focus (simp [AV.isVal]; done))))); (conv => whnf))); (fail_if_success (with_reducible refine And.intro (eqv_i ?_) ?_)); (fail_if_success (with_reducible refine And.intro (ren_i ?_) ?_)))
  have hne : ¬ (l.length : Int) = 16 := by omega
  ((conv => whnf); (repeat' ((first | (with_reducible refine qif_n ?_) | (with_reducible refine qif_t (by assumption) ?_) | (with_reducible refine qif_f (by assumption) ?_) | ((with_reducible refine qif_t ?_ ?_); focus decide) | ((with_reducible refine qif_f ?_ ?_); focus decide) | (with_reducible refine And.intro (orderOk_i ?ho) ?_; (case ho => kernel_rfl)) | ((with_reducible refine qif_t ?_ ?_); focus (simp [hne]; done)) | ((with_reducible refine qif_f ?_ ?_); focus (simp [hne]; done)) | (with_reducible refine qif_i (fun _ => ?_) (fun _ => ?_)) | (with_reducible refine frcVs_i ?_) | (with_reducible refine frcRs_i ?_)) <;> (conv => whnf))))
  ((with_reducible refine qCall.of (cI) [(1, 1), (2, 2)] [(0, 0)] [] [(3, 3)] [(1, .dead), (2, .dead), (3, .live ⟨3, 74, res.map nbR⟩)] (.sl 3 0 (l.length + 1)) ?hk ?_); (case hk => rfl); (conv => whnf); (repeat (refine And.intro ?_ ?_; (focus (first | (with_reducible refine orderOk_i ?_; kernel_rfl) | (with_reducible rfl) | rfl | assumption | (refine RowsRen.vals ?_ ?_; (focus (first | rfl | assumption | (simp [List.take_of_length_le]; done))); (focus (simp [AV.isVal]; done))))); (conv => whnf))); (fail_if_success (with_reducible refine And.intro (eqv_i ?_) ?_)); (fail_if_success (with_reducible refine And.intro (ren_i ?_) ?_)))
  ((conv => whnf); (repeat' ((first | (with_reducible refine qif_n ?_) | (with_reducible refine qif_t (by assumption) ?_) | (with_reducible refine qif_f (by assumption) ?_) | ((with_reducible refine qif_t ?_ ?_); focus decide) | ((with_reducible refine qif_f ?_ ?_); focus decide) | (with_reducible refine And.intro (orderOk_i ?ho) ?_; (case ho => kernel_rfl)) | (with_reducible refine qif_i (fun _ => ?_) (fun _ => ?_)) | (with_reducible refine frcVs_i ?_) | (with_reducible refine frcRs_i ?_)) <;> (conv => whnf))))
  (refine qConv.of hB [(3, 1)] [(0, 0)] [] (by rfl) ?_; focus ((conv => whnf); (repeat (refine And.intro ?_ ?_; rotate_left; (conv => whnf))); exact trivial; all_goals (try (first | (with_reducible rfl) | (refine RowsRen.pl rfl rfl ?_; first | assumption | (focus (unfold PlRows; (repeat (first | exact .val _ | assumption | exact .any | (refine .agg _ ?_) | (refine .tup _ ?_) | (refine .list _ _ ?_) | (refine PlRows.mapF _ _ fun _ _ => ?_) | (simp only [List.forall_mem_cons]) | (refine ⟨?_, ?_⟩) | (exact fun _ h => absurd h List.not_mem_nil))); done)) | (focus (refine PlRows.mapF _ _ fun _ _ => ?_; (repeat (first | exact .val _ | assumption | exact .any | (refine .agg _ ?_) | (refine .tup _ ?_) | (refine .list _ _ ?_) | (refine PlRows.mapF _ _ fun _ _ => ?_) | (simp only [List.forall_mem_cons]) | (refine ⟨?_, ?_⟩) | (exact fun _ h => absurd h List.not_mem_nil))); done)))))))
  all_goals first | rfl | exact RowsRen.vals rfl (ones_vals res) | skip
theorem learn0_l (ip mac : Int) (hp : pairB ip mac = true) : ACallL Try.prog 32 [.list 0 3 [], .val (.int .i64 ip), .val (.int .i64 mac)] [.perm] (.tup [.glist 1 3 [nR ip mac 0], .val (.int .i64 0)]) [.perm, .uniq] := by
  have cP := pair_l ip mac
  rw [hp] at cP
  refine ACallL.of_ev mixed Try.func32 rfl (fun a w => Try.call32 a w) (congrArg Array.toList Try.results32) Try.ntmps32 fun B hB => ?_
  ((conv => whnf); (repeat' ((first | (with_reducible refine qif_n ?_) | (with_reducible refine qif_t (by assumption) ?_) | (with_reducible refine qif_f (by assumption) ?_) | ((with_reducible refine qif_t ?_ ?_); focus decide) | ((with_reducible refine qif_f ?_ ?_); focus decide) | (with_reducible refine And.intro (orderOk_i ?ho) ?_; (case ho => kernel_rfl)) | (with_reducible refine qif_i (fun _ => ?_) (fun _ => ?_)) | (with_reducible refine frcVs_i ?_) | (with_reducible refine frcRs_i ?_) | ((with_reducible refine qCall.pure (may9_nil) ?_ ?_ ?_ ?_); rotate_left 3; rotate_left; exact trivial; exact (by repeat (first | exact .val _ | assumption | exact .any | (refine .agg _ ?_) | (refine .tup _ ?_) | (refine .list _ _ ?_) | (refine PlRows.mapF _ _ fun _ _ => ?_) | (simp only [List.forall_mem_cons]) | (refine ⟨?_, ?_⟩) | (exact fun _ h => absurd h List.not_mem_nil))); exact (by repeat (first | exact .val _ | assumption | exact .any | (refine .agg _ ?_) | (refine .tup _ ?_) | (refine .list _ _ ?_) | (refine PlRows.mapF _ _ fun _ _ => ?_) | (simp only [List.forall_mem_cons]) | (refine ⟨?_, ?_⟩) | (exact fun _ h => absurd h List.not_mem_nil)))) | ((with_reducible refine qCall.pure (cP) ?_ ?_ ?_ ?_); rotate_left 3; rotate_left; exact trivial; exact (by repeat (first | exact .val _ | assumption | exact .any | (refine .agg _ ?_) | (refine .tup _ ?_) | (refine .list _ _ ?_) | (refine PlRows.mapF _ _ fun _ _ => ?_) | (simp only [List.forall_mem_cons]) | (refine ⟨?_, ?_⟩) | (exact fun _ h => absurd h List.not_mem_nil))); exact (by repeat (first | exact .val _ | assumption | exact .any | (refine .agg _ ?_) | (refine .tup _ ?_) | (refine .list _ _ ?_) | (refine PlRows.mapF _ _ fun _ _ => ?_) | (simp only [List.forall_mem_cons]) | (refine ⟨?_, ?_⟩) | (exact fun _ h => absurd h List.not_mem_nil))))) <;> (conv => whnf))))
  ((with_reducible refine qCall.fresh (fun r => .glist r 3 []) (cloneN_nil) [(0, 0)] [] ?hk ?_); (case hk => rfl); (conv => whnf); (repeat (refine And.intro ?_ ?_; (focus (first | (with_reducible refine orderOk_i ?_; kernel_rfl) | (with_reducible rfl) | rfl | assumption | (refine RowsRen.vals ?_ ?_; (focus (first | rfl | assumption | (simp [List.take_of_length_le]; done))); (focus (simp [AV.isVal]; done))))); (conv => whnf))); (fail_if_success (with_reducible refine And.intro (eqv_i ?_) ?_)); (fail_if_success (with_reducible refine And.intro (ren_i ?_) ?_)))
  ((conv => whnf); (repeat' ((first | (with_reducible refine qif_n ?_) | (with_reducible refine qif_t (by assumption) ?_) | (with_reducible refine qif_f (by assumption) ?_) | ((with_reducible refine qif_t ?_ ?_); focus decide) | ((with_reducible refine qif_f ?_ ?_); focus decide) | (with_reducible refine And.intro (orderOk_i ?ho) ?_; (case ho => kernel_rfl)) | (with_reducible refine qif_i (fun _ => ?_) (fun _ => ?_)) | (with_reducible refine frcVs_i ?_) | (with_reducible refine frcRs_i ?_)) <;> (conv => whnf))))
  ((with_reducible refine qCall.reads (find_nil ip) [(0, 0), (0, 1)] [] ?hk ?_); (case hk => rfl); (conv => whnf); (repeat (refine And.intro ?_ ?_; (focus (first | (with_reducible refine orderOk_i ?_; kernel_rfl) | (with_reducible rfl) | rfl | assumption | (refine RowsRen.vals ?_ ?_; (focus (first | rfl | assumption | (simp [List.take_of_length_le]; done))); (focus (simp [AV.isVal]; done))))); (conv => whnf))); (fail_if_success (with_reducible refine And.intro (eqv_i ?_) ?_)); (fail_if_success (with_reducible refine And.intro (ren_i ?_) ?_)))
  ((conv => whnf); (repeat' ((first | (with_reducible refine qif_n ?_) | (with_reducible refine qif_t (by assumption) ?_) | (with_reducible refine qif_f (by assumption) ?_) | ((with_reducible refine qif_t ?_ ?_); focus decide) | ((with_reducible refine qif_f ?_ ?_); focus decide) | (with_reducible refine And.intro (orderOk_i ?ho) ?_; (case ho => kernel_rfl)) | (with_reducible refine qif_i (fun _ => ?_) (fun _ => ?_)) | (with_reducible refine frcVs_i ?_) | (with_reducible refine frcRs_i ?_)) <;> (conv => whnf))))
  ((with_reducible refine qCall.of (insert_nil _ ip mac 0 rfl) [(2, 2)] [(0, 0), (1, 1)] [] [(3, 3)] [(1, .dead), (2, .dead), (3, .uniq)] (.glist 3 3 [nR ip mac 0]) ?hk ?_); (case hk => rfl); (conv => whnf); (repeat (refine And.intro ?_ ?_; (focus (first | (with_reducible refine orderOk_i ?_; kernel_rfl) | (with_reducible rfl) | rfl | assumption | (refine RowsRen.vals ?_ ?_; (focus (first | rfl | assumption | (simp [List.take_of_length_le]; done))); (focus (simp [AV.isVal]; done))))); (conv => whnf))); (fail_if_success (with_reducible refine And.intro (eqv_i ?_) ?_)); (fail_if_success (with_reducible refine And.intro (ren_i ?_) ?_)))
  ((conv => whnf); (repeat' ((first | (with_reducible refine qif_n ?_) | (with_reducible refine qif_t (by assumption) ?_) | (with_reducible refine qif_f (by assumption) ?_) | ((with_reducible refine qif_t ?_ ?_); focus decide) | ((with_reducible refine qif_f ?_ ?_); focus decide) | (with_reducible refine And.intro (orderOk_i ?ho) ?_; (case ho => kernel_rfl)) | (with_reducible refine qif_i (fun _ => ?_) (fun _ => ?_)) | (with_reducible refine frcVs_i ?_) | (with_reducible refine frcRs_i ?_)) <;> (conv => whnf))))
  (refine qConv.of hB [] [(0, 0), (3, 1)] [] (by rfl) ?_; focus ((conv => whnf); (repeat (refine And.intro ?_ ?_; rotate_left; (conv => whnf))); exact trivial; all_goals (try (first | (with_reducible rfl) | (refine RowsRen.pl rfl rfl ?_; first | assumption | (focus (unfold PlRows; (repeat (first | exact .val _ | assumption | exact .any | (refine .agg _ ?_) | (refine .tup _ ?_) | (refine .list _ _ ?_) | (refine PlRows.mapF _ _ fun _ _ => ?_) | (simp only [List.forall_mem_cons]) | (refine ⟨?_, ?_⟩) | (exact fun _ h => absurd h List.not_mem_nil))); done)) | (focus (refine PlRows.mapF _ _ fun _ _ => ?_; (repeat (first | exact .val _ | assumption | exact .any | (refine .agg _ ?_) | (refine .tup _ ?_) | (refine .list _ _ ?_) | (refine PlRows.mapF _ _ fun _ _ => ?_) | (simp only [List.forall_mem_cons]) | (refine ⟨?_, ?_⟩) | (exact fun _ h => absurd h List.not_mem_nil))); done)))))))
theorem srt_erase {l : List Nb} (h : srt l) (i : Nat) : srt (l.eraseIdx i) := h.sublist (List.eraseIdx_sublist l i)
theorem map_erase (l : List Nb) (i : Nat) : (l.map nbR).eraseIdx i = (l.eraseIdx i).map nbR := by
  refine List.ext_getElem? fun j => ?_
  rw [List.getElem?_eraseIdx, List.getElem?_map, List.getElem?_map, List.getElem?_map, List.getElem?_eraseIdx]
  split <;> rfl
theorem Learn_full (p0 : Nb) (l0 : List Nb) (ip mac : Int) (hm : mayN (p0 :: l0) = true) (hp : pairB ip mac = true) (ht : thereN (p0 :: l0) ip = false) (h15 : (p0 :: l0).length = 16) : ACallL Try.prog 32 [.list 0 3 ((p0 :: l0).map nbR), .val (.int .i64 ip), .val (.int .i64 mac)] [.perm] (.tup [.sl 1 0 (learnS (p0 :: l0) ip mac).length, .val (.int .i64 0)]) [.perm, .live ⟨3, 74, (learnS (p0 :: l0) ip mac).map nbR⟩] := by
  have px := pl_nbs (p0 :: l0)
  have cM := mayN_l (p0 :: l0) (by omega)
  have cP := pair_l ip mac
  rw [hm] at cM
  rw [hp] at cP
  have cF := find_l (p0 :: l0) ip (mayN_srt hm) (by omega)
  rw [ht] at cF
  have hs := mayN_srt hm
  have hres : learnS (p0 :: l0) ip mac = ((p0 :: l0).eraseIdx (oldN (p0 :: l0) 16)).take (posN ((p0 :: l0).eraseIdx (oldN (p0 :: l0) 16)) ip) ++ [(ip, mac, 0)] ++ ((p0 :: l0).eraseIdx (oldN (p0 :: l0) 16)).drop (posN ((p0 :: l0).eraseIdx (oldN (p0 :: l0) 16)) ip) := by unfold learnS; rw [if_neg (by rw [ht]; decide), if_pos h15]
  rw [hres]
  have cC := cloneN_l p0 l0 (by omega)
  clear hres
  generalize p0 :: l0 = l at *
  obtain ⟨old, old0, oldS, oldL, hold⟩ : ∃ old : Nat → Nat, old 0 = 0 ∧ (∀ k, old (k + 1) = if (l.getD (old k) (0, 0, 0)).2.2 < (l.getD k (0, 0, 0)).2.2 then k else old k) ∧ (∀ k, old k ≤ k - 1) ∧ oldN l = old := ⟨oldN l, rfl, fun _ => rfl, oldN_lt l, rfl⟩
  rw [hold]
  clear hold
  have hol := oldL 16
  have hs1 := srt_erase hs (old 16)
  have hlen1 : (l.eraseIdx (old 16)).length = 15 := by rw [List.length_eraseIdx, if_pos (by omega)]; omega
  have hmap1 : (l.map nbR).eraseIdx (old 16) = (l.eraseIdx (old 16)).map nbR := map_erase l _
  have cD := delete_l (l.map nbR) l.length (old 16) (by simp) (by omega) (ones_mem l)
  rw [hmap1] at cD
  have wo := IntWalk.i64_in ((old 16 : Nat) + 1) (by omega)
  rw [← wo] at cD
  obtain ⟨n, hn⟩ : ∃ n, posN l ip = n := ⟨_, rfl⟩
  rw [hn] at cF
  obtain ⟨l1, hl1⟩ : ∃ l1, l.eraseIdx (old 16) = l1 := ⟨_, rfl⟩
  rw [hl1] at cD hs1 hlen1 ⊢
  have cF1 := find_l l1 ip hs1 (by omega)
  have hple := posN_le ip l1
  obtain ⟨n1, hn1⟩ : ∃ n, posN l1 ip = n := ⟨_, rfl⟩
  obtain ⟨th1, hth1⟩ : ∃ n, thereN l1 ip = n := ⟨_, rfl⟩
  rw [hn1, hth1] at cF1
  rw [hn1] at hple ⊢
  have cI := insert_l (l1.map nbR ++ [zR]) (nR ip mac 0) (l.length - 1) n1 (by omega) (by simp; omega) (by simp; omega) (by omega) (by omega) (fun r hr c hc => by
    rcases List.mem_append.1 hr with h | h
    · exact ones_mem l1 r h c hc
    · rw [List.mem_singleton.1 h] at hc; simp at hc; rw [hc]; rfl) (by simp [AV.one, Value.oneCell'])
  have hins : insR (l1.map nbR ++ [zR]) (nR ip mac 0) n1 (l.length - 1) = (l1.take n1 ++ [(ip, mac, 0)] ++ l1.drop n1).map nbR := insR_nbs l1 [zR] (ip, mac, 0) (by omega) (by omega)
  rw [hins] at cI
  have hlen : (l1.take n1 ++ [(ip, mac, 0)] ++ l1.drop n1).length = l.length - 1 + 1 := by simp; omega
  rw [hlen]
  have htk : ((l1.map nbR ++ [zR]).drop 0).take (l.length - 1) = l1.map nbR := by rw [List.drop_zero, List.take_append_of_le_length (by simp; omega), List.take_of_length_le (by simp; omega)]
  generalize l1.take n1 ++ [(ip, mac, 0)] ++ l1.drop n1 = res at *
  obtain ⟨o16, ho16⟩ : ∃ o, old 16 = o := ⟨_, rfl⟩
  rw [ho16] at cD wo hol
  have hll : (l.map nbR).length = l.length := by simp
  have hlI : (l.length : Int) = 16 := by omega
  refine ACallL.of_ev mixed Try.func32 rfl (fun a w => Try.call32 a w) (congrArg Array.toList Try.results32) Try.ntmps32 fun B hB => ?_
  ((conv => whnf); (repeat' ((first | (with_reducible refine qif_n ?_) | (with_reducible refine qif_t (by assumption) ?_) | (with_reducible refine qif_f (by assumption) ?_) | ((with_reducible refine qif_t ?_ ?_); focus decide) | ((with_reducible refine qif_f ?_ ?_); focus decide) | (with_reducible refine And.intro (orderOk_i ?ho) ?_; (case ho => kernel_rfl)) | (with_reducible refine qif_i (fun _ => ?_) (fun _ => ?_)) | (with_reducible refine frcVs_i ?_) | (with_reducible refine frcRs_i ?_) | ((with_reducible refine qCall.pure (cM) ?_ ?_ ?_ ?_); rotate_left 3; rotate_left; exact trivial; exact (by repeat (first | exact .val _ | assumption | exact .any | (refine .agg _ ?_) | (refine .tup _ ?_) | (refine .list _ _ ?_) | (refine PlRows.mapF _ _ fun _ _ => ?_) | (simp only [List.forall_mem_cons]) | (refine ⟨?_, ?_⟩) | (exact fun _ h => absurd h List.not_mem_nil))); exact (by repeat (first | exact .val _ | assumption | exact .any | (refine .agg _ ?_) | (refine .tup _ ?_) | (refine .list _ _ ?_) | (refine PlRows.mapF _ _ fun _ _ => ?_) | (simp only [List.forall_mem_cons]) | (refine ⟨?_, ?_⟩) | (exact fun _ h => absurd h List.not_mem_nil)))) | ((with_reducible refine qCall.pure (cP) ?_ ?_ ?_ ?_); rotate_left 3; rotate_left; exact trivial; exact (by repeat (first | exact .val _ | assumption | exact .any | (refine .agg _ ?_) | (refine .tup _ ?_) | (refine .list _ _ ?_) | (refine PlRows.mapF _ _ fun _ _ => ?_) | (simp only [List.forall_mem_cons]) | (refine ⟨?_, ?_⟩) | (exact fun _ h => absurd h List.not_mem_nil))); exact (by repeat (first | exact .val _ | assumption | exact .any | (refine .agg _ ?_) | (refine .tup _ ?_) | (refine .list _ _ ?_) | (refine PlRows.mapF _ _ fun _ _ => ?_) | (simp only [List.forall_mem_cons]) | (refine ⟨?_, ?_⟩) | (exact fun _ h => absurd h List.not_mem_nil))))) <;> (conv => whnf))))
  ((with_reducible refine qCall.of (cC) [] [(0, 0)] [] [(1, 1)] [(1, .live ⟨3, 74, l.map nbR⟩)] (.sl 1 0 l.length) ?hk ?_); (case hk => rfl); (conv => whnf); (repeat (refine And.intro ?_ ?_; (focus (first | (with_reducible refine orderOk_i ?_; kernel_rfl) | (with_reducible rfl) | rfl | assumption | (refine RowsRen.vals ?_ ?_; (focus (first | rfl | assumption | (simp [List.take_of_length_le]; done))); (focus (simp [AV.isVal]; done))))); (conv => whnf))); (fail_if_success (with_reducible refine And.intro (eqv_i ?_) ?_)); (fail_if_success (with_reducible refine And.intro (ren_i ?_) ?_)))
  ((conv => whnf); (repeat' ((first | (with_reducible refine qif_n ?_) | (with_reducible refine qif_t (by assumption) ?_) | (with_reducible refine qif_f (by assumption) ?_) | ((with_reducible refine qif_t ?_ ?_); focus decide) | ((with_reducible refine qif_f ?_ ?_); focus decide) | (with_reducible refine And.intro (orderOk_i ?ho) ?_; (case ho => kernel_rfl)) | (with_reducible refine qif_i (fun _ => ?_) (fun _ => ?_)) | (with_reducible refine frcVs_i ?_) | (with_reducible refine frcRs_i ?_)) <;> (conv => whnf))))
  ((with_reducible refine qCall.reads (cF) [(0, 0)] [(0, 1)] ?hk ?_); (case hk => rfl); (conv => whnf); (repeat (refine And.intro ?_ ?_; (focus (first | (with_reducible refine orderOk_i ?_; kernel_rfl) | (with_reducible rfl) | rfl | assumption | (refine RowsRen.vals ?_ ?_; (focus (first | rfl | assumption | (simp [List.take_of_length_le]; done))); (focus (simp [AV.isVal]; done))))); (conv => whnf))); (fail_if_success (with_reducible refine And.intro (eqv_i ?_) ?_)); (fail_if_success (with_reducible refine And.intro (ren_i ?_) ?_)))
  ((conv => whnf); (repeat' ((first | (with_reducible refine qif_n ?_) | (with_reducible refine qif_t (by assumption) ?_) | (with_reducible refine qif_f (by assumption) ?_) | ((with_reducible refine qif_t ?_ ?_); focus decide) | ((with_reducible refine qif_f ?_ ?_); focus decide) | (with_reducible refine And.intro (orderOk_i ?ho) ?_; (case ho => kernel_rfl)) | ((with_reducible refine qif_t ?_ ?_); focus (simp [hlI]; done)) | ((with_reducible refine qif_f ?_ ?_); focus (simp [hlI]; done)) | (with_reducible refine qif_i (fun _ => ?_) (fun _ => ?_)) | (with_reducible refine frcVs_i ?_) | (with_reducible refine frcRs_i ?_)) <;> (conv => whnf))))
  refine qAW.loopE mixed (X := Nat) (fun k => slotsOf 76 [(0, .sl 1 0 l.length), (1, .val (.int .i64 ip)), (2, .val (.int .i64 mac)), (10, .val (.int .i64 (old k))), (41, .sl 1 0 l.length), (42, .val (.int .i64 l.length)), (43, .val (.int .i64 k))]) (fun k => [.perm, .live ⟨3, 74, l.map nbR⟩])
    (fun k => k ≤ 16) (fun k => 16 - k) 0 (Nat.zero_le _) ?_ ?_
  · (refine qConv.of hB [(1, 1)] [(0, 0)] [] (by rfl) ?_; focus ((conv => whnf); (repeat (refine And.intro ?_ ?_; rotate_left; (conv => whnf))); exact trivial; all_goals (try (first | (with_reducible rfl) | (refine RowsRen.pl rfl rfl ?_; first | assumption | (focus (unfold PlRows; (repeat (first | exact .val _ | assumption | exact .any | (refine .agg _ ?_) | (refine .tup _ ?_) | (refine .list _ _ ?_) | (refine PlRows.mapF _ _ fun _ _ => ?_) | (simp only [List.forall_mem_cons]) | (refine ⟨?_, ?_⟩) | (exact fun _ h => absurd h List.not_mem_nil))); done)) | (focus (refine PlRows.mapF _ _ fun _ _ => ?_; (repeat (first | exact .val _ | assumption | exact .any | (refine .agg _ ?_) | (refine .tup _ ?_) | (refine .list _ _ ?_) | (refine PlRows.mapF _ _ fun _ _ => ?_) | (simp only [List.forall_mem_cons]) | (refine ⟨?_, ?_⟩) | (exact fun _ h => absurd h List.not_mem_nil))); done)))))))
    all_goals first | rfl | exact RowsRen.vals rfl (ones_vals l) | (rw [old0]; rfl) | skip
  · intro E k hk hE
    by_cases hlt : (k : Int) < l.length
    · have w := IntWalk.i64_in (k + 1) (by omega)
      obtain ⟨⟨i1, m1, a1⟩, h1⟩ : ∃ p, l[k]? = some p := ⟨_, List.getElem?_eq_getElem (by omega)⟩
      have hok := oldL k
      have hstep : old (k + 1) = if (l.getD (old k) (0, 0, 0)).2.2 < a1 then k else old k := by rw [oldS, show l.getD k (0, 0, 0) = (i1, m1, a1) by simp [List.getD, h1]]
      obtain ⟨o, ho⟩ : ∃ o, old k = o := ⟨_, rfl⟩
      rw [ho] at hok hstep ⊢
      obtain ⟨⟨i2, m2, a2⟩, h2⟩ : ∃ p, l[o]? = some p := ⟨_, List.getElem?_eq_getElem (by omega)⟩
      have hgo : (l.getD o (0, 0, 0)).2.2 = a2 := by simp [List.getD, h2]
      rw [hgo] at hstep
      have r1 : (l.map nbR)[k]? = some (nR i1 m1 a1) := by simp [h1]
      have r2 : (l.map nbR)[o]? = some (nR i2 m2 a2) := by simp [h2]
      have e1 : 0 + (k : Int).toNat = k := by omega
      have e2 : 0 + (o : Int).toNat = o := by omega
      by_cases ha : a2 < a1
      · rw [if_pos ha] at hstep
        ((conv => whnf); (repeat (with_reducible refine frcRs_i ?_; (conv => whnf))); subst hE)
        ((conv => whnf); (repeat' ((first | (with_reducible refine qif_n ?_) | (with_reducible refine qif_t (by assumption) ?_) | (with_reducible refine qif_f (by assumption) ?_) | ((with_reducible refine qif_t ?_ ?_); focus decide) | ((with_reducible refine qif_f ?_ ?_); focus decide) | (with_reducible refine And.intro (orderOk_i ?ho) ?_; (case ho => kernel_rfl)) | ((with_reducible refine qif_t ?_ ?_); focus (simp [hlt, ha]; done)) | ((with_reducible refine qif_f ?_ ?_); focus (simp [hlt, ha]; done)) | (with_reducible refine qif_i (fun _ => ?_) (fun _ => ?_)) | (with_reducible refine frcVs_i ?_) | (with_reducible refine frcRs_i ?_) | (refine qCase_i (idxS rfl rfl rfl rfl rfl rfl rfl rfl (by omega)) ?_) | (refine qCase_i (ldR' rfl rfl rfl rfl rfl (by with_reducible exact e1) r1 rfl) ?_) | (refine qCase_i (ldR' rfl rfl rfl rfl rfl (by with_reducible exact e2) r2 rfl) ?_)) <;> (conv => whnf))))
        refine ⟨k + 1, by omega, by omega, ?_⟩
        dsimp only
        rw [hstep]
        (refine qConv.of hB [(1, 1)] [(0, 0)] [] (by rfl) ?_; focus ((conv => whnf); (repeat (refine And.intro ?_ ?_; rotate_left; (conv => whnf))); exact trivial; all_goals (try (first | (with_reducible rfl) | (refine RowsRen.pl rfl rfl ?_; first | assumption | (focus (unfold PlRows; (repeat (first | exact .val _ | assumption | exact .any | (refine .agg _ ?_) | (refine .tup _ ?_) | (refine .list _ _ ?_) | (refine PlRows.mapF _ _ fun _ _ => ?_) | (simp only [List.forall_mem_cons]) | (refine ⟨?_, ?_⟩) | (exact fun _ h => absurd h List.not_mem_nil))); done)) | (focus (refine PlRows.mapF _ _ fun _ _ => ?_; (repeat (first | exact .val _ | assumption | exact .any | (refine .agg _ ?_) | (refine .tup _ ?_) | (refine .list _ _ ?_) | (refine PlRows.mapF _ _ fun _ _ => ?_) | (simp only [List.forall_mem_cons]) | (refine ⟨?_, ?_⟩) | (exact fun _ h => absurd h List.not_mem_nil))); done)))))))
        all_goals first | rfl | (simp [w]; done) | exact RowsRen.vals rfl (ones_vals l) | skip
      · rw [if_neg ha] at hstep
        ((conv => whnf); (repeat (with_reducible refine frcRs_i ?_; (conv => whnf))); subst hE)
        ((conv => whnf); (repeat' ((first | (with_reducible refine qif_n ?_) | (with_reducible refine qif_t (by assumption) ?_) | (with_reducible refine qif_f (by assumption) ?_) | ((with_reducible refine qif_t ?_ ?_); focus decide) | ((with_reducible refine qif_f ?_ ?_); focus decide) | (with_reducible refine And.intro (orderOk_i ?ho) ?_; (case ho => kernel_rfl)) | ((with_reducible refine qif_t ?_ ?_); focus (simp [hlt, ha]; done)) | ((with_reducible refine qif_f ?_ ?_); focus (simp [hlt, ha]; done)) | (with_reducible refine qif_i (fun _ => ?_) (fun _ => ?_)) | (with_reducible refine frcVs_i ?_) | (with_reducible refine frcRs_i ?_) | (refine qCase_i (idxS rfl rfl rfl rfl rfl rfl rfl rfl (by omega)) ?_) | (refine qCase_i (ldR' rfl rfl rfl rfl rfl (by with_reducible exact e1) r1 rfl) ?_) | (refine qCase_i (ldR' rfl rfl rfl rfl rfl (by with_reducible exact e2) r2 rfl) ?_)) <;> (conv => whnf))))
        refine ⟨k + 1, by omega, by omega, ?_⟩
        dsimp only
        rw [hstep]
        (refine qConv.of hB [(1, 1)] [(0, 0)] [] (by rfl) ?_; focus ((conv => whnf); (repeat (refine And.intro ?_ ?_; rotate_left; (conv => whnf))); exact trivial; all_goals (try (first | (with_reducible rfl) | (refine RowsRen.pl rfl rfl ?_; first | assumption | (focus (unfold PlRows; (repeat (first | exact .val _ | assumption | exact .any | (refine .agg _ ?_) | (refine .tup _ ?_) | (refine .list _ _ ?_) | (refine PlRows.mapF _ _ fun _ _ => ?_) | (simp only [List.forall_mem_cons]) | (refine ⟨?_, ?_⟩) | (exact fun _ h => absurd h List.not_mem_nil))); done)) | (focus (refine PlRows.mapF _ _ fun _ _ => ?_; (repeat (first | exact .val _ | assumption | exact .any | (refine .agg _ ?_) | (refine .tup _ ?_) | (refine .list _ _ ?_) | (refine PlRows.mapF _ _ fun _ _ => ?_) | (simp only [List.forall_mem_cons]) | (refine ⟨?_, ?_⟩) | (exact fun _ h => absurd h List.not_mem_nil))); done)))))))
        all_goals first | rfl | (simp [w]; done) | exact RowsRen.vals rfl (ones_vals l) | skip
    · have hk16 : k = 16 := by omega
      have hok : old k = o16 := by rw [hk16]; exact ho16
      rw [hok]
      ((conv => whnf); (repeat (with_reducible refine frcRs_i ?_; (conv => whnf))); subst hE)
      ((conv => whnf); (repeat' ((first | (with_reducible refine qif_n ?_) | (with_reducible refine qif_t (by assumption) ?_) | (with_reducible refine qif_f (by assumption) ?_) | ((with_reducible refine qif_t ?_ ?_); focus decide) | ((with_reducible refine qif_f ?_ ?_); focus decide) | (with_reducible refine And.intro (orderOk_i ?ho) ?_; (case ho => kernel_rfl)) | ((with_reducible refine qif_t ?_ ?_); focus (simp [hlt]; done)) | ((with_reducible refine qif_f ?_ ?_); focus (simp [hlt]; done)) | (with_reducible refine qif_i (fun _ => ?_) (fun _ => ?_)) | (with_reducible refine frcVs_i ?_) | (with_reducible refine frcRs_i ?_)) <;> (conv => whnf))))
      ((with_reducible refine qCall.of (cD) [(1, 1)] [(0, 0)] [] [] [(1, .live ⟨3, 74, l1.map nbR ++ [zR]⟩)] (.sl 1 0 (l.length - 1)) ?hk ?_); (case hk => rfl); (conv => whnf); (repeat (refine And.intro ?_ ?_; (focus (first | (with_reducible refine orderOk_i ?_; kernel_rfl) | (with_reducible rfl) | rfl | assumption | (refine RowsRen.vals ?_ ?_; (focus (first | rfl | assumption | (simp [List.take_of_length_le]; done))); (focus (simp [AV.isVal]; done))))); (conv => whnf))); (fail_if_success (with_reducible refine And.intro (eqv_i ?_) ?_)); (fail_if_success (with_reducible refine And.intro (ren_i ?_) ?_)))
      ((conv => whnf); (repeat' ((first | (with_reducible refine qif_n ?_) | (with_reducible refine qif_t (by assumption) ?_) | (with_reducible refine qif_f (by assumption) ?_) | ((with_reducible refine qif_t ?_ ?_); focus decide) | ((with_reducible refine qif_f ?_ ?_); focus decide) | (with_reducible refine And.intro (orderOk_i ?ho) ?_; (case ho => kernel_rfl)) | (with_reducible refine qif_i (fun _ => ?_) (fun _ => ?_)) | (with_reducible refine frcVs_i ?_) | (with_reducible refine frcRs_i ?_)) <;> (conv => whnf))))
      ((with_reducible refine qCall.reads (cF1) [(0, 0)] [(0, 1)] ?hk ?_); (case hk => rfl); (conv => whnf); (repeat (refine And.intro ?_ ?_; (focus (first | (with_reducible refine orderOk_i ?_; kernel_rfl) | (with_reducible rfl) | rfl | assumption | (refine RowsRen.vals ?_ ?_; (focus (first | rfl | assumption | (simp [List.take_of_length_le]; done))); (focus (simp [AV.isVal]; done))))); (conv => whnf))); (fail_if_success (with_reducible refine And.intro (eqv_i ?_) ?_)); (fail_if_success (with_reducible refine And.intro (ren_i ?_) ?_)))
      ((conv => whnf); (repeat' ((first | (with_reducible refine qif_n ?_) | (with_reducible refine qif_t (by assumption) ?_) | (with_reducible refine qif_f (by assumption) ?_) | ((with_reducible refine qif_t ?_ ?_); focus decide) | ((with_reducible refine qif_f ?_ ?_); focus decide) | (with_reducible refine And.intro (orderOk_i ?ho) ?_; (case ho => kernel_rfl)) | (with_reducible refine qif_i (fun _ => ?_) (fun _ => ?_)) | (with_reducible refine frcVs_i ?_) | (with_reducible refine frcRs_i ?_)) <;> (conv => whnf))))
      ((with_reducible refine qCall.of (cI) [(1, 1), (2, 2)] [(0, 0)] [] [(3, 3)] [(1, .dead), (2, .dead), (3, .live ⟨3, 74, res.map nbR⟩)] (.sl 3 0 (l.length - 1 + 1)) ?hk ?_); (case hk => rfl); (conv => whnf); (repeat (refine And.intro ?_ ?_; (focus (first | (with_reducible refine orderOk_i ?_; kernel_rfl) | (with_reducible rfl) | rfl | assumption | (refine RowsRen.vals ?_ ?_; (focus (first | rfl | assumption | (simp [List.take_of_length_le]; done))); (focus (simp [AV.isVal]; done))))); (conv => whnf))); (fail_if_success (with_reducible refine And.intro (eqv_i ?_) ?_)); (fail_if_success (with_reducible refine And.intro (ren_i ?_) ?_)))
      ((conv => whnf); (repeat' ((first | (with_reducible refine qif_n ?_) | (with_reducible refine qif_t (by assumption) ?_) | (with_reducible refine qif_f (by assumption) ?_) | ((with_reducible refine qif_t ?_ ?_); focus decide) | ((with_reducible refine qif_f ?_ ?_); focus decide) | (with_reducible refine And.intro (orderOk_i ?ho) ?_; (case ho => kernel_rfl)) | (with_reducible refine qif_i (fun _ => ?_) (fun _ => ?_)) | (with_reducible refine frcVs_i ?_) | (with_reducible refine frcRs_i ?_)) <;> (conv => whnf))))
      (refine qConv.of hB [(3, 1)] [(0, 0)] [] (by rfl) ?_; focus ((conv => whnf); (repeat (refine And.intro ?_ ?_; rotate_left; (conv => whnf))); exact trivial; all_goals (try (first | (with_reducible rfl) | (refine RowsRen.pl rfl rfl ?_; first | assumption | (focus (unfold PlRows; (repeat (first | exact .val _ | assumption | exact .any | (refine .agg _ ?_) | (refine .tup _ ?_) | (refine .list _ _ ?_) | (refine PlRows.mapF _ _ fun _ _ => ?_) | (simp only [List.forall_mem_cons]) | (refine ⟨?_, ?_⟩) | (exact fun _ h => absurd h List.not_mem_nil))); done)) | (focus (refine PlRows.mapF _ _ fun _ _ => ?_; (repeat (first | exact .val _ | assumption | exact .any | (refine .agg _ ?_) | (refine .tup _ ?_) | (refine .list _ _ ?_) | (refine PlRows.mapF _ _ fun _ _ => ?_) | (simp only [List.forall_mem_cons]) | (refine ⟨?_, ?_⟩) | (exact fun _ h => absurd h List.not_mem_nil))); done)))))))
      all_goals first | rfl | exact RowsRen.vals rfl (ones_vals res) | skip
end Go.Proofs.Ytjmjnndmpeeppaa
