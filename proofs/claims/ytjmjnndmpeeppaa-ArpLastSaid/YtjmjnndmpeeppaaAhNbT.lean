/- Who was heard of last: plain law of the row of calls. No condition. -/
import Derived.Test.YtjmjnndmpeeppaaAhNbP
namespace Go.Proofs.Ytjmjnndmpeeppaa
open Go.RowKit
set_option linter.unusedVariables false
set_option linter.unusedSimpArgs false
set_option maxRecDepth 100000
set_option maxHeartbeats 4000000

/-- who is known behind so many -/
def lst (i : Nat) : List Nb := (List.range (min i 16)).map fun (j : Nat) => (((101 : Int) - (i : Int) + (j : Int), (i : Int) - 1 - (j : Int), (j : Int) + 1) : Nb)
theorem lst_facts : ∀ i : Nat, i < 21 → mayN (lst i) = true ∧ pairB (100 - (i : Int)) i = true ∧ (learnS (lst i) (100 - (i : Int)) i).length = min (i + 1) 16 ∧ tickS (learnS (lst i) (100 - (i : Int)) i) = lst (i + 1) := by
  decide +kernel
theorem lst_finds : ∀ i : Nat, i < 21 → ∀ k : Nat, k < i + 1 → (if i < k + 16 then fdE (lst (i + 1)) (100 - (k : Int)) = 0 ∧ fdM (lst (i + 1)) (100 - (k : Int)) = k else fdE (lst (i + 1)) (100 - (k : Int)) = 3) := by
  decide +kernel
def lastX : List Nb := learnS (lst 21) 84 777
def tkd (n : Nat) : List Nb := (lastX.filter fun p => decide (p.2.2 + (n : Int) ≤ 600)).map fun p => (p.1, p.2.1, p.2.2 + (n : Int))
theorem lastX_facts : mayN (lst 21) = true ∧ lastX.length = 16 ∧ fdE lastX 84 = 0 ∧ fdM lastX 84 = 777 ∧ tkd 0 = lastX ∧ ((84, 777, 0) : Nb) ∈ lastX := by
  decide +kernel
theorem tkd_end : (tkd 600).length = 1 ∧ fdE (tkd 600) 84 = 0 ∧ tickS (tkd 600) = [] := by
  decide +kernel
theorem tkd_tick (n : Nat) : tickS (tkd n) = tkd (n + 1) := by
  unfold tickS tkd
  rw [List.filter_map, List.map_map, List.filter_filter]
  have e1 : ∀ (l : List Nb) (f g : Nb → Bool) (h h' : Nb → Nb), (∀ p, f p = g p) → (∀ p, h p = h' p) → (l.filter f).map h = (l.filter g).map h' := fun l f g h h' hf hh => by
    rw [show f = g from funext hf, show h = h' from funext hh]
  refine e1 _ _ _ _ _ (fun p => ?_) (fun p => ?_)
  · simp only [Function.comp]
    rw [Bool.eq_iff_iff]
    simp only [Bool.and_eq_true, decide_eq_true_eq]
    omega
  · simp only [Function.comp, Prod.mk.injEq, true_and]
    omega
theorem tkd_may : ∀ n : Nat, mayN (tkd n) = true
  | 0 => by rw [lastX_facts.2.2.2.2.1]; exact learnS_may lastX_facts.1 (by decide +kernel)
  | n + 1 => by rw [← tkd_tick]; exact tickS_may (tkd_may n)
theorem tkd_pos (n : Nat) (h : n ≤ 600) : 0 < (tkd n).length := by
  refine List.length_pos_of_mem (a := ((84, 777, (n : Int)) : Nb)) ?_
  unfold tkd
  rw [List.mem_map]
  exact ⟨(84, 777, 0), by rw [List.mem_filter]; exact ⟨lastX_facts.2.2.2.2.2, by simp; omega⟩, by simp⟩
/-- a tick later, somebody known -/
theorem tickC_l (l : List Nb) (hm : mayN l = true) (h : 0 < (tickS l).length) : ACallL Try.prog 41 [.list 0 3 (l.map nbR)] [.perm] (.tup [.sl 1 0 (tickS l).length, .val (.int .i64 0)]) [.perm, .live ⟨3, 74, (tickS l).map nbR⟩] := by
  have := Tick_l l hm
  obtain ⟨p, l', e⟩ := cons_of h
  rw [e] at this ⊢
  exact this
end Go.Proofs.Ytjmjnndmpeeppaa
