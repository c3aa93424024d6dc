/- Neighbours: what is known behind it may be known; the one is found; a row of calls: plain law. No condition. -/
import Derived.Test.YtjmjnndmpeeppaaAhNbX
namespace Go.Proofs.Ytjmjnndmpeeppaa
open Go.RowKit
set_option linter.unusedVariables false
set_option linter.unusedSimpArgs false
set_option maxRecDepth 100000
set_option maxHeartbeats 4000000

theorem okAt_ok {l : List Nb} {k : Nat} {p : Nb} (hp : l[k]? = some p) (h : okAt l k = true) : okN p = true := by
  simp only [okAt, List.getD, hp, Option.getD_some, Bool.and_eq_true] at h
  exact h.1
theorem mayN_iff (l : List Nb) : mayN l = true ↔ (∀ p ∈ l, okN p = true) ∧ srt l ∧ l.length ≤ 16 := by
  constructor
  · intro h
    refine ⟨fun p hp => ?_, mayN_srt h, (mayN_all h).2⟩
    obtain ⟨k, hk⟩ := List.getElem?_of_mem hp
    exact okAt_ok hk ((mayN_all h).1 k (List.getElem?_eq_some_iff.1 hk).1)
  · rintro ⟨h1, h2, h3⟩
    rw [mayN_end fun j hj => ?_]
    · simpa using h3
    · obtain ⟨p, hp⟩ : ∃ p, l[j]? = some p := ⟨_, List.getElem?_eq_getElem hj⟩
      have hok := h1 p (List.mem_of_getElem? hp)
      cases j with
      | zero => rw [okAt_0 hp]; exact hok
      | succ j =>
        obtain ⟨q, hq⟩ : ∃ q, l[j]? = some q := ⟨_, List.getElem?_eq_getElem (by omega)⟩
        rw [okAt_s hp hq, hok, Bool.true_and, decide_eq_true_eq]
        exact srt_at h2 hq hp (by omega)
theorem srt_ins {l : List Nb} (hs : srt l) (ip mac : Int) (ht : thereN l ip = false) : srt (l.take (posN l ip) ++ [(ip, mac, 0)] ++ l.drop (posN l ip)) := by
  have hsp := posN_split hs ip
  have hgt : ∀ p ∈ l.drop (posN l ip), ip < p.1 := fun p hp => by
    have h1 := hsp.2 p hp
    rcases Int.lt_or_eq_of_le (show ip ≤ p.1 by omega) with h | h
    · exact h
    · obtain ⟨i, hi⟩ := List.getElem?_of_mem hp
      rw [List.getElem?_drop] at hi
      unfold thereN at ht
      cases h0 : l[posN l ip]? with
      | none => have := List.getElem?_eq_none_iff.1 h0; have := (List.getElem?_eq_some_iff.1 hi).1; omega
      | some q =>
        rw [h0] at ht
        simp only [beq_eq_false_iff_ne] at ht
        have h2 : ¬ q.1 < ip := hsp.2 q (List.mem_of_getElem? (i := 0) (by rw [List.getElem?_drop, Nat.add_zero]; exact h0))
        rcases Nat.eq_zero_or_pos i with hi0 | hi0
        · subst hi0; rw [Nat.add_zero, h0] at hi; cases hi; omega
        · have := srt_at hs h0 hi (by omega); omega
  unfold srt
  rw [List.append_assoc, List.pairwise_append]
  refine ⟨hs.sublist (List.take_sublist _ _), ?_, fun a ha b hb => ?_⟩
  · rw [List.singleton_append, List.pairwise_cons]
    exact ⟨fun p hp => hgt p hp, hs.sublist (List.drop_sublist _ _)⟩
  · have h1 := hsp.1 a ha
    rcases List.mem_append.1 hb with h | h
    · rw [List.mem_singleton.1 h]; exact h1
    · have := hgt b h; omega
theorem posN_ins {l : List Nb} (hs : srt l) (ip mac : Int) : posN (l.take (posN l ip) ++ [(ip, mac, 0)] ++ l.drop (posN l ip)) ip = posN l ip := by
  have hsp := posN_split hs ip
  have hple := posN_le ip l
  rw [List.append_assoc, posN_app (fun p hp => hsp.1 p hp) (fun p hp => by
    rcases List.mem_append.1 hp with h | h
    · rw [List.mem_singleton.1 h]; simp
    · exact hsp.2 p h)]
  simp; omega
theorem get_ins {l : List Nb} {i : Nat} (hi : i ≤ l.length) (p : Nb) : (l.take i ++ [p] ++ l.drop i)[i]? = some p := by
  rw [List.append_assoc, List.getElem?_append_right (by simp; omega)]
  simp [Nat.min_eq_left hi]
/-- the one is there, with what was heard last -/
theorem learnS_get {l : List Nb} (hs : srt l) (ip mac : Int) : (learnS l ip mac)[posN (learnS l ip mac) ip]? = some (ip, mac, 0) := by
  unfold learnS
  by_cases ht : thereN l ip = true
  · rw [if_pos ht]
    have h1 := ht
    unfold thereN at h1
    obtain ⟨⟨i1, m1, a1⟩, hr⟩ : ∃ p, l[posN l ip]? = some p := by
      cases h : l[posN l ip]? with
      | none => rw [h] at h1; cases h1
      | some p => exact ⟨p, rfl⟩
    rw [hr] at h1
    have hip : i1 = ip := by simpa using h1
    have hlt := (List.getElem?_eq_some_iff.1 hr).1
    have hp : posN (l.set (posN l ip) (ip, mac, 0)) ip = posN l ip := by
      have hsp := posN_split hs ip
      rw [List.set_eq_take_append_cons_drop, if_pos hlt, posN_app (fun p hp => hsp.1 p hp) (fun p hp => by
        rcases List.mem_cons.1 hp with h | h
        · rw [h]; simp
        · exact hsp.2 p (by rw [List.drop_eq_getElem_cons hlt]; exact List.mem_cons_of_mem _ h))]
      simp; omega
    rw [hp]
    simp [hlt]
  · rw [if_neg ht]
    have ht : thereN l ip = false := by simpa using ht
    split
    · have hs1 := srt_erase hs (oldN l 16)
      rw [posN_ins hs1, get_ins (posN_le _ _)]
    · rw [posN_ins hs, get_ins (posN_le _ _)]
theorem learnS_there {l : List Nb} (hs : srt l) (ip mac : Int) : thereN (learnS l ip mac) ip = true := by
  unfold thereN
  rw [learnS_get hs]
  simp
theorem learnS_may {l : List Nb} (hm : mayN l = true) {ip mac : Int} (hp : pairB ip mac = true) : mayN (learnS l ip mac) = true := by
  rw [mayN_iff] at hm ⊢
  obtain ⟨h1, hs, h16⟩ := hm
  have hn : okN (ip, mac, 0) = true := by simp [okN, hp]
  have hple := posN_le ip l
  unfold learnS
  by_cases ht : thereN l ip = true
  · rw [if_pos ht]
    refine ⟨fun p hp => ?_, ?_, by simpa using h16⟩
    · rcases List.mem_or_eq_of_mem_set hp with h | h
      · exact h1 p h
      · rw [h]; exact hn
    · have h2 := ht
      unfold thereN at h2
      obtain ⟨⟨i1, m1, a1⟩, hr⟩ : ∃ p, l[posN l ip]? = some p := by
        cases h : l[posN l ip]? with
        | none => rw [h] at h2; cases h2
        | some p => exact ⟨p, rfl⟩
      rw [hr] at h2
      have hip : i1 = ip := by simpa using h2
      subst hip
      have hlt := (List.getElem?_eq_some_iff.1 hr).1
      have hmap : (l.set (posN l i1) (i1, mac, 0)).map (·.1) = l.map (·.1) := by
        refine List.ext_getElem? fun j => ?_
        rw [List.getElem?_map, List.getElem?_map, List.getElem?_set]
        split
        · rename_i hj; subst hj; rw [hr]; simp
        · rfl
      have k : ∀ l' : List Nb, srt l' ↔ (l'.map (·.1)).Pairwise (· < ·) := fun l' => by rw [List.pairwise_map]; rfl
      rw [k, hmap, ← k]
      exact hs
  · rw [if_neg ht]
    have ht : thereN l ip = false := by simpa using ht
    have sub : ∀ (l' : List Nb), (∀ p ∈ l', okN p = true) → ∀ p ∈ l'.take (posN l' ip) ++ [(ip, mac, 0)] ++ l'.drop (posN l' ip), okN p = true := fun l' h p hp => by
      rcases List.mem_append.1 hp with h2 | h2
      · rcases List.mem_append.1 h2 with h2 | h2
        · exact h p (List.mem_of_mem_take h2)
        · rw [List.mem_singleton.1 h2]; exact hn
      · exact h p (List.mem_of_mem_drop h2)
    split
    · rename_i hl16
      have hs1 := srt_erase hs (oldN l 16)
      have hle := oldN_lt l 16
      have hel : (l.eraseIdx (oldN l 16)).length = 15 := by rw [List.length_eraseIdx, if_pos (by omega)]; omega
      have hpl := posN_le ip (l.eraseIdx (oldN l 16))
      have ht1 : thereN (l.eraseIdx (oldN l 16)) ip = false := by
        unfold thereN
        cases h : (l.eraseIdx (oldN l 16))[posN (l.eraseIdx (oldN l 16)) ip]? with
        | none => rfl
        | some q =>
          have hq := List.mem_of_mem_eraseIdx (List.mem_of_getElem? h)
          obtain ⟨j, hj⟩ := List.getElem?_of_mem hq
          by_cases he : q.1 = ip
          · have h3 := posN_lt ip hs hj
            have hpos : posN l ip = j := by
              rcases Nat.lt_trichotomy (posN l ip) j with h | h | h
              · obtain ⟨q2, hq2⟩ : ∃ q, l[posN l ip]? = some q := ⟨_, List.getElem?_eq_getElem (by have := (List.getElem?_eq_some_iff.1 hj).1; omega)⟩
                have h5 := srt_at hs hq2 hj h
                have h6 := (posN_lt ip hs hq2).1 (by omega)
                omega
              · exact h
              · have := h3.2 h; omega
            unfold thereN at ht
            rw [hpos, hj] at ht
            simp [he] at ht
          · simpa using he
      exact ⟨sub _ fun p hp => h1 p (List.mem_of_mem_eraseIdx hp), srt_ins hs1 ip mac ht1, by simp [hel]; omega⟩
    · exact ⟨sub _ h1, srt_ins hs ip mac ht, by simp; omega⟩
theorem learnS_found {l : List Nb} (hm : mayN l = true) {ip mac : Int} (hp : pairB ip mac = true) : fdE (learnS l ip mac) ip = 0 ∧ fdM (learnS l ip mac) ip = mac := by
  have h1 := learnS_may hm hp
  have h2 := learnS_there (mayN_srt hm) ip mac
  have h3 := learnS_get (mayN_srt hm) ip mac
  exact ⟨by simp [fdE, h1, h2], by simp [fdM, h1, h2, List.getD, h3]⟩
theorem learnS_again {l : List Nb} (hm : mayN l = true) {ip mac mac' : Int} : (learnS (learnS l ip mac) ip mac').length = (learnS l ip mac).length := by
  have h2 := learnS_there (mayN_srt hm) ip mac
  rw [learnS, if_pos h2]
  simp
theorem learnS_more {l : List Nb} {ip mac : Int} : (learnS l ip mac).length ≤ l.length + 1 := by
  have hple := posN_le ip l
  have hpl := posN_le ip (l.eraseIdx (oldN l 16))
  unfold learnS
  split
  · simp
  · split
    · have := List.length_eraseIdx_le l (oldN l 16)
      simp; omega
    · simp; omega
theorem learnS_pos {l : List Nb} {ip mac : Int} (h : 0 < l.length) : 0 < (learnS l ip mac).length := by
  unfold learnS
  split
  · simpa using h
  · split <;> simp <;> omega
theorem tickS_may {l : List Nb} (hm : mayN l = true) : mayN (tickS l) = true := by
  rw [mayN_iff] at hm ⊢
  obtain ⟨h1, hs, h16⟩ := hm
  refine ⟨fun p hp => ?_, ?_, ?_⟩
  · simp only [tickS, List.mem_map, List.mem_filter, decide_eq_true_eq] at hp
    obtain ⟨q, ⟨hq, ha⟩, rfl⟩ := hp
    have := h1 q hq
    simp only [okN, Bool.and_eq_true, decide_eq_true_eq] at this ⊢
    exact ⟨this.1, by omega, ha⟩
  · unfold tickS srt
    rw [List.pairwise_map]
    exact (hs.sublist (List.filter_sublist)).imp fun h => h
  · simp only [tickS, List.length_map]
    exact Nat.le_trans (List.length_filter_le _ _) h16
end Go.Proofs.Ytjmjnndmpeeppaa
