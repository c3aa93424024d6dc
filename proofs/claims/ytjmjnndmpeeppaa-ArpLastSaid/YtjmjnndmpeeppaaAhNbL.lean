/- slices.Insert of one neighbour, on data. Condition: the place is one of the slice. -/
import Derived.Test.YtjmjnndmpeeppaaAhNbI
namespace Go.Proofs.Ytjmjnndmpeeppaa
open Go.RowKit
set_option linter.unusedVariables false
set_option linter.unusedSimpArgs false
set_option maxRecDepth 100000
set_option maxHeartbeats 4000000

abbrev insR (rows : List (List AV)) (row : List AV) (i n : Nat) : List (List AV) := rows.take i ++ [row] ++ (rows.take n).drop i
theorem insR_len (rows : List (List AV)) (row : List AV) {i n : Nat} (hn : n ≤ rows.length) (hi : i ≤ n) : (insR rows row i n).length = n + 1 := by simp [insR]; omega
theorem insR_get (rows : List (List AV)) (row : List AV) {i n : Nat} (hn : n ≤ rows.length) (hi : i ≤ n) (a : Nat) (ha : a < n + 1) : (insR rows row i n)[a]? = if a < i then rows[a]? else if a = i then some row else rows[a - 1]? := by
  unfold insR
  have l1 : (rows.take i).length = i := by simp; omega
  by_cases h1 : a < i
  · rw [if_pos h1, List.append_assoc, List.getElem?_append_left (by omega), List.getElem?_take, if_pos h1]
  · rw [if_neg h1, List.append_assoc, List.getElem?_append_right (by omega), l1]
    by_cases h2 : a = i
    · rw [if_pos h2]; subst h2; simp
    · rw [if_neg h2, List.getElem?_append_right (by simp; omega), List.getElem?_drop, List.getElem?_take, if_pos (by simp; omega)]
      congr 1; simp; omega
theorem insert_l (rows : List (List AV)) (row : List AV) (n i : Nat) (h0 : 0 < n) (hn : n ≤ rows.length) (hn1 : rows.length ≤ n + 1) (hb : n ≤ 1000) (hi : i ≤ n) (hone : ∀ r ∈ rows, ∀ c ∈ r, c.one = true) (hone2 : ∀ c ∈ row, c.one = true) :
    ACallL Try.prog 64 [.sl 1 0 n, .val (.int .i64 i), .sl 2 0 1] [.perm, .live ⟨3, 74, rows⟩, .live ⟨3, 74, [row]⟩] (.sl 3 0 (n + 1)) [.perm, .dead, .dead, .live ⟨3, 74, insR rows row i n⟩] := by
  refine ⟨fun a w => Try.call64 a w, fun m w vs rel hl => ?_⟩
  obtain ⟨v0, v1, v2, rfl⟩ : ∃ v0 v1 v2, vs = #[v0, v1, v2] := by
    obtain ⟨vs⟩ := vs
    match vs, hl.1 with
    | [a, b, c], _ => exact ⟨a, b, c, rfl⟩
  have hR := hl.2 0 _ v0 rfl rfl
  have e1 := (hl.2 1 _ v1 rfl rfl).val_inv
  have hR2 := hl.2 2 _ v2 rfl rfl
  subst e1
  obtain ⟨H, hH⟩ : ∃ H : List Own, H = [.perm, .live ⟨3, 74, rows⟩, .live ⟨3, 74, [row]⟩] := ⟨_, rfl⟩
  rw [← hH] at rel hR hR2 ⊢
  have hk : ofL H 1 = .live ⟨3, 74, rows⟩ := by rw [hH]; rfl
  have hk2 : ofL H 2 = .live ⟨3, 74, [row]⟩ := by rw [hH]; rfl
  have hk3 : ofL H 3 = .unused := by rw [hH]; rfl
  obtain ⟨cur, hg, hfit, hrows, hcells⟩ := rel.own 1 _ hk
  obtain ⟨curv, hgv, hfitv, hrowv, hcellv⟩ := rel.own 2 _ hk2
  dsimp only at hfit hrows hcells hg hgv hfitv hrowv hcellv
  have hrl : row.length = 3 := hrowv row (by simp)
  have hne : (m.pl 2).1 ≠ (m.pl 1).1 := fun e => absurd (rel.sep 2 1 _ _ hk2 hk e) (by decide)
  obtain ⟨c0, c1, c2, rfl⟩ : ∃ c0 c1 c2, row = [c0, c1, c2] := by
    match row, hrl with
    | [a, b, c], _ => exact ⟨a, b, c, rfl⟩
  obtain ⟨u0, g0, q0⟩ := hcellv 0 0 _ c0 rfl rfl
  obtain ⟨u1, g1, q1⟩ := hcellv 0 1 _ c1 rfl rfl
  obtain ⟨u2, g2, q2⟩ := hcellv 0 2 _ c2 rfl rfl
  cases hR2 with
  | slD _ _ _ _ hd _ => rw [hk2] at hd; cases hd
  | sl _ _ _ k2 hb2 ov cv hn2 hc2 hm2 ho2 hz2 =>
  rw [hk2] at hb2; cases hb2
  have hov := ho2 (by omega)
  simp only [Nat.zero_mul, Nat.add_zero] at hov
  subst hov
  cases hR with
  | slD _ _ _ _ hd _ => rw [hk] at hd; cases hd
  | sl _ _ _ k' hb' off cap hn' hc hm ho hz =>
  rw [hk] at hb'; cases hb'
  have hoff := ho (by omega)
  simp only [Nat.zero_mul, Nat.add_zero] at hoff
  subst hoff
  have h1c : ∀ (q : Nat) v, (m.pl 1).2 ≤ q → q < (m.pl 1).2 + n * 3 → cur[q]? = some v → v.oneCell' = true := fun q v h1 h2 h3 => by
    have ha : (q - (m.pl 1).2) / 3 < rows.length := by omega
    have hr := hrows _ (List.getElem_mem ha)
    obtain ⟨v', g1, g2⟩ := hcells ((q - (m.pl 1).2) / 3) ((q - (m.pl 1).2) % 3) _ _ (List.getElem?_eq_getElem ha) (List.getElem?_eq_getElem (by rw [hr]; omega))
    rw [show (m.pl 1).2 + (q - (m.pl 1).2) / 3 * 3 + (q - (m.pl 1).2) % 3 = q by omega, h3] at g1
    cases g1
    exact g2.one (hone _ (List.getElem_mem ha) _ (List.getElem_mem _))
  have hcur : ∀ (a b : Nat) (r : List AV) (c : AV), (insR rows [c0, c1, c2] i n)[a]? = some r → r[b]? = some c → a * 3 + b < (n + 1) * 3 ∧ ∃ v, (insC [u0, u1, u2] cur.toList (m.pl 1).2 i n)[a * 3 + b]? = some v ∧ R m (ofL H) w c v := fun a b r c h1 h2 => by
    have ha : a < n + 1 := by have := (List.getElem?_eq_some_iff.1 h1).1; rw [insR_len rows _ hn hi] at this; exact this
    rw [insR_get rows _ hn hi a ha] at h1
    have hb3 : b < 3 := by
      have hbl := (List.getElem?_eq_some_iff.1 h2).1
      split at h1
      · have := hrows r (List.mem_of_getElem? h1); omega
      · split at h1
        · cases h1; simpa using hbl
        · have := hrows r (List.mem_of_getElem? h1); omega
    refine ⟨by omega, ?_⟩
    rw [insC_get _ _ _ _ _ _ rfl hi (by simp; omega)]
    by_cases h3 : a < i
    · rw [if_pos h3] at h1
      rw [if_pos (by omega)]
      obtain ⟨v, p1, p2⟩ := hcells a b r c h1 h2
      exact ⟨v, by rw [← p1, Array.getElem?_toList]; congr 1; omega, p2⟩
    · rw [if_neg h3] at h1
      rw [if_neg (by omega)]
      by_cases h4 : a = i
      · rw [if_pos h4] at h1
        cases h1
        subst h4
        rw [if_pos (by omega), show a * 3 + b - a * 3 = b by omega]
        rcases b with _ | _ | _ | b
        · cases h2; exact ⟨_, rfl, q0⟩
        · cases h2; exact ⟨_, rfl, q1⟩
        · cases h2; exact ⟨_, rfl, q2⟩
        · omega
      · rw [if_neg h4] at h1
        rw [if_neg (by omega), if_pos (by omega)]
        obtain ⟨v, p1, p2⟩ := hcells (a - 1) b r c h1 h2
        exact ⟨v, by rw [← p1, Array.getElem?_toList]; congr 1; omega, p2⟩
  have hrow' : ∀ r ∈ insR rows [c0, c1, c2] i n, r.length = 3 := fun r hr => by
    rcases List.mem_append.1 hr with h | h
    · rcases List.mem_append.1 h with h | h
      · exact hrows r (List.mem_of_mem_take h)
      · rw [List.mem_singleton.1 h]; rfl
    · exact hrows r (List.mem_of_mem_take (List.mem_of_mem_drop h))
  have hlen := insR_len rows [c0, c1, c2] hn hi
  refine (insert_w (m.pl 1).1 (m.pl 1).2 n cap i (m.pl 2).1 (m.pl 2).2 cv cur curv _ [u0, u1, u2] w hg hgv hne rfl
    (fun j v hj => by
      rcases j with _ | _ | _ | j
      · cases hj; simpa using g0
      · cases hj; simpa using g1
      · cases hj; simpa using g2
      · simp at hj) hc hm (by omega) (fun hc0 => by have := hz cur _ _ hg hc0; simpa using this) hb h1c
    (fun v hv => by
      simp only [List.mem_cons, List.not_mem_nil, or_false] at hv
      rcases hv with rfl | rfl | rfl
      · exact q0.one (hone2 c0 (by simp))
      · exact q1.one (hone2 c1 (by simp))
      · exact q2.one (hone2 c2 (by simp))) hi).mono fun e w' hP => ?_
  obtain ⟨o1, o2, o3, hP | hP⟩ := hP
  · obtain ⟨cur', he, hcap, hgw, hcs, hsz, far, hcc⟩ := hP
    have A := rel.move (w' := w') hk hk3 (m.pl 1).2 cur cur' hg ⟨3, 74, insR rows [c0, c1, c2] i n⟩ rfl hgw hcs hsz far o1 o2 o3 (by have := hz cur _ _ hg (by omega); simp only [hlen]; simp at this; omega) hrow'
      (fun a b r c h1 h2 => by
        obtain ⟨p0, v, p1, p2⟩ := hcur a b r c h1 h2
        exact ⟨v, by rw [← p1, ← hcc _ p0]; congr 1; simp only; omega, p2⟩)
    have B := A.1.kill 2 (by rw [Hp.upd_ne _ _ (by decide), Hp.upd_ne _ _ (by decide), hk2]; simp)
    have hup : (((ofL H).upd 1 .dead).upd 3 (.live ⟨3, 74, insR rows [c0, c1, c2] i n⟩)).upd 2 .dead = ofL [.perm, .dead, .dead, .live ⟨3, 74, insR rows [c0, c1, c2] i n⟩] := by
      rw [hH]; funext x; rcases x with _ | _ | _ | _ | x <;> rfl
    rw [hup] at B
    refine ⟨_, _, he, B.1, Ev.trans rel A.2 B.2, ?_⟩
    have := R.sl (m := m.at 3 ((m.pl 1).1, (m.pl 1).2)) (h := ofL [.perm, .dead, .dead, .live ⟨3, 74, insR rows [c0, c1, c2] i n⟩]) (w := w') 3 0 (n + 1) ⟨3, 74, insR rows [c0, c1, c2] i n⟩ rfl (m.pl 1).2 cap (by simp only [hlen]; omega) hcap hm (fun _ => by simp [Nm.at_same])
      (fun c2 e2 f2 hc2 hcap => by
        rw [Nm.at_same] at hc2 ⊢
        rw [hgw] at hc2
        cases hc2
        have := hz cur _ _ hg hcap
        simpa [hcs] using this)
    rw [Nm.at_same] at this
    exact this
  · obtain ⟨cur', cap', he, hcap, hcm, hcs, hh, hcc⟩ := hP
    have A := rel.alloc (w' := w') hk3 ⟨3, 74, insR rows [c0, c1, c2] i n⟩ cur' hh o1 o2 o3 (by simp only [hlen]; omega) hrow'
      (fun a b r c h1 h2 => by
        obtain ⟨p0, v, p1, p2⟩ := hcur a b r c h1 h2
        exact ⟨v, by rw [← p1, ← hcc _ p0], p2⟩)
    have B := A.1.kill 1 (by rw [Hp.upd_ne _ _ (by decide), hk]; simp)
    have C := B.1.kill 2 (by rw [Hp.upd_ne _ _ (by decide), Hp.upd_ne _ _ (by decide), hk2]; simp)
    have hup : (((ofL H).upd 3 (.live ⟨3, 74, insR rows [c0, c1, c2] i n⟩)).upd 1 .dead).upd 2 .dead = ofL [.perm, .dead, .dead, .live ⟨3, 74, insR rows [c0, c1, c2] i n⟩] := by
      rw [hH]; funext x; rcases x with _ | _ | _ | _ | x <;> rfl
    rw [hup] at C
    refine ⟨_, _, he, C.1, Ev.trans rel A.2 (Ev.trans A.1 B.2 C.2), ?_⟩
    have := R.sl (m := m.at 3 (w.heap.size, 0)) (h := ofL [.perm, .dead, .dead, .live ⟨3, 74, insR rows [c0, c1, c2] i n⟩]) (w := w') 3 0 (n + 1) ⟨3, 74, insR rows [c0, c1, c2] i n⟩ rfl 0 cap' (by simp only [hlen]; omega) hcap hcm (fun _ => by simp [Nm.at_same])
      (fun c2 e2 f2 hc2 hcap => by
        rw [Nm.at_same] at hc2 ⊢
        rw [hh, Array.getElem?_push_size] at hc2
        cases hc2
        simpa using hcs)
    rw [Nm.at_same] at this
    exact this
end Go.Proofs.Ytjmjnndmpeeppaa
