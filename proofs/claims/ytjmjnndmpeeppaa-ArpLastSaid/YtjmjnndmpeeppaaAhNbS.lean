/- Neighbours are written over. No condition but lengths. -/
import Derived.Test.YtjmjnndmpeeppaaSpoilQ
import Derived.Test.YtjmjnndmpeeppaaAhNbE
namespace Go.Proofs.Ytjmjnndmpeeppaa
open BigFrame
open Go.RowKit
set_option linter.unusedVariables false
set_option linter.unusedSimpArgs false
set_option maxRecDepth 100000
set_option maxHeartbeats 4000000

def NbSp (P : Nat → Prop) (w : World) (v : Value) : Prop :=
  v = .slice none 0 0 ∨ (∃ a, v = .slice (some a) 0 0) ∨ ∃ g off n cap cur e, v = .slice (some ⟨g, off, none⟩) n cap ∧ P g ∧ n ≤ cap ∧ cap ≤ maxLen ∧ n ≤ 1000 ∧ w.heap[g]? = some (.cells cur e (0, 0)) ∧ off + cap * 3 ≤ cur.size ∧ ∀ k, k < n * 3 → ∃ x, cur[off + k]? = some (.int .i64 x)
theorem NbSp.mono {D P : Nat → Prop} {w w' : World} {v : Value} (h : NbSp P w v) (s : Sp D P w w') : NbSp P w' v := by
  rcases h with h | h | ⟨g, off, n, cap, cur, e, rfl, hd, h1, h2, h3, h4, h5, h6⟩
  · exact .inl h
  · exact .inr (.inl h)
  · obtain ⟨c, a1, a2, a3⟩ := s.prt g hd cur e h4
    refine .inr (.inr ⟨g, off, n, cap, c, e, rfl, hd, h1, h2, h3, a1, by omega, fun k hk => ?_⟩)
    obtain ⟨x, hx⟩ := h6 k hk
    obtain ⟨v', b1, b2⟩ := a3 _ _ hx
    rcases b2 with rfl | ⟨k', x', y', e1, e2⟩ | ⟨p, n, q, e1, e2⟩
    · exact ⟨x, b1⟩
    · cases e1; exact ⟨y', by rw [b1, e2]⟩
    · cases e1
/-- one is appended, and what comes of it let go of -/
theorem wpList_append_nb {Pr : Program} (w : World) {ops : Array Oper} {rest : List Oper} {o : Oper} {a : Act} {Q : Exit → Act → World → Prop}
    (hg : o.guard = none) (s x : Operand) (t : TypeId) (hop : o.op = Op.call { callee := Callee.builtin Builtin.append, args := #[s, x], argTypes := #[t, t] })
    (e : TypeId) (i : TypeInfo) (z : Value) (h1 : Pr.underlying t = some (.slice e)) (h2 : Pr.info? e = some i) (h3 : i.zero = some z) (h4 : i.size = 3) (h5 : i.bytes = 24) (h6 : z.cells.size = 3)
    {P : Nat → Prop} {W : World} {v : Value} (hs : a.eval s = v) (hb : NbSp P w v) (hsp : Sq P W w)
    (ad : Addr) (c : Nat) (news : List Value) (hx : a.eval x = .slice (some ad) 1 c) (hn : news.length = 3) (hc : ∀ (j : Nat) (u : Value), news[j]? = some u → w.cell? (ad.add j) = some u) (h1c : ∀ u ∈ news, u.oneCell' = true)
    (hK : ∀ v' w', Sq P W w' → wpList Pr ops Q rest (a.put o.dst v') w') :
    wpList Pr ops Q (o :: rest) a w := by
  rcases hb with rfl | ⟨b, rfl⟩ | ⟨g, off, n, cap, cur, e', rfl, hd, c1, c2, c3, c4, c5, c6⟩
  · exact wpList_append_grows w hg s x t hop e i z 3 24 h1 h2 h3 h4 h5 h6 (by decide) none 0 0 [] hs (fun _ => ⟨rfl, rfl⟩) rfl (fun b hb => by cases hb) ad 1 c news hx hn hc h1c (by decide) (by unfold maxLen; omega) (by omega) fun v' w' _ hgr => hK v' w' (hsp.trans (.grown hgr))
  · exact wpList_append_grows w hg s x t hop e i z 3 24 h1 h2 h3 h4 h5 h6 (by decide) (some b) 0 0 [] hs (fun h => by cases h) rfl (fun b hb j u hu => by simp at hu) ad 1 c news hx hn hc h1c (by decide) (by unfold maxLen; omega) (by omega) fun v' w' _ hgr => hK v' w' (hsp.trans (.grown hgr))
  · have hcell : ∀ k, w.cell? ⟨g, k, none⟩ = cur[k]? := fun k => by simp [World.cell?, c4]
    refine wpList_append_arg w hg s x t hop e i z 3 24 h1 h2 h3 h4 h5 h6 (by decide) g off n cap ((cur.toList.drop off).take (n * 3)) hs (by simp; omega) (fun j u hu => ?_) ad 1 c news hx hn hc h1c (fun hr j hj => ?_) (by unfold maxLen at *; omega) (by omega) (fun hr => hK _ _ (hsp.trans (Sq.setCells hd _ _ _))) (fun _ v' w' _ hgr => hK v' w' (hsp.trans (.grown hgr)))
    · rw [hcell]
      rw [List.getElem?_take] at hu
      split at hu
      · rw [List.getElem?_drop] at hu
        simpa using hu
      · cases hu
    · rw [hcell]
      refine ⟨?_, by simp [World.frozen?, c4]⟩
      rw [Array.getElem?_eq_getElem (by omega)]; rfl
theorem info_nb : ((Try.prog).info? 74).map (fun i => (i.zero, i.size, i.bytes)) = some (some (.agg #[.int .i64 0, .int .i64 0, .int .i64 0]), 3, 24) := by kernel_rfl
theorem nbs_sp (P : Nat → Prop) (v : Value) (w : World) (h : NbSp P w v) : Calls Try.prog 44 #[v] w fun e w' => e = .returned (.tuple #[]) ∧ Sq P w w' := by
  obtain ⟨i0, hi, hz0, hz1, hz2⟩ := info_parts info_nb
  have HB := h
  have HS : Sq P w w := Sq.of (Sp.refl (fun _ => False) P w) (fun _ h => h.elim) (fun _ h => h)
  rcases h with rfl | ⟨a, rfl⟩ | ⟨g, off, n, cap, cur, e, rfl, hd, h1, h2, h3, h4, h5, h6⟩
  · go_enter Try.func44, Try.ntmps44
    go_wp2
    refine wp_loop_rounds 1 ?_
    rw [rounds_succ]
    go_wp2_with (at_builtin; refine wpList_append_nb _ rfl _ _ 59 rfl 74 i0 (.agg #[.int .i64 0, .int .i64 0, .int .i64 0]) Try.underlying59 hi hz0 hz1 hz2 rfl rfl (HB.mono (D := fun _ => False) (P := P) (Sp.alloc (Sp.refl _ _ _) _)) (HS.trans (Sq.of (Sp.alloc (Sp.refl (fun _ => False) P _) _) (fun _ h => h.elim) (fun _ h => h))) ⟨_, 0, none⟩ _ [.int .i64 0, .int .i64 0, .int .i64 0] rfl rfl (fun j u hu => by rw [add_none]; exact (cell_allocN _ _ _ _ _).trans (by rcases j with _ | _ | _ | j <;> first | exact hu | simp at hu)) (by simp [Value.oneCell']) ?_; intro v' w1 hsp1)
    go_wp2
    go_end0
    exact ⟨rfl, hsp1⟩
  · go_enter Try.func44, Try.ntmps44
    go_wp2
    refine wp_loop_rounds 1 ?_
    rw [rounds_succ]
    go_wp2_with (at_builtin; refine wpList_append_nb _ rfl _ _ 59 rfl 74 i0 (.agg #[.int .i64 0, .int .i64 0, .int .i64 0]) Try.underlying59 hi hz0 hz1 hz2 rfl rfl (HB.mono (D := fun _ => False) (P := P) (Sp.alloc (Sp.refl _ _ _) _)) (HS.trans (Sq.of (Sp.alloc (Sp.refl (fun _ => False) P _) _) (fun _ h => h.elim) (fun _ h => h))) ⟨_, 0, none⟩ _ [.int .i64 0, .int .i64 0, .int .i64 0] rfl rfl (fun j u hu => by rw [add_none]; exact (cell_allocN _ _ _ _ _).trans (by rcases j with _ | _ | _ | j <;> first | exact hu | simp at hu)) (by simp [Value.oneCell']) ?_; intro v' w1 hsp1)
    go_wp2
    go_end0
    exact ⟨rfl, hsp1⟩
  · have HH := hid h6
    have HSp : Hid (Sp (fun _ => False) P w w) := Sp.refl _ _ _
    clear h6 HB HS
    go_enter Try.func44, Try.ntmps44
    go_wp2
    go_loopw [2] (fun i wr => ∃ k : Nat, k ≤ n ∧ i = .int .i64 k ∧ Sp (fun _ => False) P w wr) (fun i _ => n - (intOf i).toNat)
    case atStart => exact ⟨0, Nat.zero_le _, rfl, HSp.out⟩
    case round =>
      obtain ⟨k, hk, rfl, hS⟩ := hrel
      clear HSp
      have HB : NbSp P wr (.slice (some ⟨g, off, none⟩) n cap) := NbSp.mono (.inr (.inr ⟨g, off, n, cap, cur, e, rfl, hd, h1, h2, h3, h4, h5, HH.out⟩)) hS
      by_cases hkn : k < n
      · obtain ⟨cur', x0, x1, x2, g1, y0, y1, y2⟩ : ∃ (cur' : Array Value) (x0 x1 x2 : Int), wr.heap[g]? = some (.cells cur' e (0, 0)) ∧ cur'[off + k * 3]? = some (.int .i64 x0) ∧ cur'[off + k * 3 + 1]? = some (.int .i64 x1) ∧ cur'[off + k * 3 + 2]? = some (.int .i64 x2) := by
          obtain ⟨c, a1, a2, a3⟩ := hS.prt g hd cur e h4
          have key : ∀ q, q < n * 3 → ∃ y, c[off + q]? = some (.int .i64 y) := fun q hq => by
            obtain ⟨y, hy⟩ := HH.out q hq
            obtain ⟨v', b1, b2⟩ := a3 _ _ hy
            rcases b2 with rfl | ⟨k', x', y', e1, e2⟩ | ⟨p, n, q, e1, e2⟩
            · exact ⟨y, b1⟩
            · cases e1; exact ⟨y', by rw [b1, e2]⟩
            · cases e1
          obtain ⟨p0, q0⟩ := key (k * 3) (by omega)
          obtain ⟨p1, q1⟩ := key (k * 3 + 1) (by omega)
          obtain ⟨p2, q2⟩ := key (k * 3 + 2) (by omega)
          exact ⟨c, p0, p1, p2, a1, q0, q1, q2⟩
        have cx0 : wr.cell? ⟨g, off + k * 3, none⟩ = some (.int .i64 x0) := by simp [World.cell?, g1, y0]
        have cx1 : wr.cell? ⟨g, off + k * 3 + 1, none⟩ = some (.int .i64 x1) := by simp [World.cell?, g1, y1]
        have cx2 : wr.cell? ⟨g, off + k * 3 + 2, none⟩ = some (.int .i64 x2) := by simp [World.cell?, g1, y2]
        have fx0 : wr.frozen? ⟨g, off + k * 3, none⟩ = false := by simp [World.frozen?, g1]
        have fx1 : wr.frozen? ⟨g, off + k * 3 + 1, none⟩ = false := by simp [World.frozen?, g1]
        have fx2 : wr.frozen? ⟨g, off + k * 3 + 2, none⟩ = false := by simp [World.frozen?, g1]
        have HS := hid hS
        have G1 := hid g1
        have Y0 := hid y0
        have Y1 := hid y1
        have Y2 := hid y2
        clear hS HB g1 h4 y0 y1 y2
        go_wp2
        go_roundw
        case rel =>
          have s1 := HS.out.setPart (fun _ h => h.elim) hd (off + k * 3) (.int .i64 (-9)) G1.out Y0.out (.inr (.inl ⟨_, _, _, rfl, rfl⟩))
          have g2 := heap_setCell_at (o := off + k * 3) G1.out (.int .i64 (-9))
          have s2 := s1.setPart (fun _ h => h.elim) hd (off + k * 3 + 1) (.int .i64 0) g2 (by rw [Array.getElem?_setIfInBounds_ne (by omega)]; exact Y1.out) (.inr (.inl ⟨_, _, _, rfl, rfl⟩))
          have g3 := heap_setCell_at (o := off + k * 3 + 1) g2 (.int .i64 0)
          have s3 := s2.setPart (fun _ h => h.elim) hd (off + k * 3 + 2) (.int .i64 0) g3 (by rw [Array.getElem?_setIfInBounds_ne (by omega), Array.getElem?_setIfInBounds_ne (by omega)]; exact Y2.out) (.inr (.inl ⟨_, _, _, rfl, rfl⟩))
          exact ⟨k + 1, by omega, by go_num, s3⟩
        case measure => simp [intOf]; omega
      · have HS : Sq P w wr := Sq.of hS (fun _ h => h.elim) (fun _ h => h)
        clear hS
        clear h4
        go_wp2_with (at_builtin; refine wpList_append_nb _ rfl _ _ 59 rfl 74 i0 (.agg #[.int .i64 0, .int .i64 0, .int .i64 0]) Try.underlying59 hi hz0 hz1 hz2 rfl rfl (HB.mono (D := fun _ => False) (P := P) (Sp.alloc (Sp.refl _ _ _) _)) (HS.trans (Sq.of (Sp.alloc (Sp.refl (fun _ => False) P _) _) (fun _ h => h.elim) (fun _ h => h))) ⟨_, 0, none⟩ _ [.int .i64 0, .int .i64 0, .int .i64 0] rfl rfl (fun j u hu => by rw [add_none]; exact (cell_allocN _ _ _ _ _).trans (by rcases j with _ | _ | _ | j <;> first | exact hu | simp at hu)) (by simp [Value.oneCell']) ?_; intro v' w1 hsp1)
        go_wp2
        go_end0
        exact ⟨rfl, hsp1⟩
theorem NbSp.ofR {m : Nm} {h : Hp} {w : World} (rel : Rel m h w) {r : Nat} (hr : h r = .uniq) {l : List Nb} (hx : l.length ≤ 1000) {v : Value} (hR : R m h w (.glist r 3 (l.map nbR)) v) : NbSp (m.set r) w v := by
  have lx : (l.map nbR).length = l.length := by simp
  rcases R.glist_inv (by rw [hr]; trivial) hR with ⟨_, rfl⟩ | ⟨_, a, rfl⟩ | ⟨g, off, cap, rfl, hg, hc, hm, hw, hz, f, hf, hRR⟩
  · exact .inl rfl
  · exact .inr (.inl ⟨a, rfl⟩)
  · rw [lx] at hc ⊢
    by_cases h0 : cap = 0
    · subst h0
      have : l.length = 0 := by omega
      rw [this]
      exact .inr (.inl ⟨_, rfl⟩)
    · obtain ⟨cur, e, hcur⟩ := rel.free r g hr hg
      have hs := hz h0 cur e (0, 0) hcur
      refine .inr (.inr ⟨g, off, l.length, cap, cur, e, rfl, hg, hc, hm, hx, hcur, by omega, fun k hk => ?_⟩)
      have hkl : k / 3 < l.length := by omega
      have hrow : (l.map nbR)[k / 3]? = some (nbR l[k / 3]) := by simp [hkl]
      have hj : k % 3 < 3 := Nat.mod_lt _ (by decide)
      have key : ∀ (j : Nat) (x : Int), k % 3 = j → (nbR l[k / 3])[j]? = some (.val (.int .i64 x)) → ∃ x, cur[off + k]? = some (.int .i64 x) := fun j x e1 e2 => by
        have h1 := hf (k / 3) j _ _ hrow e2
        have h2 := (hRR (k / 3) j _ _ hrow e2).val_inv
        rw [h2, show off + k / 3 * 3 + j = off + k by omega] at h1
        exact ⟨x, by simpa [World.cell?, hcur] using h1⟩
      rcases hk3 : k % 3 with _ | _ | _ | q
      · exact key 0 _ hk3 rfl
      · exact key 1 _ hk3 rfl
      · exact key 2 _ hk3 rfl
      · omega
theorem spNb_l (l : List Nb) (hx : l.length ≤ 1000) : ACallL Try.prog 44 [.glist 1 3 (l.map nbR)] [.perm, .uniq] (.tup []) [.perm, .dead] := by
  refine ⟨fun a w => Try.call44 a w, fun m w vs rel hl => ?_⟩
  obtain ⟨v, rfl⟩ : ∃ v, vs = #[v] := by
    obtain ⟨vs⟩ := vs
    match vs, hl.1 with
    | [v], _ => exact ⟨v, rfl⟩
  have hR := hl.2 0 _ v rfl rfl
  have hu : ofL [.perm, .uniq] 1 = .uniq := rfl
  refine (nbs_sp (m.set 1) v w (NbSp.ofR rel hu hx hR)).mono fun e w' ⟨he, S⟩ => ?_
  obtain ⟨r1, r2⟩ := rel.spoilQ (ofL [.perm, .dead]) (fun id => by rcases id with _ | _ | id <;> first | exact .inl rfl | exact .inr ⟨rfl, rfl⟩) (fun g hg => ⟨1, rfl, rfl, hg⟩) S
  exact ⟨_, m, he, r1, r2, R.tup0⟩
/-- .. one's own -/
theorem spNbS_l (l : List Nb) (n : Nat) (hn : n = l.length) (hx : l.length ≤ 1000) : ACallL Try.prog 44 [.sl 1 0 n] [.perm, .live ⟨3, 74, l.map nbR⟩] (.tup []) [.perm, .dead] := by
  subst hn
  refine ACallL.of_ev mixed Try.func44 rfl (fun a w => Try.call44 a w) (congrArg Array.toList Try.results44) Try.ntmps44 fun B hB => ?_
  ((conv => whnf); (repeat' ((first | (with_reducible refine qif_n ?_) | (with_reducible refine qif_t (by assumption) ?_) | (with_reducible refine qif_f (by assumption) ?_) | ((with_reducible refine qif_t ?_ ?_); focus decide) | ((with_reducible refine qif_f ?_ ?_); focus decide) | (with_reducible refine And.intro (orderOk_i ?ho) ?_; (case ho => kernel_rfl)) | (with_reducible refine qif_i (fun _ => ?_) (fun _ => ?_)) | (with_reducible refine frcVs_i ?_) | (with_reducible refine frcRs_i ?_)) <;> (conv => whnf))))
  refine qAW.loopE mixed (X := Nat) (fun k => slotsOf 17 [(0, .sl 1 0 l.length), (2, .val (.int .i64 k))]) (fun k => [.perm, .live ⟨3, 74, (List.replicate k ((-9, 0, 0) : Nb) ++ l.drop k).map nbR⟩])
    (fun k => k ≤ l.length) (fun k => l.length - k) 0 (Nat.zero_le _) ?_ ?_
  · (refine qConv.of hB [(1, 1)] [(0, 0)] [] (by rfl) ?_; focus ((conv => whnf); (repeat (refine And.intro ?_ ?_; rotate_left; (conv => whnf))); exact trivial; all_goals (try (first | (with_reducible rfl) | (refine RowsRen.pl rfl rfl ?_; first | assumption | (focus (unfold PlRows; (repeat (first | exact .val _ | assumption | exact .any | (refine .agg _ ?_) | (refine .tup _ ?_) | (refine .list _ _ ?_) | (refine PlRows.mapF _ _ fun _ _ => ?_) | (simp only [List.forall_mem_cons]) | (refine ⟨?_, ?_⟩) | (exact fun _ h => absurd h List.not_mem_nil))); done)) | (focus (refine PlRows.mapF _ _ fun _ _ => ?_; (repeat (first | exact .val _ | assumption | exact .any | (refine .agg _ ?_) | (refine .tup _ ?_) | (refine .list _ _ ?_) | (refine PlRows.mapF _ _ fun _ _ => ?_) | (simp only [List.forall_mem_cons]) | (refine ⟨?_, ?_⟩) | (exact fun _ h => absurd h List.not_mem_nil))); done)))))))
    all_goals first | rfl | exact RowsRen.vals rfl (ones_vals l) | skip
  · rintro E k hk hE
    have w := IntWalk.i64_in (k + 1) (by omega)
    by_cases hlt : k < l.length
    · have hlen : (List.replicate k ((-9, 0, 0) : Nb) ++ l.drop k).length = l.length := by simp; omega
      obtain ⟨row, hrow⟩ : ∃ row, ((List.replicate k ((-9, 0, 0) : Nb) ++ l.drop k).map nbR)[k]? = some (nbR row) := ⟨l[k], by rw [List.getElem?_map, List.getElem?_append_right (by simp)]; simp [hlt]⟩
      have hset : ((List.replicate k ((-9, 0, 0) : Nb) ++ l.drop k).map nbR).set k (nR (-9) 0 0) = (List.replicate (k + 1) ((-9, 0, 0) : Nb) ++ l.drop (k + 1)).map nbR := by
        rw [show nR (-9) 0 0 = nbR (-9, 0, 0) from rfl, ← List.map_set]
        congr 1
        rw [List.set_append_right _ _ (by simp), List.length_replicate, Nat.sub_self, List.drop_eq_getElem_cons hlt, List.set_cons_zero, List.replicate_succ', List.append_assoc]
        rfl
      have e1 : 0 + (k : Int).toNat = k := by omega
      subst hE
      ((conv => whnf); (repeat' ((first | (with_reducible refine qif_n ?_) | (with_reducible refine qif_t (by assumption) ?_) | (with_reducible refine qif_f (by assumption) ?_) | ((with_reducible refine qif_t ?_ ?_); focus decide) | ((with_reducible refine qif_f ?_ ?_); focus decide) | (with_reducible refine And.intro (orderOk_i ?ho) ?_; (case ho => kernel_rfl)) | ((with_reducible refine qif_t ?_ ?_); focus (simp [hlt]; done)) | ((with_reducible refine qif_f ?_ ?_); focus (simp [hlt]; done)) | (with_reducible refine qif_i (fun _ => ?_) (fun _ => ?_)) | (with_reducible refine frcVs_i ?_) | (with_reducible refine frcRs_i ?_) | (refine qCase_i (idxS rfl rfl rfl rfl rfl rfl rfl rfl (by omega)) ?_) | (refine qCase_i (stR' rfl rfl rfl rfl (by with_reducible exact e1) hrow rfl rfl (Nat.le_of_ble_eq_true rfl)) ?_)) <;> (conv => whnf))))
      refine ⟨k + 1, by omega, by omega, ?_⟩
      (refine qConv.of hB [(1, 1)] [(0, 0)] [] (by rfl) ?_; focus ((conv => whnf); (repeat (refine And.intro ?_ ?_; rotate_left; (conv => whnf))); exact trivial; all_goals (try (first | (with_reducible rfl) | (refine RowsRen.pl rfl rfl ?_; first | assumption | (focus (unfold PlRows; (repeat (first | exact .val _ | assumption | exact .any | (refine .agg _ ?_) | (refine .tup _ ?_) | (refine .list _ _ ?_) | (refine PlRows.mapF _ _ fun _ _ => ?_) | (simp only [List.forall_mem_cons]) | (refine ⟨?_, ?_⟩) | (exact fun _ h => absurd h List.not_mem_nil))); done)) | (focus (refine PlRows.mapF _ _ fun _ _ => ?_; (repeat (first | exact .val _ | assumption | exact .any | (refine .agg _ ?_) | (refine .tup _ ?_) | (refine .list _ _ ?_) | (refine PlRows.mapF _ _ fun _ _ => ?_) | (simp only [List.forall_mem_cons]) | (refine ⟨?_, ?_⟩) | (exact fun _ h => absurd h List.not_mem_nil))); done)))))))
      all_goals first | rfl | (simp [w]; done) | exact RowsRen.vals hset (ones_vals _) | skip
    · have hkl : k = l.length := by omega
      subst hkl
      have hd : (List.replicate l.length ((-9, 0, 0) : Nb) ++ l.drop l.length).map nbR = (List.replicate l.length ((-9, 0, 0) : Nb)).map nbR := by simp
      rw [hd]
      obtain ⟨L, hL⟩ : ∃ L, List.replicate l.length ((-9, 0, 0) : Nb) = L := ⟨_, rfl⟩
      have hLl : l.length = L.length := by rw [← hL]; simp
      rw [hL]
      subst hE
      ((conv => whnf); (repeat' ((first | (with_reducible refine qif_n ?_) | (with_reducible refine qif_t (by assumption) ?_) | (with_reducible refine qif_f (by assumption) ?_) | ((with_reducible refine qif_t ?_ ?_); focus decide) | ((with_reducible refine qif_f ?_ ?_); focus decide) | (with_reducible refine And.intro (orderOk_i ?ho) ?_; (case ho => kernel_rfl)) | ((with_reducible refine qif_t ?_ ?_); focus (simp [hlt]; done)) | ((with_reducible refine qif_f ?_ ?_); focus (simp [hlt]; done)) | (with_reducible refine qif_i (fun _ => ?_) (fun _ => ?_)) | (with_reducible refine frcVs_i ?_) | (with_reducible refine frcRs_i ?_) | (refine qCase_i (apS1 (nb := 24) rfl rfl rfl rfl rfl rfl rfl rfl rfl rfl ⟨Nat.zero_lt_succ _, Nat.zero_lt_succ _, rfl⟩ rfl ⟨rfl, rfl, by simpa using hLl⟩ (ones_nbs L) (by omega)) ?_)) <;> (conv => whnf))))
      (refine qConv.of hB [] [(0, 0)] [] (by rfl) ?_; focus ((conv => whnf); (repeat (refine And.intro ?_ ?_; rotate_left; (conv => whnf))); exact trivial; all_goals (try (first | (with_reducible rfl) | (refine RowsRen.pl rfl rfl ?_; first | assumption | (focus (unfold PlRows; (repeat (first | exact .val _ | assumption | exact .any | (refine .agg _ ?_) | (refine .tup _ ?_) | (refine .list _ _ ?_) | (refine PlRows.mapF _ _ fun _ _ => ?_) | (simp only [List.forall_mem_cons]) | (refine ⟨?_, ?_⟩) | (exact fun _ h => absurd h List.not_mem_nil))); done)) | (focus (refine PlRows.mapF _ _ fun _ _ => ?_; (repeat (first | exact .val _ | assumption | exact .any | (refine .agg _ ?_) | (refine .tup _ ?_) | (refine .list _ _ ?_) | (refine PlRows.mapF _ _ fun _ _ => ?_) | (simp only [List.forall_mem_cons]) | (refine ⟨?_, ?_⟩) | (exact fun _ h => absurd h List.not_mem_nil))); done)))))))
end Go.Proofs.Ytjmjnndmpeeppaa
