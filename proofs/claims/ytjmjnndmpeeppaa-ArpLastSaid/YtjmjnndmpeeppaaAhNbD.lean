/- slices.Delete of one neighbour: walked once, over the cells of the block. Condition: the place is one of the slice. -/
import Derived.Test.YtjmjnndmpeeppaaAhArpW
import Derived.Lib.SliceRun
import Derived.Deep.RegionLaw
import Derived.Laws.CopyRow
namespace Go.Proofs.Ytjmjnndmpeeppaa
open Go.RowKit
set_option linter.unusedVariables false
set_option linter.unusedSimpArgs false
set_option maxRecDepth 100000
set_option maxHeartbeats 4000000

/-- append where there is room, as one step of a region that draws: the row's cells written over. -/
theorem step_append_at {P : Program} {ops : Array Oper} {o : Oper} {a : Act} {w : World} {K : Act → World → Prop} {Q : Exit → Act → World → Prop} {E : Prop}
    (hg : o.guard = none) (s x : Operand) (t : TypeId) (hop : o.op = Op.call { callee := Callee.builtin Builtin.append, args := #[s, x], argTypes := #[t, t] })
    (e e0 : TypeId) (i : TypeInfo) (h1 : P.underlying t = some (.slice e)) (h2 : P.info? e = some i)
    (b off n cap : Nat) (cur : Array Value) (hb : w.heap[b]? = some (.cells cur e0 (0, 0))) (hs : a.eval s = .slice (some ⟨b, off, none⟩) n cap)
    (ad : Addr) (m c : Nat) (news : List Value) (hx : a.eval x = .slice (some ad) m c) (hn : news.length = m * i.size) (hc : ∀ j u, news[j]? = some u → w.cell? (ad.add j) = some u) (h1c : ∀ u ∈ news, u.oneCell' = true)
    (hroom : n + m ≤ cap) (hfit : off + n * i.size + news.length ≤ cur.size)
    (hK : K (a.put o.dst (.slice (some ⟨b, off, none⟩) (n + m) cap)) (w.setRow b (cur.toList.take (off + n * i.size) ++ news ++ cur.toList.drop (off + n * i.size + news.length)).toArray)) :
    if Region.wanted o (yielded ops a.tmps) = true then Oper.wp P o a w K Q else E := by
  have hw : Region.wanted o (yielded ops a.tmps) = true := by simp [Region.wanted, hg]
  rw [if_pos hw]
  have hrun := run_append_at' (P := P) w t t o.type e e0 i h1 h1 h2 b off n cap cur hb ad m c news hn hc h1c hroom hfit
  unfold Oper.wp
  simp only [execOp, hop, resolve, invoke, builtin, List.map_toArray, List.map_cons, List.map_nil, hs, hx, Sem.run_bind, Sem.run_pure, Result.andThen_ok, hrun]
  exact hK
/-- clear of a slice of rows -/
theorem run_clear_row {P : Program} (w : World) (t e ty : TypeId) (z : Value) (zs : List Value) (ht : P.underlying t = some (.slice e)) (hv : ∀ w, (zeroValue e).run P w = .ok z w) (b o n c : Nat) (hn : 0 < n) (hz : (Builtin.zeroCells z.cells n).toList = zs) (h1 : ∀ v ∈ zs, v.oneCell' = true) (e0 : TypeId) (cur : Array Value) (hb : w.heap[b]? = some (.cells cur e0 (0, 0)))
    (hfit : o + zs.length ≤ cur.size) :
    (Builtin.clear_ #[t] ty #[.slice (some ⟨b, o, none⟩) n c]).run P w = .ok (.tuple #[]) (w.setRow b (cur.toList.take o ++ zs ++ cur.toList.drop (o + zs.length)).toArray) := by
  have hst := run_storeCells_at P b o e0 zs 0 cur w hb (by simpa using hfit) h1
  simp only [Nat.add_zero] at hst
  obtain ⟨m, rfl⟩ : ∃ m, n = m + 1 := ⟨n - 1, by omega⟩
  simp [Builtin.clear_, run_underlying ht, hv, hz, hst]
/-- what the cells are behind the deletion -/
def delC (zs cur : List Value) (off sz i n : Nat) : List Value := cur.take (off + i * sz) ++ (cur.drop (off + (i + 1) * sz)).take ((n - 1 - i) * sz) ++ zs ++ cur.drop (off + n * sz)
abbrev zN : List Value := [.int .i64 0, .int .i64 0, .int .i64 0]
theorem delete_w (g off n cap i j : Nat) (cur : Array Value) (e0 : TypeId) (w : World) (hg : w.heap[g]? = some (.cells cur e0 (0, 0))) (hj : j = i + 1) (hi : i < n) (hnc : n ≤ cap) (hm : cap ≤ 9223372036854775807) (hfit : off + n * 3 ≤ cur.size)
    (h1 : ∀ (k : Nat) v, off ≤ k → k < off + n * 3 → cur[k]? = some v → v.oneCell' = true) :
    Calls Try.prog 63 #[.slice (some ⟨g, off, none⟩) n cap, .int .i64 i, .int .i64 j] w fun e w' =>
      e = .returned (.slice (some ⟨g, off, none⟩) (n - 1) cap) ∧ w' = w.drew.setRow g (delC zN cur.toList off 3 i n).toArray := by
  obtain ⟨i0, hi0, hz0, hz1⟩ : ∃ q, (Try.prog).info? 74 = some q ∧ q.zero = some (.agg #[.int .i64 0, .int .i64 0, .int .i64 0]) ∧ q.size = 3 := by
    have : ((Try.prog).info? 74).map (fun q => (q.zero, q.size)) = some (some (.agg #[.int .i64 0, .int .i64 0, .int .i64 0]), 3) := by kernel_rfl
    simp only [Option.map_eq_some_iff, Prod.mk.injEq] at this
    obtain ⟨q, h1, h2, h3⟩ := this
    exact ⟨q, h1, h2, h3⟩
  have ht := Try.underlying59
  have hv : ∀ w, (zeroValue 74).run Try.prog w = .ok (.agg #[.int .i64 0, .int .i64 0, .int .i64 0]) w := fun w => by simp [zeroValue, typeInfo, hi0, hz0]
  have hu := fun w => run_underlying (w := w) ht
  obtain ⟨news, hnews⟩ : ∃ news, news = (cur.toList.drop (off + (i + 1) * 3)).take ((n - 1 - i) * 3) := ⟨_, rfl⟩
  have hlen : news.length = (n - j) * 3 := by rw [hnews]; simp; omega
  have hget : ∀ t u, news[t]? = some u → t < (n - j) * 3 ∧ cur[off + (i + 1) * 3 + t]? = some u := by
    intro t u hu
    have hlt := (List.getElem?_eq_some_iff.1 hu).1
    rw [hnews, List.getElem?_take, if_pos (by omega), List.getElem?_drop] at hu
    exact ⟨by omega, by simpa using hu⟩
  obtain ⟨A, hA, hsrc⟩ : ∃ A : Addr, (if cap = j then some (⟨g, off, none⟩ : Addr) else some ⟨g, off + j * 3, none⟩) = some A ∧ Hid (∀ t u, news[t]? = some u → w.drew.cell? (A.add t) = some u) := by
    by_cases h : cap = j
    · refine ⟨⟨g, off, none⟩, by simp [h], fun t u hu => ?_⟩
      have := hget t u hu
      omega
    · refine ⟨⟨g, off + j * 3, none⟩, by simp [h], fun t u hu => ?_⟩
      have := hget t u hu
      rw [add_none]
      show w.cell? _ = _
      rw [hj]
      simp [World.cell?, hg, this.2]
  have s1 : Hid (news.length = (n - j) * i0.size) := by rw [hz1]; exact hlen
  have s2 : Hid (∀ u ∈ news, u.oneCell' = true) := by
    intro u hu
    obtain ⟨t, ht'⟩ := List.getElem?_of_mem hu
    have := hget t u ht'
    exact h1 _ u (by omega) (by omega) this.2
  have s3 : Hid (off + i * i0.size + news.length ≤ cur.size) := by rw [hz1, hlen]; show _ ≤ _; omega
  have hgd : w.drew.heap[g]? = some (.cells cur e0 (0, 0)) := hg
  obtain ⟨c1, hc1⟩ : ∃ c1, c1 = (cur.toList.take (off + i * i0.size) ++ news ++ cur.toList.drop (off + i * i0.size + news.length)).toArray := ⟨_, rfl⟩
  obtain ⟨W1, hW1⟩ : ∃ W1, W1 = w.drew.setRow g c1 := ⟨_, rfl⟩
  have hcs : c1.size = cur.size := by rw [hc1]; simp [hlen, hz1]; omega
  have hgW : W1.heap[g]? = some (.cells c1 e0 (0, 0)) := by rw [hW1]; exact setRow_heap_same _ _ _ cur _ hg
  have e1 : i + (n - j) = n - 1 := by omega
  have hcl : ∀ ty cc, (Builtin.clear_ #[59] ty #[.slice (some ⟨g, off + (n - 1) * 3, none⟩) 1 cc]).run Try.prog W1 = .ok (.tuple #[]) (W1.setRow g (c1.toList.take (off + (n - 1) * 3) ++ zN ++ c1.toList.drop (off + (n - 1) * 3 + zN.length)).toArray) :=
    fun ty cc => run_clear_row W1 _ _ ty _ zN ht hv g (off + (n - 1) * 3) 1 cc (by decide) (by kernel_rfl) (by simp [Value.oneCell']) e0 c1 hgW (by simp; omega)
  have hne : ¬ ((i : Int) = (j : Int)) := by omega
  have hjn : j ≤ n := by omega
  have hij : i ≤ j := by omega
  have hic : i ≤ cap := by omega
  have hjc : j ≤ cap := by omega
  have X : Hid (W1 = w.drew.setRow g c1) := hW1
  have hW : Hid (W1 = w.drew.setRow g (cur.toList.take (off + i * i0.size) ++ news ++ cur.toList.drop (off + i * i0.size + news.length)).toArray) := by unfold Hid; rw [hW1, hc1]
  have hn1 : n - (n - 1) = 1 := by omega
  have hn2 : n - 1 ≤ n := by omega
  have hn3 : n - 1 ≤ cap := by omega
  have hn4 : ¬ (cap = n - 1) := by omega
  have s4 : Hid (i + (n - j) ≤ cap) := by unfold Hid; omega
  have s5 : Hid (j = i + 1) := hj
  have s6 : Hid (c1 = (cur.toList.take (off + i * i0.size) ++ news ++ cur.toList.drop (off + i * i0.size + news.length)).toArray) := hc1
  have s7 : Hid (news = (cur.toList.drop (off + (i + 1) * 3)).take ((n - 1 - i) * 3)) := hnews
  clear hget hlen hW1 hj hc1 hnews
  go_enter Try.func63, Try.ntmps63
  go_wp2_with fail
  go_region_law (refine step_append_at rfl (.tmp 22) (.tmp 25) 59 rfl 74 e0 i0 ht hi0 g off i cap cur hgd (by simp [Act.eval, Act.put]) A (n - j) (cap - j) news (by simp [Act.eval, Act.put]) s1.out hsrc.out s2.out s4.out s3.out ?_; rw [← hW.out])
  go_wp2
  go_ret
  refine ⟨rfl, ?_⟩
  have e5 := s5.out
  show W1.setRow g _ = _
  rw [X.out, setRow_setRow]
  congr 2
  have e6 := s6.out
  have e7 := s7.out
  have hnl : news.length = (n - 1 - i) * 3 := by have := s1.out; rw [hz1] at this; omega
  rw [hz1, hnl] at e6
  have hal : (cur.toList.take (off + i * 3) ++ news).length = off + (n - 1) * 3 := by simp [hnl]; omega
  have hdl : cur.toList.drop (off + i * 3 + (n - 1 - i) * 3) = cur.toList.drop (off + (n - 1) * 3) := by congr 1; omega
  have ht1 : c1.toList.take (off + (n - 1) * 3) = cur.toList.take (off + i * 3) ++ news := by rw [e6]; exact List.take_left' hal
  have ht2 : c1.toList.drop (off + (n - 1) * 3 + 3) = cur.toList.drop (off + n * 3) := by
    rw [← List.drop_drop, e6, List.drop_left' hal, hdl, List.drop_drop]; congr 1; omega
  rw [ht1, ht2, delC, ← e7]
  simp
theorem delC_get (zs cur : List Value) (off sz i n k : Nat) (hz : zs.length = sz) (hi : i < n) (hf : off + n * sz ≤ cur.length) :
    (delC zs cur off sz i n)[k]? = if k < off + i * sz then cur[k]? else if k < off + (n - 1) * sz then cur[k + sz]? else if k < off + n * sz then zs[k - (off + (n - 1) * sz)]? else cur[k]? := by
  have m1 : (i + 1) * sz = i * sz + sz := by rw [Nat.add_mul, Nat.one_mul]
  have m2 : (n - 1) * sz = i * sz + (n - 1 - i) * sz := by rw [← Nat.add_mul]; congr 1; omega
  have m3 : n * sz = (n - 1) * sz + sz := by rw [← Nat.succ_mul]; congr 1; omega
  have l1 : (cur.take (off + i * sz)).length = off + i * sz := by simp; omega
  have l2 : ((cur.drop (off + (i + 1) * sz)).take ((n - 1 - i) * sz)).length = (n - 1 - i) * sz := by simp; omega
  unfold delC
  by_cases h1 : k < off + i * sz
  · rw [if_pos h1, List.append_assoc, List.append_assoc, List.getElem?_append_left (by omega), List.getElem?_take, if_pos h1]
  · rw [if_neg h1, List.append_assoc, List.append_assoc, List.getElem?_append_right (by omega), l1]
    by_cases h2 : k < off + (n - 1) * sz
    · rw [if_pos h2, List.getElem?_append_left (by omega), List.getElem?_take, if_pos (by omega), List.getElem?_drop]
      congr 1; omega
    · rw [if_neg h2, List.getElem?_append_right (by omega), l2]
      by_cases h3 : k < off + n * sz
      · rw [if_pos h3, List.getElem?_append_left (by omega)]
        congr 1; omega
      · rw [if_neg h3, List.getElem?_append_right (by omega), List.getElem?_drop]
        congr 1; omega
abbrev zR : List AV := [.val (.int .i64 0), .val (.int .i64 0), .val (.int .i64 0)]
/-- slices.Delete of one, in a block of one's own -/
theorem delete_l (rows : List (List AV)) (n i : Nat) (hn : n = rows.length) (hi : i < n) (hone : ∀ row ∈ rows, ∀ c ∈ row, c.one = true) :
    ACallL Try.prog 63 [.sl 1 0 n, .val (.int .i64 i), .val (.int .i64 ((i : Int) + 1))] [.perm, .live ⟨3, 74, rows⟩] (.sl 1 0 (n - 1)) [.perm, .live ⟨3, 74, rows.eraseIdx i ++ [zR]⟩] := by
  refine ⟨fun a w => Try.call63 a w, fun m w vs rel hl => ?_⟩
  obtain ⟨v0, v1, v2, rfl⟩ : ∃ v0 v1 v2, vs = #[v0, v1, v2] := by
    obtain ⟨vs⟩ := vs
    match vs, hl.1 with
    | [a, b, c], _ => exact ⟨a, b, c, rfl⟩
  have hR := hl.2 0 _ v0 rfl rfl
  have e1 := (hl.2 1 _ v1 rfl rfl).val_inv
  have e2 := (hl.2 2 _ v2 rfl rfl).val_inv
  subst e1 e2
  have hk : ofL [.perm, .live ⟨3, 74, rows⟩] 1 = .live ⟨3, 74, rows⟩ := rfl
  obtain ⟨cur, hg, hfit, hrows, hcells⟩ := rel.own 1 _ hk
  dsimp only at hfit hrows hcells hg
  cases hR with
  | slD _ _ _ _ hd _ => rw [hk] at hd; cases hd
  | sl _ _ _ k' hb off cap hn' hc hm ho hz =>
    rw [hk] at hb; cases hb
    have hoff := ho (by omega)
    simp only [Nat.zero_mul, Nat.add_zero] at hoff
    have hat : ∀ q : Nat, (m.pl 1).2 ≤ q → q < (m.pl 1).2 + n * 3 → ∃ (a b : Nat) (row : List AV) (c : AV), q = (m.pl 1).2 + a * 3 + b ∧ a < n ∧ b < 3 ∧ rows[a]? = some row ∧ row[b]? = some c := fun q h1 h2 => by
      have ha : (q - (m.pl 1).2) / 3 < rows.length := by omega
      have hr := hrows _ (List.getElem_mem ha)
      exact ⟨(q - (m.pl 1).2) / 3, (q - (m.pl 1).2) % 3, _, _, by omega, by omega, by omega, List.getElem?_eq_getElem ha, List.getElem?_eq_getElem (by rw [hr]; omega)⟩
    have h1c : ∀ (q : Nat) v, (m.pl 1).2 ≤ q → q < (m.pl 1).2 + n * 3 → cur[q]? = some v → v.oneCell' = true := fun q v h1 h2 h3 => by
      obtain ⟨a, b, row, c, rfl, _, _, hr, hc⟩ := hat q h1 h2
      obtain ⟨v', g1, g2⟩ := hcells a b row c hr hc
      rw [h3] at g1; cases g1
      exact g2.one (hone row (List.mem_of_getElem? hr) c (List.mem_of_getElem? hc))
    subst hoff
    have hm' : cap ≤ 9223372036854775807 := hm
    have hD := delete_w (m.pl 1).1 (m.pl 1).2 n cap i (i + 1) cur _ w hg rfl hi hc hm' (by omega) h1c
    rw [show ((i + 1 : Nat) : Int) = (i : Int) + 1 by omega] at hD
    refine hD.mono fun e w' ⟨he, hw⟩ => ?_
    have hsz : (delC zN cur.toList (m.pl 1).2 3 i n).length = cur.size := by
      have l2 : ((cur.toList.drop ((m.pl 1).2 + (i + 1) * 3)).take ((n - 1 - i) * 3)).length = (n - 1 - i) * 3 := by simp; omega
      simp only [delC, List.length_append, l2]
      simp
      omega
    have hel : (rows.eraseIdx i).length = n - 1 := by rw [List.length_eraseIdx, if_pos (by omega), hn]
    have key := rel.write (w' := w') hk cur (delC zN cur.toList (m.pl 1).2 3 i n).toArray hg (rows.eraseIdx i ++ [zR]) (by rw [hw]; exact setRow_heap_same _ _ _ cur _ hg) (by simpa using hsz) (by rw [hw]; simp)
      (fun g hne => by rw [hw]; exact setRow_other _ _ _ _ hne) (by rw [hw]; rfl) (by rw [hw]; rfl) (by rw [hw]; rfl) (by simp [hel]; omega) (by simp [hel]; omega)
      (fun row hr => by
        rcases List.mem_append.1 hr with h | h
        · exact hrows row (List.mem_of_mem_eraseIdx h)
        · rw [List.mem_singleton.1 h]; rfl)
      (fun a b row c h1 h2 => by
        have hb3 : b < 3 := by
          have hm3 : row.length = 3 := by
            rcases List.mem_append.1 (List.mem_of_getElem? h1) with h | h
            · exact hrows row (List.mem_of_mem_eraseIdx h)
            · rw [List.mem_singleton.1 h]; rfl
          have := (List.getElem?_eq_some_iff.1 h2).1
          omega
        dsimp only
        rw [List.getElem?_toArray, delC_get zN cur.toList _ 3 i n _ rfl hi (by simp; omega)]
        by_cases ha : a < n - 1
        · rw [List.getElem?_append_left (by omega), List.getElem?_eraseIdx] at h1
          by_cases hai : a < i
          · rw [if_pos hai] at h1
            rw [if_pos (by omega)]
            simpa using hcells a b row c h1 h2
          · rw [if_neg hai] at h1
            rw [if_neg (by omega), if_pos (by omega), show (m.pl 1).2 + a * 3 + b + 3 = (m.pl 1).2 + (a + 1) * 3 + b by omega]
            simpa using hcells (a + 1) b row c h1 h2
        · have hlt := (List.getElem?_eq_some_iff.1 h1).1
          simp only [List.length_append, List.length_singleton, hel] at hlt
          have ha2 : a = n - 1 := by omega
          subst ha2
          rw [List.getElem?_append_right (by omega), hel, Nat.sub_self] at h1
          cases h1
          rw [if_neg (by omega), if_neg (by omega), if_pos (by omega), show (m.pl 1).2 + (n - 1) * 3 + b - ((m.pl 1).2 + (n - 1) * 3) = b by omega]
          rcases b with _ | _ | _ | b
          · cases h2; exact ⟨_, rfl, .val _⟩
          · cases h2; exact ⟨_, rfl, .val _⟩
          · cases h2; exact ⟨_, rfl, .val _⟩
          · omega)
    have hup : (ofL [.perm, .live ⟨3, 74, rows⟩]).upd 1 (.live { (⟨3, 74, rows⟩ : Blk) with rows := rows.eraseIdx i ++ [zR] }) = ofL [.perm, .live ⟨3, 74, rows.eraseIdx i ++ [zR]⟩] := by
      funext x; rcases x with _ | _ | x <;> rfl
    rw [hup] at key
    refine ⟨_, m, he, key.1, key.2, ?_⟩
    have := R.sl (m := m) (h := ofL [.perm, .live ⟨3, 74, rows.eraseIdx i ++ [zR]⟩]) (w := w') 1 0 (n - 1) ⟨3, 74, rows.eraseIdx i ++ [zR]⟩ rfl (m.pl 1).2 cap (by simp [hel]) (by omega) hm (fun _ => by simp)
      (fun c2 e2 f2 hc2 hcap => by
        rw [hw, setRow_heap_same w.drew _ _ cur _ hg] at hc2
        cases hc2
        have := hz cur _ _ hg hcap
        simpa [hsz] using this)
    exact this
end Go.Proofs.Ytjmjnndmpeeppaa
