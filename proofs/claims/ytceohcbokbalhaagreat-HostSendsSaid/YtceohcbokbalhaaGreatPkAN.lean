/- Contracts and plain laws, one behind the other: AhHoD, AhHoO, AhHoS, AhHoF, AhHoI. Conditions are said at each. -/
import Derived.Test.YtceohcbokbalhaaGreatPkAM
import Derived.Lib.SliceRun
import Derived.Deep.RegionLaw
import Derived.Laws.CopyRow
/- slices.Delete of one connection: walked once, over the cells of the block. Condition: the place is one of the slice. -/
namespace Go.Proofs.YtceohcbokbalhaaGreat
open Go.RowKit
set_option linter.unusedVariables false
set_option linter.unusedSimpArgs false
set_option maxRecDepth 100000
set_option maxHeartbeats 4000000
theorem step_append_at {P : Program} {ops : Array Oper} {o : Oper} {a : Go.Act} {w : World} {K : Go.Act → World → Prop} {Q : Exit → Go.Act → World → Prop} {E : Prop}
    (hg : o.guard = none) (s x : Operand) (t : TypeId) (hop : o.op = Op.call { callee := Callee.builtin Builtin.append, args := #[s, x], argTypes := #[t, t] })
    (e e0 : TypeId) (i : TypeInfo) (h1 : P.underlying t = some (.slice e)) (h2 : P.info? e = some i)
    (b off n cap : Nat) (cur : Array Value) (hb : w.heap[b]? = some (.cells cur e0 (0, 0))) (hs : a.eval s = .slice (some ⟨b, off, none⟩) n cap)
    (ad : Addr) (m c : Nat) (news : List Value) (hx : a.eval x = .slice (some ad) m c) (hn : news.length = m * i.size) (hc : ∀ j u, news[j]? = some u → w.cell? (ad.add j) = some u) (h1c : ∀ u ∈ news, u.oneCell' = true)
    (hroom : n + m ≤ cap) (hfit : off + n * i.size + news.length ≤ cur.size)
    (hK : K (a.put o.dst (.slice (some ⟨b, off, none⟩) (n + m) cap)) (w.setRow b (cur.toList.take (off + n * i.size) ++ news ++ cur.toList.drop (off + n * i.size + news.length)).toArray)) :
    if Region.wanted o (yielded ops a.tmps) = true then Oper.wp P o a w K Q else E := by
  have hw : Region.wanted o (yielded ops a.tmps) = true := by simp [Region.wanted, hg]
  rw [if_pos hw]
  have hrun := run_append_at' (P := P) w t t o.type e e0 i h1 h1 h2 b off n cap cur hb ad m c news hn hc h1c hroom hfit
  unfold Oper.wp
  simp only [execOp, hop, resolve, invoke, builtin, List.map_toArray, List.map_cons, List.map_nil, hs, hx, Sem.run_bind, Sem.run_pure, Result.andThen_ok, hrun]
  exact hK
theorem run_clear_row {P : Program} (w : World) (t e ty : TypeId) (z : Value) (zs : List Value) (ht : P.underlying t = some (.slice e)) (hv : ∀ w, (zeroValue e).run P w = .ok z w) (b o n c : Nat) (hn : 0 < n) (hz : (Builtin.zeroCells z.cells n).toList = zs) (h1 : ∀ v ∈ zs, v.oneCell' = true) (e0 : TypeId) (cur : Array Value) (hb : w.heap[b]? = some (.cells cur e0 (0, 0)))
    (hfit : o + zs.length ≤ cur.size) :
    (Builtin.clear_ #[t] ty #[.slice (some ⟨b, o, none⟩) n c]).run P w = .ok (.tuple #[]) (w.setRow b (cur.toList.take o ++ zs ++ cur.toList.drop (o + zs.length)).toArray) := by
  have hst := run_storeCells_at P b o e0 zs 0 cur w hb (by simpa using hfit) h1
  simp only [Nat.add_zero] at hst
  obtain ⟨m, rfl⟩ : ∃ m, n = m + 1 := ⟨n - 1, by omega⟩
  simp [Builtin.clear_, run_underlying ht, hv, hz, hst]
def delC (zs cur : List Value) (off sz i n : Nat) : List Value := cur.take (off + i * sz) ++ (cur.drop (off + (i + 1) * sz)).take ((n - 1 - i) * sz) ++ zs ++ cur.drop (off + n * sz)
abbrev zN : List Value := [.int .i64 0, .int .i64 0, .int .i64 0, .int .i64 0, .int .i64 0, .int .i64 0, .int .i64 0, .int .i64 0, .slice none 0 0, .int .i64 0, .slice none 0 0, .bool false, .bool false, .int .i64 0, .int .i64 0, .int .i64 0]
theorem delete_w (g off n cap i j : Nat) (cur : Array Value) (e0 : TypeId) (w : World) (hg : w.heap[g]? = some (.cells cur e0 (0, 0))) (hj : j = i + 1) (hi : i < n) (hnc : n ≤ cap) (hm : cap ≤ 9223372036854775807) (hfit : off + n * 16 ≤ cur.size)
    (h1 : ∀ (k : Nat) v, off ≤ k → k < off + n * 16 → cur[k]? = some v → v.oneCell' = true) :
    Calls Tryz.prog 117 #[.slice (some ⟨g, off, none⟩) n cap, .int .i64 i, .int .i64 j] w fun e w' =>
      e = .returned (.slice (some ⟨g, off, none⟩) (n - 1) cap) ∧ w' = w.drew.setRow g (delC zN cur.toList off 16 i n).toArray := by
  obtain ⟨i0, hi0, hz0, hz1⟩ : ∃ q, (Tryz.prog).info? 50 = some q ∧ q.zero = some (.agg #[.int .i64 0, .int .i64 0, .int .i64 0, .int .i64 0, .int .i64 0, .int .i64 0, .int .i64 0, .int .i64 0, .slice none 0 0, .int .i64 0, .slice none 0 0, .bool false, .bool false, .int .i64 0, .int .i64 0, .int .i64 0]) ∧ q.size = 16 := by
    have : ((Tryz.prog).info? 50).map (fun q => (q.zero, q.size)) = some (some (.agg #[.int .i64 0, .int .i64 0, .int .i64 0, .int .i64 0, .int .i64 0, .int .i64 0, .int .i64 0, .int .i64 0, .slice none 0 0, .int .i64 0, .slice none 0 0, .bool false, .bool false, .int .i64 0, .int .i64 0, .int .i64 0]), 16) := by kernel_rfl
    simp only [Option.map_eq_some_iff, Prod.mk.injEq] at this
    obtain ⟨q, h1, h2, h3⟩ := this
    exact ⟨q, h1, h2, h3⟩
  have ht := Tryz.underlying22
  have hv : ∀ w, (zeroValue 50).run Tryz.prog w = .ok (.agg #[.int .i64 0, .int .i64 0, .int .i64 0, .int .i64 0, .int .i64 0, .int .i64 0, .int .i64 0, .int .i64 0, .slice none 0 0, .int .i64 0, .slice none 0 0, .bool false, .bool false, .int .i64 0, .int .i64 0, .int .i64 0]) w := fun w => by simp [zeroValue, typeInfo, hi0, hz0]
  have hu := fun w => run_underlying (w := w) ht
  obtain ⟨news, hnews⟩ : ∃ news, news = (cur.toList.drop (off + (i + 1) * 16)).take ((n - 1 - i) * 16) := ⟨_, rfl⟩
  have hlen : news.length = (n - j) * 16 := by rw [hnews]; simp; omega
  have hget : ∀ t u, news[t]? = some u → t < (n - j) * 16 ∧ cur[off + (i + 1) * 16 + t]? = some u := by
    intro t u hu
    have hlt := (List.getElem?_eq_some_iff.1 hu).1
    rw [hnews, List.getElem?_take, if_pos (by omega), List.getElem?_drop] at hu
    exact ⟨by omega, by simpa using hu⟩
  obtain ⟨A, hA, hsrc⟩ : ∃ A : Addr, (if cap = j then some (⟨g, off, none⟩ : Addr) else some ⟨g, off + j * 16, none⟩) = some A ∧ Hid (∀ t u, news[t]? = some u → w.drew.cell? (A.add t) = some u) := by
    by_cases h : cap = j
    · refine ⟨⟨g, off, none⟩, by simp [h], fun t u hu => ?_⟩
      have := hget t u hu
      omega
    · refine ⟨⟨g, off + j * 16, none⟩, by simp [h], fun t u hu => ?_⟩
      have := hget t u hu
      rw [add_none]
      show w.cell? _ = _
      rw [hj]
      simp [World.cell?, hg, this.2]
  have s1 : Hid (news.length = (n - j) * i0.size) := by rw [hz1]; exact hlen
  have s2 : Hid (∀ u ∈ news, u.oneCell' = true) := by
    intro u hu
    obtain ⟨t, ht'⟩ := List.getElem?_of_mem hu
    have := hget t u ht'
    exact h1 _ u (by omega) (by omega) this.2
  have s3 : Hid (off + i * i0.size + news.length ≤ cur.size) := by rw [hz1, hlen]; show _ ≤ _; omega
  have hgd : w.drew.heap[g]? = some (.cells cur e0 (0, 0)) := hg
  obtain ⟨c1, hc1⟩ : ∃ c1, c1 = (cur.toList.take (off + i * i0.size) ++ news ++ cur.toList.drop (off + i * i0.size + news.length)).toArray := ⟨_, rfl⟩
  obtain ⟨W1, hW1⟩ : ∃ W1, W1 = w.drew.setRow g c1 := ⟨_, rfl⟩
  have hcs : c1.size = cur.size := by rw [hc1]; simp [hlen, hz1]; omega
  have hgW : W1.heap[g]? = some (.cells c1 e0 (0, 0)) := by rw [hW1]; exact setRow_heap_same _ _ _ cur _ hg
  have e1 : i + (n - j) = n - 1 := by omega
  have hcl : ∀ ty cc, (Builtin.clear_ #[22] ty #[.slice (some ⟨g, off + (n - 1) * 16, none⟩) 1 cc]).run Tryz.prog W1 = .ok (.tuple #[]) (W1.setRow g (c1.toList.take (off + (n - 1) * 16) ++ zN ++ c1.toList.drop (off + (n - 1) * 16 + zN.length)).toArray) :=
    fun ty cc => run_clear_row W1 _ _ ty _ zN ht hv g (off + (n - 1) * 16) 1 cc (by decide) (by kernel_rfl) (by simp [Value.oneCell']) e0 c1 hgW (by simp; omega)
  have hne : ¬ ((i : Int) = (j : Int)) := by omega
  have hjn : j ≤ n := by omega
  have hij : i ≤ j := by omega
  have hic : i ≤ cap := by omega
  have hjc : j ≤ cap := by omega
  have X : Hid (W1 = w.drew.setRow g c1) := hW1
  have hW : Hid (W1 = w.drew.setRow g (cur.toList.take (off + i * i0.size) ++ news ++ cur.toList.drop (off + i * i0.size + news.length)).toArray) := by unfold Hid; rw [hW1, hc1]
  have hn1 : n - (n - 1) = 1 := by omega
  have hn2 : n - 1 ≤ n := by omega
  have hn3 : n - 1 ≤ cap := by omega
  have hn4 : ¬ (cap = n - 1) := by omega
  have s4 : Hid (i + (n - j) ≤ cap) := by unfold Hid; omega
  have s5 : Hid (j = i + 1) := hj
  have s6 : Hid (c1 = (cur.toList.take (off + i * i0.size) ++ news ++ cur.toList.drop (off + i * i0.size + news.length)).toArray) := hc1
  have s7 : Hid (news = (cur.toList.drop (off + (i + 1) * 16)).take ((n - 1 - i) * 16)) := hnews
  clear hget hlen hW1 hj hc1 hnews
  go_enter Tryz.func117, Tryz.ntmps117
  go_wp2_with fail
  go_region_law (refine step_append_at rfl (.tmp 22) (.tmp 25) 22 rfl 50 e0 i0 ht hi0 g off i cap cur hgd (by simp [Go.Act.eval, Go.Act.put]) A (n - j) (cap - j) news (by simp [Go.Act.eval, Go.Act.put]) s1.out hsrc.out s2.out s4.out s3.out ?_; rw [← hW.out])
  go_wp2
  go_ret
  refine ⟨rfl, ?_⟩
  have e5 := s5.out
  show W1.setRow g _ = _
  rw [X.out, setRow_setRow]
  congr 2
  have e6 := s6.out
  have e7 := s7.out
  have hnl : news.length = (n - 1 - i) * 16 := by have := s1.out; rw [hz1] at this; omega
  rw [hz1, hnl] at e6
  have hal : (cur.toList.take (off + i * 16) ++ news).length = off + (n - 1) * 16 := by simp [hnl]; omega
  have hdl : cur.toList.drop (off + i * 16 + (n - 1 - i) * 16) = cur.toList.drop (off + (n - 1) * 16) := by congr 1; omega
  have ht1 : c1.toList.take (off + (n - 1) * 16) = cur.toList.take (off + i * 16) ++ news := by rw [e6]; exact List.take_left' hal
  have ht2 : c1.toList.drop (off + (n - 1) * 16 + 16) = cur.toList.drop (off + n * 16) := by
    rw [← List.drop_drop, e6, List.drop_left' hal, hdl, List.drop_drop]; congr 1; omega
  rw [ht1, ht2, delC, ← e7]
  simp
theorem delC_get (zs cur : List Value) (off sz i n k : Nat) (hz : zs.length = sz) (hi : i < n) (hf : off + n * sz ≤ cur.length) :
    (delC zs cur off sz i n)[k]? = if k < off + i * sz then cur[k]? else if k < off + (n - 1) * sz then cur[k + sz]? else if k < off + n * sz then zs[k - (off + (n - 1) * sz)]? else cur[k]? := by
  have m1 : (i + 1) * sz = i * sz + sz := by rw [Nat.add_mul, Nat.one_mul]
  have m2 : (n - 1) * sz = i * sz + (n - 1 - i) * sz := by rw [← Nat.add_mul]; congr 1; omega
  have m3 : n * sz = (n - 1) * sz + sz := by rw [← Nat.succ_mul]; congr 1; omega
  have l1 : (cur.take (off + i * sz)).length = off + i * sz := by simp; omega
  have l2 : ((cur.drop (off + (i + 1) * sz)).take ((n - 1 - i) * sz)).length = (n - 1 - i) * sz := by simp; omega
  unfold delC
  by_cases h1 : k < off + i * sz
  · rw [if_pos h1, List.append_assoc, List.append_assoc, List.getElem?_append_left (by omega), List.getElem?_take, if_pos h1]
  · rw [if_neg h1, List.append_assoc, List.append_assoc, List.getElem?_append_right (by omega), l1]
    by_cases h2 : k < off + (n - 1) * sz
    · rw [if_pos h2, List.getElem?_append_left (by omega), List.getElem?_take, if_pos (by omega), List.getElem?_drop]
      congr 1; omega
    · rw [if_neg h2, List.getElem?_append_right (by omega), l2]
      by_cases h3 : k < off + n * sz
      · rw [if_pos h3, List.getElem?_append_left (by omega)]
        congr 1; omega
      · rw [if_neg h3, List.getElem?_append_right (by omega), List.getElem?_drop]
        congr 1; omega
abbrev zR : List AV := zN.map .val
theorem delete_l (rows : List (List AV)) (tl : List Own) (n i : Nat) (hn : n = rows.length) (hi : i < n) (hone : ∀ row ∈ rows, ∀ c ∈ row, c.one = true) :
    ACallL Tryz.prog 117 [.sl 1 0 n, .val (.int .i64 i), .val (.int .i64 ((i : Int) + 1))] (.perm :: .live ⟨16, 50, rows⟩ :: tl) (.sl 1 0 (n - 1)) (.perm :: .live ⟨16, 50, rows.eraseIdx i ++ [zR]⟩ :: tl) := by
  refine ⟨fun a w => Tryz.call117 a w, fun m w vs rel hl => ?_⟩
  obtain ⟨v0, v1, v2, rfl⟩ : ∃ v0 v1 v2, vs = #[v0, v1, v2] := by
    obtain ⟨vs⟩ := vs
    match vs, hl.1 with
    | [a, b, c], _ => exact ⟨a, b, c, rfl⟩
  have hR := hl.2 0 _ v0 rfl rfl
  have e1 := (hl.2 1 _ v1 rfl rfl).val_inv
  have e2 := (hl.2 2 _ v2 rfl rfl).val_inv
  subst e1 e2
  have hk : ofL (.perm :: .live ⟨16, 50, rows⟩ :: tl) 1 = .live ⟨16, 50, rows⟩ := rfl
  obtain ⟨cur, hg, hfit, hrows, hcells⟩ := rel.own 1 _ hk
  dsimp only at hfit hrows hcells hg
  cases hR with
  | slD _ _ _ _ hd _ => rw [hk] at hd; cases hd
  | sl _ _ _ k' hb off cap hn' hc hm ho hz =>
    rw [hk] at hb; cases hb
    have hoff := ho (by omega)
    simp only [Nat.zero_mul, Nat.add_zero] at hoff
    have hat : ∀ q : Nat, (m.pl 1).2 ≤ q → q < (m.pl 1).2 + n * 16 → ∃ (a b : Nat) (row : List AV) (c : AV), q = (m.pl 1).2 + a * 16 + b ∧ a < n ∧ b < 16 ∧ rows[a]? = some row ∧ row[b]? = some c := fun q h1 h2 => by
      have ha : (q - (m.pl 1).2) / 16 < rows.length := by omega
      have hr := hrows _ (List.getElem_mem ha)
      exact ⟨(q - (m.pl 1).2) / 16, (q - (m.pl 1).2) % 16, _, _, by omega, by omega, by omega, List.getElem?_eq_getElem ha, List.getElem?_eq_getElem (by rw [hr]; omega)⟩
    have h1c : ∀ (q : Nat) v, (m.pl 1).2 ≤ q → q < (m.pl 1).2 + n * 16 → cur[q]? = some v → v.oneCell' = true := fun q v h1 h2 h3 => by
      obtain ⟨a, b, row, c, rfl, _, _, hr, hc⟩ := hat q h1 h2
      obtain ⟨v', g1, g2⟩ := hcells a b row c hr hc
      rw [h3] at g1; cases g1
      exact g2.one (hone row (List.mem_of_getElem? hr) c (List.mem_of_getElem? hc))
    subst hoff
    have hm' : cap ≤ 9223372036854775807 := hm
    have hD := delete_w (m.pl 1).1 (m.pl 1).2 n cap i (i + 1) cur _ w hg rfl hi hc hm' (by omega) h1c
    rw [show ((i + 1 : Nat) : Int) = (i : Int) + 1 by omega] at hD
    refine hD.mono fun e w' ⟨he, hw⟩ => ?_
    have hsz : (delC zN cur.toList (m.pl 1).2 16 i n).length = cur.size := by
      have l2 : ((cur.toList.drop ((m.pl 1).2 + (i + 1) * 16)).take ((n - 1 - i) * 16)).length = (n - 1 - i) * 16 := by simp; omega
      simp only [delC, List.length_append, l2]
      simp
      omega
    have hel : (rows.eraseIdx i).length = n - 1 := by rw [List.length_eraseIdx, if_pos (by omega), hn]
    have key := rel.write (w' := w') hk cur (delC zN cur.toList (m.pl 1).2 16 i n).toArray hg (rows.eraseIdx i ++ [zR]) (by rw [hw]; exact setRow_heap_same _ _ _ cur _ hg) (by simpa using hsz) (by rw [hw]; simp)
      (fun g hne => by rw [hw]; exact setRow_other _ _ _ _ hne) (by rw [hw]; rfl) (by rw [hw]; rfl) (by rw [hw]; rfl) (by simp [hel]; omega) (by simp [hel]; omega)
      (fun row hr => by
        rcases List.mem_append.1 hr with h | h
        · exact hrows row (List.mem_of_mem_eraseIdx h)
        · rw [List.mem_singleton.1 h]; rfl)
      (fun a b row c h1 h2 => by
        have hb16 : b < 16 := by
          have hm3 : row.length = 16 := by
            rcases List.mem_append.1 (List.mem_of_getElem? h1) with h | h
            · exact hrows row (List.mem_of_mem_eraseIdx h)
            · rw [List.mem_singleton.1 h]; rfl
          have := (List.getElem?_eq_some_iff.1 h2).1
          omega
        dsimp only
        rw [List.getElem?_toArray, delC_get zN cur.toList _ 16 i n _ rfl hi (by simp; omega)]
        by_cases ha : a < n - 1
        · rw [List.getElem?_append_left (by omega), List.getElem?_eraseIdx] at h1
          by_cases hai : a < i
          · rw [if_pos hai] at h1
            rw [if_pos (by omega)]
            simpa using hcells a b row c h1 h2
          · rw [if_neg hai] at h1
            rw [if_neg (by omega), if_pos (by omega), show (m.pl 1).2 + a * 16 + b + 16 = (m.pl 1).2 + (a + 1) * 16 + b by omega]
            simpa using hcells (a + 1) b row c h1 h2
        · have hlt := (List.getElem?_eq_some_iff.1 h1).1
          simp only [List.length_append, List.length_singleton, hel] at hlt
          have ha2 : a = n - 1 := by omega
          subst ha2
          rw [List.getElem?_append_right (by omega), hel, Nat.sub_self] at h1
          cases h1
          rw [if_neg (by omega), if_neg (by omega), if_pos (by omega), show (m.pl 1).2 + (n - 1) * 16 + b - ((m.pl 1).2 + (n - 1) * 16) = b by omega]
          rw [List.getElem?_map] at h2
          cases hz : zN[b]? with
          | none => rw [hz] at h2; cases h2
          | some v => rw [hz] at h2; cases h2; exact ⟨v, rfl, .val _⟩)
    have hup : (ofL (.perm :: .live ⟨16, 50, rows⟩ :: tl)).upd 1 (.live { (⟨16, 50, rows⟩ : Blk) with rows := rows.eraseIdx i ++ [zR] }) = ofL (.perm :: .live ⟨16, 50, rows.eraseIdx i ++ [zR]⟩ :: tl) := by
      funext x; rcases x with _ | _ | x <;> rfl
    rw [hup] at key
    refine ⟨_, m, he, key.1, key.2, ?_⟩
    have := R.sl (m := m) (h := ofL (.perm :: .live ⟨16, 50, rows.eraseIdx i ++ [zR]⟩ :: tl)) (w := w') 1 0 (n - 1) ⟨16, 50, rows.eraseIdx i ++ [zR]⟩ rfl (m.pl 1).2 cap (by simp [hel]) (by omega) hm (fun _ => by simp)
      (fun c2 e2 f2 hc2 hcap => by
        rw [hw, setRow_heap_same w.drew _ _ cur _ hg] at hc2
        cases hc2
        have := hz cur _ _ hg hcap
        simpa [hsz] using this)
    exact this
end Go.Proofs.YtceohcbokbalhaaGreat

/- A host's copy in memory of its own: on data. Conditions: lengths. -/
namespace Go.Proofs.YtceohcbokbalhaaGreat
open Go.RowKit
set_option linter.unusedVariables false
set_option linter.unusedSimpArgs false
set_option maxRecDepth 100000
set_option maxHeartbeats 4000000
theorem ones_cnR (r : Nat) (l : List Cn) : (l.map (cnR r)).all (fun r => r.all AV.one) = true := by simp [AV.one, Value.oneCell']
theorem ones_cnG (o p d : Nat) (l : List Cn) : (l.map (cnG o p d)).all (fun r => r.all AV.one) = true := by simp [AV.one, Value.oneCell']
section
variable {L I F : Prs} {h : Hp} {o p d o' p' d' r : Nat}
theorem cn_gg (h0 : I.has o o' = true) (h1 : I.has p p' = true) (h2 : I.has d d' = true) (c : Cn) : Cells (qOf L I F) h (cnG o p d c) (cnG o' p' d' c) :=
  .cons (.val _) (.cons (.val _) (.cons (.val _) (.cons (.val _) (.cons (.val _) (.cons (.val _) (.cons (.val _) (.cons (.val _) (.cons (Ren.gg h0 c.out) (.cons (.val _) (.cons (Ren.pgl h1 h2 c.parts) (.cons (.val _) (.cons (.val _) (.cons (.val _) (.cons (.val _) (.cons (.val _) .nil)))))))))))))))
theorem cn_gr (h0 : I.has o r = true) (h1 : I.has p r = true) (h2 : I.has d r = true) (c : Cn) : Cells (qOf L I F) h (cnG o p d c) (cnR r c) :=
  .cons (.val _) (.cons (.val _) (.cons (.val _) (.cons (.val _) (.cons (.val _) (.cons (.val _) (.cons (.val _) (.cons (.val _) (.cons (Ren.g2 h0 c.out) (.cons (.val _) (.cons (Ren.pg2 h1 h2 c.parts) (.cons (.val _) (.cons (.val _) (.cons (.val _) (.cons (.val _) (.cons (.val _) .nil)))))))))))))))
theorem cn_rr {r' : Nat} (h0 : I.has r r' = true) (c : Cn) : Cells (qOf L I F) h (cnR r c) (cnR r' c) :=
  .cons (.val _) (.cons (.val _) (.cons (.val _) (.cons (.val _) (.cons (.val _) (.cons (.val _) (.cons (.val _) (.cons (.val _) (.cons (Ren.ll h0 c.out) (.cons (.val _) (.cons (Ren.pll h0 h0 c.parts) (.cons (.val _) (.cons (.val _) (.cons (.val _) (.cons (.val _) (.cons (.val _) .nil)))))))))))))))
theorem cns_gg (h0 : I.has o o' = true) (h1 : I.has p p' = true) (h2 : I.has d d' = true) (l : List Cn) : RowsRen (qOf L I F) h (l.map (cnG o p d)) (l.map (cnG o' p' d')) := RowsRen.mapF l _ _ fun c _ => cn_gg h0 h1 h2 c
theorem cns_gr (h0 : I.has o r = true) (h1 : I.has p r = true) (h2 : I.has d r = true) (l : List Cn) : RowsRen (qOf L I F) h (l.map (cnG o p d)) (l.map (cnR r)) := RowsRen.mapF l _ _ fun c _ => cn_gr h0 h1 h2 c
theorem cns_rr {r' : Nat} (h0 : I.has r r' = true) (l : List Cn) : RowsRen (qOf L I F) h (l.map (cnR r)) (l.map (cnR r')) := RowsRen.mapF l _ _ fun c _ => cn_rr h0 c
theorem cns_bor {n : Nat} (h0 : I.has o r = true) (h1 : I.has p r = true) (h2 : I.has d r = true) (l : List Cn) (hn : n = l.length) : RowsRen (qOf L I F) h (((l.map (cnG o p d)).drop 0).take n) (l.map (cnR r)) :=
  RowsRen.cast (by rw [List.drop_zero, List.take_of_length_le (by simp [hn])]) (cns_gr h0 h1 h2 l)
theorem Ren.cgs {b b' : Nat} (hb : I.has b b' = true) (h0 : I.has o o' = true) (h1 : I.has p p' = true) (h2 : I.has d d' = true) (l : List Cn) : Ren (qOf L I F) h (.glist b 16 (l.map (cnG o p d))) (.glist b' 16 (l.map (cnG o' p' d'))) := by
  obtain ⟨a, b, c⟩ := cns_gg (L := L) (I := I) (F := F) (h := h) h0 h1 h2 l
  exact .glist _ _ _ _ _ ((Prs.has_iff I _ _).1 hb) a b c
theorem hob_g {b b' : Nat} (n : Int) (hb : I.has b b' = true) (h0 : I.has o o' = true) (h1 : I.has p p' = true) (h2 : I.has d d' = true) (l : List Cn) :
    RowsRen (qOf L I F) h [[.glist b 16 (l.map (cnG o p d)), .val (.int .i64 n)]] [[.glist b' 16 (l.map (cnG o' p' d')), .val (.int .i64 n)]] := RowsRen.one (.cons (Ren.cgs hb h0 h1 h2 l) (.cons (.val _) .nil))
theorem hob_nil {b b' : Nat} (n : Int) (hb : I.has b b' = true) : RowsRen (qOf L I F) h [[.glist b 16 [], .val (.int .i64 n)]] [[.glist b' 16 [], .val (.int .i64 n)]] :=
  RowsRen.one (.cons (.glist _ _ _ _ _ ((Prs.has_iff I _ _).1 hb) rfl (by simp) (by simp)) (.cons (.val _) .nil))
theorem hob_1 {b b' : Nat} (n : Int) (hb : I.has b b' = true) (h0 : I.has o o' = true) (h1 : I.has p p' = true) (h2 : I.has d d' = true) (c : Cn) :
    RowsRen (qOf L I F) h [[.glist b 16 [cnG o p d c], .val (.int .i64 n)]] [[.glist b' 16 [cnG o' p' d' c], .val (.int .i64 n)]] := hob_g n hb h0 h1 h2 [c]
theorem cns_set {o2 p2 d2 : Nat} (h0 : I.has o o' = true) (h1 : I.has p p' = true) (h2 : I.has d d' = true) (g0 : I.has o2 o' = true) (g1 : I.has p2 p' = true) (g2 : I.has d2 d' = true) (l : List Cn) (i : Nat) (c : Cn) :
    RowsRen (qOf L I F) h ((l.map (cnG o p d)).set i (cnG o2 p2 d2 c)) ((l.set i c).map (cnG o' p' d')) := by
  by_cases hi : i < l.length
  · have e1 : (l.map (cnG o p d)).set i (cnG o2 p2 d2 c) = (l.take i).map (cnG o p d) ++ ([cnG o2 p2 d2 c] ++ (l.drop (i + 1)).map (cnG o p d)) := by
      rw [List.set_eq_take_append_cons_drop, if_pos (by simpa using hi)]
      simp [List.map_take, List.map_drop]
    have e2 : (l.set i c).map (cnG o' p' d') = (l.take i).map (cnG o' p' d') ++ ([cnG o' p' d' c] ++ (l.drop (i + 1)).map (cnG o' p' d')) := by
      rw [List.set_eq_take_append_cons_drop, if_pos hi]
      simp
    rw [e1, e2]
    exact RowsRen.app (cns_gg h0 h1 h2 _) (RowsRen.app (RowsRen.one (cn_gg g0 g1 g2 c)) (cns_gg h0 h1 h2 _))
  · rw [List.set_eq_of_length_le (by simpa using hi), List.set_eq_of_length_le (by omega)]
    exact cns_gg h0 h1 h2 l
theorem cns_setS {o2 p2 d2 o3 p3 d3 : Nat} (h0 : I.has o o' = true) (h1 : I.has p p' = true) (h2 : I.has d d' = true) (g0 : I.has o2 o3 = true) (g1 : I.has p2 p3 = true) (g2 : I.has d2 d3 = true) (l : List Cn) (i : Nat) (c : Cn) :
    RowsRen (qOf L I F) h ((l.map (cnG o p d)).set i (cnG o2 p2 d2 c)) ((l.map (cnG o' p' d')).set i (cnG o3 p3 d3 c)) := by
  by_cases hi : i < l.length
  · have e1 : ∀ o p d o2 p2 d2, (l.map (cnG o p d)).set i (cnG o2 p2 d2 c) = (l.take i).map (cnG o p d) ++ ([cnG o2 p2 d2 c] ++ (l.drop (i + 1)).map (cnG o p d)) := fun o p d o2 p2 d2 => by
      rw [List.set_eq_take_append_cons_drop, if_pos (by simpa using hi)]
      simp [List.map_take, List.map_drop]
    rw [e1, e1]
    exact RowsRen.app (cns_gg h0 h1 h2 _) (RowsRen.app (RowsRen.one (cn_gg g0 g1 g2 c)) (cns_gg h0 h1 h2 _))
  · rw [List.set_eq_of_length_le (by simpa using hi), List.set_eq_of_length_le (by simpa using hi)]
    exact cns_gg h0 h1 h2 l
end
theorem cloneC_l (c : Cn) (l : List Cn) (hl : (c :: l).length ≤ 1000) : ACallL Tryz.prog 112 [.list 0 16 ((c :: l).map (cnR 0))] [.perm] (.sl 1 0 (l.length + 1)) [.perm, .live ⟨16, 50, (c :: l).map (cnR 0)⟩] := by
  refine ACallL.of_ev mixed Tryz.func112 rfl (fun a w => Tryz.call112 a w) (congrArg Array.toList Tryz.results112) Tryz.ntmps112 fun B hB => ?_
  ((conv => whnf); (repeat' ((first | (with_reducible first | refine qif_n ?_ | refine qif_t ‹_› ?_ | refine qif_f ‹_› ?_) | ((with_reducible refine qif_t ?_ ?_); focus decide) | ((with_reducible refine qif_f ?_ ?_); focus decide) | (with_reducible refine And.intro (orderOk_i ?ho) ?_; (case ho => kernel_rfl)) | (with_reducible first | refine qif_i (fun _ => ?_) (fun _ => ?_) | refine frcVs_i ?_ | refine frcRs_i ?_) | (refine qOpen.nilF rfl rfl rfl rfl rfl ?_) | (refine qCase_i (apS (nb := 160) rfl rfl rfl rfl rfl rfl rfl rfl rfl rfl (by decide) (ones_cnR 0 (_ :: _)) ⟨rfl, rfl, rfl⟩ rfl (by simp at hl ⊢; omega)) ?_)) <;> (conv => whnf))))
  (refine qConv.of hB [(2, 1)] [(0, 0)] [] (by rfl) ?_; focus ((conv => whnf); (repeat (refine And.intro ?_ ?_; rotate_left; (conv => whnf))); exact trivial; all_goals (try exact andT)))
  all_goals first | rfl | exact cns_rr rfl _ | (simp; done) | trace_state
theorem cloneC_nil : ACallL Tryz.prog 112 [.list 0 16 []] [.perm] (.glist 1 16 []) [.perm, .uniq] := by
  refine ACallL.of_calls (fun a w => Tryz.call112 a w) fun m w vs rel hl => ?_
  obtain ⟨v, rfl⟩ : ∃ v, vs = #[v] := by
    obtain ⟨vs⟩ := vs
    match vs, hl.1 with
    | [v], _ => exact ⟨v, rfl⟩
  have hR := hl.2 0 _ v rfl rfl
  clear hl
  have he := fun (w : World) (a : Option Addr) (n c : Nat) => Lib.run_eql_slice_nil (P := Tryz.prog) w 22 50 a n c 0 0 Tryz.underlying22
  rcases R.nil_inv (h := ofL [.perm]) (r := 0) trivial hR with rfl | ⟨a, cap, rfl⟩
  · clear hR rel
    go_enter Tryz.func112, Tryz.ntmps112
    go_wp2
    go_ret
    exact ⟨_, rfl, (by repeat (first | (with_reducible exact Below.refl _ _) | (with_reducible assumption) | ((with_reducible refine Below.alloc ?_ ?_ _); rotate_left; focus (first | (simp; done) | (simp; omega) | omega)) | ((with_reducible refine Below.setCell ?_ ?_ _); rotate_left; focus (first | (simp; done) | (simp; omega) | omega)) | (with_reducible refine Below.drew ?_) | ((with_reducible apply Below.then); rotate_left; (with_reducible assumption)))), fun m' => .gnil _ _⟩
  · clear hR rel
    go_enter Tryz.func112, Tryz.ntmps112
    go_wp2
    go_ret
    exact ⟨_, rfl, (by repeat (first | (with_reducible exact Below.refl _ _) | (with_reducible assumption) | ((with_reducible refine Below.alloc ?_ ?_ _); rotate_left; focus (first | (simp; done) | (simp; omega) | omega)) | ((with_reducible refine Below.setCell ?_ ?_ _); rotate_left; focus (first | (simp; done) | (simp; omega) | omega)) | (with_reducible refine Below.drew ?_) | ((with_reducible apply Below.then); rotate_left; (with_reducible assumption)))), fun m' => .gemp _ _ _ trivial⟩
theorem cow_rows {l : List Cn} {k i : Nat} {c : Cn} (h : l[k]? = some c) (o p d o2 p2 d2 : Nat) (hi : i = k) : ((l.take k).map (cnG o p d) ++ (l.drop k).map (cnR 0)).set i (cnG o2 p2 d2 c) = (l.take k).map (cnG o p d) ++ ([cnG o2 p2 d2 c] ++ (l.drop (k + 1)).map (cnR 0)) := by
  subst hi
  have hk : i < l.length := (List.getElem?_eq_some_iff.1 h).1
  rw [drop_cons h, List.map_cons, List.set_append_right _ _ (by simp; omega)]
  simp [Nat.min_eq_left (Nat.le_of_lt hk)]
theorem cow_row {l : List Cn} {k : Nat} {c : Cn} (h : l[k]? = some c) (o p d : Nat) : ((l.take k).map (cnG o p d) ++ (l.drop k).map (cnR 0))[0 + (k : Int).toNat]? = some (cnR 0 c) := by
  have hk : k < l.length := (List.getElem?_eq_some_iff.1 h).1
  simp [List.getElem?_append, Nat.min_eq_left (Nat.le_of_lt hk), h]
theorem hostOwn_nil (n : Int) : ACallL Tryz.prog 71 [.agg (hoR ⟨[], n⟩)] [.perm] (.agg [.glist 1 16 [], .val (.int .i64 n)]) [.perm, .uniq] := by
  dsimp only [hoR, List.map_nil]
  refine ACallL.of_ev mixed Tryz.func71 rfl (fun a w => Tryz.call71 a w) (congrArg Array.toList Tryz.results71) Tryz.ntmps71 fun B hB => ?_
  ((conv => whnf); (repeat' ((first | (with_reducible first | refine qif_n ?_ | refine qif_t ‹_› ?_ | refine qif_f ‹_› ?_) | ((with_reducible refine qif_t ?_ ?_); focus decide) | ((with_reducible refine qif_f ?_ ?_); focus decide) | (with_reducible refine And.intro (orderOk_i ?ho) ?_; (case ho => kernel_rfl)) | (with_reducible first | refine qif_i (fun _ => ?_) (fun _ => ?_) | refine frcVs_i ?_ | refine frcRs_i ?_)) <;> (conv => whnf))))
  ((with_reducible refine qCall.fresh (fun r => .glist r 16 []) (cloneC_nil) [(0, 0)] [] ?hk ?_); (case hk => rfl); (conv => whnf); (repeat (refine And.intro ?_ ?_; exact sideT; (conv => whnf))); (fail_if_success (with_reducible first | refine And.intro (eqv_i ?_) ?_ | refine And.intro (ren_i ?_) ?_)))
  ((conv => whnf); (repeat' ((first | (with_reducible first | refine qif_n ?_ | refine qif_t ‹_› ?_ | refine qif_f ‹_› ?_) | ((with_reducible refine qif_t ?_ ?_); focus decide) | ((with_reducible refine qif_f ?_ ?_); focus decide) | (with_reducible refine And.intro (orderOk_i ?ho) ?_; (case ho => kernel_rfl)) | (with_reducible first | refine qif_i (fun _ => ?_) (fun _ => ?_) | refine frcVs_i ?_ | refine frcRs_i ?_) | (refine qAW.unroll mixed 1 ?_)) <;> (conv => whnf))))
  all_goals (refine qConv.of hB [] [(0, 0), (3, 1)] [] (by rfl) ?_; focus ((conv => whnf); (repeat (refine And.intro ?_ ?_; rotate_left; (conv => whnf))); exact trivial; all_goals (try exact andT)))
theorem hostOwn_l (l : List Cn) (n : Int) (h0 : l ≠ []) (hl : l.length ≤ 1000) (hc : ∀ c ∈ l, CnLen c) : ACallL Tryz.prog 71 [.agg (hoR ⟨l, n⟩)] [.perm] (.agg [.sl 1 0 l.length, .val (.int .i64 n)])
    [.perm, .live ⟨16, 50, l.map (cnG 2 3 4)⟩, .uniq, .uniq, .uniq] := by
  dsimp only [hoR]
  obtain ⟨c0, l0, hl0⟩ : ∃ c0 l0, l = c0 :: l0 := by
    cases l with
    | nil => exact absurd rfl h0
    | cons a b => exact ⟨a, b, rfl⟩
  have hC := cloneC_l c0 l0 (by rw [← hl0]; exact hl)
  have hn : l0.length + 1 = l.length := by rw [hl0]; rfl
  rw [← hl0, hn] at hC
  clear hl0 h0 hn
  refine ACallL.of_ev mixed Tryz.func71 rfl (fun a w => Tryz.call71 a w) (congrArg Array.toList Tryz.results71) Tryz.ntmps71 fun B hB => ?_
  ((conv => whnf); (repeat' ((first | (with_reducible first | refine qif_n ?_ | refine qif_t ‹_› ?_ | refine qif_f ‹_› ?_) | ((with_reducible refine qif_t ?_ ?_); focus decide) | ((with_reducible refine qif_f ?_ ?_); focus decide) | (with_reducible refine And.intro (orderOk_i ?ho) ?_; (case ho => kernel_rfl)) | (with_reducible first | refine qif_i (fun _ => ?_) (fun _ => ?_) | refine frcVs_i ?_ | refine frcRs_i ?_)) <;> (conv => whnf))))
  ((with_reducible refine qCall.of (hC) [] [(0, 0)] [] [(1, 3)] [(3, .live ⟨16, 50, l.map (cnR 0)⟩)] (.sl 3 0 l.length) ?hk ?_); (case hk => rfl); (conv => whnf); (repeat (refine And.intro ?_ ?_; exact sideT; (conv => whnf))); (fail_if_success (with_reducible first | refine And.intro (eqv_i ?_) ?_ | refine And.intro (ren_i ?_) ?_)))
  ((conv => whnf); (repeat' ((first | (with_reducible first | refine qif_n ?_ | refine qif_t ‹_› ?_ | refine qif_f ‹_› ?_) | ((with_reducible refine qif_t ?_ ?_); focus decide) | ((with_reducible refine qif_f ?_ ?_); focus decide) | (with_reducible refine And.intro (orderOk_i ?ho) ?_; (case ho => kernel_rfl)) | (with_reducible first | refine qif_i (fun _ => ?_) (fun _ => ?_) | refine frcVs_i ?_ | refine frcRs_i ?_)) <;> (conv => whnf))))
  refine qAW.loopE mixed (X := Nat) (fun k => slotsOf 26 [(1, .ptr 1 0 0), (2, .ptr 2 0 0), (10, .val (.int .i64 l.length)), (11, .val (.int .i64 k))])
    (fun k => [.perm, .live ⟨2, 24, [[.sl 3 0 l.length, .val (.int .i64 n)]]⟩, .live ⟨2, 24, [[.val (.slice none 0 0), .val (.int .i64 0)]]⟩, .live ⟨16, 50, (l.take k).map (cnG 4 5 6) ++ (l.drop k).map (cnR 0)⟩, .uniq, .uniq, .uniq])
    (fun k => k ≤ l.length) (fun k => l.length - k) 0 (Nat.zero_le _) ?_ ?_
  · (refine qConv.of hB [(1, 1), (2, 2), (3, 3)] [(0, 0)] [] (by rfl) ?_; focus ((conv => whnf); (repeat (refine And.intro ?_ ?_; rotate_left; (conv => whnf))); exact trivial; all_goals (try exact andT)))
    all_goals first | rfl | exact cns_rr rfl l | (exact rowsT)
  · intro E k hk hE
    by_cases hlt : k < l.length
    · obtain ⟨c, hck⟩ : ∃ p, l[k]? = some p := ⟨_, List.getElem?_eq_getElem hlt⟩
      have hrow := cow_row hck 4 5 6
      have w := IntWalk.i64_in (k + 1) (by omega)
      have cO := tcpOwn_l c (hc c (List.mem_of_getElem? hck))
      subst hE
      ((conv => whnf); (repeat' ((first | (with_reducible first | refine qif_n ?_ | refine qif_t ‹_› ?_ | refine qif_f ‹_› ?_) | ((with_reducible refine qif_t ?_ ?_); focus decide) | ((with_reducible refine qif_f ?_ ?_); focus decide) | (with_reducible refine And.intro (orderOk_i ?ho) ?_; (case ho => kernel_rfl)) | ((with_reducible refine qif_t ?_ ?_); focus (simp [hlt]; done)) | ((with_reducible refine qif_f ?_ ?_); focus (simp [hlt]; done)) | (with_reducible first | refine qif_i (fun _ => ?_) (fun _ => ?_) | refine frcVs_i ?_ | refine frcRs_i ?_) | (refine qCase_i (idxS rfl rfl rfl rfl rfl rfl rfl rfl (by omega)) ?_) | (refine qCase_i (ldR rfl rfl rfl rfl rfl hrow rfl) ?_) | (((with_reducible refine qCall.of (cO) [] [(0, 0)] [] [(1, 7), (2, 8), (3, 9)] [(7, .uniq), (8, .uniq), (9, .uniq)] (.agg (cnG 7 8 9 c)) ?hk ?_); (case hk => rfl); (conv => whnf); (repeat (refine And.intro ?_ ?_; exact sideT; (conv => whnf))); (fail_if_success (with_reducible first | refine And.intro (eqv_i ?_) ?_ | refine And.intro (ren_i ?_) ?_)))) | (refine qCase_i (stR rfl rfl rfl rfl hrow rfl rfl (Nat.le_of_ble_eq_true rfl)) ?_)) <;> (conv => whnf))))
      refine ⟨k + 1, by omega, by omega, ?_⟩
      (refine qConv.of hB [(1, 1), (2, 2), (3, 3)] [(0, 0), (4, 4), (5, 5), (6, 6), (7, 4), (8, 5), (9, 6)] [] (by rfl) ?_; focus ((conv => whnf); (repeat (refine And.intro ?_ ?_; rotate_left; (conv => whnf))); exact trivial; all_goals (try exact andT)))
      all_goals first | rfl | (simp [w]; done) | (exact rowsT) | skip
      refine RowsRen.cast (cow_rows (i := 0 + (k : Int).toNat) hck 4 5 6 7 8 9 (by simp)) ?_
      refine RowsRen.castR (b := (l.take k).map (cnG 4 5 6) ++ ([cnG 4 5 6 c] ++ (l.drop (k + 1)).map (cnR 0))) (by rw [take_snoc hck, List.map_append, List.append_assoc]; rfl) ?_
      refine RowsRen.app (cns_gg rfl rfl rfl _) (RowsRen.app (RowsRen.one (cn_gg rfl rfl rfl c)) (cns_rr rfl _))
    · subst hE
      ((conv => whnf); (repeat' ((first | (with_reducible first | refine qif_n ?_ | refine qif_t ‹_› ?_ | refine qif_f ‹_› ?_) | ((with_reducible refine qif_t ?_ ?_); focus decide) | ((with_reducible refine qif_f ?_ ?_); focus decide) | (with_reducible refine And.intro (orderOk_i ?ho) ?_; (case ho => kernel_rfl)) | ((with_reducible refine qif_t ?_ ?_); focus (simp [hlt]; done)) | ((with_reducible refine qif_f ?_ ?_); focus (simp [hlt]; done)) | (with_reducible first | refine qif_i (fun _ => ?_) (fun _ => ?_) | refine frcVs_i ?_ | refine frcRs_i ?_)) <;> (conv => whnf))))
      have : k = l.length := by omega
      subst this
      (refine qConv.of hB [(3, 1)] [(0, 0), (4, 2), (5, 3), (6, 4)] [] (by rfl) ?_; focus ((conv => whnf); (repeat (refine And.intro ?_ ?_; rotate_left; (conv => whnf))); exact trivial; all_goals (try exact andT)))
      all_goals first | rfl | (refine RowsRen.cast ?_ (cns_gg (o := 4) (p := 5) (d := 6) rfl rfl rfl l); simp; done)
end Go.Proofs.YtceohcbokbalhaaGreat

/- A host's connection is put back, or gone: on data. Conditions: the place is one of the host's. -/
-- sideX: exact RowsRen.app (cns_gg rfl rfl rfl _) zR_self
namespace Go.Proofs.YtceohcbokbalhaaGreat
open Go.RowKit
set_option linter.unusedVariables false
set_option linter.unusedSimpArgs false
set_option maxRecDepth 100000
set_option maxHeartbeats 4000000
abbrev hoB (b n : Nat) (count : Int) : Own := .live ⟨2, 24, [[.sl b 0 n, .val (.int .i64 count)]]⟩
abbrev cnB' (rows : List (List AV)) : Own := .live ⟨16, 50, rows⟩
theorem ones_mem (o p d : Nat) (l : List Cn) : ∀ row ∈ l.map (cnG o p d), ∀ c ∈ row, c.one = true := fun row hr c hc => List.all_eq_true.1 (List.all_eq_true.1 (ones_cnG o p d l) row hr) c hc
theorem zR_self {L I F : Prs} {h : Hp} : RowsRen (qOf L I F) h [zR] [zR] := RowsRen.one (.cons (.val _) (.cons (.val _) (.cons (.val _) (.cons (.val _) (.cons (.val _) (.cons (.val _) (.cons (.val _) (.cons (.val _) (.cons (.val _) (.cons (.val _) (.cons (.val _) (.cons (.val _) (.cons (.val _) (.cons (.val _) (.cons (.val _) (.cons (.val _) .nil))))))))))))))))
theorem map_erase (f : Cn → List AV) (l : List Cn) (i : Nat) : (l.map f).eraseIdx i = (l.eraseIdx i).map f := by
  refine List.ext_getElem? fun j => ?_
  rw [List.getElem?_eraseIdx, List.getElem?_map, List.getElem?_map, List.getElem?_map, List.getElem?_eraseIdx]
  split <;> rfl
theorem set_l (l : List Cn) (count : Int) (i : Nat) (c : Cn) (hi : i < l.length) (hs : (c.st == 0) = false) :
    ACallL Tryz.prog 76 [.ptr 1 0 0, .val (.int .i64 i), .agg (cnG 3 4 5 c)] [.perm, hoB 2 l.length count, cnB' (l.map (cnG 6 7 8)), .perm, .perm, .perm, .perm, .perm, .perm] (.tup [])
      [.perm, hoB 2 l.length count, cnB' ((l.map (cnG 6 7 8)).set i (cnG 3 4 5 c)), .perm, .perm, .perm, .perm, .perm, .perm] := by
  obtain ⟨c1, hc1⟩ : ∃ p, l[i]? = some p := ⟨_, List.getElem?_eq_getElem hi⟩
  have hrow : (l.map (cnG 6 7 8))[0 + (i : Int).toNat]? = some (cnG 6 7 8 c1) := by simp [hc1]
  have e1 : 0 + (i : Int).toNat = i := by omega
  rw [e1] at hrow
  refine ACallL.of_ev mixed Tryz.func76 rfl (fun a w => Tryz.call76 a w) (congrArg Array.toList Tryz.results76) Tryz.ntmps76 fun B hB => ?_
  ((conv => whnf); (repeat' ((first | (with_reducible first | refine qif_n ?_ | refine qif_t ‹_› ?_ | refine qif_f ‹_› ?_) | ((with_reducible refine qif_t ?_ ?_); focus decide) | ((with_reducible refine qif_f ?_ ?_); focus decide) | (with_reducible refine And.intro (orderOk_i ?ho) ?_; (case ho => kernel_rfl)) | ((with_reducible refine qif_t ?_ ?_); focus (simp []; done)) | ((with_reducible refine qif_f ?_ ?_); focus (simp []; done)) | (with_reducible first | refine qif_i (fun _ => ?_) (fun _ => ?_) | refine frcVs_i ?_ | refine frcRs_i ?_) | (refine qCase_i (idxS rfl rfl rfl rfl rfl rfl rfl rfl (by omega)) ?_) | (refine qCase_i (stR' rfl rfl rfl rfl (by with_reducible exact e1) hrow rfl rfl (Nat.le_of_ble_eq_true rfl)) ?_)) <;> (conv => whnf))))
  (refine qConv.of hB [(1, 1), (2, 2)] [(0, 0), (3, 3), (4, 4), (5, 5), (6, 6), (7, 7), (8, 8)] [] (by rfl) ?_; focus ((conv => whnf); (repeat (refine And.intro ?_ ?_; rotate_left; (conv => whnf))); exact trivial; all_goals (try exact andT)))
  all_goals first | rfl | (exact rowsT) | (refine RowsRen.cast (b := (l.map (cnG 6 7 8)).set i (cnG 3 4 5 c)) rfl ?_; exact cns_setS rfl rfl rfl rfl rfl rfl l i c) | trace_state
theorem set_no (l : List Cn) (count : Int) (i : Nat) (c : Cn) (hi : i < l.length) (hn : l.length ≤ 100000) (hs : (c.st == 0) = true) :
    ACallL Tryz.prog 76 [.ptr 1 0 0, .val (.int .i64 i), .agg (cnG 3 4 5 c)] [.perm, hoB 2 l.length count, cnB' (l.map (cnG 6 7 8)), .perm, .perm, .perm, .perm, .perm, .perm] (.tup [])
      [.perm, hoB 2 (l.length - 1) count, cnB' ((l.eraseIdx i).map (cnG 6 7 8) ++ [zR]), .perm, .perm, .perm, .perm, .perm, .perm] := by
  have hD := delete_l (l.map (cnG 2 3 4)) [.perm, .perm, .perm] l.length i (by simp) hi (ones_mem 2 3 4 l)
  have w := IntWalk.i64_in ((i : Nat) + 1) (by omega)
  rw [← w, map_erase] at hD
  refine ACallL.of_ev mixed Tryz.func76 rfl (fun a w => Tryz.call76 a w) (congrArg Array.toList Tryz.results76) Tryz.ntmps76 fun B hB => ?_
  ((conv => whnf); (repeat' ((first | (with_reducible first | refine qif_n ?_ | refine qif_t ‹_› ?_ | refine qif_f ‹_› ?_) | ((with_reducible refine qif_t ?_ ?_); focus decide) | ((with_reducible refine qif_f ?_ ?_); focus decide) | (with_reducible refine And.intro (orderOk_i ?ho) ?_; (case ho => kernel_rfl)) | ((with_reducible refine qif_t ?_ ?_); focus (simp []; done)) | ((with_reducible refine qif_f ?_ ?_); focus (simp []; done)) | (with_reducible first | refine qif_i (fun _ => ?_) (fun _ => ?_) | refine frcVs_i ?_ | refine frcRs_i ?_) | (((with_reducible refine qCall.of (hD) [(1, 2)] [(0, 0), (2, 6), (3, 7), (4, 8)] [] [] [(2, cnB' ((l.eraseIdx i).map (cnG 6 7 8) ++ [zR]))] (.sl 2 0 (l.length - 1)) ?hk ?_); (case hk => rfl); (conv => whnf); (repeat (refine And.intro ?_ ?_; (focus (first | exact sideT | (exact RowsRen.app (cns_gg rfl rfl rfl _) zR_self))); (conv => whnf))); (fail_if_success (with_reducible first | refine And.intro (eqv_i ?_) ?_ | refine And.intro (ren_i ?_) ?_))))) <;> (conv => whnf))))
  (refine qConv.of hB [(1, 1), (2, 2)] [(0, 0), (3, 3), (4, 4), (5, 5), (6, 6), (7, 7), (8, 8)] [] (by rfl) ?_; focus ((conv => whnf); (repeat (refine And.intro ?_ ?_; rotate_left; (conv => whnf))); exact trivial; all_goals (try exact andT)))
  all_goals first | rfl | (exact rowsT) | exact RowsRen.app (cns_gg rfl rfl rfl _) zR_self
end Go.Proofs.YtceohcbokbalhaaGreat

/- A segment that is of no connection: on data. Conditions: the host, the segment may be. -/
-- sideX: exact cns_bor rfl rfl rfl _ rfl
namespace Go.Proofs.YtceohcbokbalhaaGreat
open Go.RowKit
set_option linter.unusedVariables false
set_option linter.unusedSimpArgs false
set_option maxRecDepth 100000
set_option maxHeartbeats 4000000
theorem fl18 : ∀ n : Fin 64, (bits .and .i64 ((n.val : Nat) : Int) 18 != 2) = (flN ((n.val : Nat) : Int) 2 || !flN ((n.val : Nat) : Int) 16) := by decide +kernel
theorem flN_18 {fl : Int} (h : 0 ≤ fl ∧ fl ≤ 63) : (bits .and .i64 fl 18 != 2) = (flN fl 2 || !flN fl 16) := by
  have := fl18 ⟨fl.toNat, by omega⟩
  simpa [Int.toNat_of_nonneg h.1] using this
theorem fresh_ways {h : Ho} (H : HoI h) (ip : Int) {s : Sg} (hs : sgB s = true) :
    ((bits .and .i64 s.fl 4 != 0) = true ∧ h.fresh ip s = ⟨h, [], []⟩) ∨
    ((bits .and .i64 s.fl 4 != 0) = false ∧ h.fresh ip s = ⟨h, [(ip, refuseS s)], []⟩ ∧
      ((s.dp != 1883) = true ∨ (s.dp != 1883) = false ∧ (bits .and .i64 s.fl 18 != 2) = true ∨ (s.dp != 1883) = false ∧ (bits .and .i64 s.fl 18 != 2) = false ∧ ((h.conns.length : Int) == 8) = true ∨
       (s.dp != 1883) = false ∧ (bits .and .i64 s.fl 18 != 2) = false ∧ ((h.conns.length : Int) == 8) = false ∧ decide (4 ≤ (synN h.conns : Int)) = true ∨
       (s.dp != 1883) = false ∧ (bits .and .i64 s.fl 18 != 2) = false ∧ ((h.conns.length : Int) == 8) = false ∧ decide (4 ≤ (synN h.conns : Int)) = false ∧ (h.count == 1099511627776) = true)) ∨
    ((bits .and .i64 s.fl 4 != 0) = false ∧ h.fresh ip s = h.more ip s ∧ (s.dp != 1883) = false ∧ (bits .and .i64 s.fl 18 != 2) = false ∧ ((h.conns.length : Int) == 8) = false ∧ decide (4 ≤ (synN h.conns : Int)) = false ∧ (h.count == 1099511627776) = false) := by
  have hfl := (sgB_w hs).2.2.2.2.1
  have e18 := flN_18 hfl
  have e4 : (bits .and .i64 s.fl 4 != 0) = !flN s.fl 4 := rfl
  have e8 : ((h.conns.length : Int) == 8) = decide (8 ≤ h.conns.length) := by
    have := H.len
    rw [Bool.eq_iff_iff, beq_iff_eq, decide_eq_true_eq]; omega
  have e5 : decide (4 ≤ (synN h.conns : Int)) = decide (4 ≤ synN h.conns) := by rw [decide_eq_decide]; omega
  have e1 : (s.dp != 1883) = !(s.dp == 1883) := rfl
  rw [e18, e4, e8, e5, e1]
  unfold Ho.fresh
  generalize flN s.fl 4 = v1
  generalize (s.dp == 1883) = v2
  generalize flN s.fl 2 = v3
  generalize flN s.fl 16 = v4
  generalize decide (8 ≤ h.conns.length) = v5
  generalize decide (4 ≤ synN h.conns) = v6
  generalize (h.count == 1099511627776) = v7
  cases v1 <;> cases v2 <;> cases v3 <;> cases v4 <;> cases v5 <;> cases v6 <;> cases v7 <;> simp
theorem fresh_open {h : Ho} (H : HoI h) {ip : Int} (hip : 0 ≤ ip ∧ ip ≤ 4294967295) {s : Sg} (hs : sgB s = true) (h4 : (bits .and .i64 s.fl 4 != 0) = false) (h18 : (bits .and .i64 s.fl 18 != 2) = false) (hc : (h.count == 1099511627776) = false) :
    openB (h.count + 1) ip (wadd 0 (64000 * (h.count + 1))) s = true := by
  have hfl := (sgB_w hs).2.2.2.2.1
  have hcb := H.count
  rw [flN_18 hfl] at h18
  simp only [Bool.or_eq_false_iff, Bool.not_eq_false', beq_eq_false_iff_ne] at h18 hc
  have h4' : flN s.fl 4 = true := by
    have : (!flN s.fl 4) = false := h4
    simpa using this
  have b1 : within (h.count + 1) 1099511627776 = true := by simp only [within, decide_eq_true_eq]; omega
  have b2 : within ip 4294967295 = true := by simp only [within, decide_eq_true_eq]; omega
  have b3 : within (wadd 0 (64000 * (h.count + 1))) 4294967295 = true := by have := wadd_bd 0 (64000 * (h.count + 1)); simp only [within, decide_eq_true_eq]; omega
  unfold openB
  rw [b1, b2, b3, hs, h18.1, flN_20 hfl, h18.2, h4']
  rfl
abbrev snN (p : Int × Sg) : List AV := .val (.int .i64 p.1) :: sgL (.val (.slice none 0 0)) p.2
theorem dt_AhHoF_ROWF {p : Prop} (h : p := by first | ((first | rfl | (exact rowsT) | exact hob_nil _ rfl | exact cns_gg rfl rfl rfl _ | exact sns_gg rfl _); done) | fail) : p := h
theorem fresh_no (l : List Cn) (count ip : Int) (s : Sg) (H : HoI ⟨l, count⟩) (hs : sgB s = true) (hno : (Ho.fresh ⟨l, count⟩ ip s).h = ⟨l, count⟩) (hno2 : (Ho.fresh ⟨l, count⟩ ip s).out ≠ (Ho.more ⟨l, count⟩ ip s).out) :
    ACallL Tryz.prog 74 [.ptr 1 0 0, .val (.int .i64 ip), .agg (sgR 0 s)] [.perm, hoB 2 l.length count, cnB' (l.map (cnG 3 4 5)), .perm, .perm, .perm] (.glist 6 8 ((Ho.fresh ⟨l, count⟩ ip s).out.map snN))
      [.perm, hoB 2 l.length count, cnB' (l.map (cnG 3 4 5)), .perm, .perm, .perm, .uniq] := by
  have hd := (sgB_w hs).2.2.2.2.2.2
  have cR := refuse_l s (by omega)
  have hl := H.len
  have cO := opening_l ⟨l, count⟩ (by omega)
  have cT := toN_l ip (refuseS s)
  have pz := pl_bytes s.data
  have ways := fresh_ways H ip hs
  obtain ⟨r, hr⟩ : ∃ r, Ho.fresh ⟨l, count⟩ ip s = r := ⟨_, rfl⟩
  rw [hr] at ways hno hno2 ⊢
  dsimp only [hoR, sgR, sgL] at cO cR ⊢
  rcases ways with ⟨w1, rfl⟩ | ⟨w1, rfl, w⟩ | ⟨w1, rfl, w⟩
  · refine ACallL.of_ev mixed Tryz.func74 rfl (fun a w => Tryz.call74 a w) (congrArg Array.toList Tryz.results74) Tryz.ntmps74 fun B hB => ?_
    ((conv => whnf); (repeat' ((first | (with_reducible first | refine qif_n ?_ | refine qif_t ‹_› ?_ | refine qif_f ‹_› ?_) | ((with_reducible refine qif_t ?_ ?_); focus decide) | ((with_reducible refine qif_f ?_ ?_); focus decide) | (with_reducible refine And.intro (orderOk_i ?ho) ?_; (case ho => kernel_rfl)) | ((with_reducible refine qif_t ?_ ?_); focus (simp []; done)) | ((with_reducible refine qif_f ?_ ?_); focus (simp []; done)) | (with_reducible first | refine qif_i (fun _ => ?_) (fun _ => ?_) | refine frcVs_i ?_ | refine frcRs_i ?_)) <;> (conv => whnf))))
    (refine qConv.of hB [(1, 1), (2, 2)] [(0, 0), (3, 3), (4, 4), (5, 5)] [] (by rfl) ?_; focus ((conv => whnf); (repeat (refine And.intro ?_ ?_; rotate_left; (conv => whnf))); exact trivial; all_goals (try exact andT)))
    all_goals (try exact dt_AhHoF_ROWF)
  · rcases w with w | ⟨w2, w3⟩ | ⟨w2, w3, w4⟩ | ⟨w2, w3, w4, w5⟩ | ⟨w2, w3, w4, w5, w6⟩
    all_goals
      refine ACallL.of_ev mixed Tryz.func74 rfl (fun a w => Tryz.call74 a w) (congrArg Array.toList Tryz.results74) Tryz.ntmps74 fun B hB => ?_
      ((conv => whnf); (repeat' ((first | (with_reducible first | refine qif_n ?_ | refine qif_t ‹_› ?_ | refine qif_f ‹_› ?_) | ((with_reducible refine qif_t ?_ ?_); focus decide) | ((with_reducible refine qif_f ?_ ?_); focus decide) | (with_reducible refine And.intro (orderOk_i ?ho) ?_; (case ho => kernel_rfl)) | ((with_reducible refine qif_t ?_ ?_); focus (simp []; done)) | ((with_reducible refine qif_f ?_ ?_); focus (simp []; done)) | (with_reducible first | refine qif_i (fun _ => ?_) (fun _ => ?_) | refine frcVs_i ?_ | refine frcRs_i ?_) | (((with_reducible refine qCall.reads (cR) [(0, 0)] [] ?hk ?_); (case hk => rfl); (conv => whnf); (repeat (refine And.intro ?_ ?_; (focus (first | exact sideT | (exact cns_bor rfl rfl rfl _ rfl))); (conv => whnf))); (fail_if_success (with_reducible first | refine And.intro (eqv_i ?_) ?_ | refine And.intro (ren_i ?_) ?_)))) | (((with_reducible refine qCall.reads (cO) [(0, 0), (0, 3), (0, 4), (0, 5)] [(0, 2)] ?hk ?_); (case hk => rfl); (conv => whnf); (repeat (refine And.intro ?_ ?_; (focus (first | exact sideT | (exact cns_bor rfl rfl rfl _ rfl))); (conv => whnf))); (fail_if_success (with_reducible first | refine And.intro (eqv_i ?_) ?_ | refine And.intro (ren_i ?_) ?_)))) | (((with_reducible refine qCall.of (cT) [] [(0, 0)] [(1, 7)] [(2, 8)] [(8, .uniq)] (.glist 8 8 [.val (.int .i64 ip) :: sgL (.val (.slice none 0 0)) (refuseS s)]) ?hk ?_); (case hk => rfl); (conv => whnf); (repeat (refine And.intro ?_ ?_; (focus (first | exact sideT | (exact cns_bor rfl rfl rfl _ rfl))); (conv => whnf))); (fail_if_success (with_reducible first | refine And.intro (eqv_i ?_) ?_ | refine And.intro (ren_i ?_) ?_))))) <;> (conv => whnf))))
      simp only [List.map_cons, List.map_nil, snN]
      (refine qConv.of hB [(1, 1), (2, 2)] [(0, 0), (3, 3), (4, 4), (5, 5), (8, 6)] [] (by rfl) ?_; focus ((conv => whnf); (repeat (refine And.intro ?_ ?_; rotate_left; (conv => whnf))); exact trivial; all_goals (try exact andT)))
      all_goals (try exact dt_AhHoF_ROWF)
      all_goals trace_state
  · exact absurd rfl hno2
theorem fresh_iss {count : Int} (h : 0 ≤ count ∧ count ≤ 1099511627776) : bits .and .i64 (IntKind.i64.wrap (64000 * IntKind.i64.wrap (count + 1))) 4294967295 = wadd 0 (64000 * (count + 1)) := by
  rw [IntWalk.i64_in (count + 1) (by omega), IntWalk.i64_in _ (by omega), and32, wadd, Int.zero_add]
theorem fresh_more (l : List Cn) (count ip : Int) (s : Sg) (H : HoI ⟨l, count⟩) (hip : 0 ≤ ip ∧ ip ≤ 4294967295) (hs : sgB s = true) (y : Stp) (hy : opens (count + 1) ip (wadd 0 (64000 * (count + 1))) s = y)
    (w1 : (bits .and .i64 s.fl 4 != 0) = false) (w2 : (s.dp != 1883) = false) (w3 : (bits .and .i64 s.fl 18 != 2) = false) (w4 : ((l.length : Int) == 8) = false) (w5 : decide (4 ≤ (synN l : Int)) = false) (w6 : (count == 1099511627776) = false) :
    ACallL Tryz.prog 74 [.ptr 1 0 0, .val (.int .i64 ip), .agg (sgR 0 s)] [.perm, hoB 2 l.length count, cnB' (l.map (cnG 3 4 5)), .perm, .perm, .perm] (.glist 6 8 ((toS ip y.out).map (snG 7)))
      [.perm, hoB 8 (l.length + 1) (count + 1), .dead, .perm, .perm, .perm, .uniq, .uniq, cnB' (l.map (cnG 3 4 5) ++ [cnG 9 10 11 y.c]), .uniq, .uniq, .uniq] := by
  have hl := H.len
  have hc := H.count
  dsimp only at hl hc
  have cO := opening_l ⟨l, count⟩ (by dsimp only; omega)
  have e1 := fresh_iss hc
  have wc : IntKind.i64.wrap (count + 1) = count + 1 := IntWalk.i64_in _ (by omega)
  have hop := fresh_open H hip hs w1 w3 w6
  have cP := tcpOpenA_l _ _ _ _ hop
  dsimp only at cP
  rw [hy] at cP
  have hlen : y.out.length = 1 := by rw [← hy]; rfl
  have cT := to_l ip y.out (by omega)
  have pz := pl_bytes s.data
  have cP' : ∀ a b, a = count + 1 → b = wadd 0 (64000 * (count + 1)) → ACallL Tryz.prog 115 [.val (.int .i64 a), .val (.int .i64 ip), .val (.int .i64 b), .agg (sgR 0 s)] [.perm] (stA y) stH := fun a b ea eb => by rw [ea, eb]; exact cP
  clear cP
  have hap : (l.length + 1) * 160 ≤ 140737488355328 := by omega
  dsimp only [hoR, sgR, sgL, stA] at cO cP' ⊢
  refine ACallL.of_ev mixed Tryz.func74 rfl (fun a w => Tryz.call74 a w) (congrArg Array.toList Tryz.results74) Tryz.ntmps74 fun B hB => ?_
  ((conv => whnf); (repeat' ((first | (with_reducible first | refine qif_n ?_ | refine qif_t ‹_› ?_ | refine qif_f ‹_› ?_) | ((with_reducible refine qif_t ?_ ?_); focus decide) | ((with_reducible refine qif_f ?_ ?_); focus decide) | (with_reducible refine And.intro (orderOk_i ?ho) ?_; (case ho => kernel_rfl)) | ((with_reducible refine qif_t ?_ ?_); focus (simp []; done)) | ((with_reducible refine qif_f ?_ ?_); focus (simp []; done)) | (with_reducible first | refine qif_i (fun _ => ?_) (fun _ => ?_) | refine frcVs_i ?_ | refine frcRs_i ?_) | (((with_reducible refine qCall.reads (cO) [(0, 0), (0, 3), (0, 4), (0, 5)] [(0, 2)] ?hk ?_); (case hk => rfl); (conv => whnf); (repeat (refine And.intro ?_ ?_; (focus (first | exact sideT | (exact cns_bor rfl rfl rfl _ rfl))); (conv => whnf))); (fail_if_success (with_reducible first | refine And.intro (eqv_i ?_) ?_ | refine And.intro (ren_i ?_) ?_)))) | (((with_reducible refine qCall.of ((cP' _ _ wc e1)) [] [(0, 0)] [] [(1, 7), (2, 8), (3, 9), (4, 10), (5, 11)] [(7, .uniq), (8, .uniq), (9, .uniq), (10, .uniq), (11, .uniq)] (.tup [.agg (cnG 7 8 9 y.c), .glist 10 7 (y.out.map (sgG 11)), .val (.int .i64 0)]) ?hk ?_); (case hk => rfl); (conv => whnf); (repeat (refine And.intro ?_ ?_; (focus (first | exact sideT | (exact cns_bor rfl rfl rfl _ rfl))); (conv => whnf))); (fail_if_success (with_reducible first | refine And.intro (eqv_i ?_) ?_ | refine And.intro (ren_i ?_) ?_)))) | (refine qCase_i (apS1 (nb := 160) rfl rfl rfl rfl rfl rfl rfl rfl rfl rfl ⟨Nat.zero_lt_succ _, Nat.zero_lt_succ _, rfl⟩ rfl ⟨rfl, rfl, by simp⟩ (ones_cnG 3 4 5 l) hap) ?_) | (((with_reducible refine qCall.of (cT) [] [(0, 0), (1, 10), (2, 11)] [] [(3, 15)] [(15, .uniq)] (.glist 15 8 ((toS ip y.out).map (snG 11))) ?hk ?_); (case hk => rfl); (conv => whnf); (repeat (refine And.intro ?_ ?_; (focus (first | exact sideT | (exact cns_bor rfl rfl rfl _ rfl))); (conv => whnf))); (fail_if_success (with_reducible first | refine And.intro (eqv_i ?_) ?_ | refine And.intro (ren_i ?_) ?_))))) <;> (conv => whnf))))
  (refine qConv.of hB [(1, 1), (14, 8)] [(0, 0), (3, 3), (4, 4), (5, 5), (15, 6), (11, 7), (7, 9), (8, 10), (9, 11)] [] (by rfl) ?_; focus ((conv => whnf); (repeat (refine And.intro ?_ ?_; rotate_left; (conv => whnf))); exact trivial; all_goals (try exact andT)))
  all_goals first | rfl | exact RowsRen.app (cns_gg rfl rfl rfl _) (RowsRen.one (cn_gg rfl rfl rfl _)) | exact sns_gg rfl _ | (exact rowsT) | (rw [wc]; (exact rowsT))
abbrev hoB0 (b : Nat) (count : Int) : Own := .live ⟨2, 24, [[.glist b 16 [], .val (.int .i64 count)]]⟩
theorem fresh0_no (count ip : Int) (s : Sg) (H : HoI ⟨[], count⟩) (hs : sgB s = true) (hno : (Ho.fresh ⟨[], count⟩ ip s).h = ⟨[], count⟩) (hno2 : (Ho.fresh ⟨[], count⟩ ip s).out ≠ (Ho.more ⟨[], count⟩ ip s).out) :
    ACallL Tryz.prog 74 [.ptr 1 0 0, .val (.int .i64 ip), .agg (sgR 0 s)] [.perm, hoB0 2 count, .uniq] (.glist 3 8 ((Ho.fresh ⟨[], count⟩ ip s).out.map snN))
      [.perm, hoB0 2 count, .uniq, .uniq] := by
  have hd := (sgB_w hs).2.2.2.2.2.2
  have cR := refuse_l s (by omega)
  have hl := H.len
  have cO := opening_l ⟨[], count⟩ (by omega)
  have cT := toN_l ip (refuseS s)
  have pz := pl_bytes s.data
  have ways := fresh_ways H ip hs
  obtain ⟨r, hr⟩ : ∃ r, Ho.fresh ⟨[], count⟩ ip s = r := ⟨_, rfl⟩
  rw [hr] at ways hno hno2 ⊢
  dsimp only [hoR, sgR, sgL] at cO cR ⊢
  rcases ways with ⟨w1, rfl⟩ | ⟨w1, rfl, w⟩ | ⟨w1, rfl, w⟩
  · refine ACallL.of_ev mixed Tryz.func74 rfl (fun a w => Tryz.call74 a w) (congrArg Array.toList Tryz.results74) Tryz.ntmps74 fun B hB => ?_
    ((conv => whnf); (repeat' ((first | (with_reducible first | refine qif_n ?_ | refine qif_t ‹_› ?_ | refine qif_f ‹_› ?_) | ((with_reducible refine qif_t ?_ ?_); focus decide) | ((with_reducible refine qif_f ?_ ?_); focus decide) | (with_reducible refine And.intro (orderOk_i ?ho) ?_; (case ho => kernel_rfl)) | ((with_reducible refine qif_t ?_ ?_); focus (simp []; done)) | ((with_reducible refine qif_f ?_ ?_); focus (simp []; done)) | (with_reducible first | refine qif_i (fun _ => ?_) (fun _ => ?_) | refine frcVs_i ?_ | refine frcRs_i ?_)) <;> (conv => whnf))))
    (refine qConv.of hB [(1, 1)] [(0, 0), (2, 2)] [] (by rfl) ?_; focus ((conv => whnf); (repeat (refine And.intro ?_ ?_; rotate_left; (conv => whnf))); exact trivial; all_goals (try exact andT)))
    all_goals (try exact dt_AhHoF_ROWF)
  · rcases w with w | ⟨w2, w3⟩ | ⟨w2, w3, w4⟩ | ⟨w2, w3, w4, w5⟩ | ⟨w2, w3, w4, w5, w6⟩
    rotate_left 2
    · exact absurd (show (((0 : Nat) : Int) == 8) = true from w4) (by decide)
    · exact absurd (show decide (4 ≤ ((0 : Nat) : Int)) = true from w5) (by decide)
    all_goals
      refine ACallL.of_ev mixed Tryz.func74 rfl (fun a w => Tryz.call74 a w) (congrArg Array.toList Tryz.results74) Tryz.ntmps74 fun B hB => ?_
      ((conv => whnf); (repeat' ((first | (with_reducible first | refine qif_n ?_ | refine qif_t ‹_› ?_ | refine qif_f ‹_› ?_) | ((with_reducible refine qif_t ?_ ?_); focus decide) | ((with_reducible refine qif_f ?_ ?_); focus decide) | (with_reducible refine And.intro (orderOk_i ?ho) ?_; (case ho => kernel_rfl)) | ((with_reducible refine qif_t ?_ ?_); focus (simp []; done)) | ((with_reducible refine qif_f ?_ ?_); focus (simp []; done)) | (with_reducible first | refine qif_i (fun _ => ?_) (fun _ => ?_) | refine frcVs_i ?_ | refine frcRs_i ?_) | (((with_reducible refine qCall.reads (cR) [(0, 0)] [] ?hk ?_); (case hk => rfl); (conv => whnf); (repeat (refine And.intro ?_ ?_; (focus (first | exact sideT | (exact cns_bor rfl rfl rfl _ rfl))); (conv => whnf))); (fail_if_success (with_reducible first | refine And.intro (eqv_i ?_) ?_ | refine And.intro (ren_i ?_) ?_)))) | (((with_reducible refine qCall.reads (cO) [(0, 0), (0, 2)] [] ?hk ?_); (case hk => rfl); (conv => whnf); (repeat (refine And.intro ?_ ?_; (focus (first | exact sideT | (exact cns_bor rfl rfl rfl _ rfl))); (conv => whnf))); (fail_if_success (with_reducible first | refine And.intro (eqv_i ?_) ?_ | refine And.intro (ren_i ?_) ?_)))) | (((with_reducible refine qCall.of (cT) [] [(0, 0)] [(1, 4)] [(2, 5)] [(5, .uniq)] (.glist 5 8 [.val (.int .i64 ip) :: sgL (.val (.slice none 0 0)) (refuseS s)]) ?hk ?_); (case hk => rfl); (conv => whnf); (repeat (refine And.intro ?_ ?_; (focus (first | exact sideT | (exact cns_bor rfl rfl rfl _ rfl))); (conv => whnf))); (fail_if_success (with_reducible first | refine And.intro (eqv_i ?_) ?_ | refine And.intro (ren_i ?_) ?_))))) <;> (conv => whnf))))
      simp only [List.map_cons, List.map_nil, snN]
      (refine qConv.of hB [(1, 1)] [(0, 0), (2, 2), (5, 3)] [] (by rfl) ?_; focus ((conv => whnf); (repeat (refine And.intro ?_ ?_; rotate_left; (conv => whnf))); exact trivial; all_goals (try exact andT)))
      all_goals (try exact dt_AhHoF_ROWF)
      all_goals trace_state
  · exact absurd rfl hno2
theorem fresh0_more (count ip : Int) (s : Sg) (H : HoI ⟨[], count⟩) (hip : 0 ≤ ip ∧ ip ≤ 4294967295) (hs : sgB s = true) (y : Stp) (hy : opens (count + 1) ip (wadd 0 (64000 * (count + 1))) s = y)
    (w1 : (bits .and .i64 s.fl 4 != 0) = false) (w2 : (s.dp != 1883) = false) (w3 : (bits .and .i64 s.fl 18 != 2) = false) (w6 : (count == 1099511627776) = false) :
    ACallL Tryz.prog 74 [.ptr 1 0 0, .val (.int .i64 ip), .agg (sgR 0 s)] [.perm, hoB0 2 count, .uniq] (.glist 3 8 ((toS ip y.out).map (snG 4)))
      [.perm, .live ⟨2, 24, [[.glist 5 16 [cnG 6 7 8 y.c], .val (.int .i64 (count + 1))]]⟩, .dead, .uniq, .uniq, .uniq, .uniq, .uniq, .uniq] := by
  have hl := H.len
  have hc := H.count
  dsimp only at hl hc
  have cO := opening_l ⟨[], count⟩ (by dsimp only; omega)
  have e1 := fresh_iss hc
  have wc : IntKind.i64.wrap (count + 1) = count + 1 := IntWalk.i64_in _ (by omega)
  have hop := fresh_open H hip hs w1 w3 w6
  have cP := tcpOpenA_l _ _ _ _ hop
  dsimp only at cP
  rw [hy] at cP
  have hlen : y.out.length = 1 := by rw [← hy]; rfl
  have cT := to_l ip y.out (by omega)
  have pz := pl_bytes s.data
  have cP' : ∀ a b, a = count + 1 → b = wadd 0 (64000 * (count + 1)) → ACallL Tryz.prog 115 [.val (.int .i64 a), .val (.int .i64 ip), .val (.int .i64 b), .agg (sgR 0 s)] [.perm] (stA y) stH := fun a b ea eb => by rw [ea, eb]; exact cP
  clear cP
  dsimp only [hoR, sgR, sgL, stA] at cO cP' ⊢
  refine ACallL.of_ev mixed Tryz.func74 rfl (fun a w => Tryz.call74 a w) (congrArg Array.toList Tryz.results74) Tryz.ntmps74 fun B hB => ?_
  ((conv => whnf); (repeat' ((first | (with_reducible first | refine qif_n ?_ | refine qif_t ‹_› ?_ | refine qif_f ‹_› ?_) | ((with_reducible refine qif_t ?_ ?_); focus decide) | ((with_reducible refine qif_f ?_ ?_); focus decide) | (with_reducible refine And.intro (orderOk_i ?ho) ?_; (case ho => kernel_rfl)) | ((with_reducible refine qif_t ?_ ?_); focus (simp []; done)) | ((with_reducible refine qif_f ?_ ?_); focus (simp []; done)) | (with_reducible first | refine qif_i (fun _ => ?_) (fun _ => ?_) | refine frcVs_i ?_ | refine frcRs_i ?_) | (((with_reducible refine qCall.reads (cO) [(0, 0), (0, 2)] [] ?hk ?_); (case hk => rfl); (conv => whnf); (repeat (refine And.intro ?_ ?_; (focus (first | exact sideT | (exact cns_bor rfl rfl rfl _ rfl))); (conv => whnf))); (fail_if_success (with_reducible first | refine And.intro (eqv_i ?_) ?_ | refine And.intro (ren_i ?_) ?_)))) | (((with_reducible refine qCall.of ((cP' _ _ wc e1)) [] [(0, 0)] [] [(1, 4), (2, 5), (3, 6), (4, 7), (5, 8)] [(4, .uniq), (5, .uniq), (6, .uniq), (7, .uniq), (8, .uniq)] (.tup [.agg (cnG 4 5 6 y.c), .glist 7 7 (y.out.map (sgG 8)), .val (.int .i64 0)]) ?hk ?_); (case hk => rfl); (conv => whnf); (repeat (refine And.intro ?_ ?_; (focus (first | exact sideT | (exact cns_bor rfl rfl rfl _ rfl))); (conv => whnf))); (fail_if_success (with_reducible first | refine And.intro (eqv_i ?_) ?_ | refine And.intro (ren_i ?_) ?_)))) | (refine qCase_i (apG (nb := 160) rfl rfl rfl rfl rfl rfl rfl rfl rfl rfl ⟨Nat.zero_lt_succ _, Nat.zero_lt_succ _, rfl⟩ rfl (by decide)) ?_) | (((with_reducible refine qCall.of (cT) [] [(0, 0), (1, 7), (2, 8)] [] [(3, 12)] [(12, .uniq)] (.glist 12 8 ((toS ip y.out).map (snG 8))) ?hk ?_); (case hk => rfl); (conv => whnf); (repeat (refine And.intro ?_ ?_; (focus (first | exact sideT | (exact cns_bor rfl rfl rfl _ rfl))); (conv => whnf))); (fail_if_success (with_reducible first | refine And.intro (eqv_i ?_) ?_ | refine And.intro (ren_i ?_) ?_))))) <;> (conv => whnf))))
  (refine qConv.of hB [(1, 1)] [(0, 0), (12, 3), (8, 4), (11, 5), (4, 6), (5, 7), (6, 8)] [] (by rfl) ?_; focus ((conv => whnf); (repeat (refine And.intro ?_ ?_; rotate_left; (conv => whnf))); exact trivial; all_goals (try exact andT)))
  all_goals first | rfl | (rw [wc]; exact hob_1 _ rfl rfl rfl rfl _) | exact RowsRen.one (cn_gg rfl rfl rfl _) | exact sns_gg rfl _ | (exact rowsT) | (rw [wc]; (exact rowsT))
end Go.Proofs.YtceohcbokbalhaaGreat

/- Where a peer's connection is: on data. Conditions: lengths. -/
namespace Go.Proofs.YtceohcbokbalhaaGreat
open Go.RowKit
set_option linter.unusedVariables false
set_option linter.unusedSimpArgs false
set_option maxRecDepth 100000
set_option maxHeartbeats 4000000
abbrev sgB1 (row : List AV) : Own := .live ⟨7, 39, [row]⟩
abbrev inB1 (n : Int) : Own := .live ⟨1, 3, [[.val (.int .i64 n)]]⟩
theorem his_l (c : Cn) (ip : Int) (s : Sg) : ACallL Tryz.prog 73 [.agg (cnR 0 c), .ptr 1 0 0, .ptr 2 0 0] [.perm, sgB1 (sgR 3 s), inB1 ip, .perm] (.val (.bool (hisB ip s c))) [.perm, sgB1 (sgR 3 s), inB1 ip, .perm] := by
  have px := pl_bytes c.out
  have py := pl_parts c.parts
  have pz := pl_bytes s.data
  unfold hisB
  dsimp only [cnR, cnL, sgR, sgL]
  obtain ⟨b1, h1⟩ : ∃ b, (s.dp == 1883) = b := ⟨_, rfl⟩
  obtain ⟨b2, h2⟩ : ∃ b, (c.ip == ip) = b := ⟨_, rfl⟩
  obtain ⟨b3, h3⟩ : ∃ b, (c.pp == s.sp) = b := ⟨_, rfl⟩
  rw [h1, h2, h3]
  cases b1 <;> cases b2 <;> cases b3
  all_goals
    refine ACallL.of_ev mixed Tryz.func73 rfl (fun a w => Tryz.call73 a w) (congrArg Array.toList Tryz.results73) Tryz.ntmps73 fun B hB => ?_
    ((conv => whnf); (repeat' ((first | (with_reducible first | refine qif_n ?_ | refine qif_t ‹_› ?_ | refine qif_f ‹_› ?_) | ((with_reducible refine qif_t ?_ ?_); focus decide) | ((with_reducible refine qif_f ?_ ?_); focus decide) | (with_reducible refine And.intro (orderOk_i ?ho) ?_; (case ho => kernel_rfl)) | ((with_reducible refine qif_t ?_ ?_); focus (simp []; done)) | ((with_reducible refine qif_f ?_ ?_); focus (simp []; done)) | (with_reducible first | refine qif_i (fun _ => ?_) (fun _ => ?_) | refine frcVs_i ?_ | refine frcRs_i ?_)) <;> (conv => whnf))))
    all_goals (refine qConv.of hB [(1, 1), (2, 2)] [(0, 0), (3, 3)] [] (by rfl) ?_; focus ((conv => whnf); (repeat (refine And.intro ?_ ?_; rotate_left; (conv => whnf))); exact trivial; all_goals (try exact andT)))
    all_goals first | rfl | (exact rowsT) | (rw [h1]; rfl) | (rw [h2]; rfl) | (rw [h3]; rfl)
def idxI : Option Nat → Int
  | some i => i
  | none => -1
theorem find_at {p : Cn → Bool} {l : List Cn} {k : Nat} {c : Cn} (h : ∀ j d, j < k → l[j]? = some d → p d = false) (hk : l[k]? = some c) (hc : p c = true) : l.findIdx? p = some k := by
  obtain ⟨hlt, e⟩ := List.getElem?_eq_some_iff.1 hk
  rw [List.findIdx?_eq_some_iff_getElem]
  refine ⟨hlt, by rw [e]; exact hc, fun j hj => ?_⟩
  have := h j l[j] hj (List.getElem?_eq_getElem (by omega))
  rw [this]
  decide
theorem find_none' {p : Cn → Bool} {l : List Cn} (h : ∀ j d, j < l.length → l[j]? = some d → p d = false) : l.findIdx? p = none := by
  rw [List.findIdx?_eq_none_iff]
  intro d hd
  obtain ⟨j, hj⟩ := List.getElem?_of_mem hd
  exact h j d (List.getElem?_eq_some_iff.1 hj).1 hj
theorem index_l (l : List Cn) (ip : Int) (s : Sg) (hl : l.length ≤ 100000) : ACallL Tryz.prog 72 [.list 0 16 (l.map (cnR 0)), .clo 73 [.ptr 1 0 0, .ptr 2 0 0]] [.perm, sgB1 (sgR 3 s), inB1 ip, .perm]
    (.val (.int .i64 (idxI (l.findIdx? (hisB ip s))))) [.perm, sgB1 (sgR 3 s), inB1 ip, .perm] := by
  have px := pl_cns l
  have pz := pl_bytes s.data
  have ll : (l.map (cnR 0)).length = l.length := by simp
  refine ACallL.of_ev mixed Tryz.func72 rfl (fun a w => Tryz.call72 a w) (congrArg Array.toList Tryz.results72) Tryz.ntmps72 fun B hB => ?_
  ((conv => whnf); (repeat' ((first | (with_reducible first | refine qif_n ?_ | refine qif_t ‹_› ?_ | refine qif_f ‹_› ?_) | ((with_reducible refine qif_t ?_ ?_); focus decide) | ((with_reducible refine qif_f ?_ ?_); focus decide) | (with_reducible refine And.intro (orderOk_i ?ho) ?_; (case ho => kernel_rfl)) | (with_reducible first | refine qif_i (fun _ => ?_) (fun _ => ?_) | refine frcVs_i ?_ | refine frcRs_i ?_)) <;> (conv => whnf))))
  refine qAW.loopE mixed (X := Nat) (fun k => slotsOf 19 [(0, .list 0 16 (l.map (cnR 0))), (1, .clo 73 [.ptr 1 0 0, .ptr 2 0 0]), (7, .val (.int .i64 (l.map (cnR 0)).length)), (8, .val (.int .i64 k))]) (fun k => [.perm, sgB1 (sgR 3 s), inB1 ip, .perm])
    (fun k => k ≤ l.length ∧ ∀ j d, j < k → l[j]? = some d → hisB ip s d = false) (fun k => l.length - k) 0 ⟨Nat.zero_le _, fun j d h => by omega⟩ ?_ ?_
  · (refine qConv.of hB [(1, 1), (2, 2)] [(0, 0), (3, 3)] [] (by rfl) ?_; focus ((conv => whnf); (repeat (refine And.intro ?_ ?_; rotate_left; (conv => whnf))); exact trivial; all_goals (try exact andT)))
    all_goals first | rfl | (exact rowsT)
  · rintro E k ⟨hk, hno⟩ hE
    by_cases hlt : k < l.length
    · obtain ⟨c, hc⟩ : ∃ p, l[k]? = some p := ⟨_, List.getElem?_eq_getElem hlt⟩
      have hrow : (l.map (cnR 0))[(k : Int).toNat]? = some (cnR 0 c) := by simp [hc]
      have p1 := pl_bytes c.out
      have p2 := pl_parts c.parts
      have w := IntWalk.i64_in (k + 1) (by omega)
      have cH := his_l c ip s
      obtain ⟨b, hb⟩ : ∃ b, hisB ip s c = b := ⟨_, rfl⟩
      rw [hb] at cH
      cases b with
      | true =>
        have hf := find_at hno hc hb
        rw [hf] at hE
        subst hE
        ((conv => whnf); (repeat' ((first | (with_reducible first | refine qif_n ?_ | refine qif_t ‹_› ?_ | refine qif_f ‹_› ?_) | ((with_reducible refine qif_t ?_ ?_); focus decide) | ((with_reducible refine qif_f ?_ ?_); focus decide) | (with_reducible refine And.intro (orderOk_i ?ho) ?_; (case ho => kernel_rfl)) | ((with_reducible refine qif_t ?_ ?_); focus (simp [hlt]; done)) | ((with_reducible refine qif_f ?_ ?_); focus (simp [hlt]; done)) | (with_reducible first | refine qif_i (fun _ => ?_) (fun _ => ?_) | refine frcVs_i ?_ | refine frcRs_i ?_) | (refine qCase_i (idxL rfl rfl rfl rfl rfl rfl (by omega) hrow) ?_) | (((with_reducible refine qCall.of (cH) [(1, 1), (2, 2)] [(0, 0), (3, 3)] [] [] [(1, sgB1 (sgR 3 s)), (2, inB1 ip)] (.val (.bool true)) ?hk ?_); (case hk => rfl); (conv => whnf); (repeat (refine And.intro ?_ ?_; exact sideT; (conv => whnf))); (fail_if_success (with_reducible first | refine And.intro (eqv_i ?_) ?_ | refine And.intro (ren_i ?_) ?_))))) <;> (conv => whnf))))
        (refine qConv.of hB [(1, 1), (2, 2)] [(0, 0), (3, 3)] [] (by rfl) ?_; focus ((conv => whnf); (repeat (refine And.intro ?_ ?_; rotate_left; (conv => whnf))); exact trivial; all_goals (try exact andT)))
        all_goals first | rfl | (exact rowsT)
      | false =>
        subst hE
        ((conv => whnf); (repeat' ((first | (with_reducible first | refine qif_n ?_ | refine qif_t ‹_› ?_ | refine qif_f ‹_› ?_) | ((with_reducible refine qif_t ?_ ?_); focus decide) | ((with_reducible refine qif_f ?_ ?_); focus decide) | (with_reducible refine And.intro (orderOk_i ?ho) ?_; (case ho => kernel_rfl)) | ((with_reducible refine qif_t ?_ ?_); focus (simp [hlt]; done)) | ((with_reducible refine qif_f ?_ ?_); focus (simp [hlt]; done)) | (with_reducible first | refine qif_i (fun _ => ?_) (fun _ => ?_) | refine frcVs_i ?_ | refine frcRs_i ?_) | (refine qCase_i (idxL rfl rfl rfl rfl rfl rfl (by omega) hrow) ?_) | (((with_reducible refine qCall.of (cH) [(1, 1), (2, 2)] [(0, 0), (3, 3)] [] [] [(1, sgB1 (sgR 3 s)), (2, inB1 ip)] (.val (.bool false)) ?hk ?_); (case hk => rfl); (conv => whnf); (repeat (refine And.intro ?_ ?_; exact sideT; (conv => whnf))); (fail_if_success (with_reducible first | refine And.intro (eqv_i ?_) ?_ | refine And.intro (ren_i ?_) ?_))))) <;> (conv => whnf))))
        refine ⟨k + 1, ⟨by omega, fun j d hj hd => ?_⟩, by omega, ?_⟩
        · by_cases e : j = k
          · subst e; rw [hc] at hd; cases hd; exact hb
          · exact hno j d (by omega) hd
        · (refine qConv.of hB [(1, 1), (2, 2)] [(0, 0), (3, 3)] [] (by rfl) ?_; focus ((conv => whnf); (repeat (refine And.intro ?_ ?_; rotate_left; (conv => whnf))); exact trivial; all_goals (try exact andT)))
          all_goals first | rfl | (simp [w]; done) | (exact rowsT)
    · have e : k = l.length := by omega
      subst e
      have hf := find_none' hno
      rw [hf] at hE
      subst hE
      ((conv => whnf); (repeat' ((first | (with_reducible first | refine qif_n ?_ | refine qif_t ‹_› ?_ | refine qif_f ‹_› ?_) | ((with_reducible refine qif_t ?_ ?_); focus decide) | ((with_reducible refine qif_f ?_ ?_); focus decide) | (with_reducible refine And.intro (orderOk_i ?ho) ?_; (case ho => kernel_rfl)) | ((with_reducible refine qif_t ?_ ?_); focus (simp [hlt]; done)) | ((with_reducible refine qif_f ?_ ?_); focus (simp [hlt]; done)) | (with_reducible first | refine qif_i (fun _ => ?_) (fun _ => ?_) | refine frcVs_i ?_ | refine frcRs_i ?_)) <;> (conv => whnf))))
      (refine qConv.of hB [(1, 1), (2, 2)] [(0, 0), (3, 3)] [] (by rfl) ?_; focus ((conv => whnf); (repeat (refine And.intro ?_ ?_; rotate_left; (conv => whnf))); exact trivial; all_goals (try exact andT)))
      all_goals first | rfl | (exact rowsT)
end Go.Proofs.YtceohcbokbalhaaGreat
