/- Contracts and plain laws, one behind the other: TalkL, TalkR, TalkS, TalkT, TalkU, AhiCut. Conditions are said at each. -/
import Derived.Test.YthkjiihphdpagaaPkAK
import Derived.Test.YthkjiihphdpagaaPkAD
/- A connection and a plain peer: what holds between them: plain law. Conditions are said at each. -/
namespace Go.Proofs.Ythkjiihphdpagaa
open Go.RowKit
set_option linter.unusedVariables false
set_option linter.unusedSimpArgs false
set_option maxRecDepth 100000
set_option maxHeartbeats 1000000
structure TkI (A B : List Int) (iss irs : Int) (c : Cn) (T U N : Nat) : Prop where
  I : CnI c
  st : c.st = 2
  cl : c.closing = false
  pp : c.pp = 3
  port : c.port = 4
  una : c.una = wadd iss (1 + U)
  nx : c.nx = wadd iss (1 + N)
  out : c.out = B.drop U
  un : U ≤ N
  nb : N ≤ B.length
  inv : StInv A (wadd irs 1) T c.inx c.parts
structure SgK (B : List Int) (iss irs : Int) (T N : Nat) (m : Sg) : Prop where
  data : ∃ a : Nat, m.seq = wadd iss (1 + a) ∧ a + m.data.length ≤ N ∧ m.data = (B.drop a).take m.data.length
  ack : ∃ k : Nat, k ≤ T ∧ m.ack = wadd irs (1 + k)
theorem SgK.mono {B : List Int} {iss irs : Int} {T N T' N' : Nat} {m : Sg} (h : SgK B iss irs T N m) (hT : T ≤ T') (hN : N ≤ N') : SgK B iss irs T' N' m := by
  obtain ⟨⟨a, h1, h2, h3⟩, ⟨k, h4, h5⟩⟩ := h
  exact ⟨⟨a, h1, by omega, h3⟩, ⟨k, by omega, h5⟩⟩
section
variable {A B : List Int} {iss irs : Int} {T U N : Nat}
theorem TkI.sent {c : Cn} (h : TkI A B iss irs c T U N) (hB : B.length ≤ 3000) : c.sent = (N : Int) - U := by
  unfold Cn.sent
  have := h.nb
  have := h.un
  rw [h.nx, h.una, wdiff_two iss (by omega)]
  omega
theorem TkI.inx {c : Cn} (h : TkI A B iss irs c T U N) : c.inx = wadd irs (1 + T) := by rw [h.inv.nx, wadd_wadd]
theorem TkI.ackK {c : Cn} (h : TkI A B iss irs c T U N) (w fl : Int) : SgK B iss irs T N ⟨c.port, c.pp, c.nx, c.inx, fl, w, []⟩ :=
  ⟨⟨N, h.nx, by simp, by simp⟩, ⟨T, Nat.le_refl _, h.inx⟩⟩
theorem pumpGo_K (hB : B.length ≤ 3000) : ∀ (k : Nat) (y : Stp) (N : Nat), TkI A B iss irs y.c T U N → (∀ m ∈ y.out, SgK B iss irs T N m) → ∃ N', N ≤ N' ∧ TkI A B iss irs (pumpGo k y).c T U N' ∧ (∀ m ∈ (pumpGo k y).out, SgK B iss irs T N' m) ∧ (pumpGo k y).told = y.told ∧ (pumpGo k y).c.tm = y.c.tm ∧ (pumpGo k y).c.win = y.c.win ∧ (∀ m ∈ y.out, m ∈ (pumpGo k y).out) ∧ (B.length ≤ N + k → (pumpGo k y).c.pumpN ≤ 0) ∧ (N = B.length → (pumpGo k y).out = y.out)
  | 0, y, N, h, hs => ⟨N, Nat.le_refl _, h, hs, rfl, rfl, rfl, fun m hm => hm, fun hk => by
      have hsn := h.sent hB
      have := h.nb
      have := h.un
      show y.c.pumpN ≤ 0
      have hlen : (y.c.out.length : Int) = (B.length : Int) - U := by rw [h.out]; simp; omega
      unfold Cn.pumpN Cn.len
      omega, fun _ => rfl⟩
  | k + 1, y, N, h, hs => by
    rw [pumpGo]
    by_cases hn : y.c.pumpN ≤ 0
    · rw [if_pos hn]; exact ⟨N, Nat.le_refl _, h, hs, rfl, rfl, rfl, fun m hm => hm, fun _ => hn, fun _ => rfl⟩
    · rw [if_neg hn]
      have ht : y.c.talks = true := by simp [Cn.talks, h.st]
      have hP := h.I.pumpOk ht
      have hsn := h.sent hB
      have hle := pumpN_le hP
      have hlen : (y.c.out.length : Int) = (B.length : Int) - U := by
        rw [h.out]
        have := h.un
        have := h.nb
        simp; omega
      obtain ⟨q, hq⟩ : ∃ q : Nat, y.c.pumpN = q := ⟨y.c.pumpN.toNat, by omega⟩
      have hP1 := pump1_ok hP (by omega)
      have hun := h.un
      have hnb := h.nb
      have hN' : N + q ≤ B.length := by omega
      have hI1 : CnI y.pump1.c := by
        have hs1 := hP1.s0
        have hs2 := hP1.s1
        refine ⟨⟨h.I.link, h.I.ip, h.I.pp, h.I.port, h.I.st, h.I.una, hP1.nx, h.I.win, h.I.len, h.I.may, h.I.tm⟩, ⟨fun e => ?_, fun e => ?_, fun e => ?_, fun e => ?_, fun _ => ⟨hs1, hs2⟩⟩⟩
        · have e : y.c.st = 0 := e; have := h.st; omega
        · have e : y.c.st = 1 := e; have := h.st; omega
        · have e : y.c.st = 4 ∨ y.c.st = 8 := e; have := h.st; omega
        · have e : y.c.st = 3 ∨ y.c.st = 6 ∨ y.c.st = 7 := e; have := h.st; omega
      have hT1 : TkI A B iss irs y.pump1.c T U (N + q) := ⟨hI1, h.st, h.cl, h.pp, h.port, h.una, by
        show wadd y.c.nx y.c.pumpN = _
        rw [h.nx, hq, wadd_wadd]; congr 1; omega, h.out, by omega, hN', h.inv⟩
      obtain ⟨N', a1, a2, a3, a4, a5, a6, a7, a8, a9⟩ := pumpGo_K hB k y.pump1 (N + q) hT1 (fun m hm => by
        rcases List.mem_append.1 hm with hm | hm
        · exact (hs m hm).mono (Nat.le_refl _) (by omega)
        · rw [List.mem_singleton.1 hm]
          have e1 : y.c.sent.toNat = N - U := by omega
          have e2 : y.c.pumpN.toNat = q := by omega
          have e3 : ((y.c.out.drop y.c.sent.toNat).take y.c.pumpN.toNat) = (B.drop N).take q := by
            rw [h.out, e1, e2, List.drop_drop]; congr 2; omega
          refine ⟨⟨N, h.nx, ?_, ?_⟩, ⟨T, Nat.le_refl _, h.inx⟩⟩
          · show N + ((y.c.out.drop y.c.sent.toNat).take y.c.pumpN.toNat).length ≤ N + q
            rw [e3]; simp; omega
          · show ((y.c.out.drop y.c.sent.toNat).take y.c.pumpN.toNat) = (B.drop N).take ((y.c.out.drop y.c.sent.toNat).take y.c.pumpN.toNat).length
            rw [e3]; simp [List.take_eq_take_iff])
      exact ⟨N', by omega, a2, a3, a4, a5, a6, fun m hm => a7 m (by show m ∈ y.out ++ _; simp [hm]), fun hk => a8 (by omega), fun e => by omega⟩
theorem TkI.tm {c : Cn} (h : TkI A B iss irs c T U N) {m : Tm} (hm : tmB m = true) : TkI A B iss irs { c with tm := m } T U N :=
  ⟨h.I.tm_of hm (by have := h.st; omega), h.st, h.cl, h.pp, h.port, h.una, h.nx, h.out, h.un, h.nb, h.inv⟩
theorem pump_K (hB : B.length ≤ 3000) {y : Stp} (h : TkI A B iss irs y.c T U N) (hs : ∀ m ∈ y.out, SgK B iss irs T N m) :
    ∃ N', N ≤ N' ∧ TkI A B iss irs y.pump.c T U N' ∧ (∀ m ∈ y.pump.out, SgK B iss irs T N' m) ∧ y.pump.told = y.told ∧ y.pump.c.win = y.c.win ∧ (∀ m ∈ y.out, m ∈ y.pump.out) ∧ ((B.length : Int) - U ≤ y.c.win → N' = B.length) ∧
      y.pump.c.tm = (if y.c.tm.on = false ∧ U < B.length then tmNew 3 else y.c.tm) ∧ (N = B.length → y.pump.out = y.out) := by
  obtain ⟨N', a1, a2, a3, a4, a5, a6, a7, a8, a9⟩ := pumpGo_K hB y.c.out.length y N h hs
  have hun := h.un
  have hnb := h.nb
  have ho : y.c.out.length = B.length - U := by rw [h.out]; simp
  unfold Stp.pump
  obtain ⟨z, hz⟩ : ∃ z, pumpGo y.c.out.length y = z := ⟨_, rfl⟩
  rw [hz] at a2 a3 a4 a5 a6 a7 a8 a9 ⊢
  have e2 : z.pump2 = z := by
    unfold Stp.pump2
    rw [if_neg (fun e => by rw [a2.cl] at e; cases e.1)]
  rw [e2]
  have hsn := a2.sent hB
  have hzl : z.c.len = (B.length : Int) - U := by unfold Cn.len; rw [a2.out]; simp; omega
  have hun' := a2.un
  have hnb' := a2.nb
  have hw : ((B.length : Int) - U ≤ y.c.win → N' = B.length) := fun hw => by
    have := a8 (by omega)
    unfold Cn.pumpN at this
    rw [hzl, hsn, a6] at this
    omega
  have hc : (z.c.tm.on = false ∧ (0 < z.c.sent ∨ z.c.sent < z.c.len)) ↔ (y.c.tm.on = false ∧ U < B.length) := by
    rw [a5, hsn, hzl]
    constructor
    · rintro ⟨p, q⟩; exact ⟨p, by omega⟩
    · rintro ⟨p, q⟩; exact ⟨p, by omega⟩
  unfold Stp.pump3
  by_cases hb : y.c.tm.on = false ∧ U < B.length
  · rw [if_pos (hc.2 hb), if_pos hb]
    exact ⟨N', a1, a2.tm tm3_ok, a3, a4, a6, a7, hw, rfl, a9⟩
  · rw [if_neg (fun e => hb (hc.1 e)), if_neg hb]
    exact ⟨N', a1, a2, a3, a4, a6, a7, hw, a5, a9⟩
theorem ack_K (hB : B.length ≤ 3000) {c : Cn} (h : TkI A B iss irs c T U N) {H low size : Nat} {w : Int} (hw : 0 ≤ w ∧ w ≤ 65535) (hU : U ≤ H) (hN : H ≤ N) :
    ∃ x : Cn, c.start.ack (⟨3, 4, wadd irs (1 + low), wadd iss (1 + H), 16, w, (A.drop low).take size⟩ : Sg) = (x.start, true) ∧ TkI A B iss irs x T H N ∧ x.win = w ∧ x.tm = (if U < H then tm0 else c.tm) := by
  have hun := h.un
  have hnb := h.nb
  have d1 : wdiff (wadd iss (1 + H)) c.nx = (H : Int) - N := by rw [h.nx, wdiff_two iss (by omega)]; omega
  have d2 : wdiff (wadd iss (1 + H)) c.una = (H : Int) - U := by rw [h.una, wdiff_two iss (by omega)]; omega
  have s1 : (c.start.c.st == 1) = false := by show (c.st == 1) = false; rw [h.st]; decide
  have c1 : decide (0 < wdiff (wadd iss (1 + H)) c.start.c.nx) = false := by show decide (0 < wdiff (wadd iss (1 + H)) c.nx) = false; rw [d1, decide_eq_false_iff_not]; omega
  unfold Stp.ack
  dsimp only
  rw [s1, cond_false, c1, cond_false]
  by_cases hUH : U < H
  · have c2 : decide (wdiff (wadd iss (1 + H)) c.start.c.una ≤ 0) = false := by show decide (wdiff (wadd iss (1 + H)) c.una ≤ 0) = false; rw [d2, decide_eq_false_iff_not]; omega
    have c3 : finOut c.start.c.st = false := by show finOut c.st = false; rw [h.st]; decide
    rw [c2, cond_false, c3, Bool.false_and, cond_false, if_pos hUH]
    have hout : c.out.drop (min (wdiff (wadd iss (1 + H)) c.una) c.out.length).toNat = B.drop H := by
      have hl : (c.out.length : Int) = (B.length : Int) - U := by rw [h.out]; simp; omega
      rw [d2, show (min ((H : Int) - U) c.out.length).toNat = H - U by omega, h.out, List.drop_drop]
      congr 1; omega
    refine ⟨c.ackC (⟨3, 4, wadd irs (1 + low), wadd iss (1 + H), 16, w, (A.drop low).take size⟩ : Sg), rfl, ?_, rfl, rfl⟩
    have hsn : (c.ackC (⟨3, 4, wadd irs (1 + low), wadd iss (1 + H), 16, w, (A.drop low).take size⟩ : Sg)).sent = (N : Int) - H := by
      show wdiff c.nx (wadd iss (1 + H)) = _
      rw [h.nx, wdiff_two iss (by omega)]; omega
    have hlen : (c.ackC (⟨3, 4, wadd irs (1 + low), wadd iss (1 + H), 16, w, (A.drop low).take size⟩ : Sg)).out.length = B.length - H := by
      show (c.out.drop _).length = _
      rw [hout]; simp
    refine ⟨⟨⟨h.I.link, h.I.ip, h.I.pp, h.I.port, h.I.st, waddW iss _, h.I.nx, hw, by rw [hlen]; omega, h.I.may, tm0_ok⟩, ⟨fun e => ?_, fun e => ?_, fun e => ?_, fun e => ?_, fun _ => ⟨by rw [hsn]; omega, by rw [hsn, hlen]; omega⟩⟩⟩, h.st, h.cl, h.pp, h.port, rfl, h.nx, hout, hN, hnb, h.inv⟩
    · have e : c.st = 0 := e; have := h.st; omega
    · have e : c.st = 1 := e; have := h.st; omega
    · have e : c.st = 4 ∨ c.st = 8 := e; have := h.st; omega
    · have e : c.st = 3 ∨ c.st = 6 ∨ c.st = 7 := e; have := h.st; omega
  · have hHU : H = U := by omega
    subst hHU
    have c2 : decide (wdiff (wadd iss (1 + H)) c.start.c.una ≤ 0) = true := by show decide (wdiff (wadd iss (1 + H)) c.una ≤ 0) = true; rw [d2, decide_eq_true_eq]; omega
    rw [c2, cond_true, if_neg hUH]
    exact ⟨{ c with win := w }, rfl, ⟨⟨⟨h.I.link, h.I.ip, h.I.pp, h.I.port, h.I.st, h.I.una, h.I.nx, hw, h.I.len, h.I.may, h.I.tm⟩, ⟨h.I.num.z, h.I.num.a, h.I.num.b, h.I.num.d, h.I.num.e⟩⟩, h.st, h.cl, h.pp, h.port, h.una, h.nx, h.out, h.un, h.nb, h.inv⟩, rfl, rfl⟩
theorem take_K (hA : A.length ≤ 3000) (hB : B.length ≤ 3000) {c : Cn} (h : TkI A B iss irs c T U N) {H low size : Nat} {w : Int} (hw : 0 ≤ w ∧ w ≤ 65535) (hU : U ≤ H) (hN : H ≤ N) (hl : low ≤ A.length) (hz : size ≤ 2000) :
    ∃ T' U' N' : Nat, T ≤ T' ∧ N ≤ N' ∧ U ≤ U' ∧ U' ≤ H ∧ TkI A B iss irs (c.takes (⟨3, 4, wadd irs (1 + low), wadd iss (1 + H), 16, w, (A.drop low).take size⟩ : Sg)).c T' U' N' ∧ (∀ m ∈ (c.takes (⟨3, 4, wadd irs (1 + low), wadd iss (1 + H), 16, w, (A.drop low).take size⟩ : Sg)).out, SgK B iss irs T' N' m) ∧ (c.takes (⟨3, 4, wadd irs (1 + low), wadd iss (1 + H), 16, w, (A.drop low).take size⟩ : Sg)).told = (A.drop T).take (T' - T) ∧
      (c.accepts (⟨3, 4, wadd irs (1 + low), wadd iss (1 + H), 16, w, (A.drop low).take size⟩ : Sg) = true → U' = H ∧ (low ≤ T → low + size ≤ T' ∨ T' = A.length) ∧ ((B.length : Int) - H ≤ w → N' = B.length) ∧ (c.takes (⟨3, 4, wadd irs (1 + low), wadd iss (1 + H), 16, w, (A.drop low).take size⟩ : Sg)).c.tm = (if (if U < H then tm0 else c.tm).on = false ∧ H < B.length then tmNew 3 else (if U < H then tm0 else c.tm))) ∧
      (c.accepts (⟨3, 4, wadd irs (1 + low), wadd iss (1 + H), 16, w, (A.drop low).take size⟩ : Sg) = false → T' = T ∧ N' = N ∧ (c.takes (⟨3, 4, wadd irs (1 + low), wadd iss (1 + H), 16, w, (A.drop low).take size⟩ : Sg)).c = c) ∧
      ((c.accepts (⟨3, 4, wadd irs (1 + low), wadd iss (1 + H), 16, w, (A.drop low).take size⟩ : Sg) = false ∨ 0 < ((A.drop low).take size).length) → ∃ m ∈ (c.takes (⟨3, 4, wadd irs (1 + low), wadd iss (1 + H), 16, w, (A.drop low).take size⟩ : Sg)).out, m.ack = wadd irs (1 + T')) ∧ (N = B.length → ∀ m ∈ (c.takes (⟨3, 4, wadd irs (1 + low), wadd iss (1 + H), 16, w, (A.drop low).take size⟩ : Sg)).out, m.data = []) := by
  have s0 : (c.start.c.st == 0) = false := by show (c.st == 0) = false; rw [h.st]; decide
  have s8 : (c.start.c.st == 8) = false := by show (c.st == 8) = false; rw [h.st]; decide
  obtain ⟨acc, hacc⟩ : ∃ r, c.accepts (⟨3, 4, wadd irs (1 + low), wadd iss (1 + H), 16, w, (A.drop low).take size⟩ : Sg) = r := ⟨_, rfl⟩
  have hacc' : c.start.c.accepts (⟨3, 4, wadd irs (1 + low), wadd iss (1 + H), 16, w, (A.drop low).take size⟩ : Sg) = acc := hacc
  unfold Cn.takes Stp.take
  rw [s0, cond_false, hacc', hacc]
  dsimp only
  rw [fl_16_4, cond_true]
  cases acc with
  | false =>
    rw [cond_false, cond_true, s8, cond_false]
    refine ⟨T, U, N, Nat.le_refl _, Nat.le_refl _, Nat.le_refl _, hU, h, fun m hm => ?_, by simp [Cn.start, Stp.acks, Stp.seg], fun e => by simp at e, fun _ => ⟨rfl, rfl, rfl⟩, fun _ => ⟨_, List.mem_append_right _ (List.mem_singleton_self _), h.inx⟩, fun _ m hm => ?_⟩
    · have hm : m ∈ [] ++ [(⟨c.port, c.pp, c.nx, c.inx, 16, 2048, []⟩ : Sg)] := hm
      rw [List.nil_append, List.mem_singleton] at hm
      rw [hm]; exact h.ackK 2048 16
    · have hm : m ∈ [] ++ [(⟨c.port, c.pp, c.nx, c.inx, 16, 2048, []⟩ : Sg)] := hm
      rw [List.nil_append, List.mem_singleton] at hm
      rw [hm]
  | true =>
    obtain ⟨x, hx, hK, hxw, hxt⟩ := ack_K hB h hw hU hN (low := low) (size := size)
    rw [cond_true, fl_16_2, cond_true, fl_16_16, cond_false, hx, cond_true]
    dsimp only
    have hh : x.start.c.hears = true := by show x.hears = true; simp [Cn.hears, hK.st]
    obtain ⟨T', t1, t2, t3, t4⟩ := hK.inv.step hA hl hz
    rw [wadd_wadd] at t2 t3
    have hd : x.start.data (⟨3, 4, wadd irs (1 + low), wadd iss (1 + H), 16, w, (A.drop low).take size⟩ : Sg) = x.start.dataIn (⟨3, 4, wadd irs (1 + low), wadd iss (1 + H), 16, w, (A.drop low).take size⟩ : Sg) := by
      unfold Stp.data
      rw [hh, cond_true]
      unfold Stp.dataFin
      dsimp only
      rw [fl_16_1, cond_true]
    have hI2 := data_I (x := x.start) hK.I (⟨3, 4, wadd irs (1 + low), wadd iss (1 + H), 16, w, (A.drop low).take size⟩ : Sg)
    rw [hd] at hI2
    obtain ⟨y, hy⟩ : ∃ y, x.start.dataIn (⟨3, 4, wadd irs (1 + low), wadd iss (1 + H), 16, w, (A.drop low).take size⟩ : Sg) = y := ⟨_, rfl⟩
    have hyK : TkI A B iss irs y.c T' H N := by
      subst hy
      exact ⟨hI2, hK.st, hK.cl, hK.pp, hK.port, hK.una, hK.nx, hK.out, hK.un, hK.nb, t2⟩
    have hyo : y.out = [] := by subst hy; rfl
    have hyt : y.told = (A.drop T).take (T' - T) := by subst hy; exact t3
    have hyw : y.c.win = w := by subst hy; exact hxw
    have hym : y.c.tm = x.tm := by subst hy; rfl
    unfold Stp.more
    rw [hd, hy]
    have hsl : Sg.len (⟨3, 4, wadd irs (1 + low), wadd iss (1 + H), 16, w, (A.drop low).take size⟩ : Sg) = (((A.drop low).take size).length : Int) := by
      unfold Sg.len
      dsimp only
      rw [fl_16_2, fl_16_1]; simp
    obtain ⟨z, hz1, hz2, hz3, hz4, hz5, hz6⟩ : ∃ z : Stp, y.ackLen (⟨3, 4, wadd irs (1 + low), wadd iss (1 + H), 16, w, (A.drop low).take size⟩ : Sg) = z ∧ z.c = y.c ∧ z.told = y.told ∧ (∀ m ∈ z.out, SgK B iss irs T' N m) ∧ (0 < ((A.drop low).take size).length → ∃ m ∈ z.out, m.ack = wadd irs (1 + T')) ∧ (∀ m ∈ z.out, m.data = []) := by
      unfold Stp.ackLen
      rw [hsl]
      cases hp : decide (0 < ((((A.drop low).take size).length : Nat) : Int)) with
      | true =>
        refine ⟨y.acks, rfl, rfl, rfl, fun m hm => ?_, fun _ => ⟨_, List.mem_append_right _ (List.mem_singleton_self _), hyK.inx⟩, fun m hm => ?_⟩
        · have hm : m ∈ y.out ++ [(⟨y.c.port, y.c.pp, y.c.nx, y.c.inx, 16, 2048, []⟩ : Sg)] := hm
          rw [hyo, List.nil_append, List.mem_singleton] at hm
          rw [hm]; exact hyK.ackK 2048 16
        · have hm : m ∈ y.out ++ [(⟨y.c.port, y.c.pp, y.c.nx, y.c.inx, 16, 2048, []⟩ : Sg)] := hm
          rw [hyo, List.nil_append, List.mem_singleton] at hm
          rw [hm]
      | false =>
        refine ⟨y, rfl, rfl, rfl, fun m hm => (by rw [hyo] at hm; cases hm), fun hpos => ?_, fun m hm => (by rw [hyo] at hm; cases hm)⟩
        rw [decide_eq_false_iff_not] at hp
        omega
    rw [hz1]
    have hzK : TkI A B iss irs z.c T' H N := hz2 ▸ hyK
    have hzt : z.c.talks = true := by simp [Cn.talks, hzK.st]
    unfold Stp.pumpT
    rw [hzt, cond_true]
    obtain ⟨N', p1, p2, p3, p4, p5, p6, p7, p8, p9⟩ := pump_K hB hzK hz4
    obtain ⟨v, hv⟩ : ∃ v, z.pump = v := ⟨_, rfl⟩
    rw [hv] at p2 p3 p4 p5 p6 p8 p9 ⊢
    have hlate : v.late = v := by
      unfold Stp.late
      have : v.c.lateB = false := by
        have hsn := p2.sent hB
        have hun' := p2.un
        have hnb' := p2.nb
        unfold Cn.lateB
        cases ho : v.c.tm.on with
        | true => rfl
        | false =>
          have : decide (0 < v.c.sent) = false := by
            rw [decide_eq_false_iff_not, hsn]
            intro hpos
            rw [p8] at ho
            split at ho
            · simp [tmNew] at ho
            · rename_i hn
              exact hn ⟨ho, by omega⟩
          rw [this]; rfl
      rw [this, cond_false]
    rw [hlate]
    refine ⟨T', H, N', t1, p1, hU, Nat.le_refl _, p2, p3, by rw [p4, hz3, hyt], fun _ => ⟨rfl, t4, fun hb => p7 (by rw [hz2, hyw]; exact hb), by rw [p8, hz2, hym, hxt]⟩, fun e => by simp at e, fun e => ?_, fun e => by rw [p9 e]; exact hz6⟩
    rcases e with e | e
    · simp at e
    · obtain ⟨m, a, b⟩ := hz5 e
      exact ⟨m, p6 m a, b⟩
theorem again_a (x : Stp) (h1 : (x.c.st == 1) = false) (h2 : decide (0 < x.c.sent) = true) (h3 : decide (0 < (x.c.out.length : Int)) = true) : x.again = x.seg x.c.una 24 (x.c.out.take (min (min x.c.sent x.c.len) 536).toNat) := by
  unfold Stp.again; rw [h1, h2, h3]; rfl
theorem again_b (x : Stp) (h1 : (x.c.st == 1) = false) (h2 : decide (0 < x.c.sent) = false) (h3 : decide (0 < (x.c.out.length : Int)) = true) : x.again = { c := { x.c with nx := wadd x.c.nx 1 }, out := x.out ++ [⟨x.c.port, x.c.pp, x.c.nx, x.c.inx, 24, 2048, x.c.out.take 1⟩], told := x.told } := by
  unfold Stp.again; rw [h1, h2, h3]; rfl
theorem again_c (x : Stp) (h1 : (x.c.st == 1) = false) (h2 : decide (0 < x.c.sent) = false) (h3 : decide (0 < (x.c.out.length : Int)) = false) : x.again = { x with c := { x.c with tm := tm0 } } := by
  unfold Stp.again; rw [h1, h2, h3]; rfl
theorem tick_K (hB : B.length ≤ 3000) {c : Cn} (h : TkI A B iss irs c T U N) :
    (tmRings c.tm = true ∧ c.tm.tries = 8 ∧ c.ticks.c.st = 0) ∨ ∃ N' : Nat, N ≤ N' ∧ TkI A B iss irs c.ticks.c T U N' ∧ (∀ m ∈ c.ticks.out, SgK B iss irs T N' m) ∧ c.ticks.told = [] ∧
      (tmRings c.tm = false → N' = N ∧ c.ticks.c.tm = tmBeat c.tm ∧ c.ticks.out = []) ∧
      (tmRings c.tm = true → (U < B.length → U < N' ∧ c.ticks.c.tm = tmBack (tmBeat c.tm) ∧ ∃ m ∈ c.ticks.out, m.seq = wadd iss (1 + U) ∧ m.data.length = min (N' - U) 536) ∧ (U = B.length → c.ticks.c.tm = tm0)) := by
  have hun := h.un
  have hnb := h.nb
  have hlo : c.out.length = B.length - U := by rw [h.out]; simp
  have s8 : (c.st == 8) = false := by rw [h.st]; decide
  unfold Cn.ticks
  cases hr : tmRings c.tm with
  | false =>
    rw [cond_false]
    exact .inr ⟨N, Nat.le_refl _, h.tm (tmBeat_ok h.I.tm), fun m hm => (by cases hm), rfl, fun _ => ⟨rfl, rfl, rfl⟩, fun e => by simp at e⟩
  | true =>
    rw [cond_true, s8, cond_false]
    have hon : c.tm.on = true := by
      unfold tmRings at hr
      rw [Bool.and_eq_true] at hr
      exact hr.1
    cases ht : (c.tm.tries == 8) with
    | true =>
      rw [cond_true]
      refine .inl ⟨rfl, by simpa using ht, ?_⟩
      unfold Cn.aborts Stp.abort
      exact bif_p (p := fun r : Stp => r.c.st = 0) (fun _ => rfl) (fun _ => rfl)
    | false =>
      rw [cond_false]
      have hb : tmB (tmBack (tmBeat c.tm)) = true := tmBack_ok (tmBeat_ok h.I.tm) hon (by have := ht; simp only [beq_eq_false_iff_ne] at this; exact this)
      have hK := h.tm hb
      obtain ⟨d, hd⟩ : ∃ d : Cn, d = { c with tm := tmBack (tmBeat c.tm) } := ⟨_, rfl⟩
      have hdt : d.tm = tmBack (tmBeat c.tm) := by rw [hd]
      rw [← hd] at hK ⊢
      clear hd
      have hsn := hK.sent hB
      have hdo : d.out.length = B.length - U := by rw [hK.out]; simp
      have s1 : (d.start.c.st == 1) = false := by show (d.st == 1) = false; rw [hK.st]; decide
      refine .inr ?_
      by_cases hn : U < N
      · rw [again_a d.start s1 (by show decide (0 < d.sent) = true; rw [hsn, decide_eq_true_eq]; omega) (by show decide (0 < (d.out.length : Int)) = true; rw [decide_eq_true_eq]; omega)]
        obtain ⟨data, hda⟩ : ∃ q, d.out.take (min (min d.sent d.len) 536).toNat = q := ⟨_, rfl⟩
        have hdat : data = (B.drop U).take (min (N - U) 536) := by
          rw [← hda, hK.out]
          congr 1
          unfold Cn.len
          rw [hdo, hsn]; omega
        have hq : data.length = min (N - U) 536 := by rw [hdat]; simp; omega
        show ∃ N' : Nat, N ≤ N' ∧ TkI A B iss irs (d.start.seg d.una 24 (d.out.take (min (min d.sent d.len) 536).toNat)).c T U N' ∧ (∀ m ∈ (d.start.seg d.una 24 (d.out.take (min (min d.sent d.len) 536).toNat)).out, _) ∧ _ ∧ _ ∧ (_ → (_ → _ ∧ _ ∧ ∃ m ∈ (d.start.seg d.una 24 (d.out.take (min (min d.sent d.len) 536).toNat)).out, _) ∧ _)
        rw [hda]
        refine ⟨N, Nat.le_refl _, hK, fun m hm => ?_, rfl, fun e => by simp at e, fun _ => ⟨fun _ => ⟨hn, hdt, ⟨d.port, d.pp, d.una, d.inx, 24, 2048, data⟩, List.mem_append_right _ (List.mem_singleton_self _), hK.una, by show data.length = _; omega⟩, fun e => by omega⟩⟩
        have hm : m ∈ [] ++ [(⟨d.port, d.pp, d.una, d.inx, 24, 2048, data⟩ : Sg)] := hm
        rw [List.nil_append, List.mem_singleton] at hm
        rw [hm]
        exact ⟨⟨U, hK.una, by show U + data.length ≤ N; omega, by show data = (B.drop U).take data.length; rw [hq, hdat]⟩, ⟨T, Nat.le_refl _, hK.inx⟩⟩
      · have hNU : N = U := by omega
        subst hNU
        by_cases hl : N < B.length
        · rw [again_b d.start s1 (by show decide (0 < d.sent) = false; rw [hsn, decide_eq_false_iff_not]; omega) (by show decide (0 < (d.out.length : Int)) = true; rw [decide_eq_true_eq]; omega)]
          obtain ⟨data, hda⟩ : ∃ q, d.out.take 1 = q := ⟨_, rfl⟩
          have hdat : data = (B.drop N).take 1 := by rw [← hda, hK.out]
          have hq : data.length = 1 := by rw [hdat]; simp; omega
          have hsn2 : Cn.sent { d with nx := wadd d.nx 1 } = 1 := by
            show wdiff (wadd d.nx 1) d.una = 1
            rw [hK.nx, hK.una, wadd_wadd, wdiff_two iss (by omega)]; omega
          have hK2 : TkI A B iss irs { d with nx := wadd d.nx 1 } T N (N + 1) := by
            refine ⟨⟨⟨hK.I.link, hK.I.ip, hK.I.pp, hK.I.port, hK.I.st, hK.I.una, by show 0 ≤ wadd d.nx 1 ∧ wadd d.nx 1 ≤ 4294967295; exact waddW d.nx 1, hK.I.win, hK.I.len, hK.I.may, hK.I.tm⟩, ⟨fun e => ?_, fun e => ?_, fun e => ?_, fun e => ?_, fun _ => ⟨by rw [hsn2]; decide, by rw [hsn2]; show (1 : Int) ≤ (d.out.length : Int); omega⟩⟩⟩, hK.st, hK.cl, hK.pp, hK.port, hK.una, by show wadd d.nx 1 = _; rw [hK.nx, wadd_wadd]; congr 1, hK.out, by omega, hl, hK.inv⟩
            · have e : d.st = 0 := e; have := hK.st; omega
            · have e : d.st = 1 := e; have := hK.st; omega
            · have e : d.st = 4 ∨ d.st = 8 := e; have := hK.st; omega
            · have e : d.st = 3 ∨ d.st = 6 ∨ d.st = 7 := e; have := hK.st; omega
          refine ⟨N + 1, by omega, hK2, fun m hm => ?_, rfl, fun e => by simp at e, fun _ => ⟨fun _ => ⟨by omega, hdt, ⟨d.port, d.pp, d.nx, d.inx, 24, 2048, data⟩, hda ▸ List.mem_append_right _ (List.mem_singleton_self _), hK.nx, by show data.length = _; omega⟩, fun e => by omega⟩⟩
          have hm : m ∈ [] ++ [(⟨d.port, d.pp, d.nx, d.inx, 24, 2048, d.out.take 1⟩ : Sg)] := hm
          rw [List.nil_append, List.mem_singleton, hda] at hm
          rw [hm]
          exact ⟨⟨N, hK.nx, by show N + data.length ≤ N + 1; omega, by show data = (B.drop N).take data.length; rw [hq, hdat]⟩, ⟨T, Nat.le_refl _, hK.inx⟩⟩
        · rw [again_c d.start s1 (by show decide (0 < d.sent) = false; rw [hsn, decide_eq_false_iff_not]; omega) (by show decide (0 < (d.out.length : Int)) = false; rw [decide_eq_false_iff_not]; omega)]
          exact ⟨N, Nat.le_refl _, hK.tm tm0_ok, fun m hm => (by cases hm), rfl, fun e => by simp at e, fun _ => ⟨fun e => absurd e hl, fun _ => rfl⟩⟩
def hear1 (iss : Int) (m : Sg) (heard : List Int) : List Int :=
  if wdiff m.seq (wadd iss (1 + heard.length)) ≤ 0 ∧ -wdiff m.seq (wadd iss (1 + heard.length)) < m.data.length then heard ++ m.data.drop (-wdiff m.seq (wadd iss (1 + heard.length))).toNat else heard
theorem hear_K (hB : B.length ≤ 3000) {H : Nat} {m : Sg} (hm : SgK B iss irs T N m) (hH : H ≤ N) (hN : N ≤ B.length) :
    ∃ H', H ≤ H' ∧ H' ≤ N ∧ hear1 iss m (B.take H) = B.take H' ∧ (∀ q : Nat, m.seq = wadd iss (1 + q) → q ≤ H → q + m.data.length ≤ H') := by
  obtain ⟨⟨a, h1, h2, h3⟩, -⟩ := hm
  have hl : (B.take H).length = H := by simp; omega
  have hd : wdiff m.seq (wadd iss (1 + (B.take H).length)) = (a : Int) - H := by
    rw [h1, hl, wdiff_two iss (by omega)]; omega
  have huniq : ∀ q : Nat, m.seq = wadd iss (1 + q) → q ≤ H → a = q := fun q e hq => by
    have : wdiff m.seq (wadd iss (1 + (B.take H).length)) = (q : Int) - H := by rw [hl, e, wdiff_two iss (by omega)]; omega
    omega
  unfold hear1
  rw [hd]
  by_cases hc : (a : Int) - H ≤ 0 ∧ -((a : Int) - H) < m.data.length
  · rw [if_pos hc]
    refine ⟨a + m.data.length, by omega, h2, ?_, fun q e hq => by have := huniq q e hq; omega⟩
    have e : (-((a : Int) - H)).toNat = H - a := by omega
    rw [e]
    refine List.ext_getElem? fun i => ?_
    by_cases hi : i < H
    · rw [List.getElem?_append_left (by rw [hl]; exact hi), List.getElem?_take, List.getElem?_take, if_pos hi, if_pos (by omega)]
    · rw [List.getElem?_append_right (by rw [hl]; omega), hl, List.getElem?_drop, List.getElem?_take]
      by_cases hi2 : i < a + m.data.length
      · rw [if_pos hi2, h3, List.getElem?_take, if_pos (by omega), List.getElem?_drop]
        congr 1; omega
      · rw [if_neg hi2, List.getElem?_eq_none (by omega)]
  · rw [if_neg hc]
    refine ⟨H, Nat.le_refl _, hH, rfl, fun q e hq => ?_⟩
    have := huniq q e hq
    omega
def hearGo (iss irs : Int) (lost : Nat → Bool) : Nat → List Sg → List Int × Int → List Int × Int
  | _, [], s => s
  | i, m :: l, s => hearGo iss irs lost (i + 1) l (bif lost i then s else (hear1 iss m s.1, max s.2 (wdiff m.ack (wadd irs 1))))
theorem SgK.acked {m : Sg} (h : SgK B iss irs T N m) (hT : T ≤ 3000) : ∃ k : Nat, k ≤ T ∧ m.ack = wadd irs (1 + k) ∧ wdiff m.ack (wadd irs 1) = k := by
  obtain ⟨-, k, h1, h2⟩ := h
  exact ⟨k, h1, h2, by rw [h2, wdiff_two irs (by omega)]; omega⟩
theorem hearGo_K (hB : B.length ≤ 3000) (hT : T ≤ 3000) (hN : N ≤ B.length) {lost : Nat → Bool} : ∀ (l : List Sg) (i H K : Nat), H ≤ N → K ≤ T → (∀ m ∈ l, SgK B iss irs T N m) →
    ∃ H' K' : Nat, H ≤ H' ∧ H' ≤ N ∧ K ≤ K' ∧ K' ≤ T ∧ hearGo iss irs lost i l (B.take H, (K : Int)) = (B.take H', (K' : Int)) ∧
      ((∀ j, lost j = false) → (∀ m ∈ l, m.ack = wadd irs (1 + T) → K' = T) ∧ (∀ m ∈ l, ∀ q : Nat, m.seq = wadd iss (1 + q) → q ≤ H → q + m.data.length ≤ H') ∧ ((∀ m ∈ l, m.data = []) → H' = H))
  | [], i, H, K, hH, hK, _ => ⟨H, K, Nat.le_refl _, hH, Nat.le_refl _, hK, rfl, fun _ => ⟨fun m hm => (by cases hm), fun m hm => (by cases hm), fun _ => rfl⟩⟩
  | m :: l, i, H, K, hH, hK, hl => by
    obtain ⟨H1, a1, a2, a3, a4⟩ := hear_K hB (hl m (by simp)) hH hN
    obtain ⟨k, b1, b2, b3⟩ := (hl m (by simp)).acked hT
    rw [hearGo]
    cases hi : lost i with
    | true =>
      rw [cond_true]
      obtain ⟨H', K', c1, c2, c3, c4, c5, c6⟩ := hearGo_K hB hT hN (lost := lost) l (i + 1) H K hH hK (fun x hx => hl x (by simp [hx]))
      exact ⟨H', K', c1, c2, c3, c4, c5, fun e => by rw [e i] at hi; cases hi⟩
    | false =>
      rw [cond_false, a3, b3]
      obtain ⟨K1, hK1⟩ : ∃ K1 : Nat, max (K : Int) k = K1 := ⟨max K k, by omega⟩
      rw [hK1]
      obtain ⟨H', K', c1, c2, c3, c4, c5, c6⟩ := hearGo_K hB hT hN (lost := lost) l (i + 1) H1 K1 a2 (by omega) (fun x hx => hl x (by simp [hx]))
      refine ⟨H', K', by omega, c2, by omega, c4, c5, fun e => ?_⟩
      obtain ⟨d1, d2, d3⟩ := c6 e
      refine ⟨fun x hx hxa => ?_, fun x hx q hxs hq => ?_, fun hn => ?_⟩
      · rcases List.mem_cons.1 hx with rfl | hx
        · have : k = T := by
            have e1 : wdiff x.ack (wadd irs 1) = T := by rw [hxa, wdiff_two irs (by omega)]; omega
            omega
          omega
        · exact d1 x hx hxa
      · rcases List.mem_cons.1 hx with rfl | hx
        · have := a4 q hxs hq; omega
        · exact d2 x hx q hxs (by omega)
      · have h0 : m.data = [] := hn m (by simp)
        have hH1 : H1 = H := by
          have : hear1 iss m (B.take H) = B.take H := by
            unfold hear1
            rw [h0]
            rw [if_neg (fun e => by simp at e; omega)]
          rw [this] at a3
          have l1 : (B.take H).length = H := by simp; omega
          have l2 : (B.take H1).length = H1 := by simp; omega
          rw [a3] at l1
          omega
        subst hH1
        exact d3 (fun x hx => hn x (by simp [hx]))
end
end Go.Proofs.Ythkjiihphdpagaa

/- A round between a connection and a plain peer: plain law. Conditions are said at each. -/
namespace Go.Proofs.Ythkjiihphdpagaa
open Go.RowKit
set_option linter.unusedVariables false
set_option linter.unusedSimpArgs false
set_option maxRecDepth 100000
set_option maxHeartbeats 1000000
structure TW where
  c : Cn
  l : List Sg
  told : List Int
  heard : List Int
  acked : Int
structure TwI (A B : List Int) (iss irs : Int) (x : TW) (T U N H K : Nat) : Prop where
  k : TkI A B iss irs x.c T U N
  told : x.told = A.take T
  heard : x.heard = B.take H
  acked : x.acked = K
  uh : U ≤ H
  hn : H ≤ N
  kt : K ≤ T
  segs : ∀ m ∈ x.l, SgK B iss irs T N m
  off : U = B.length → x.c.tm.on = false
def psg (A : List Int) (iss irs w : Int) (size low H : Nat) : Sg := ⟨3, 4, wadd irs (1 + low), wadd iss (1 + H), 16, w, (A.drop low).take size⟩
section
variable {A B : List Int} {iss irs : Int} {T U N H K : Nat}
theorem take_more {l : List Int} {a b : Nat} (h : a ≤ b) : l.take a ++ (l.drop a).take (b - a) = l.take b := by
  have := List.take_append_drop a (l.take b)
  rw [List.take_take, Nat.min_eq_left h, List.drop_take] at this
  exact this
theorem StInv.tle {f : Int} {t : Nat} {n : Int} {ps : List Pt} (h : StInv A f t n ps) : t ≤ A.length := h.le
theorem round_K (hA : A.length ≤ 3000) (hB : B.length ≤ 3000) {x : TW} (h : TwI A B iss irs x T U N H K) (lost : Nat → Bool) :
    ∃ H1 K1 : Nat, H ≤ H1 ∧ H1 ≤ N ∧ K ≤ K1 ∧ K1 ≤ T ∧ hearGo iss irs lost 0 x.l (x.heard, x.acked) = (B.take H1, (K1 : Int)) ∧
      ((∀ j, lost j = false) → (∀ m ∈ x.l, m.ack = wadd irs (1 + T) → K1 = T) ∧ (∀ m ∈ x.l, ∀ q : Nat, m.seq = wadd iss (1 + q) → q ≤ H → q + m.data.length ≤ H1) ∧ ((∀ m ∈ x.l, m.data = []) → H1 = H)) ∧
      ∀ (w : Int) (low size : Nat), 0 ≤ w ∧ w ≤ 65535 → low ≤ A.length → size ≤ 2000 → ∃ T1 U1 N1 : Nat, ∃ y : Stp, x.c.takes (psg A iss irs w size low H1) = y ∧ T ≤ T1 ∧ N ≤ N1 ∧ U ≤ U1 ∧ U1 ≤ H1 ∧ TkI A B iss irs y.c T1 U1 N1 ∧ x.told ++ y.told = A.take T1 ∧ (U1 = B.length → y.c.tm.on = false) ∧
        (x.c.accepts (psg A iss irs w size low H1) = true → U1 = H1 ∧ (low ≤ T → low + size ≤ T1 ∨ T1 = A.length) ∧ ((B.length : Int) - H1 ≤ w → N1 = B.length) ∧ y.c.tm = (if (if U < H1 then tm0 else x.c.tm).on = false ∧ H1 < B.length then tmNew 3 else (if U < H1 then tm0 else x.c.tm))) ∧
        (x.c.accepts (psg A iss irs w size low H1) = false → T1 = T ∧ N1 = N ∧ y.c = x.c) ∧
        ((x.c.accepts (psg A iss irs w size low H1) = false ∨ 0 < ((A.drop low).take size).length) → ∃ m ∈ y.out, m.ack = wadd irs (1 + T1)) ∧ (N = B.length → ∀ m ∈ y.out, m.data = []) ∧
        ((tmRings y.c.tm = true ∧ y.c.tm.tries = 8 ∧ y.c.ticks.c.st = 0) ∨ ∃ N2 : Nat, N1 ≤ N2 ∧ TwI A B iss irs ⟨y.c.ticks.c, y.out ++ y.c.ticks.out, x.told ++ y.told, B.take H1, K1⟩ T1 U1 N2 H1 K1 ∧
          (tmRings y.c.tm = false → N2 = N1 ∧ y.c.ticks.c.tm = tmBeat y.c.tm ∧ y.c.ticks.out = []) ∧
          (tmRings y.c.tm = true → U1 < B.length → U1 < N2 ∧ y.c.ticks.c.tm = tmBack (tmBeat y.c.tm) ∧ ∃ m ∈ y.c.ticks.out, m.seq = wadd iss (1 + U1) ∧ m.data.length = min (N2 - U1) 536)) := by
  have hT : T ≤ A.length := h.k.inv.tle
  obtain ⟨H1, K1, a1, a2, a3, a4, a5, a6⟩ := hearGo_K hB (by omega) h.k.nb (lost := lost) x.l 0 H K h.hn h.kt h.segs
  refine ⟨H1, K1, a1, a2, a3, a4, by rw [h.heard, h.acked]; exact a5, a6, fun w low size hw hl hz => ?_⟩
  obtain ⟨T1, U1, N1, b1, b2, b3, b4, b5, b6, b7, b8, b9, b10, b11⟩ := take_K hA hB h.k hw (Nat.le_trans h.uh a1) a2 hl hz
  obtain ⟨y, hy⟩ : ∃ y, x.c.takes (psg A iss irs w size low H1) = y := ⟨_, rfl⟩
  unfold psg at hy
  rw [hy] at b5 b6 b7 b8 b9 b10 b11
  have hoff : U1 = B.length → y.c.tm.on = false := fun e => by
    cases hacc : x.c.accepts ⟨3, 4, wadd irs (1 + low), wadd iss (1 + H1), 16, w, (A.drop low).take size⟩ with
    | true =>
      obtain ⟨c1, c2, c3, c4⟩ := b8 hacc
      have hn1 := h.k.nb
      rw [c4, if_neg (by omega)]
      by_cases hu : U < H1
      · rw [if_pos hu]; rfl
      · rw [if_neg hu]; exact h.off (by have := h.uh; omega)
    | false =>
      obtain ⟨c1, c2, c3⟩ := b9 hacc
      rw [c3]
      refine h.off ?_
      have hU1 := b5.una
      have hU := h.k.una
      rw [c3, hU] at hU1
      have := h.k.un
      have := h.k.nb
      have hd : wdiff (wadd iss (1 + U)) (wadd iss (1 + U1)) = (U : Int) - U1 := by rw [wdiff_two iss (by omega)]; omega
      rw [hU1, wdiff_eq] at hd
      omega
  have htold : x.told ++ y.told = A.take T1 := by rw [h.told, b7, take_more b1]
  refine ⟨T1, U1, N1, y, by unfold psg; exact hy, b1, b2, b3, b4, b5, htold, hoff, b8, b9, b10, b11, ?_⟩
  rcases tick_K hB b5 with hc | ⟨N2, d1, d2, d3, d4, d5, d6⟩
  · exact .inl hc
  · refine .inr ⟨N2, d1, ⟨d2, htold, rfl, rfl, b4, by omega, by omega, fun m hm => ?_, fun e => ?_⟩, fun e => d5 e, fun e hu => (d6 e).1 hu⟩
    · rcases List.mem_append.1 hm with hm | hm
      · exact (b6 m hm).mono (Nat.le_refl _) d1
      · exact d3 m hm
    · have hno : tmRings y.c.tm = false := by unfold tmRings; rw [hoff e]; rfl
      obtain ⟨-, e2, -⟩ := d5 hno
      show y.c.ticks.c.tm.on = false
      rw [e2]
      exact hoff e
end
end Go.Proofs.Ythkjiihphdpagaa

/- Once nothing is lost any more all comes through: plain law. Conditions are said at each. -/
namespace Go.Proofs.Ythkjiihphdpagaa
open Go.RowKit
set_option linter.unusedVariables false
set_option linter.unusedSimpArgs false
set_option maxRecDepth 100000
set_option maxHeartbeats 1000000
section
variable {A B : List Int} {iss irs : Int} {T U N H K : Nat}
def cleanS (A : List Int) (iss irs : Int) (size : Nat) (x : TW) : TW :=
  let hk := hearGo iss irs (fun _ => false) 0 x.l (x.heard, x.acked)
  let y := x.c.takes (psg A iss irs 3000 size hk.2.toNat hk.1.length)
  ⟨y.c.ticks.c, y.out ++ y.c.ticks.out, x.told ++ y.told, hk.1, hk.2⟩
def Knows (irs : Int) (x : TW) (T K : Nat) : Prop := K = T ∨ ∃ m ∈ x.l, m.ack = wadd irs (1 + T)
theorem accepts_K {c : Cn} (h : TkI A B iss irs c T U N) (w : Int) (size H1 : Nat) : c.accepts (psg A iss irs w size T H1) = true := by
  unfold Cn.accepts psg
  rw [h.inx, woff_self]
  rfl
def cl536 (r : Nat) : Nat := (r + 535) / 536
theorem tmB_lr {t : Tm} (h : tmB t = true) : (0 ≤ t.left ∧ t.left ≤ 48) ∧ True := by
  simp only [tmB, Bool.and_eq_true, decide_eq_true_eq] at h
  exact ⟨⟨h.1.1, h.1.2.1⟩, trivial⟩
inductive Left (B : List Int) (iss : Int) (x : TW) (U f : Nat) : Prop
  | done (h : U = B.length)
  | runs (h : U < B.length) (e : ∀ m ∈ x.l, m.data = []) (on : x.c.tm.on = true) (l1 : 1 ≤ x.c.tm.left) (l2 : x.c.tm.left + 4 * cl536 (B.length - U) ≤ f)
  | way (h : U < B.length) (m : Sg) (hm : m ∈ x.l) (hs : m.seq = wadd iss (1 + U)) (hl : m.data.length = min (B.length - U) 536) (l2 : 4 * cl536 (B.length - U) ≤ f)
theorem clean_K (hA : A.length ≤ 3000) (hB : B.length ≤ 3000) {size : Nat} (h1 : 1 ≤ size) (h2 : size ≤ 500) {x : TW} (h : TwI A B iss irs x T U N H K) :
    (∃ T1 U1 N2 H1 K1 : Nat, TwI A B iss irs (cleanS A iss irs size x) T1 U1 N2 H1 K1 ∧ T ≤ T1 ∧ U ≤ U1 ∧ N ≤ N2 ∧ Knows irs (cleanS A iss irs size x) T1 K1 ∧
      (Knows irs x T K → K1 = T ∧ (T + size ≤ T1 ∨ T1 = A.length) ∧ U1 = H1 ∧ N2 = B.length) ∧
      (Knows irs x T K → N = B.length → U = H → ∀ f, Left B iss x U (f + 1) → Left B iss (cleanS A iss irs size x) U1 f) ∧
      (Knows irs x T K → N = B.length → Left B iss (cleanS A iss irs size x) U1 72)) ∨
    ((cleanS A iss irs size x).c.st = 0 ∧ (Knows irs x T K → N = B.length → U = H → ∀ f, Left B iss x U f → 5 ≤ f)) := by
  obtain ⟨H1, K1, a1, a2, a3, a4, a5, a6, rest⟩ := round_K hA hB h (fun _ => false)
  obtain ⟨i1, i2, i3⟩ := a6 (fun _ => rfl)
  have hT : T ≤ A.length := h.k.inv.tle
  obtain ⟨T1, U1, N1, y, hy, b1, b2, b3, b4, b5, b6, hoff, b8, b9, b10, b11, b12⟩ := rest 3000 K1 size (by omega) (by omega) (by omega)
  have hN := h.k.nb
  have hl1 : (B.take H1).length = H1 := by simp; omega
  have hx : cleanS A iss irs size x = ⟨y.c.ticks.c, y.out ++ y.c.ticks.out, x.told ++ y.told, B.take H1, K1⟩ := by
    unfold cleanS
    rw [a5]
    dsimp only
    rw [Int.toNat_natCast, hl1, hy]
  rw [hx]
  have hKn : Knows irs x T K → K1 = T := fun e => by
    rcases e with e | ⟨m, hm, e⟩
    · omega
    · exact i1 m hm e
  have hacc : Knows irs x T K → x.c.accepts (psg A iss irs 3000 size K1 H1) = true := fun e => by rw [hKn e]; exact accepts_K h.k 3000 size H1
  have hT1 : T1 ≤ A.length := b5.inv.tle
  have hU1 := b5.un
  have hN1 := b5.nb
  have htm : Knows irs x T K → y.c.tm = (if (if U < H1 then tm0 else x.c.tm).on = false ∧ H1 < B.length then tmNew 3 else (if U < H1 then tm0 else x.c.tm)) := fun e => (b8 (hacc e)).2.2.2
  rcases b12 with ⟨c1, c2, c3⟩ | ⟨N2, d1, d2, d3, d4⟩
  · refine .inr ⟨c3, fun hk hNl hUH f hL => ?_⟩
    have hU1H : U1 = H1 := (b8 (hacc hk)).1
    cases hL with
    | done e =>
      have := hoff (by omega)
      unfold tmRings at c1
      rw [this] at c1; cases c1
    | runs e _ on l1 l2 =>
      have : 1 ≤ cl536 (B.length - U) := by unfold cl536; omega
      omega
    | way e m hm hs hl l2 =>
      have := i2 m hm U hs (by omega)
      have ht := htm hk
      have hlt : U < H1 := by omega
      rw [if_pos hlt] at ht
      rw [ht] at c2
      split at c2 <;> simp [tmNew, tm0] at c2
  · refine .inl ⟨T1, U1, N2, H1, K1, d2, b1, b3, by omega, ?_, fun hk => ?_, fun hk hNl hUH f hL => ?_, fun hk hNl => ?_⟩
    · by_cases hp : x.c.accepts (psg A iss irs 3000 size K1 H1) = false ∨ 0 < ((A.drop K1).take size).length
      · obtain ⟨m, hm, e⟩ := b10 hp
        exact .inr ⟨m, List.mem_append_left _ hm, e⟩
      · have : ((A.drop K1).take size).length = 0 := by
          rcases Nat.eq_zero_or_pos ((A.drop K1).take size).length with e | e
          · exact e
          · exact absurd (.inr e) hp
        rw [List.length_take, List.length_drop] at this
        exact .inl (by omega)
    · obtain ⟨e1, e2, e3, e4⟩ := b8 (hacc hk)
      have hk1 := hKn hk
      have hN1l := e3 (by omega)
      have := d2.k.nb
      exact ⟨hk1, by have := e2 (by omega); omega, e1, by omega⟩
    · obtain ⟨e1, e2, e3, e4⟩ := b8 (hacc hk)
      have hN1l := e3 (by omega)
      have hN2 := d2.k.nb
      have hemp := b11 hNl
      cases hL with
      | done e => exact .done (by omega)
      | runs e em on l1 l2 =>
        have hH1 : H1 = H := i3 em
        have hU : U1 = U := by omega
        have ht : y.c.tm = x.c.tm := by
          rw [htm hk, if_neg (show ¬ U < H1 by omega), if_neg (fun q => by rw [on] at q; cases q.1)]
        cases hr : tmRings y.c.tm with
        | false =>
          obtain ⟨f1, f2, f3⟩ := d3 hr
          have hleft : (tmBeat y.c.tm).left = max (x.c.tm.left - 1) 0 := by
            rw [ht]; unfold tmBeat; rw [if_pos on]
          have hne : ¬ max (x.c.tm.left - 1) 0 = 0 := by
            intro q
            unfold tmRings at hr
            rw [hleft, q, ht, on] at hr
            simp at hr
          refine .runs (by omega) (fun m hm => ?_) ?_ ?_ ?_
          · rw [f3, List.append_nil] at hm
            exact hemp m hm
          · show y.c.ticks.c.tm.on = true
            rw [f2, ht]; exact on
          · show 1 ≤ y.c.ticks.c.tm.left
            rw [f2, hleft]; omega
          · show y.c.ticks.c.tm.left + 4 * cl536 (B.length - U1) ≤ f
            rw [f2, hleft, hU]; omega
        | true =>
          obtain ⟨g1, g2, m, hm, g3, g4⟩ := d4 hr (by omega)
          refine .way (by omega) m (List.mem_append_right _ hm) g3 (by rw [g4]; congr 1; omega) (by rw [hU]; omega)
      | way e m hm hs hl l2 =>
        have hge := i2 m hm U hs (by omega)
        by_cases hdone : U1 = B.length
        · exact .done hdone
        · have hlt : U < H1 := by omega
          have ht : y.c.tm = tmNew 3 := by
            rw [htm hk, if_pos hlt, if_pos ⟨rfl, by omega⟩]
          have hr : tmRings y.c.tm = false := by rw [ht]; decide
          obtain ⟨f1, f2, f3⟩ := d3 hr
          have hleft : (tmBeat y.c.tm).left = 2 := by rw [ht]; decide
          refine .runs (by omega) (fun m hm => ?_) ?_ ?_ ?_
          · rw [f3, List.append_nil] at hm
            exact hemp m hm
          · show y.c.ticks.c.tm.on = true
            rw [f2, ht]; rfl
          · show 1 ≤ y.c.ticks.c.tm.left
            rw [f2, hleft]; decide
          · show y.c.ticks.c.tm.left + 4 * cl536 (B.length - U1) ≤ f
            rw [f2, hleft]
            unfold cl536 at l2 ⊢
            omega
    · have hemp := b11 hNl
      obtain ⟨e1, e2, e3, e4⟩ := b8 (hacc hk)
      have hN1l := e3 (by omega)
      have hN2 := d2.k.nb
      by_cases hdone : U1 = B.length
      · exact .done hdone
      · have hon : y.c.tm.on = true := by
          have ht := htm hk
          obtain ⟨bt, hbt⟩ : ∃ r, (if U < H1 then tm0 else x.c.tm) = r := ⟨_, rfl⟩
          rw [hbt] at ht
          by_cases q : bt.on = false ∧ H1 < B.length
          · rw [ht, if_pos q]; rfl
          · rw [ht, if_neg q]
            cases ho : bt.on with
            | true => rfl
            | false => exact absurd ⟨ho, by omega⟩ q
        obtain ⟨⟨l0, l1⟩, -⟩ := tmB_lr b5.I.tm
        have hc : cl536 (B.length - U1) ≤ 6 := by unfold cl536; omega
        cases hr : tmRings y.c.tm with
        | false =>
          obtain ⟨f1, f2, f3⟩ := d3 hr
          have hleft : (tmBeat y.c.tm).left = max (y.c.tm.left - 1) 0 := by
            unfold tmBeat; rw [if_pos hon]
          have hne : ¬ max (y.c.tm.left - 1) 0 = 0 := by
            intro q
            unfold tmRings at hr
            rw [hleft, q, hon] at hr
            simp at hr
          refine .runs (by omega) (fun m hm => ?_) ?_ ?_ ?_
          · rw [f3, List.append_nil] at hm
            exact hemp m hm
          · show y.c.ticks.c.tm.on = true
            rw [f2]; exact hon
          · show 1 ≤ y.c.ticks.c.tm.left
            rw [f2, hleft]; omega
          · show y.c.ticks.c.tm.left + 4 * cl536 (B.length - U1) ≤ (72 : Nat)
            rw [f2, hleft]; omega
        | true =>
          obtain ⟨g1, g2, m, hm, g3, g4⟩ := d4 hr (by omega)
          exact .way (by omega) m (List.mem_append_right _ hm) g3 (by rw [g4]; congr 1; omega) (by omega)
end
end Go.Proofs.Ythkjiihphdpagaa

/- A connection and a plain peer, round for round: plain law. Conditions are said at each. -/
namespace Go.Proofs.Ythkjiihphdpagaa
open Go.RowKit
set_option linter.unusedVariables false
set_option linter.unusedSimpArgs false
set_option maxRecDepth 100000
set_option maxHeartbeats 1000000
def roundS (A : List Int) (iss irs : Int) (size : Nat) (lost : Nat → Bool) (lowF : Int → Nat) (w : Int) (x : TW) : TW :=
  let hk := hearGo iss irs lost 0 x.l (x.heard, x.acked)
  let y := x.c.takes (psg A iss irs w size (lowF hk.2) hk.1.length)
  ⟨y.c.ticks.c, y.out ++ y.c.ticks.out, x.told ++ y.told, hk.1, hk.2⟩
theorem roundS_clean (A : List Int) (iss irs : Int) (size : Nat) (x : TW) : roundS A iss irs size (fun _ => false) Int.toNat 3000 x = cleanS A iss irs size x := rfl
section
variable {A B : List Int} {iss irs : Int}
def TalkAt (A B : List Int) (iss irs : Int) (size t0 t : Nat) (x : TW) : Prop :=
  ∃ T U N H K : Nat, TwI A B iss irs x T U N H K ∧ (t0 + 1 ≤ t → Knows irs x T K) ∧ (t0 + 2 ≤ t → N = B.length ∧ U = H ∧ ((t - (t0 + 1)) * size ≤ T ∨ T = A.length)) ∧
    (t0 + 3 ≤ t → ∃ f, Left B iss x U f ∧ (U = B.length ∨ f + t ≤ t0 + 75))
theorem Left.mono {x : TW} {U f g : Nat} (h : Left B iss x U f) (hg : f ≤ g) : Left B iss x U g := by
  cases h with
  | done h => exact .done h
  | runs h e on l1 l2 => exact .runs h e on l1 (by omega)
  | way h m hm hs hl l2 => exact .way h m hm hs hl (by omega)
theorem Left.pos {x : TW} {U f : Nat} (h : Left B iss x U f) : U = B.length ∨ 4 ≤ f := by
  cases h with
  | done h => exact .inl h
  | runs h e on l1 l2 => have : 1 ≤ cl536 (B.length - U) := by unfold cl536; omega
                         exact .inr (by omega)
  | way h m hm hs hl l2 => have : 1 ≤ cl536 (B.length - U) := by unfold cl536; omega
                           exact .inr (by omega)
theorem talk_round (hA : A.length ≤ 3000) (hB : B.length ≤ 3000) {size t0 t : Nat} (h2 : size ≤ 500) (ht : t < t0) {x : TW} (h : TalkAt A B iss irs size t0 t x) (lost : Nat → Bool) (lowF : Int → Nat) (hlow : ∀ k : Nat, k ≤ A.length → lowF k ≤ A.length) {w : Int} (hw : 0 ≤ w ∧ w ≤ 65535) :
    TalkAt A B iss irs size t0 (t + 1) (roundS A iss irs size lost lowF w x) ∨ (roundS A iss irs size lost lowF w x).c.st = 0 := by
  obtain ⟨T, U, N, H, K, hx, -, -, -⟩ := h
  obtain ⟨H1, K1, a1, a2, a3, a4, a5, a6, rest⟩ := round_K hA hB hx lost
  have hT : T ≤ A.length := hx.k.inv.tle
  obtain ⟨T1, U1, N1, y, hy, b1, b2, b3, b4, b5, b6, hoff, b8, b9, b10, b11, b12⟩ := rest w (lowF K1) size hw (hlow K1 (by omega)) (by omega)
  have hN := hx.k.nb
  have hl1 : (B.take H1).length = H1 := by simp; omega
  have he : roundS A iss irs size lost lowF w x = ⟨y.c.ticks.c, y.out ++ y.c.ticks.out, x.told ++ y.told, B.take H1, K1⟩ := by
    unfold roundS
    rw [a5]
    dsimp only
    rw [hl1, hy]
  rw [he]
  rcases b12 with ⟨c1, c2, c3⟩ | ⟨N2, d1, d2, d3, d4⟩
  · exact .inr c3
  · exact .inl ⟨T1, U1, N2, H1, K1, d2, fun e => by omega, fun e => by omega, fun e => by omega⟩
theorem talk_clean (hA : A.length ≤ 3000) (hB : B.length ≤ 3000) {size t0 t : Nat} (h1 : 1 ≤ size) (h2 : size ≤ 500) (ht : t0 ≤ t) {x : TW} (h : TalkAt A B iss irs size t0 t x) :
    TalkAt A B iss irs size t0 (t + 1) (cleanS A iss irs size x) ∨ ((cleanS A iss irs size x).c.st = 0 ∧ t ≤ t0 + 75) := by
  obtain ⟨T, U, N, H, K, hx, q1, q2, q3⟩ := h
  rcases clean_K hA hB h1 h2 hx with ⟨T1, U1, N2, H1, K1, d1, d2, d3, d4, d5, d6, d7, d8⟩ | ⟨c1, c2⟩
  · refine .inl ⟨T1, U1, N2, H1, K1, d1, fun _ => d5, fun e => ?_, fun e => ?_⟩
    · obtain ⟨e1, e2, e3, e4⟩ := d6 (q1 (by omega))
      refine ⟨e4, e3, ?_⟩
      by_cases ht1 : t = t0 + 1
      · rw [show t + 1 - (t0 + 1) = 1 by omega]; omega
      · obtain ⟨f1, f2, f3⟩ := q2 (by omega)
        have hT1 : T1 ≤ A.length := d1.k.inv.tle
        rw [show t + 1 - (t0 + 1) = (t - (t0 + 1)) + 1 by omega, Nat.add_mul, Nat.one_mul]
        omega
    · have hk := q1 (by omega)
      obtain ⟨f1, f2, f3⟩ := q2 (by omega)
      by_cases ht3 : t = t0 + 2
      · exact ⟨72, d8 hk f1, .inr (by omega)⟩
      · obtain ⟨f, hf, g⟩ := q3 (by omega)
        rcases g with g | g
        · have hn := d1.k.un
          have hn2 := d1.k.nb
          have hU1 : U1 = B.length := by omega
          exact ⟨0, .done hU1, .inl hU1⟩
        · rcases hf.pos with p | p
          · have hn := d1.k.un
            have hn2 := d1.k.nb
            have hU1 : U1 = B.length := by omega
            exact ⟨0, .done hU1, .inl hU1⟩
          · obtain ⟨f', rfl⟩ : ∃ f', f = f' + 1 := ⟨f - 1, by omega⟩
            exact ⟨f', d7 hk f1 f2 f' hf, .inr (by omega)⟩
  · refine .inr ⟨c1, ?_⟩
    by_cases ht3 : t < t0 + 3
    · omega
    · have hk := q1 (by omega)
      obtain ⟨f1, f2, f3⟩ := q2 (by omega)
      obtain ⟨f, hf, g⟩ := q3 (by omega)
      rcases g with g | g
      · have := c2 hk f1 f2 0 (.done g)
        omega
      · omega
theorem talk_end {size t0 : Nat} (h1 : 1 ≤ size) (ht0 : t0 ≤ 100) (hs : A.length ≤ 150 * size) {x : TW} (h : TalkAt A B iss irs size t0 400 x) : x.told = A ∧ x.heard = B := by
  obtain ⟨T, U, N, H, K, hx, q1, q2, q3⟩ := h
  obtain ⟨f1, f2, f3⟩ := q2 (by omega)
  obtain ⟨f, hf, g⟩ := q3 (by omega)
  have hT : T ≤ A.length := hx.k.inv.tle
  have hT2 : T = A.length := by
    rcases f3 with e | e
    · have : 150 * size ≤ (400 - (t0 + 1)) * size := Nat.mul_le_mul_right _ (by omega)
      have h299 : 299 * size ≤ (400 - (t0 + 1)) * size := Nat.mul_le_mul_right _ (by omega)
      omega
    · exact e
  have hU : U = B.length := by rcases g with g | g; exact g; omega
  rw [hx.told, hx.heard, hT2, ← f2, hU, List.take_length, List.take_length]
  exact ⟨rfl, rfl⟩
abbrev cUp (iss irs : Int) : Cn := ⟨1, 2, 3, 4, 2, wadd iss 1, wadd iss 1, 3000, [], wadd irs 1, [], false, tm0⟩
theorem up_I (iss irs : Int) : CnI (cUp iss irs) := by
  have h1 := waddW iss 1
  refine ⟨⟨by simp, by simp, by simp, by simp, by simp, h1, h1, by simp, by simp, may_next, tm0_ok⟩, ⟨fun e => absurd e (by show ¬ (2 : Int) = 0; decide), fun e => absurd e (by show ¬ (2 : Int) = 1; decide), fun e => absurd e (by show ¬ ((2 : Int) = 4 ∨ (2 : Int) = 8); decide), fun e => absurd e (by show ¬ ((2 : Int) = 3 ∨ (2 : Int) = 6 ∨ (2 : Int) = 7); decide), fun _ => ?_⟩⟩
  have e : Cn.sent (cUp iss irs) = 0 := wdiff_eq _
  rw [e]
  exact ⟨Int.le_refl _, by simp⟩
theorem up_send (hB : B.length ≤ 3000) : (cUp iss irs).sendE B = 0 := by
  unfold Cn.sendE
  have : decide (8192 - (([] : List Int).length : Int) < (B.length : Int)) = false := by rw [decide_eq_false_iff_not]; simp; omega
  show (bif (true && !false) then (bif decide (8192 - (([] : List Int).length : Int) < (B.length : Int)) then 5 else 0) else 6) = 0
  rw [this]; rfl
theorem talk_start (hB : B.length ≤ 3000) (size t0 : Nat) (ht0 : 1 ≤ t0) : TalkAt A B iss irs size t0 0 ⟨((cUp iss irs).sends B).c, ((cUp iss irs).sends B).out, [], [], 0⟩ := by
  have hI := (out_I (up_I iss irs) (up_send (iss := iss) (irs := irs) hB)).1
  have hI' : CnI (({ cUp iss irs with out := [] ++ B } : Cn).start).c := hI
  have hK : TkI A B iss irs (({ cUp iss irs with out := [] ++ B } : Cn).start).c 0 0 0 :=
    ⟨hI', rfl, rfl, rfl, rfl, rfl, rfl, by show [] ++ B = B.drop 0; simp, Nat.le_refl _, Nat.zero_le _,
      ⟨Nat.zero_le _, by show wadd irs 1 = wadd (wadd irs 1) 0; rw [wadd_zero (waddW irs 1)], may_next, fun i c h => by cases h⟩⟩
  obtain ⟨N', a1, a2, a3, a4, a5, a6, a7, a8, a9⟩ := pump_K hB hK (fun m hm => by cases hm)
  refine ⟨0, 0, N', 0, 0, ⟨a2, by simp, by simp, rfl, Nat.le_refl _, Nat.zero_le _, Nat.le_refl _, a3, fun e => ?_⟩, fun e => by omega, fun e => by omega, fun e => by omega⟩
  show (Stp.pump ({ cUp iss irs with out := [] ++ B } : Cn).start).c.tm.on = false
  rw [a8, if_neg (by omega)]
  rfl
end
end Go.Proofs.Ythkjiihphdpagaa

/- A connection and a plain peer: the next round, as the walk meets it: plain law. Conditions are said at each. -/
namespace Go.Proofs.Ythkjiihphdpagaa
open Go.RowKit
set_option linter.unusedVariables false
set_option linter.unusedSimpArgs false
set_option maxRecDepth 100000
set_option maxHeartbeats 1000000
theorem talk_next {A B : List Int} {iss irs : Int} (hA : A.length ≤ 3000) (hB : B.length ≤ 3000) {size t0 t : Nat} (h1 : 1 ≤ size) (h2 : size ≤ 500) {x : TW} (h : TalkAt A B iss irs size t0 t x) (lost : Nat → Bool) {H1 K1 : Nat} (hH : H1 ≤ B.length)
    (hgo : hearGo iss irs lost 0 x.l (x.heard, x.acked) = (B.take H1, (K1 : Int))) {low : Nat} (hlow : low ≤ A.length) {w : Int} (hw : 0 ≤ w ∧ w ≤ 65535) (hc : t0 ≤ t → lost = (fun _ => false) ∧ low = K1 ∧ w = 3000) :
    TalkAt A B iss irs size t0 (t + 1) ⟨(x.c.takes (psg A iss irs w size low H1)).c.ticks.c, (x.c.takes (psg A iss irs w size low H1)).out ++ (x.c.takes (psg A iss irs w size low H1)).c.ticks.out, x.told ++ (x.c.takes (psg A iss irs w size low H1)).told, B.take H1, K1⟩ ∨ ((x.c.takes (psg A iss irs w size low H1)).c.ticks.c.st = 0 ∧ t ≤ t0 + 75) := by
  have hl1 : (B.take H1).length = H1 := by simp; omega
  by_cases ht : t < t0
  · have he : roundS A iss irs size lost (fun _ => low) w x = ⟨(x.c.takes (psg A iss irs w size low H1)).c.ticks.c, (x.c.takes (psg A iss irs w size low H1)).out ++ (x.c.takes (psg A iss irs w size low H1)).c.ticks.out, x.told ++ (x.c.takes (psg A iss irs w size low H1)).told, B.take H1, K1⟩ := by
      unfold roundS
      rw [hgo]
      dsimp only
      rw [hl1]
    have hr := talk_round hA hB h2 ht h lost (fun _ => low) (fun _ _ => hlow) hw
    rw [he] at hr
    rcases hr with hr | hr
    · exact .inl hr
    · exact .inr ⟨hr, by omega⟩
  · obtain ⟨e1, e2, e3⟩ := hc (by omega)
    subst e1 e2 e3
    have he : cleanS A iss irs size x = ⟨(x.c.takes (psg A iss irs 3000 size low H1)).c.ticks.c, (x.c.takes (psg A iss irs 3000 size low H1)).out ++ (x.c.takes (psg A iss irs 3000 size low H1)).c.ticks.out, x.told ++ (x.c.takes (psg A iss irs 3000 size low H1)).told, B.take H1, low⟩ := by
      rw [← roundS_clean]
      unfold roundS
      rw [hgo]
      dsimp only
      rw [hl1]
      rfl
    have hr := talk_clean hA hB h1 h2 (by omega) h
    rw [he] at hr
    exact hr
end Go.Proofs.Ythkjiihphdpagaa

/- Code cut inside loops and blocks: a loop's round, a block's inside, told statement by statement. No condition. -/
namespace Go.Proofs.Ythkjiihphdpagaa
open Go.RowKit
set_option linter.unusedVariables false
set_option linter.unusedSimpArgs false
def qRest (P : Program) (B : Base) (L : List Code) (Q : AExit → List AV → List Own → Prop) (sl : List AV) (h : List Own) : Prop := qAWs P B L Q sl h
theorem qRest.go {P : Program} (hm : P.follows .mixedOrders = true) {B : Base} {L : List Code} {c : Code} {Q : AExit → List AV → List Own → Prop} {sl : List AV} {h : List Own} (hc : chain L = c) (H : frcVV sl fun sl => frcOs h fun h => ev P B c Q sl h) : qRest P B L Q sl h :=
  qAWs.fin hm hc H
theorem qRest.of {P : Program} {B : Base} {L : List Code} {Q : AExit → List AV → List Own → Prop} {sl : List AV} {h : List Own} (H : qAWs P B L Q sl h) : qRest P B L Q sl h := H
theorem qRest.nil {P : Program} {B : Base} {Q : AExit → List AV → List Own → Prop} {sl : List AV} {h : List Own} (H : Q .normal sl h) : qRest P B [] Q sl h := H
theorem qRest.conv {P : Program} {B : Base} {a : Code} {L : List Code} {Q : AExit → List AV → List Own → Prop} {sl sl' : List AV} {h h' : List Own} (hc : qConv B sl h sl' h') (H : qRest P B (a :: L) Q sl' h') : qRest P B (a :: L) Q sl h := by
  unfold qConv at hc
  exact AW.conv hc H
attribute [irreducible] qRest
theorem qAW.loopS {P : Program} {B : Base} {X : Type} {body : Code} {L : List Code} {Q : AExit → List AV → List Own → Prop} {sl : List AV} {h : List Own} (hL : spine body = L) (F : X → List AV) (G : X → List Own) (I : X → Prop) (μ : X → Nat) (x0 : X) (hI : I x0) (h0 : qConv B sl h (F x0) (G x0))
    (round : ∀ (E : AExit → List AV → List Own → Prop), ∀ x, I x → E = (fun e sl h => match e with | .normal => ∃ y, I y ∧ μ y < μ x ∧ qConv B sl h (F y) (G y) | e => Q e sl h) → qAWs P B L E (F x) (G x)) : qAW P B (.loop body) Q sl h := by
  unfold qAW
  unfold qConv at h0
  refine AW_loop (P := P) (X := { x : X // I x }) (fun x => ⟨F x.1, G x.1⟩) (fun x => μ x.1) ⟨x0, hI⟩ h0 fun x => AW.mono (AWs.spine body (by rw [hL]; exact round _ x.1 x.2 rfl)) fun e st H => ?_
  cases e with
  | normal =>
    dsimp only [qQ] at H
    obtain ⟨y, h1, h2, h3⟩ := H
    unfold qConv at h3
    exact ⟨⟨y, h1⟩, h3, h2⟩
  | exit id => exact H
  | goto l => exact H
  | ret => exact H
theorem AW.block {P : Program} {B : Base} {i : Nat} {c : Code} {Q : AExit → ASt → Prop} {st : ASt} (H : AW P B c (aBlock i Q) st) : AW P B (.block i c) Q st := by
  intro m w a hs hev
  refine wp_block (wp_mono (H m w a hs hev) ?_)
  rintro e a' w' ⟨e', st', m', rfl, hq, hs', ev⟩
  cases e' with
  | normal => exact ⟨.normal, st', m', rfl, hq, hs', ev⟩
  | exit id' =>
    simp only [aBlock_exit] at hq
    simp only [AExit.conc, Exit.inBlock]
    split
    · rename_i e; rw [if_pos e] at hq; exact ⟨.normal, st', m', rfl, hq, hs', ev⟩
    · rename_i e; rw [if_neg e] at hq; exact ⟨.exit id', st', m', rfl, hq, hs', ev⟩
  | goto l => exact ⟨.goto l, st', m', rfl, hq, hs', ev⟩
  | ret => exact ⟨.ret, st', m', rfl, hq, hs', ev⟩
theorem qAWs.block {P : Program} {B : Base} {i : Nat} {c : Code} {Lc L : List Code} {Q : AExit → List AV → List Own → Prop} {sl : List AV} {h : List Own} (hL : spine c = Lc)
    (H : ∀ (E : AExit → List AV → List Own → Prop), E = (fun e sl h => match e with | .normal => qRest P B L Q sl h | .exit j => (if j = i then qRest P B L Q sl h else Q (.exit j) sl h) | e => Q e sl h) → qAWs P B Lc E sl h) : qAWs P B (.block i c :: L) Q sl h := by
  have H' := H _ rfl
  unfold qAWs
  unfold AWs
  refine AW.block (AW.mono (AWs.spine c (by rw [hL]; exact H')) fun e st H => ?_)
  dsimp only [qQ] at H
  unfold qRest at H
  cases e with
  | normal => exact H
  | exit j =>
    rw [aBlock_exit]
    dsimp only at H
    split
    · rename_i e; rw [if_pos e] at H; exact H
    · rename_i e; rw [if_neg e] at H; exact H
  | goto l => exact H
  | ret => exact H
end Go.Proofs.Ythkjiihphdpagaa
