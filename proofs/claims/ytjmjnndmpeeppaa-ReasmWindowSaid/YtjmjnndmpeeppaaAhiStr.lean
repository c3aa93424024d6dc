/- Strings and bytes on data. No condition. -/
import Derived.Test.YtjmjnndmpeeppaaAhiMore
import Derived.Laws.IdiomStrings
namespace Go.Proofs.Ytjmjnndmpeeppaa
open Go.RowKit
set_option linter.unusedVariables false
set_option linter.unusedSimpArgs false

/-- the string that bytes are -/
def strOf (xs : List Int) : ByteArray := xs.foldl (fun r n => r.push (UInt8.ofNat n.toNat)) ByteArray.empty
theorem foldl_push (l : List Int) (r : ByteArray) : l.foldl (fun r n => r.push (UInt8.ofNat n.toNat)) r = ⟨r.data ++ (l.map fun n => UInt8.ofNat n.toNat).toArray⟩ := by
  induction l generalizing r with
  | nil => simp
  | cons b l ih => simp only [List.foldl_cons]; rw [ih]; simp [ByteArray.push]
theorem strOf_data (xs : List Int) : (strOf xs).data = (xs.map fun n => UInt8.ofNat n.toNat).toArray := by
  unfold strOf
  rw [foldl_push]
  have he0 : ByteArray.empty.data = #[] := rfl
  rw [he0]
  simp
theorem map_inj_on {α β : Type} {f : α → β} {p : α → Prop} (hf : ∀ a b, p a → p b → f a = f b → a = b) : ∀ (xs ys : List α), (∀ x ∈ xs, p x) → (∀ y ∈ ys, p y) → xs.map f = ys.map f → xs = ys
  | [], [], _, _, _ => rfl
  | [], y :: ys, _, _, h => by simp at h
  | x :: xs, [], _, _, h => by simp at h
  | x :: xs, y :: ys, h1, h2, h => by
    simp only [List.map_cons, List.cons.injEq] at h
    rw [hf x y (h1 x (by simp)) (h2 y (by simp)) h.1, map_inj_on hf xs ys (fun a ha => h1 a (by simp [ha])) (fun a ha => h2 a (by simp [ha])) h.2]
theorem strOf_inj {xs ys : List Int} (hx : ∀ x ∈ xs, 0 ≤ x ∧ x ≤ 255) (hy : ∀ x ∈ ys, 0 ≤ x ∧ x ≤ 255) (h : strOf xs = strOf ys) : xs = ys := by
  have h1 := congrArg (·.data) h
  simp only [strOf_data] at h1
  have h2 : xs.map (fun n => UInt8.ofNat n.toNat) = ys.map fun n => UInt8.ofNat n.toNat := by simpa using congrArg Array.toList h1
  refine map_inj_on (p := fun x => 0 ≤ x ∧ x ≤ 255) (fun a b ha hb e => ?_) xs ys hx hy h2
  have h3 := congrArg UInt8.toNat e
  simp only [UInt8.toNat_ofNat'] at h3
  omega
theorem strOf_beq {xs ys : List Int} (hx : ∀ x ∈ xs, 0 ≤ x ∧ x ≤ 255) (hy : ∀ x ∈ ys, 0 ≤ x ∧ x ≤ 255) : ((strOf xs).toList == (strOf ys).toList) = (xs == ys) := by
  by_cases h : xs = ys
  · subst h; simp
  · have h1 : (strOf xs).toList ≠ (strOf ys).toList := fun e => by
      refine h (strOf_inj hx hy ?_)
      rw [ByteArray.toList_eq, ByteArray.toList_eq] at e
      have := Array.ext' e
      cases hs : strOf xs
      cases ht : strOf ys
      rw [hs, ht] at this
      simp at this
      rw [this]
    rw [beq_eq_false_iff_ne.2 h, beq_eq_false_iff_ne.2 h1]
section
variable {P : Program}
/-- bytes as a string -/
theorem conv_bytes {o : Oper} {sl : List AV} {look : Nat → Own} {src dst e : TypeId} {x : Operand} {xs : List Int} {rd : List (Nat × Own)} (ho : o.op = .convert src dst x) (hs : elemT P src = some e) (he : intT P e = some .u8) (hd : P.underlying dst = some .string)
    (hrows : arows look (ae sl x) = some (1, xs.map fun n => [.val (.int .u8 n)])) (hl : alive look (ae sl x) = some rd) : OpL P o sl ⟨.val (.string (strOf xs)), rd, []⟩ :=
  OpL.pureR fun m hh w a hrd rel hops => by
    have hx := hops x (by simp [ho, Op.operands])
    have he' : P.underlying e = some (.int .u8) := by
      unfold intT at he
      simp only [Option.bind_eq_some_iff] at he
      obtain ⟨d, h1, h2⟩ := he
      rw [h1]
      cases d <;> simp at h2 <;> simp [h2]
    obtain ⟨hw, hcase⟩ := read_rows rel hrows hl hrd hx (by omega)
    refine ⟨_, ?_, .val _⟩
    rcases hcase with ⟨h1, h2⟩ | ⟨ad, cap, h2, hm, news, n1, n2, n3⟩
    · have : xs = [] := by simpa using h1
      subst this
      simp [execOp, ho, h2, run_convert_bytes_string w src dst e none 0 0 (elemT_inv hs) he' hd, Conv.bytesToString, strOf]
    · simp only [List.length_map, Nat.mul_one] at n1
      have hn : news = xs.map (Value.int .u8) := by
        refine List.ext_getElem? fun i => ?_
        by_cases hi : i < xs.length
        · have e1 := List.getElem?_eq_getElem (show i < news.length by omega)
          have e2 : (xs.map fun n => [AV.val (.int .u8 n)]).flatten[i]? = some (.val (.int .u8 xs[i])) := by
            have : ∀ (l : List Int), (l.map fun n => [AV.val (.int .u8 n)]).flatten = l.map fun n => AV.val (.int .u8 n) := by
              intro l
              induction l with
              | nil => rfl
              | cons y l ih => simp only [List.map_cons, List.flatten_cons, ih]; rfl
            rw [this]; simp [hi]
          rw [e1, (n3 i _ _ e2 e1).val_inv]
          simp [hi]
        · rw [List.getElem?_eq_none (by omega), List.getElem?_eq_none (by simp; omega)]
      subst hn
      have hld := run_loadCells_list (P := P) w ad (xs.map (Value.int .u8)) n2
      simp only [List.length_map] at hld
      rw [List.length_map] at h2
      have hb := run_bytesToString (P := P) w ad xs.length cap xs hld
      simp [execOp, ho, h2, run_convert_bytes_string w src dst e (some ad) xs.length cap (elemT_inv hs) he' hd, hb, strOf]
theorem qOpen.str {o : Oper} {sl : List AV} {h : List Own} {src dst e : TypeId} {x : Operand} {rd : List (Nat × Own)} {K : AV → List Nat → List Nat → List Own → Prop} (xs : List Int) (ho : o.op = .convert src dst x) (hs : elemT P src = some e) (he : intT P e = some .u8) (hd : P.underlying dst = some .string)
    (hrows : arows (ofL h) (ae sl x) = some (1, xs.map fun n => [.val (.int .u8 n)])) (hl : alive (ofL h) (ae sl x) = some rd) (hq : frcL h fun h' => frcNs (rd.map (·.1)) fun rd => K (.val (.string (strOf xs))) rd [] h') : qOpen P o sl h K :=
  qOpen.of (conv_bytes ho hs he hd hrows hl) ⟨fun q hq => alive_rd hl q hq, trivial⟩ (by simp only [frcL_eq, frcNs_eq, frcW_eq, apE] at hq ⊢; exact hq)
theorem qOpen.eqs {o : Oper} {t u : TypeId} {x y : Operand} {sl : List AV} {h : List Own} {p q : ByteArray} {K : AV → List Nat → List Nat → List Own → Prop} (ho : o.op = .binOp .eql t x y u) (h1 : ae sl x = .val (.string p)) (h2 : ae sl y = .val (.string q)) (hq : K (.val (.bool (p.toList == q.toList))) [] [] h) : qOpen P o sl h K :=
  qOpen.pure (av := .val (.bool (p.toList == q.toList))) (OpL.pure fun m hh w a rel hops => by
    have hx := hops x (by simp [ho, Op.operands])
    have hy := hops y (by simp [ho, Op.operands])
    rw [h1] at hx
    rw [h2] at hy
    have e1 := hx.val_inv
    have e2 := hy.val_inv
    refine ⟨_, ?_, .val _⟩
    simp [execOp, ho, e1, e2, eqGuard, binOp, Op.stringOp]) (by rw [frcW_eq]; exact hq)
end
end Go.Proofs.Ytjmjnndmpeeppaa
