/- The operations that only reckon: each run of the model gives what the abstract machine says. -/
import Derived.Test.YtcmdlmcmefbkeaaAme
import Derived.Lib.Builder
import Derived.Laws.Externs
namespace Go.Proofs.Ytcmdlmcmefbkeaa.Am
open Go

mutual
theorem AV.isC_ok {G : Gh} : ∀ (x : AV) (v : Value), x.isC v = true → Rep G x v
  | .int k n, v, h => by
      cases v <;> simp [AV.isC] at h
      obtain ⟨rfl, rfl⟩ := h
      exact .int _ _
  | .bool b, v, h => by
      cases v <;> simp [AV.isC] at h
      subst h
      exact .bool _
  | .str s, v, h => by
      cases v <;> simp [AV.isC] at h
      subst h
      exact .str _
  | .nils, v, h => by
      simp only [AV.isC] at h
      split at h
      · exact .nils
      · cases h
  | .nilp, v, h => by
      simp only [AV.isC] at h
      split at h
      · exact .nilp
      · cases h
  | .nilf, v, h => by
      simp only [AV.isC] at h
      split at h
      · exact .nilf
      · cases h
  | .nili, v, h => by
      simp only [AV.isC] at h
      split at h
      · exact .nili
      · cases h
  | .nilm, v, h => by
      simp only [AV.isC] at h
      split at h
      · exact .nilm
      · cases h
  | .agg l, v, h => by
      simp only [AV.isC] at h
      split at h
      · exact .agg (AV.isCL_ok l _ h)
      · cases h
  | .tup l, v, h => by
      simp only [AV.isC] at h
      split at h
      · exact .tup (AV.isCL_ok l _ h)
      · cases h
  | .top, v, h => by simp [AV.isC] at h
  | .list l, v, h => by simp [AV.isC] at h
  | .iface t x, v, h => by simp [AV.isC] at h
  | .fn f a b, v, h => by simp [AV.isC] at h
  | .ptr l s o, v, h => by simp [AV.isC] at h
  | .vec l s g o n q, v, h => by simp [AV.isC] at h
  | .vptr l s g i o, v, h => by simp [AV.isC] at h
  | .rptr l, v, h => by simp [AV.isC] at h
theorem AV.isCL_ok {G : Gh} : ∀ (l : List AV) (vs : List Value), AV.isCL l vs = true → RepL G l vs
  | [], vs, h => by
      cases vs with
      | nil => exact .nil
      | cons v vs => simp [AV.isCL] at h
  | x :: l, vs, h => by
      cases vs with
      | nil => simp [AV.isCL] at h
      | cons v vs =>
        simp only [AV.isCL, Bool.and_eq_true] at h
        exact .cons (AV.isC_ok x v h.1) (AV.isCL_ok l vs h.2)
end
theorem isC_ok {G : Gh} {v : Value} {x : AV} (h : isC v x = true) : Rep G x v := AV.isC_ok x v h
theorem isCL_ok {G : Gh} {v : List Value} {x : List AV} (h : isCL v x = true) : RepL G x v := AV.isCL_ok x v h

section
variable {P : Program} {G : Gh} {B N : Nat} {st : St} {a : Act} {w : World}

theorem chkA_ok (h : Rel G B N st a w) {x : Operand} {r : RA} (hc : chkA x r = true) : Rep G (r.ev st.f) (a.eval x) := by
  cases x with
  | tmp t =>
    cases r <;> simp [chkA] at hc
    subst hc
    exact h.slots t
  | const v =>
    cases r <;> simp [chkA] at hc
    exact isC_ok hc
  | global g => cases r <;> simp [chkA] at hc
  | func k =>
    cases r <;> simp [chkA] at hc
    subst hc
    exact .fn .nil .nil

theorem chkAs_ok (h : Rel G B N st a w) : ∀ {xs : List Operand} {rs : List RA}, chkAs xs rs = true → RepL G (rs.map (RA.ev st.f)) (xs.map a.eval)
  | [], [], _ => .nil
  | x :: xs, r :: rs, hc => by
      simp only [chkAs, Bool.and_eq_true] at hc
      exact .cons (chkA_ok h hc.1) (chkAs_ok h hc.2)
  | [], _ :: _, hc => by simp [chkAs] at hc
  | _ :: _, [], hc => by simp [chkAs] at hc

theorem aint_ok {op : BinOp} {k : IntKind} {m n : Int} {x : AV} (hx : aint op k m n = some x) (h1 : op ≠ .shl) (h2 : op ≠ .shr) (t : TypeId) :
    ∃ v, (binOp op t (.int k m) (.int k n)).run P w = .ok v w ∧ Rep G x v := by
  cases op <;> first
    | exact absurd rfl h1
    | exact absurd rfl h2
    | (simp only [aint] at hx; split at hx
       · cases hx
       · rename_i hn; cases hx; exact ⟨_, by simp [binOp, Op.intDiv, hn], .int _ _⟩)
    | (simp only [aint, Option.some.injEq] at hx; subst hx; exact ⟨_, by simp [binOp, Op.intArith] <;> rfl, .int _ _⟩)
    | (simp only [aint, Option.some.injEq] at hx; subst hx; exact ⟨_, by simp [binOp] <;> rfl, .int _ _⟩)
    | (simp only [aint, Option.some.injEq] at hx; subst hx; exact ⟨_, by simp [binOp, Op.intCmp] <;> rfl, .bool _⟩)

theorem astr_ok {op : BinOp} {s u : List UInt8} {x : AV} (hx : astr op s u = some x) (t : TypeId) :
    ∃ v, (binOp op t (.string ⟨⟨s⟩⟩) (.string ⟨⟨u⟩⟩)).run P w = .ok v w ∧ Rep G x v := by
  have hs : (⟨⟨s⟩⟩ : ByteArray).toList = s := by rw [ByteArray.toList_eq]
  have hu : (⟨⟨u⟩⟩ : ByteArray).toList = u := by rw [ByteArray.toList_eq]
  cases op with
  | add =>
    simp only [astr] at hx
    split at hx
    · rename_i hl
      cases hx
      refine ⟨.string ⟨⟨s ++ u⟩⟩, ?_, .str _⟩
      have hlen : ((ByteArray.size ⟨⟨s⟩⟩ + ByteArray.size ⟨⟨u⟩⟩ : Nat) : Int) ≤ IntKind.i64.max := by
        show ((s.length + u.length : Nat) : Int) ≤ 9223372036854775807
        omega
      have hcat : (⟨⟨s⟩⟩ : ByteArray) ++ ⟨⟨u⟩⟩ = ⟨⟨s ++ u⟩⟩ := by
        apply ByteArray.ext
        simp
      simp only [binOp, Op.stringOp, hcat]
      rw [if_neg (by omega)]
      rfl
    · cases hx
  | eql => simp only [astr, Option.some.injEq] at hx; subst hx; exact ⟨_, by simp only [binOp, Op.stringOp, hs, hu]; rfl, .bool _⟩
  | neq => simp only [astr, Option.some.injEq] at hx; subst hx; exact ⟨_, by simp only [binOp, Op.stringOp, hs, hu]; rfl, .bool _⟩
  | lss => simp only [astr, Option.some.injEq] at hx; subst hx; exact ⟨_, by simp only [binOp, Op.stringOp, hs, hu]; rfl, .bool _⟩
  | leq => simp only [astr, Option.some.injEq] at hx; subst hx; exact ⟨_, by simp only [binOp, Op.stringOp, hs, hu]; rfl, .bool _⟩
  | gtr => simp only [astr, Option.some.injEq] at hx; subst hx; exact ⟨_, by simp only [binOp, Op.stringOp, hs, hu]; rfl, .bool _⟩
  | geq => simp only [astr, Option.some.injEq] at hx; subst hx; exact ⟨_, by simp only [binOp, Op.stringOp, hs, hu]; rfl, .bool _⟩
  | _ => simp [astr] at hx

theorem tyOf_ptr {t : TypeId} (h : tyOf P t = .ptr) : ∃ e j, P.underlying t = some (.pointer e) ∧ P.info? e = some j := by
  unfold tyOf at h
  split at h <;> first
    | (cases h; done)
    | (rename_i e hu
       split at h
       · rename_i hi
         obtain ⟨j, hj⟩ := Option.isSome_iff_exists.1 hi
         exact ⟨e, j, hu, hj⟩
       · cases h)

theorem run_ptr_nils {t e : TypeId} (hp : P.underlying t = some (.pointer e)) : (binOp .eql t (.pointer none) (.pointer none)).run P w = .ok (.bool true) w ∧ (binOp .neq t (.pointer none) (.pointer none)).run P w = .ok (.bool false) w := by
  have h : ∀ d : Nat, (Op.equalIn (d + 1) t (.pointer none) (.pointer none)).run P w = .ok true w := fun d => by
    simp [Op.equalIn, run_underlying hp]
  simp only [binOp]
  constructor <;> simp [Op.equal, Op.maxDepth, h 9999]

theorem run_ptr_nil {t e : TypeId} (hp : P.underlying t = some (.pointer e)) (a : Addr) : (binOp .eql t (.pointer (some a)) (.pointer none)).run P w = .ok (.bool false) w ∧ (binOp .neq t (.pointer (some a)) (.pointer none)).run P w = .ok (.bool true) w := by
  have h : ∀ d : Nat, (Op.equalIn (d + 1) t (.pointer (some a)) (.pointer none)).run P w = .ok false w := fun d => by
    simp [Op.equalIn, run_underlying hp]
  simp only [binOp]
  constructor <;> simp [Op.equal, Op.maxDepth, h 9999]

theorem abin_ok {ty : Ty} {op : BinOp} {p q x : AV} (hx : abin ty op p q = some x) {v u : Value} (hp : Rep G p v) (hq : Rep G q u) {t : TypeId} (ht : tyOf P t = ty) (o1 o2 : Operand) :
    ∃ r, (do eqGuard op t o1 o2 v u; binOp op t v u).run P w = .ok r w ∧ Rep G x r := by
  cases p <;> cases q <;> first
    | (simp [abin] at hx; done)
    | skip
  case int.int k m k' n =>
    cases hp; cases hq
    have hg : (eqGuard op t o1 o2 (.int k m) (.int k' n)).run P w = .ok () w := by
      unfold eqGuard; split <;> rfl
    rw [Sem.run_bind, hg, Result.andThen_ok]
    by_cases h1 : op = .shl
    · subst h1
      simp only [abin] at hx
      split at hx
      · rename_i h0; cases hx
        exact ⟨_, by simp only [binOp, Op.shift]; rw [if_neg (by omega)]; rfl, .int _ _⟩
      · cases hx
    · by_cases h2 : op = .shr
      · subst h2
        simp only [abin] at hx
        split at hx
        · rename_i h0; cases hx
          exact ⟨_, by simp only [binOp, Op.shift]; rw [if_neg (by omega)]; rfl, .int _ _⟩
        · cases hx
      · have hx' : (if k = k' then aint op k m n else none) = some x := by
          cases op <;> first | exact absurd rfl h1 | exact absurd rfl h2 | exact hx
        split at hx'
        · rename_i hk; subst hk
          exact aint_ok hx' h1 h2 t
        · cases hx'
  case str.str s u =>
    cases hp; cases hq
    have hg : (eqGuard op t o1 o2 (.string ⟨⟨s⟩⟩) (.string ⟨⟨u⟩⟩)).run P w = .ok () w := by
      unfold eqGuard; split <;> rfl
    rw [Sem.run_bind, hg, Result.andThen_ok]
    exact astr_ok hx t
  case bool.bool b c =>
    cases hp; cases hq
    have hg : (eqGuard op t o1 o2 (.bool b) (.bool c)).run P w = .ok () w := by
      unfold eqGuard; split <;> rfl
    rw [Sem.run_bind, hg, Result.andThen_ok]
    have hb : ty = .bool → P.underlying t = some .bool := by
      intro e
      rw [e] at ht
      unfold tyOf at ht
      split at ht <;> first | (cases ht; done) | (split at ht <;> cases ht; done) | assumption
    cases ty <;> cases op <;> first
      | (simp [abin] at hx; done)
      | (simp only [abin, Option.some.injEq] at hx; subst hx
         exact ⟨_, by simp [binOp, Op.equal, Op.maxDepth, run_equalIn_bool' w 9999 t b c (hb rfl)] <;> rfl, .bool _⟩)
  case nilp.nilp =>
    cases hp; cases hq
    have hg : (eqGuard op t o1 o2 (.pointer none) (.pointer none)).run P w = .ok () w := by
      unfold eqGuard; split <;> rfl
    rw [Sem.run_bind, hg, Result.andThen_ok]
    cases ty <;> cases op <;> first
      | (simp [abin] at hx; done)
      | (simp only [abin, Option.some.injEq] at hx; subst hx
         obtain ⟨e, j, hu, hj⟩ := tyOf_ptr ht
         first | exact ⟨_, (run_ptr_nils hu).1, .bool _⟩ | exact ⟨_, (run_ptr_nils hu).2, .bool _⟩)
  case ptr.nilp l s o =>
    cases hp; cases hq
    rename_i b hb
    have hg : (eqGuard op t o1 o2 (.pointer (some ⟨b, o, none⟩)) (.pointer none)).run P w = .ok () w := by
      unfold eqGuard; split <;> rfl
    rw [Sem.run_bind, hg, Result.andThen_ok]
    cases ty <;> cases op <;> first
      | (simp [abin] at hx; done)
      | (simp only [abin, Option.some.injEq] at hx; subst hx
         obtain ⟨e, j, hu, hj⟩ := tyOf_ptr ht
         first | exact ⟨_, (run_ptr_nil hu _).1, .bool _⟩ | exact ⟨_, (run_ptr_nil hu _).2, .bool _⟩)
  case ptr.ptr l s o l' s' o' =>
    cases hp; cases hq
    rename_i b hb b' hb'
    simp only [abin] at hx
    split at hx
    · rename_i hh
      obtain ⟨rfl, rfl, rfl⟩ := hh
      rw [hb] at hb'
      cases hb'
      have hg : (eqGuard op t o1 o2 (.pointer (some ⟨b, o, none⟩)) (.pointer (some ⟨b, o, none⟩))).run P w = .ok () w := by
        unfold eqGuard; split <;> rfl
      rw [Sem.run_bind, hg, Result.andThen_ok]
      cases ty <;> cases op <;> first
        | (cases hx; done)
        | (simp only [Option.some.injEq] at hx; subst hx
           obtain ⟨e, j, hu, hj⟩ := tyOf_ptr ht
           first | exact ⟨_, run_eql_ptr_same w _ hu hj, .bool _⟩ | exact ⟨_, Lib.run_neq_ptr_same w _ hu hj, .bool _⟩)
    · cases hx

end

end Go.Proofs.Ytcmdlmcmefbkeaa.Am
