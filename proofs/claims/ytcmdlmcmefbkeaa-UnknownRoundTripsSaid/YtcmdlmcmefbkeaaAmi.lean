/- All the operations that only reckon, in one theorem. -/
import Derived.Test.YtcmdlmcmefbkeaaAmh
namespace Go.Proofs.Ytcmdlmcmefbkeaa.Am
open Go

section
variable {P : Program} {G : Gh} {B N : Nat} {st : St} {a : Act} {w : World}

theorem elemsOf_ok (h : Rel G B N st a w) {x : AV} {l : List AV} (hx : elemsOf st.m x = some l) {v : Value} (hv : Rep G x v) :
    ∃ A c, v = .slice A l.length c ∧ ∃ sz cs, RepL G (flat l) cs ∧ Elems sz l ∧ ∀ j u, cs[j]? = some u → ∃ b o, A = some ⟨b, o, none⟩ ∧ w.cell? ⟨b, o + j, none⟩ = some u := by
  cases x with
  | nils =>
    simp only [elemsOf, Option.some.injEq] at hx
    subst hx
    cases hv
    exact ⟨none, 0, rfl, 0, [], .nil, ⟨by simp, rfl, rfl⟩, by simp⟩
  | list l' =>
    simp only [elemsOf, Option.some.injEq] at hx
    subst hx
    cases hv with
    | list hc hz hf hl hs hn hcap hm =>
      subst hn
      exact ⟨_, _, rfl, _, _, hc, ⟨hz, hf, hl⟩, fun j u hu => by
        obtain ⟨b, o, e, hst⟩ := hs j u hu
        exact ⟨b, o, e, h.mr.stab _ _ _ hst⟩⟩
  | vec lv s g o k q =>
    simp only [elemsOf] at hx
    split at hx
    · rename_i g' z xs hlk
      split at hx
      · rename_i hh
        cases hx
        obtain ⟨e1, e2, e3, e4⟩ := h.mr.vec lv s g' z xs hlk
        have hlen : ((xs.drop o).take k).length = k := by simp; omega
        rw [hlen]
        have hmem : ∀ x ∈ (xs.drop o).take k, x ∈ xs := fun x hx => List.mem_of_mem_drop (List.mem_of_mem_take hx)
        have hel : Elems z ((xs.drop o).take k) := ⟨fun x hx => e3.size x (hmem x hx), rfL_sub e3.rf (flat_mem hmem), leaf_sub e3.leaf (flat_mem hmem)⟩
        cases hv with
        | vec hone hg hh' =>
          rcases hh' (by rw [e1]; exact hh.1) with ⟨hvm, rfl, rfl, rfl⟩ | ⟨b, A, c, hvm, hok, rfl, hkc, hcm, hq, hA⟩
          · exact ⟨none, 0, rfl, z, [], by simp; exact .nil, hel, by simp⟩
          · rcases e4 with ⟨e, _⟩ | ⟨b', e, hrow⟩
            · rw [hvm] at e; cases e
            · rw [hvm] at e; cases e
              obtain ⟨cur, hsoft, hcs, hrep⟩ := hrow.cur
              have hr := hrep.takeDrop (o * z) (k * z)
              rw [flat_drop e3.size, flat_take (fun x hx => e3.size x (List.mem_of_mem_drop hx))] at hr
              refine ⟨some A, c, rfl, z, _, hr, hel, fun j u hu => ?_⟩
              rw [List.getElem?_take] at hu
              split at hu
              · rename_i hj
                rw [List.getElem?_drop, List.getElem?_take] at hu
                split at hu
                · have hk : 0 < k := by
                    rcases Nat.eq_zero_or_pos k with h0 | h0
                    · subst h0; simp at hj
                    · exact h0
                  have hA' := hA ⟨by have := hrow.le; omega, .inr hk⟩
                  rw [e2] at hA'
                  refine ⟨b, o * z, by rw [hA'], ?_⟩
                  rw [hsoft.cell]
                  simpa using hu
                · cases hu
              · cases hu
      · cases hx
    · cases hx
  | _ => simp [elemsOf] at hx

theorem bytesOf_ok : ∀ {l : List AV} {s : List UInt8} {vs : List Value}, bytesOf l = some s → RepL G l vs → ∃ ns : List Int, vs = ns.map (Value.int .u8) ∧ s = ns.map fun n => UInt8.ofNat n.toNat
  | [], s, vs, hb, hr => by
      cases hb; cases hr; exact ⟨[], rfl, rfl⟩
  | x :: l, s, vs, hb, hr => by
      unfold bytesOf at hb
      split at hb
      · rename_i h; cases h
      · rename_i n l' h
        cases h
        simp only [Option.map_eq_some_iff] at hb
        obtain ⟨s', hb, rfl⟩ := hb
        cases hr with
        | cons h t =>
          obtain ⟨ns, rfl, rfl⟩ := bytesOf_ok hb t
          cases h
          exact ⟨n :: ns, rfl, rfl⟩
      · cases hb

theorem bytesOf_flat {l : List AV} {s : List UInt8} (h : bytesOf l = some s) : flat l = l := by
  induction l generalizing s with
  | nil => rfl
  | cons x l ih =>
    unfold bytesOf at h
    split at h
    · rename_i e; cases e
    · rename_i n l' e
      cases e
      simp only [Option.map_eq_some_iff] at h
      obtain ⟨s', h, rfl⟩ := h
      rw [flat_cons, ih h]
      rfl
    · cases h

theorem b2s_ok (h : Rel G B N st a w) {x : AV} {l : List AV} (hx : elemsOf st.m x = some l) {s : List UInt8} (hs : bytesOf l = some s) {v : Value} (hv : Rep G x v) : (Conv.bytesToString v).run P w = .ok (.string ⟨⟨s⟩⟩) w := by
  obtain ⟨A, c, rfl, sz, cs, hr, hel, hcell⟩ := elemsOf_ok h hx hv
  rw [bytesOf_flat hs] at hr
  obtain ⟨ns, rfl, rfl⟩ := bytesOf_ok hs hr
  have hlen := hr.length
  simp only [List.length_map] at hlen
  cases ns with
  | nil =>
    simp only [List.length_nil] at hlen
    rw [← hlen]
    cases A <;> rfl
  | cons n ns =>
    obtain ⟨b, o, rfl, _⟩ := hcell 0 _ rfl
    have hl := run_loadCells_list (P := P) w ⟨b, o, none⟩ ((n :: ns).map (Value.int .u8)) (fun j u hu => by
      obtain ⟨b', o', e, hc⟩ := hcell j u hu
      cases e
      rw [add_plain]
      exact hc)
    simp only [List.length_map] at hl
    rw [← hlen, run_bytesToString w _ _ c (n :: ns) hl]
    congr 2
    have aux : ∀ (l : List Int) (r : List UInt8), l.foldl (fun r n => r.push (UInt8.ofNat n.toNat)) (⟨⟨r⟩⟩ : ByteArray) = ⟨⟨r ++ l.map fun n => UInt8.ofNat n.toNat⟩⟩ := by
      intro l
      induction l with
      | nil => intro r; simp
      | cons k l ih =>
        intro r
        have e : (⟨⟨r⟩⟩ : ByteArray).push (UInt8.ofNat k.toNat) = ⟨⟨r ++ [UInt8.ofNat k.toNat]⟩⟩ := by
          simp [ByteArray.push]
        rw [List.foldl_cons, e, ih]
        simp
    exact aux (n :: ns) []

/-- What is indexed: a slice, or an array of so many elements, of so many cells each. -/
def IaTy (P : Program) (t : TypeId) (sz : Nat) : Option Nat → Prop
  | none => ∃ e j, P.underlying t = some (.slice e) ∧ P.info? e = some j ∧ j.size = sz
  | some n => ∃ e j, P.underlying t = some (.array n e) ∧ P.info? e = some j ∧ j.size = sz

theorem aiaddr_ok (h : Rel G B N st a w) {sz : Nat} (hsz0 : sz ≠ 0) {len : Option Nat} {x : AV} {i : Int} {y : AV} (hx : aiaddr st.m sz len x i = some y) {v : Value} (hv : Rep G x v) {t : TypeId} {k : IntKind}
    (ht : IaTy P t sz len) :
    ∃ r, (Instr.indexAt t v (.int k i)).run P w = .ok r w ∧ Rep G y r := by
  unfold aiaddr at hx
  split at hx
  case isFalse => cases hx
  rename_i h0
  cases len with
  | none =>
    obtain ⟨ety, j, hu, hi, hj⟩ := ht
    have runS : ∀ (b o n c : Nat), v = .slice (some ⟨b, o, none⟩) n c → i.toNat < n → (Instr.indexAt t v (.int k i)).run P w = .ok (.pointer (some ⟨b, o + i.toNat * sz, none⟩)) w := by
      intro b o n c hv' hlt
      subst hv'
      simp only [Instr.indexAt, asIntOf, Sem.run_bind, Sem.run_pure, Result.andThen_ok, run_underlying hu]
      rw [if_pos (by omega)]
      simp only [Sem.run_bind, run_sizeOf hi, Result.andThen_ok, add_plain, Sem.run_pure, hj]
    simp only at hx
    cases x with
    | list l =>
      simp only at hx
      split at hx
      · rename_i e he
        split at hx
        · rename_i hsz
          cases hx
          cases hv with
          | list hc hz hf hl hst hn hcap hmax =>
            rename_i cs A n cap sz'
            have hlt := (List.getElem?_eq_some_iff.1 he).1
            have hmem := List.mem_of_getElem? he
            have hsz' := hz e hmem
            have hesz : sz' = sz := by rw [← hsz', hsz]
            subst hesz
            have hsub : ((flat l).drop (i.toNat * sz')).take sz' = e.cells := by
              have h1 := flat_drop hz i.toNat
              rw [h1]
              have h2 : l.drop i.toNat = e :: l.drop (i.toNat + 1) := by
                rw [List.drop_eq_getElem_cons hlt]
                congr 1
                exact (List.getElem?_eq_some_iff.1 he).2
              rw [h2, flat_cons, List.take_append, hsz']
              simp [List.take_of_length_le (Nat.le_of_eq hsz')]
            have hrc : RepL G e.cells ((cs.drop (i.toNat * sz')).take sz') := by
              rw [← hsub]; exact hc.takeDrop _ _
            have hmf : ∀ x ∈ e.cells, x ∈ flat l := fun x hx => List.mem_flatMap.2 ⟨e, hmem, hx⟩
            have hcl : 0 < ((cs.drop (i.toNat * sz')).take sz').length := by rw [hrc.length, hsz]; omega
            obtain ⟨u0, hu0⟩ : ∃ u, (cs.drop (i.toNat * sz'))[0]? = some u := by
              rw [List.length_take] at hcl
              exact ⟨_, List.getElem?_eq_getElem (by omega)⟩
            rw [List.getElem?_drop] at hu0
            obtain ⟨b, o, hA, _⟩ := hst _ u0 hu0
            refine ⟨_, runS b o n cap (by rw [hA]) (by omega), ?_⟩
            refine .rptr hrc (rfL_sub hf hmf) (leaf_sub hl hmf) (fun q u hq => ?_)
            rw [List.getElem?_take] at hq
            split at hq
            · rw [List.getElem?_drop] at hq
              obtain ⟨b', o', hA', hst'⟩ := hst _ u hq
              rw [hA] at hA'
              cases hA'
              rw [Nat.add_assoc]; exact hst'
            · cases hq
        · cases hx
      · cases hx
    | vec lv s g o n q =>
      simp only at hx
      split at hx
      · rename_i g' z xs hlk
        split at hx
        · rename_i hh
          obtain ⟨rfl, rfl, hlt⟩ := hh
          cases hx
          obtain ⟨e1, e2, e3, e4⟩ := h.mr.vec lv s g sz xs hlk
          cases hv with
          | vec hone hg hh' =>
            rcases hh' e1.symm with ⟨hvm, rfl, rfl, rfl⟩ | ⟨b, A, c, hvm, hok, rfl, hkc, hcm, hq, hA⟩
            · omega
            · have hovc : o < G.vc lv s := Nat.lt_of_lt_of_le (Nat.lt_of_le_of_lt (Nat.le_add_right o i.toNat) (Nat.add_lt_add_left hlt o)) hok
              have hA' := hA ⟨.inl hovc, .inr (Nat.lt_of_le_of_lt (Nat.zero_le _) hlt)⟩
              rw [e2] at hA'
              refine ⟨_, runS b (o * sz) n c (by rw [hA']) hlt, .vptr rfl (Nat.le_of_eq e1.symm) fun _ => ⟨b, hvm, ?_⟩⟩
              rw [e2, Nat.add_zero, Nat.add_mul]
        · cases hx
      · cases hx
    | _ => simp at hx
  | some n =>
    obtain ⟨ety, j, hu, hi, hj⟩ := ht
    have runA : ∀ (b o : Nat), v = .pointer (some ⟨b, o, none⟩) → i.toNat < n → (Instr.indexAt t v (.int k i)).run P w = .ok (.pointer (some ⟨b, o + i.toNat * sz, none⟩)) w := by
      intro b o hv' hlt
      subst hv'
      simp only [Instr.indexAt, asIntOf, Sem.run_bind, Sem.run_pure, Result.andThen_ok, run_underlying hu, Instr.sureAddr]
      rw [if_pos (by omega)]
      simp only [Sem.run_bind, run_sizeOf hi, Result.andThen_ok, add_plain, Sem.run_pure, hj]
    simp only at hx
    cases x with
    | ptr lv s o =>
      simp only at hx
      split at hx
      · rename_i hlt
        cases hx
        cases hv with
        | ptr hb => exact ⟨_, runA _ o rfl hlt, .ptr hb⟩
      · cases hx
    | rptr xs =>
      simp only at hx
      split at hx
      · rename_i hlt
        cases hx
        cases hv with
        | rptr hc hf hl hs =>
          exact ⟨_, runA _ _ rfl hlt, .rptr (hc.drop _) (rfL_sub hf fun x hx => List.mem_of_mem_drop hx) (leaf_sub hl fun x hx => List.mem_of_mem_drop hx) (fun q u hq => by
            rw [List.getElem?_drop] at hq
            rw [Nat.add_assoc]
            exact hs _ u hq)⟩
      · cases hx
    | _ => simp at hx

theorem run_val {o : Oper} {op : Op} (ho : o.op = op) {ρ : Operand → Value} {r : Sem Next} (hr : execOp ρ { o with op := op } = r) : execOp ρ o = r := by
  subst ho; exact hr

theorem gen_ok (h : Rel G B N st a w) {l s g : Nat} (hg : gen? st.m l s = some g) : g = G.vg l s := by
  unfold gen? at hg
  split at hg
  · rename_i g' z xs hlk
    cases hg
    exact (h.mr.vec l s g z xs hlk).1.symm
  · cases hg

/-- An operation that only reckons. -/
theorem vop_ok (h : Rel G B N st a w) {vo : VO} {x : AV} (hx : vop st.f st.m vo = some x) {o : Oper} (hc : chkV P o.op vo = true) : ∃ v, (execOp a.eval o).run P w = .ok (.value v) w ∧ Rep G x v := by
  obtain ⟨dst, op, ty, pos, after, guard⟩ := o
  simp only at hc
  cases vo with
  | mov r =>
    simp only [vop, Option.some.injEq] at hx
    subst hx
    cases op <;> simp only [chkV, Bool.false_eq_true] at hc <;> exact ⟨_, rfl, chkA_ok h hc⟩
  | pick c p q =>
    cases op <;> simp only [chkV, Bool.false_eq_true, Bool.and_eq_true] at hc
    rename_i oc op' oq
    obtain ⟨⟨h1, h2⟩, h3⟩ := hc
    have r1 := chkA_ok h h1
    simp only [vop] at hx
    split at hx
    · rename_i b e
      cases hx
      rw [e] at r1
      have hv : a.eval oc = .bool b := by
        revert r1
        generalize a.eval oc = v
        intro r1
        cases r1
        rfl
      refine ⟨if b then a.eval op' else a.eval oq, by simp [execOp, hv, asBool], ?_⟩
      cases b
      · exact chkA_ok h h3
      · exact chkA_ok h h2
    · cases hx
  | build z ps =>
    cases op <;> simp only [chkV, Bool.false_eq_true] at hc
    rename_i t parts
    split at hc
    · rename_i fs i hu hi
      split at hc
      · rename_i zv pl hz hpl
        simp only [Bool.and_eq_true] at hc
        simp only [vop, Option.map_eq_some_iff] at hx
        obtain ⟨y, hy, rfl⟩ := hx
        obtain ⟨cs, h1, h2⟩ := fill_ok h hc.2 (isCL_ok hc.1) hy
        refine ⟨.agg cs, ?_, .agg h2⟩
        have hpl' : (fs.mapM fun f => (do pure (f.offset, ← sizeOf f.type) : Sem (Nat × Nat))).run P w = .ok pl.toArray w := by
          unfold placesOf at hpl
          rw [Array.mapM_eq_mapM_toList]
          simp only [Sem.run_map]
          have aux : ∀ (l : List Field) (pl : List (Nat × Nat)), (l.mapM fun fl => (P.info? fl.type).map fun i => (fl.offset, i.size)) = some pl →
              (l.mapM fun f => (do pure (f.offset, ← sizeOf f.type) : Sem (Nat × Nat))).run P w = .ok pl w := by
            intro l
            induction l with
            | nil => intro pl e; simp at e; subst e; rfl
            | cons f l ih =>
              intro pl e
              simp only [List.mapM_cons, Option.bind_eq_bind, Option.bind_eq_some_iff, Option.map_eq_some_iff, Option.pure_def, Option.some.injEq] at e
              obtain ⟨p, ⟨i, hi, rfl⟩, pl', e, rfl⟩ := e
              simp only [List.mapM_cons, Sem.run_bind, run_sizeOf hi, Result.andThen_ok, Sem.run_pure, ih pl' e]
          rw [aux _ pl hpl]
          rfl
        simp only [execOp, Instr.build, zeroValue, typeInfo, Sem.run_bind, run_program, Result.andThen_ok, hi, Sem.run_pure, hz, run_underlying hu, hpl']
        have e : (fun (x : Nat) => (pl.toArray)[x]?) = (fun (x : Nat) => pl[x]?) := by funext x; simp
        have e2 : (parts.map fun (x : Nat × Operand) => (x.1, a.eval x.2)).toList = parts.toList.map fun x => (x.1, a.eval x.2) := by simp
        rw [e, e2, h1]
        rfl
      · cases hc
    · cases hc
  | load k r =>
    cases op <;> simp only [chkV, Bool.false_eq_true, Bool.and_eq_true, beq_iff_eq] at hc
    rename_i t y
    obtain ⟨v, h1, h2⟩ := aload_ok (P := P) h hx (chkA_ok h hc.2) hc.1
    exact ⟨v, by simp [execOp, h1], h2⟩
  | loadv l s k r =>
    have hx' : aload st.m k (r.ev st.f) = some x := by
      simp only [vop] at hx
      split at hx
      · rename_i e
        split at hx
        · rw [e]; exact hx
        · cases hx
      · cases hx
    cases op <;> simp only [chkV, Bool.false_eq_true, Bool.and_eq_true, beq_iff_eq] at hc
    rename_i t y
    obtain ⟨v, h1, h2⟩ := aload_ok (P := P) h hx' (chkA_ok h hc.2) hc.1
    exact ⟨v, by simp [execOp, h1], h2⟩
  | nilck r =>
    cases op <;> simp only [chkV, Bool.false_eq_true] at hc
    rename_i y
    have r1 := chkA_ok h hc
    simp only [vop] at hx
    split at hx
    · rename_i e; cases hx
      rw [e] at r1
      simp only [execOp]
      generalize a.eval y = v at r1 ⊢
      cases r1 with
      | ptr hb => exact ⟨_, rfl, .ptr hb⟩
    · rename_i e
      split at hx
      · rename_i hg
        cases hx
        rw [e] at r1
        simp only [execOp]
        generalize a.eval y = v at r1 ⊢
        cases r1 with
        | vptr h1 h2 h3 =>
          obtain ⟨b, hb, rfl⟩ := h3 (gen_ok h hg)
          exact ⟨_, rfl, .vptr h1 h2 fun _ => ⟨b, hb, rfl⟩⟩
      · cases hx
    · rename_i e; cases hx
      rw [e] at r1
      simp only [execOp]
      generalize a.eval y = v at r1 ⊢
      cases r1 with
      | rptr h1 h2 h3 h4 => exact ⟨_, rfl, .rptr h1 h2 h3 h4⟩
    · rename_i e; cases hx
      rw [e] at r1
      simp only [execOp]
      generalize a.eval y = v at r1 ⊢
      cases r1 with
      | fn h1 h2 => exact ⟨_, rfl, .fn h1 h2⟩
    · cases hx
  | bin ty o r s =>
    cases op <;> simp only [chkV, Bool.false_eq_true, Bool.and_eq_true, beq_iff_eq] at hc
    rename_i o' t y z yt
    obtain ⟨⟨⟨rfl, h1⟩, h2⟩, h3⟩ := hc
    obtain ⟨v, h4, h5⟩ := abin_ok (P := P) (w := w) hx (chkA_ok h h2) (chkA_ok h h3) h1 y z
    exact ⟨v, by simp only [execOp, Sem.run_bind] at h4 ⊢; rw [h4]; rfl, h5⟩
  | eqs neg ks r s =>
    cases op <;> simp only [chkV, Bool.false_eq_true, Bool.and_eq_true, beq_iff_eq, Bool.not_eq_true'] at hc
    rename_i o' t y z yt
    obtain ⟨⟨⟨⟨⟨ho, h1⟩, hst⟩, hge⟩, h2⟩, h3⟩ := hc
    simp only [vop] at hx
    split at hx
    · rename_i l1 l2 e1 e2
      split at hx
      · rename_i b hb
        cases hx
        have r1 := chkA_ok h h2
        have r2 := chkA_ok h h3
        rw [e1] at r1
        rw [e2] at r2
        simp only [execOp]
        generalize a.eval y = v at r1 ⊢
        generalize a.eval z = u at r2 ⊢
        cases r1 with
        | agg r1 =>
          cases r2 with
          | agg r2 =>
            rename_i vs us
            split at h1
            · rename_i fs hu
              have hf : P.fieldsOf t = fs := by simp [Program.fieldsOf, hu]
              have heq := run_equalIn_struct (P := P) w 9999 t ⟨vs⟩ ⟨us⟩ (by rw [hf]; exact hu) hst
              rw [hf, eqFields_ok (P := P) (w := w) 9998 ⟨vs⟩ ⟨us⟩ fs.toList ks 0 l1 l2 b h1 (by simpa using r1) (by simpa using r2) hb] at heq
              simp only [Sem.run_bind, run_eqGuard_agg w o' t y z ⟨vs⟩ ⟨us⟩ hge, Result.andThen_ok]
              cases neg with
              | false =>
                simp only [Bool.false_eq_true, if_false] at ho
                subst ho
                exact ⟨_, by rw [run_eql_struct, heq]; rfl, .bool _⟩
              | true =>
                simp only [if_true] at ho
                subst ho
                exact ⟨_, by rw [run_neq_struct, heq]; rfl, .bool _⟩
            · cases h1
      · cases hx
    · cases hx
  | un o r =>
    cases op <;> simp only [chkV, Bool.false_eq_true, Bool.and_eq_true, beq_iff_eq] at hc
    obtain ⟨rfl, h1⟩ := hc
    obtain ⟨v, h4, h5⟩ := aun_ok (P := P) (w := w) hx (chkA_ok h h1)
    exact ⟨v, by simp [execOp, h4], h5⟩
  | cvi k r =>
    cases op <;> simp only [chkV, Bool.false_eq_true, Bool.and_eq_true] at hc
    rename_i src dst' y
    obtain ⟨⟨h1, h2⟩, h3⟩ := hc
    have r1 := chkA_ok h h3
    simp only [vop] at hx
    split at hx
    · rename_i k' n e
      cases hx
      rw [e] at r1
      have hd : P.underlying dst' = some (.int k) := by
        unfold isInt at h1
        split at h1
        · rename_i k'' hk; simp only [beq_iff_eq] at h1; subst h1; exact hk
        · cases h1
      obtain ⟨ds, hs⟩ := Option.isSome_iff_exists.1 h2
      simp only [execOp]
      generalize a.eval y = v at r1 ⊢
      cases r1
      refine ⟨.int k (k.wrap n), ?_, .int _ _⟩
      simp only [convert, Sem.run_bind, run_underlying hs, run_underlying hd, Result.andThen_ok, Conv.intToInt]
      rfl
    · cases hx
  | b2s r =>
    cases op <;> simp only [chkV, Bool.false_eq_true, Bool.and_eq_true] at hc
    rename_i src dst' y
    obtain ⟨⟨h1, h2⟩, h3⟩ := hc
    have r1 := chkA_ok h h3
    simp only [vop] at hx
    split at hx
    · rename_i l e
      simp only [Option.map_eq_some_iff] at hx
      obtain ⟨s, hs, rfl⟩ := hx
      split at h2
      · rename_i e' hsrc
        simp only [Bool.and_eq_true] at h2
        have he : P.underlying e' = some (.int .u8) := by
          have := h2.1
          unfold isInt at this
          split at this
          · rename_i k'' hk; simp only [beq_iff_eq] at this; subst this; exact hk
          · cases this
        obtain ⟨A, c, hv, _⟩ := elemsOf_ok h e r1
        have hrun := b2s_ok (P := P) h e hs r1
        simp only [execOp]
        rw [hv] at hrun ⊢
        refine ⟨.string ⟨⟨s⟩⟩, ?_, .str _⟩
        simp only [Sem.run_bind, run_convert_bytes_string w src dst' e' A _ c hsrc he (isStr_ok h1), hrun]
        rfl
      · cases h2
    · cases hx
  | slc sz r lo hi mx =>
    cases op <;> simp only [chkV, Bool.false_eq_true, Bool.and_eq_true, Bool.or_eq_true] at hc
    rename_i t y ol oh om
    obtain ⟨⟨⟨⟨⟨h1, h2⟩, h3⟩, h4⟩, h5⟩, h6⟩ := hc
    have r1 := chkA_ok h h2
    have ht : SlcTy P t sz := by
      cases sz with
      | none => exact isStr_ok h1
      | some z =>
        simp only at h1
        split at h1
        · rename_i e hu
          simp only [Option.any_eq_true] at h1
          obtain ⟨i, hi, hz⟩ := h1
          exact ⟨e, i, hu, hi, by simpa using hz⟩
        · cases h1
    simp only [vop] at hx
    split at hx
    · rename_i n b1 e1 e2
      split at hx
      · rename_i b2 e3
        cases mx with
        | none =>
          simp only at hx
          have hom : om = none := by cases om <;> simp [chkO] at h5 ⊢
          subst hom
          obtain ⟨v, h7, h8⟩ := aslice_ok (P := P) h e1 hx r1 ht (bnd_ok h h3 e2) (bnd_ok h h4 e3) (m := none) (show MxV none none from rfl) (fun e => by cases e)
          exact ⟨v, by simp only [execOp, Sem.run_bind, Option.map_none, h7]; rfl, h8⟩
        | some rm =>
          simp only at hx
          split at hx
          · rename_i c hcc
            have hsm : om.isSome = true := by cases om <;> simp [chkO] at h5 ⊢
            obtain ⟨v, h7, h8⟩ := aslice_ok (P := P) h e1 hx r1 ht (bnd_ok h h3 e2) (bnd_ok h h4 e3) (m := om.map a.eval) ⟨by simpa using hsm, bnd_ok h h5 hcc⟩ (fun _ => by
              rcases h6 with h6 | h6
              · cases om <;> simp at h6 hsm
              · simpa using h6)
            exact ⟨v, by simp only [execOp, Sem.run_bind, h7]; rfl, h8⟩
          · cases hx
      · cases hx
    · cases hx
  | faddr off r =>
    cases op <;> simp only [chkV, Bool.false_eq_true, Bool.and_eq_true] at hc
    rename_i t y k
    obtain ⟨h1, h2⟩ := hc
    have r1 := chkA_ok h h2
    split at h1
    · rename_i fs hu
      split at h1
      · rename_i fl hfl
        simp only [Bool.and_eq_true, beq_iff_eq, Option.any_eq_true, bne_iff_ne] at h1
        obtain ⟨hoff, i, hi, hne⟩ := h1
        have run : ∀ b o, a.eval y = .pointer (some ⟨b, o, none⟩) → (Instr.fieldAt t (a.eval y) k).run P w = .ok (.pointer (some ⟨b, o + off, none⟩)) w := by
          intro b o e
          rw [e]
          simp only [Instr.fieldAt, Sem.run_bind, run_underlying hu, Result.andThen_ok, hfl, Instr.sureAddr, Sem.run_pure, fieldPlace, run_sizeOf hi, if_neg hne, add_plain, hoff]
        simp only [execOp, Sem.run_bind]
        simp only [vop] at hx
        split at hx
        · rename_i e; cases hx
          rw [e] at r1
          generalize hv : a.eval y = v at r1 run ⊢
          cases r1 with
          | ptr hb => exact ⟨_, by rw [run _ _ rfl]; rfl, .ptr hb⟩
        · rename_i e
          split at hx
          · rename_i hg
            cases hx
            rw [e] at r1
            generalize hv : a.eval y = v at r1 run ⊢
            cases r1 with
            | vptr g1 g2 g3 =>
              obtain ⟨b, hb, rfl⟩ := g3 (gen_ok h hg)
              exact ⟨_, by rw [run _ _ rfl]; rfl, .vptr rfl g2 fun _ => ⟨b, hb, by rw [Nat.add_assoc]⟩⟩
          · cases hx
        · rename_i xs e; cases hx
          rw [e] at r1
          generalize hv : a.eval y = v at r1 run ⊢
          cases r1 with
          | rptr g1 g2 g3 g4 =>
            exact ⟨_, by rw [run _ _ rfl]; rfl, .rptr (g1.drop off) (rfL_sub g2 fun x hx => List.mem_of_mem_drop hx) (leaf_sub g3 fun x hx => List.mem_of_mem_drop hx) (fun q u hq => by
              rw [List.getElem?_drop] at hq
              rw [Nat.add_assoc]
              exact g4 _ u hq)⟩
        · cases hx
      · cases h1
    · cases h1
  | fld off k r =>
    cases op <;> simp only [chkV, Bool.false_eq_true, Bool.and_eq_true] at hc
    rename_i t y q
    obtain ⟨h1, h2⟩ := hc
    have r1 := chkA_ok h h2
    split at h1
    · rename_i fs hu
      split at h1
      · rename_i fl hfl
        simp only [Bool.and_eq_true, beq_iff_eq] at h1
        simp only [vop] at hx
        split at hx
        · rename_i l e
          rw [e] at r1
          simp only [execOp, Sem.run_bind]
          generalize a.eval y = v at r1 ⊢
          cases r1 with
          | agg r1 =>
            obtain ⟨v, h3, h4⟩ := part_ok (P := P) (w := w) r1 hx h1.2
            refine ⟨v, ?_, h4⟩
            simp only [Instr.field, Sem.run_bind, run_underlying hu, Result.andThen_ok, hfl, asAgg, Sem.run_pure, h1.1, h3]
        · cases hx
      · cases h1
    · cases h1
  | iaddr sz len r i =>
    cases op <;> simp only [chkV, Bool.false_eq_true, Bool.and_eq_true] at hc
    rename_i t y z
    obtain ⟨⟨h1, h2⟩, h3⟩ := hc
    have r1 := chkA_ok h h2
    have r2 := chkA_ok h h3
    have ht : sz ≠ 0 ∧ IaTy P t sz len := by
      cases hu : P.underlying t with
      | none => simp [hu] at h1
      | some d =>
        cases d with
        | slice e =>
          simp only [hu, Bool.and_eq_true, beq_iff_eq, Option.any_eq_true, bne_iff_ne] at h1
          obtain ⟨⟨rfl, j, hj, hz⟩, hne⟩ := h1
          exact ⟨hne, e, j, hu, hj, hz⟩
        | array n e =>
          simp only [hu, Bool.and_eq_true, beq_iff_eq, Option.any_eq_true, bne_iff_ne] at h1
          obtain ⟨⟨rfl, j, hj, hz⟩, hne⟩ := h1
          exact ⟨hne, e, j, hu, hj, hz⟩
        | _ => simp [hu] at h1
    simp only [vop] at hx
    split at hx
    · rename_i k n e
      rw [e] at r2
      simp only [execOp, Sem.run_bind]
      generalize a.eval z = u at r2 ⊢
      cases r2
      obtain ⟨v, h4, h5⟩ := aiaddr_ok (P := P) h ht.1 hx r1 (k := k) ht.2
      exact ⟨v, by rw [h4]; rfl, h5⟩
    · cases hx
  | idx r i =>
    cases op <;> simp only [chkV, Bool.false_eq_true, Bool.and_eq_true] at hc
    rename_i t y z
    obtain ⟨⟨h1, h2⟩, h3⟩ := hc
    have r1 := chkA_ok h h2
    have r2 := chkA_ok h h3
    simp only [vop] at hx
    split at hx
    · rename_i s k n e1 e2
      split at hx
      · rename_i h0
        split at hx
        · rename_i b hb
          cases hx
          rw [e1] at r1
          rw [e2] at r2
          simp only [execOp, Sem.run_bind]
          generalize a.eval y = v at r1 ⊢
          generalize a.eval z = u at r2 ⊢
          cases r1
          cases r2
          refine ⟨.int .u8 (b.toNat : Int), ?_, .int _ _⟩
          have hidx : (⟨⟨s⟩⟩ : ByteArray)[n.toNat]? = some b := by
            have hlt := (List.getElem?_eq_some_iff.1 hb).1
            rw [ByteArray.getElem?_lt' _ _ (by exact hlt)]
            rw [List.getElem?_eq_getElem hlt] at hb
            exact hb
          simp only [Instr.index, asIntOf, Sem.run_bind, Sem.run_pure, Result.andThen_ok, run_underlying (isStr_ok h1), if_pos h0, hidx]
        · cases hx
      · cases hx
    · cases hx
  | ext r i =>
    cases op <;> simp only [chkV, Bool.false_eq_true, Bool.and_eq_true, beq_iff_eq] at hc
    rename_i y k
    obtain ⟨rfl, h2⟩ := hc
    have r1 := chkA_ok h h2
    simp only [vop] at hx
    split at hx
    · rename_i l e
      rw [e] at r1
      simp only [execOp, Sem.run_bind]
      generalize a.eval y = v at r1 ⊢
      cases r1 with
      | tup r1 =>
        obtain ⟨v, h3, h4⟩ := r1.at_ hx
        exact ⟨v, by simp [Instr.extract, h3], h4⟩
    · cases hx
  | len k r =>
    cases op <;> simp only [chkV, Bool.false_eq_true] at hc
    rename_i cl
    split at hc
    · rename_i o1 y t o2
      cases o2
      simp only [Bool.and_eq_true] at hc
      obtain ⟨h1, h2⟩ := hc
      have r1 := chkA_ok h h2
      simp only [execOp, resolve, invoke, builtin, Sem.run_bind, Sem.run_pure, Result.andThen_ok, List.map_toArray, List.map_cons, List.map_nil, Builtin.len_, List.getElem?_toArray, List.getElem?_cons_zero]
      simp only [vop] at hx
      split at h1
      · rename_i hu
        simp only [beq_iff_eq] at h1
        subst h1
        simp only at hx
        split at hx
        · rename_i s e
          cases hx
          rw [e] at r1
          generalize a.eval y = v at r1 ⊢
          cases r1
          exact ⟨_, by simp only [run_underlying hu, Result.andThen_ok]; rfl, .int _ _⟩
        · cases hx
      · rename_i el hu
        simp only [beq_iff_eq] at h1
        subst h1
        simp only at hx
        split at hx
        · rename_i e
          cases hx
          rw [e] at r1
          generalize a.eval y = v at r1 ⊢
          cases r1
          exact ⟨_, by simp only [run_underlying hu, Result.andThen_ok]; rfl, .int _ _⟩
        · rename_i l e
          cases hx
          rw [e] at r1
          generalize a.eval y = v at r1 ⊢
          cases r1 with
          | list a1 a2 a3 a4 a5 a6 a7 a8 =>
            subst a6
            exact ⟨_, by simp only [run_underlying hu, Result.andThen_ok]; rfl, .int _ _⟩
        · rename_i l s g o n q e
          split at hx
          · rename_i hg
            cases hx
            rw [e] at r1
            generalize a.eval y = v at r1 ⊢
            cases r1 with
            | vec g1 g2 g3 =>
              rcases g3 (gen_ok h hg) with ⟨_, _, rfl, rfl⟩ | ⟨b, A, c, _, _, rfl, _⟩
              · exact ⟨_, by simp only [run_underlying hu, Result.andThen_ok]; rfl, .int _ _⟩
              · exact ⟨_, by simp only [run_underlying hu, Result.andThen_ok]; rfl, .int _ _⟩
          · cases hx
        · cases hx
      · rename_i ky el hu
        simp only [beq_iff_eq] at h1
        subst h1
        simp only at hx
        split at hx
        · rename_i e
          cases hx
          rw [e] at r1
          generalize a.eval y = v at r1 ⊢
          cases r1
          exact ⟨_, by simp only [run_underlying hu, Result.andThen_ok]; rfl, .int _ _⟩
        · cases hx
      · cases h1
    · cases hc
  | mnx mx r s =>
    cases op <;> simp only [chkV, Bool.false_eq_true] at hc
    rename_i cl
    split at hc
    · rename_i o1 b y z ts o2
      cases o2
      simp only [Bool.and_eq_true] at hc
      obtain ⟨⟨h1, h2⟩, h3⟩ := hc
      have r1 := chkA_ok h h2
      have r2 := chkA_ok h h3
      simp only [vop] at hx
      split at hx
      · rename_i k m k' n e1 e2
        split at hx
        · rename_i hk
          subst hk
          cases hx
          rw [e1] at r1
          rw [e2] at r2
          simp only [execOp, resolve, invoke, Sem.run_bind, Sem.run_pure, Result.andThen_ok, List.map_toArray, List.map_cons, List.map_nil]
          generalize a.eval y = v at r1 ⊢
          generalize a.eval z = u at r2 ⊢
          cases r1
          cases r2
          split at h1
          · subst h1
            exact ⟨_, rfl, .int _ _⟩
          · simp only [Bool.not_eq_true'] at h1
            subst h1
            exact ⟨_, rfl, .int _ _⟩
          · cases h1
        · cases hx
      · cases hx
    · cases hc
  | mkfn fn xs ys =>
    cases op <;> simp only [chkV, Bool.false_eq_true, Bool.and_eq_true, beq_iff_eq] at hc
    rename_i fn' p q
    obtain ⟨⟨rfl, h1⟩, h2⟩ := hc
    simp only [vop, Option.some.injEq] at hx
    subst hx
    have r1 := chkAs_ok h h1
    have r2 := chkAs_ok h h2
    refine ⟨.func _ ⟨p.toList.map a.eval⟩ ⟨q.toList.map a.eval⟩, ?_, .fn r1 r2⟩
    have e1 : Array.map a.eval p = ⟨p.toList.map a.eval⟩ := by apply Array.ext'; simp
    have e2 : Array.map a.eval q = ⟨q.toList.map a.eval⟩ := by apply Array.ext'; simp
    simp only [execOp, Instr.makeFunc, e1, e2]
    rfl
  | toU r =>
    cases op <;> simp only [chkV, Bool.false_eq_true, Bool.and_eq_true] at hc
    rename_i src dst y
    obtain ⟨⟨h1, h2⟩, h3⟩ := hc
    have r1 := chkA_ok h h3
    simp only [vop] at hx
    split at hx
    · rename_i l s o e
      split at hx
      · rename_i xs hlk
        split at hx
        · rename_i ho
          cases hx
          rw [e] at r1
          simp only [execOp]
          generalize a.eval y = v at r1 ⊢
          cases r1 with
          | ptr hb =>
            rename_i b
            split at h1
            · rename_i t hs
              split at h2
              · rename_i hd
                cases hi : P.info? t with
                | none => rw [hi] at h1; simp at h1
                | some j =>
                  rw [hi] at h1
                  obtain ⟨b', cs, e', ⟨ty', lo, hi', hheap, _, _⟩, hr⟩ := h.mr.cells l s xs hlk
                  rw [hb] at e'; cases e'
                  have hl := hr.length
                  have hsh : w.shape? b = some (ty', cs.size) := by unfold World.shape?; rw [hheap]
                  have hrun := Lib.run_to_unsafe (P := P) w ⟨b, o, none⟩ hs hd hi (by simpa using h1) hsh (by simp at hl; show o < cs.size; omega)
                  exact ⟨_, by rw [Sem.run_bind, hrun]; rfl, .ptr hb⟩
              · cases h2
            · cases h1
        · cases hx
      · cases hx
    · cases hx
  | ofU t n r =>
    cases op <;> simp only [chkV, Bool.false_eq_true, Bool.and_eq_true] at hc
    rename_i src dst y
    obtain ⟨⟨h1, h2⟩, h3⟩ := hc
    have r1 := chkA_ok h h3
    simp only [vop] at hx
    split at hx
    · rename_i l s o e
      split at hx
      · rename_i xs hlk
        split at hx
        · rename_i ho
          obtain ⟨rfl, rfl, rfl⟩ := ho
          cases hx
          rw [e] at r1
          simp only [execOp]
          generalize a.eval y = v at r1 ⊢
          cases r1 with
          | ptr hb =>
            rename_i b
            split at h1
            · rename_i hs
              split at h2
              · rename_i u hd
                simp only [Bool.and_eq_true, beq_iff_eq] at h2
                obtain ⟨⟨rfl, hi⟩, hlies⟩ := h2
                obtain ⟨j, hj⟩ := Option.isSome_iff_exists.1 hi
                obtain ⟨b', cs, e', ⟨ty', lo, hi', hheap, hty, _⟩, hr⟩ := h.mr.cells l (u + 2000) xs hlk
                rw [hb] at e'; cases e'
                have hl := hr.length
                have ht : ty' = u := tyOk_eq (s := u + 2000) hty (by simp [tyOk]) (by omega)
                subst ht
                have hsh : w.shape? b = some (ty', xs.length) := by unfold World.shape?; rw [hheap]; simp at hl; simp [hl]
                have hrun := Lib.run_from_unsafe (P := P) w ⟨b, 0, none⟩ hs hd hj hsh hlies
                exact ⟨_, by rw [Sem.run_bind, hrun]; rfl, .ptr hb⟩
              · cases h2
            · cases h1
        · cases hx
      · cases hx
    · cases hx
  | same r =>
    simp only [vop, Option.some.injEq] at hx
    subst hx
    cases op <;> simp only [chkV, Bool.false_eq_true] at hc
    rename_i cl
    split at hc <;> first | (cases hc; done) | skip
    rename_i o1 k y ts o2
    cases o2
    simp only [Bool.and_eq_true] at hc
    obtain ⟨h1, h2⟩ := hc
    split at h1
    · rename_i fn hf
      simp only [Bool.and_eq_true, beq_iff_eq] at h1
      obtain ⟨⟨hn, hb⟩, ho⟩ := h1
      refine ⟨_, ?_, chkA_ok h h2⟩
      have hnx : Extern.findNext fn = none := by
        have e1 : Extern.allNextRows.lookup "internal/abi.NoEscape" = none := by kernel_rfl
        have e2 : Extern.allNextRows.lookup fn.origin = none := by
          cases hh : Extern.allNextRows.lookup fn.origin with
          | none => rfl
          | some _ => rw [hh] at ho; cases ho
        simp [Extern.findNext, hn, e1, e2]
      have hfd : Extern.find fn = some Extern.AbiNoEscape.same := by
        have e1 : (Extern.allGenericRows.lookup "internal/abi.NoEscape").isNone = true := by kernel_rfl
        have e2 : (Extern.allTypedRows.lookup "internal/abi.NoEscape").isNone = true := by kernel_rfl
        have e3 : Extern.allRows.lookup "internal/abi.NoEscape" = some Extern.AbiNoEscape.same := by kernel_rfl
        rw [Option.isNone_iff_eq_none] at e1 e2
        simp [Extern.find, hn, e1, e2, e3]
      have hrun := run_callFunc_extern (P := P) (f := k) (fn := fn) hf (by rw [hn]; decide) hb hnx hfd #[a.eval y] w
      show (do let d ← resolve a.eval _ ty; invoke d.target d.args).run P w = _
      simp only [resolve, Deferred.ofValue, Act.eval, Sem.run_bind, Sem.run_pure, Result.andThen_ok, invoke, List.map_toArray, List.map_cons, List.map_nil, List.append_toArray, List.append_nil]
      exact hrun
    · cases h1


end

end Go.Proofs.Ytcmdlmcmefbkeaa.Am
