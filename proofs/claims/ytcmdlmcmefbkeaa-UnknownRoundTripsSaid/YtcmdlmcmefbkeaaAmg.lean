/- The operations that only reckon: the rest, and all of them. -/
import Derived.Test.YtcmdlmcmefbkeaaAmf
import Derived.Laws.StructEq
import Derived.Laws.IdiomStrings
namespace Go.Proofs.Ytcmdlmcmefbkeaa.Am
open Go

section
variable {P : Program} {G : Gh} {B N : Nat} {st : St} {a : Act} {w : World}

theorem tyOf_num {t : TypeId} (h : tyOf P t = .num) : ∃ k, P.underlying t = some (.int k) := by
  unfold tyOf at h
  split at h <;> first | (cases h; done) | (split at h <;> cases h; done) | exact ⟨_, by assumption⟩
theorem tyOf_str {t : TypeId} (h : tyOf P t = .str) : P.underlying t = some .string := by
  unfold tyOf at h
  split at h <;> first | (cases h; done) | (split at h <;> cases h; done) | assumption
theorem tyOf_bool {t : TypeId} (h : tyOf P t = .bool) : P.underlying t = some .bool := by
  unfold tyOf at h
  split at h <;> first | (cases h; done) | (split at h <;> cases h; done) | assumption

theorem run_isAgg_no {t : TypeId} {d : TypeDesc} (h : P.underlying t = some d) (hs : ∀ fs, d ≠ .struct fs) (ha : ∀ n e, d ≠ .array n e) : (isAgg t).run P w = .ok false w := by
  simp only [isAgg, Sem.run_bind, run_underlying h, Result.andThen_ok]
  cases d <;> first | rfl | (exact absurd rfl (hs _)) | (exact absurd rfl (ha _ _))

theorem run_isAgg_yes {t : TypeId} {d : TypeDesc} (h : P.underlying t = some d) (hs : (∃ fs, d = .struct fs) ∨ ∃ n e, d = .array n e) : (isAgg t).run P w = .ok true w := by
  simp only [isAgg, Sem.run_bind, run_underlying h, Result.andThen_ok]
  rcases hs with ⟨fs, rfl⟩ | ⟨n, e, rfl⟩ <;> rfl

theorem run_sizeOf {t : TypeId} {i : TypeInfo} (h : P.info? t = some i) : (sizeOf t).run P w = .ok i.size w := by
  simp [sizeOf, typeInfo, h]

theorem shape_none {t : TypeId} (h : shapeOf P t = some none) : (isAgg t).run P w = .ok false w := by
  unfold shapeOf at h
  split at h
  · cases h
  · cases h
  · rename_i d i h1 h2 hd hi
    exact run_isAgg_no hd (fun fs e => h1 fs e) (fun n e' e => h2 n e' e)
  · cases h

theorem shape_some {t : TypeId} {k : Nat} (h : shapeOf P t = some (some k)) : (isAgg t).run P w = .ok true w ∧ (sizeOf t).run P w = .ok k w := by
  unfold shapeOf at h
  split at h
  · rename_i fs i hd hi
    cases h
    exact ⟨run_isAgg_yes hd (.inl ⟨fs, rfl⟩), run_sizeOf hi⟩
  · rename_i n e i hd hi
    cases h
    exact ⟨run_isAgg_yes hd (.inr ⟨n, e, rfl⟩), run_sizeOf hi⟩
  · cases h
  · cases h

/-- A part of a value's cells. -/
theorem part_ok {G : Gh} {l : List AV} {vs : List Value} (h : RepL G l vs) {o : Nat} {k : Option Nat} {x : AV} (hx : part l o k = some x) {t : TypeId} (ht : shapeOf P t = some k) :
    ∃ v, (Go.part t ⟨vs⟩ o).run P w = .ok v w ∧ Rep G x v := by
  cases k with
  | none =>
    obtain ⟨v, hv, r⟩ := h.at_ hx
    refine ⟨v, ?_, r⟩
    simp only [Go.part, Sem.run_bind, shape_none ht, Result.andThen_ok]
    simp [hv]
  | some k =>
    simp only [part] at hx
    split at hx
    · rename_i hk
      cases hx
      obtain ⟨h1, h2⟩ := shape_some (w := w) ht
      refine ⟨.agg ⟨(vs.drop o).take k⟩, ?_, .agg ((h.drop o).take k)⟩
      simp only [Go.part, Sem.run_bind, h1, Result.andThen_ok, if_true, h2, Sem.run_pure]
      simp [List.extract_eq_take_drop]
    · cases hx

theorem eq1_ok {ty : Ty} {x y : AV} {b : Bool} (h : eq1 ty x y = some b) {v u : Value} (hv : Rep G x v) (hu : Rep G y u) {t : TypeId} (ht : tyOf P t = ty) (d : Nat) : (Op.equalIn (d + 1) t v u).run P w = .ok b w := by
  unfold eq1 at h
  split at h
  · cases hv; cases hu
    split at h
    · rename_i hk; subst hk; cases h
      obtain ⟨k', hk'⟩ := tyOf_num ht
      exact run_equalIn_int w d t _ k' _ _ hk'
    · cases h
  · cases hv; cases hu; cases h
    exact run_equalIn_bool' w d t _ _ (tyOf_bool ht)
  · cases hv; cases hu; cases h
    rw [run_equalIn_string w d t _ _ (tyOf_str ht)]
    simp [ByteArray.toList_eq]
  · cases h

theorem ty_leaf {t : TypeId} {ty : Ty} (ht : tyOf P t = ty) (h : ty = .num ∨ ty = .bool ∨ ty = .str) : (isAgg t).run P w = .ok false w := by
  rcases h with rfl | rfl | rfl
  · obtain ⟨k, hk⟩ := tyOf_num ht
    exact run_isAgg_no hk (by simp) (by simp)
  · exact run_isAgg_no (tyOf_bool ht) (by simp) (by simp)
  · exact run_isAgg_no (tyOf_str ht) (by simp) (by simp)

theorem eq1_ty {ty : Ty} {x y : AV} {b : Bool} (h : eq1 ty x y = some b) : ty = .num ∨ ty = .bool ∨ ty = .str := by
  unfold eq1 at h
  split at h <;> simp at h ⊢

theorem eqFields_ok (d : Nat) (xs ys : Array Value) : ∀ (fs : List Field) (ks : List Ty) (o : Nat) (l r : List AV) (b : Bool), plainFields P o fs ks = true → RepL G l (xs.toList.drop o) → RepL G r (ys.toList.drop o) → eqL ks l r = some b →
    (Op.eqFields (d + 1) xs ys fs).run P w = .ok b w
  | [], ks, o, l, r, b, hp, hl, hr, he => by
      cases ks <;> simp [plainFields] at hp
      unfold eqL at he
      split at he
      · cases he; rfl
      · rename_i h; cases h
      · cases he
  | fl :: fs, ks, o, l, r, b, hp, hl, hr, he => by
      cases ks with
      | nil => simp [plainFields] at hp
      | cons k ks =>
        simp only [plainFields, Bool.and_eq_true, beq_iff_eq, bne_iff_ne] at hp
        obtain ⟨⟨⟨ho, hn⟩, hty⟩, hrest⟩ := hp
        cases l with
        | nil => simp [eqL] at he
        | cons x l =>
          cases r with
          | nil => simp [eqL] at he
          | cons y r =>
            simp only [eqL] at he
            split at he
            · rename_i b1 b2 e1 e2
              cases he
              cases hx : xs.toList.drop o with
              | nil => rw [hx] at hl; cases hl
              | cons v vs =>
                cases hy : ys.toList.drop o with
                | nil => rw [hy] at hr; cases hr
                | cons u us =>
                  rw [hx] at hl
                  rw [hy] at hr
                  cases hl with
                  | cons hv hl =>
                    cases hr with
                    | cons hu hr =>
                      have hvx : xs[o]? = some v := by rw [← Array.getElem?_toList, ← List.head?_drop, hx]; rfl
                      have huy : ys[o]? = some u := by rw [← Array.getElem?_toList, ← List.head?_drop, hy]; rfl
                      have hvs : xs.toList.drop (o + 1) = vs := by rw [← List.drop_drop, hx]; rfl
                      have hus : ys.toList.drop (o + 1) = us := by rw [← List.drop_drop, hy]; rfl
                      have hag := ty_leaf (P := P) (w := w) hty (eq1_ty e1)
                      have hq := eq1_ok (P := P) (w := w) e1 hv hu hty d
                      have ih := eqFields_ok d xs ys fs ks (o + 1) l r b2 hrest (by rw [hvs]; exact hl) (by rw [hus]; exact hr) e2
                      simp only [Op.eqFields, if_pos hn, Sem.run_bind, Go.part, hag, Result.andThen_ok, ho, hvx, huy, Bool.false_eq_true, if_false, Sem.run_pure, hq]
                      cases b1 with
                      | false => simp
                      | true => simpa using ih
            · cases he

theorem aun_ok {op : UnOp} {p x : AV} (hx : aun op p = some x) {v : Value} (hp : Rep G p v) : ∃ r, (Op.unary op v).run P w = .ok r w ∧ Rep G x r := by
  unfold aun at hx
  split at hx
  · cases hp; cases hx; exact ⟨_, by simp [Op.unary, Op.intArith] <;> rfl, .int _ _⟩
  · cases hp; cases hx; exact ⟨_, by simp [Op.unary] <;> rfl, .int _ _⟩
  · cases hp; cases hx; exact ⟨_, by simp [Op.unary] <;> rfl, .bool _⟩
  · cases hx

theorem foldl_splice (off : Nat) : ∀ (us : List Value) (j : Nat) (cs : Array Value), off + j + us.length ≤ cs.size →
    ((us.zipIdx j).foldl (fun cs (c, j) => cs.setIfInBounds (off + j) c) cs).toList = cs.toList.take (off + j) ++ us ++ cs.toList.drop (off + j + us.length)
  | [], j, cs, h => by simp
  | u :: us, j, cs, h => by
    simp only [List.length_cons] at h
    have ih := foldl_splice off us (j + 1) (cs.setIfInBounds (off + j) u) (by simp; omega)
    simp only [List.zipIdx_cons, List.foldl_cons]
    rw [ih, Array.toList_setIfInBounds]
    have hlt : off + j < cs.toList.length := by simp; omega
    rw [show off + (j + 1) = off + j + 1 by omega, List.take_succ_eq_append_getElem (by simpa using hlt), List.drop_set_of_lt (by omega), List.take_set_of_le (Nat.le_refl _)]
    simp only [List.getElem_set_self, List.append_assoc, List.cons_append, List.nil_append, List.length_cons]
    congr 4
    omega

theorem fill_ok (h : Rel G B N st a w) {pl : List (Nat × Nat)} : ∀ {xs : List (Nat × Operand)} {rs : List (Nat × Nat × RA)} {z y : List AV} {cs : Array Value}, chkParts pl xs rs = true → RepL G z cs.toList → fill st.f rs z = some y →
    ∃ cs', Instr.fill (pl[·]?) cs (xs.map fun (i, x) => (i, a.eval x)) = some cs' ∧ RepL G y cs'.toList
  | [], [], z, y, cs, _, hz, hf => by cases hf; exact ⟨cs, rfl, hz⟩
  | (i, x) :: xs, (o, n, r) :: rs, z, y, cs, hc, hz, hf => by
    simp only [chkParts, Bool.and_eq_true, beq_iff_eq] at hc
    simp only [fill] at hf
    split at hf
    · rename_i hh
      obtain ⟨h1, h2, h3⟩ := hh
      have hr := (chkA_ok h hc.1.2).cells h3
      have hl := hr.length
      have hzl := hz.length
      simp only [Array.length_toList] at hl hzl
      have hfold := foldl_splice o (a.eval x).cells.toList 0 cs (by simp only [Array.length_toList]; omega)
      simp only [Nat.add_zero] at hfold
      have hsz : ((a.eval x).cells.zipIdx.foldl (fun cs (c, j) => cs.setIfInBounds (o + j) c) cs).toList = cs.toList.take o ++ (a.eval x).cells.toList ++ cs.toList.drop (o + (a.eval x).cells.toList.length) := by
        rw [← hfold, ← Array.foldl_toList, Array.toList_zipIdx]
      obtain ⟨cs', h4, h5⟩ := fill_ok h (cs := (a.eval x).cells.zipIdx.foldl (fun cs (c, j) => cs.setIfInBounds (o + j) c) cs) hc.2 (by rw [hsz]; exact hz.splice hr o) hf
      refine ⟨cs', ?_, h5⟩
      simp only [List.map_cons, Instr.fill, hc.1.1]
      rw [if_neg (by simp; omega)]
      exact h4
    · cases hf
  | [], _ :: _, _, _, _, hc, _, _ => by simp [chkParts] at hc
  | _ :: _, [], _, _, _, hc, _, _ => by simp [chkParts] at hc

theorem RepL.takeDrop {G : Gh} {l : List AV} {vs : List Value} (h : RepL G l vs) (o k : Nat) : RepL G ((l.drop o).take k) ((vs.drop o).take k) := (h.drop o).take k

theorem flat_cons (x : AV) (l : List AV) : flat (x :: l) = x.cells ++ flat l := rfl
theorem flat_append (l r : List AV) : flat (l ++ r) = flat l ++ flat r := by simp [flat]
theorem flat_take {sz : Nat} : ∀ {l : List AV} (_ : ∀ x ∈ l, x.cells.length = sz) (k : Nat), (flat l).take (k * sz) = flat (l.take k)
  | [], _, k => by simp [flat]
  | x :: l, h, k => by
    cases k with
    | zero => simp [flat]
    | succ k =>
      have hx := h x (List.mem_cons_self ..)
      rw [flat_cons, List.take_succ_cons, flat_cons, List.take_append, hx]
      rw [List.take_of_length_le (by rw [hx, Nat.add_mul]; omega), show (k + 1) * sz - sz = k * sz by rw [Nat.add_mul]; omega, flat_take (fun y hy => h y (List.mem_cons_of_mem _ hy))]
theorem flat_drop {sz : Nat} : ∀ {l : List AV} (_ : ∀ x ∈ l, x.cells.length = sz) (k : Nat), (flat l).drop (k * sz) = flat (l.drop k)
  | [], _, k => by simp [flat]
  | x :: l, h, k => by
    cases k with
    | zero => simp
    | succ k =>
      have hx := h x (List.mem_cons_self ..)
      rw [flat_cons, List.drop_succ_cons, List.drop_append, hx]
      rw [List.drop_of_length_le (by rw [hx, Nat.add_mul]; omega), show (k + 1) * sz - sz = k * sz by rw [Nat.add_mul]; omega, flat_drop (fun y hy => h y (List.mem_cons_of_mem _ hy))]
      rfl
theorem flat_length {sz : Nat} : ∀ {l : List AV} (_ : ∀ x ∈ l, x.cells.length = sz), (flat l).length = l.length * sz
  | [], _ => by simp [flat]
  | x :: l, h => by
    rw [flat_cons, List.length_append, h x (List.mem_cons_self ..), flat_length (fun y hy => h y (List.mem_cons_of_mem _ hy)), List.length_cons, Nat.add_mul]
    omega
theorem aload_ok (h : Rel G B N st a w) {k : Option Nat} {p x : AV} (hx : aload st.m k p = some x) {v : Value} (hp : Rep G p v) {t : TypeId} (ht : shapeOf P t = some k) :
    ∃ r, (Instr.loadAt t v).run P w = .ok r w ∧ Rep G x r := by
  -- cells in a row at a known place
  have key : ∀ (b o : Nat) (vs : List Value) (y : List AV), RepL G y vs → (∀ j u, vs[j]? = some u → w.cell? ⟨b, o + j, none⟩ = some u) → part y 0 k = some x →
      ∃ r, (Instr.loadAt t (.pointer (some ⟨b, o, none⟩))).run P w = .ok r w ∧ Rep G x r := by
    intro b o vs y hy hcell hpart
    cases k with
    | none =>
      obtain ⟨u, hu, r⟩ := hy.at_ hpart
      refine ⟨u, ?_, r⟩
      have hc := hcell 0 u hu
      simp only [Instr.loadAt, Instr.sureAddr, Sem.run_bind, Sem.run_pure, Result.andThen_ok, loadVar, shape_none ht, Bool.false_eq_true, if_false, run_load]
      simp only [Nat.add_zero] at hc
      rw [hc]
    | some k =>
      simp only [part] at hpart
      split at hpart
      · rename_i hk
        cases hpart
        obtain ⟨h1, h2⟩ := shape_some (w := w) ht
        have hl := hy.length
        have hlen : (vs.take k).length = k := by simp; omega
        have hrun := run_loadCells_list (P := P) w ⟨b, o, none⟩ (vs.take k) (fun j u hu => by
          rw [add_plain]
          refine hcell j u ?_
          rw [List.getElem?_take] at hu
          split at hu
          · exact hu
          · cases hu)
        rw [hlen] at hrun
        refine ⟨.agg ⟨vs.take k⟩, ?_, ?_⟩
        · simp only [Instr.loadAt, Instr.sureAddr, Sem.run_bind, Sem.run_pure, Result.andThen_ok, loadVar, h1, if_true, h2, hrun]
        · have := hy.take k
          simpa using Rep.agg this
      · cases hpart
  cases p with
  | ptr l s o =>
    cases hp with
    | ptr hb =>
      rename_i b
      simp only [aload] at hx
      split at hx
      · rename_i xs hlk
        obtain ⟨b', cs, hb', hsoft, hr⟩ := h.mr.cells l s xs hlk
        rw [hb] at hb'
        cases hb'
        have hr' := hr.shNL l
        refine key b o (cs.toList.drop o) ((AV.shNL l xs).drop o) (hr'.drop o) (fun j u hu => ?_) ?_
        · rw [hsoft.cell, ← hu]
          simp
        · cases k with
          | none =>
            simp only at hx
            split at hx
            · rename_i y hy
              cases hx
              have : ∀ (n : Nat) (xs : List AV) (i : Nat) (y : AV), xs[i]? = some y → (AV.shNL n xs)[i]? = some (y.shN n) := by
                intro n
                induction n with
                | zero => intro xs i y h; exact h
                | succ n ih =>
                  intro xs i y h
                  have h' := ih xs i y h
                  have aux : ∀ (l : List AV) (i : Nat) (y : AV), l[i]? = some y → (AV.shL l)[i]? = some y.sh := by
                    intro l
                    induction l with
                    | nil => intro i y h; simp at h
                    | cons z l ih =>
                      intro i y h
                      cases i with
                      | zero => simp at h; subst h; rfl
                      | succ i => simp at h; simpa [AV.shL] using ih i y h
                  exact aux _ _ _ h'
              simp only [part, List.getElem?_drop, Nat.add_zero]
              exact this l xs o y hy
            · cases hx
          | some k =>
            simp only at hx
            split at hx
            · rename_i hk
              cases hx
              have hlen : ∀ (n : Nat) (xs : List AV), (AV.shNL n xs).length = xs.length := by
                intro n
                induction n with
                | zero => intro xs; rfl
                | succ n ih =>
                  intro xs
                  have aux : ∀ l : List AV, (AV.shL l).length = l.length := by
                    intro l
                    induction l with
                    | nil => rfl
                    | cons z l ih => simp [AV.shL, ih]
                  rw [AV.shNL, aux, ih]
              have hmap : ∀ (n : Nat) (xs : List AV) (i j : Nat), ((AV.shNL n xs).drop i).take j = AV.shNL n ((xs.drop i).take j) := by
                intro n
                induction n with
                | zero => intro xs i j; rfl
                | succ n ih =>
                  intro xs i j
                  have aux : ∀ l : List AV, AV.shL l = l.map AV.sh := by
                    intro l
                    induction l with
                    | nil => rfl
                    | cons z l ih => simp [AV.shL, ih]
                  rw [AV.shNL, AV.shNL, ← ih, aux, aux, List.map_take, List.map_drop]
              simp only [part, List.length_drop, hlen, Nat.zero_add, List.drop_zero]
              rw [if_pos (by omega), hmap]
            · cases hx
      · cases hx
  | vptr l s g i o =>
    cases hp with
    | vptr hv hg hh =>
      simp only [aload] at hx
      split at hx
      · rename_i g' sz xs hlk
        split at hx
        · rename_i hgg
          split at hx
          · rename_i e he
            obtain ⟨e1, e2, e3, e4⟩ := h.mr.vec l s g' sz xs hlk
            obtain ⟨b, hb, rfl⟩ := hh (by rw [e1]; exact hgg)
            rcases e4 with ⟨e4, _⟩ | ⟨b', e4, hrow⟩
            · rw [hb] at e4; cases e4
            · rw [hb] at e4; cases e4
              obtain ⟨cur, hsoft, hcs, hrep⟩ := hrow.cur
              have hlt := (List.getElem?_eq_some_iff.1 he).1
              have hsz := e3.size e (List.mem_of_getElem? he)
              have hsub : ((flat xs).drop (i * sz)).take sz = e.cells := by
                have h1 := flat_drop e3.size i
                rw [h1]
                have h2 : xs.drop i = e :: xs.drop (i + 1) := by
                  rw [List.drop_eq_getElem_cons hlt]
                  congr 1
                  exact (List.getElem?_eq_some_iff.1 he).2
                rw [h2, flat_cons, List.take_append, hsz]
                simp [List.take_of_length_le (Nat.le_of_eq hsz)]
              have hre : RepL G e.cells (((cur.toList.take (xs.length * sz)).drop (i * sz)).take sz) := by
                rw [← hsub]; exact (hrep.drop _).take _
              rw [e2]
              refine key b (i * sz + o) _ _ (hre.drop o) (fun j u hu => ?_) ?_
              · rw [hsoft.cell]
                rw [List.getElem?_drop, List.getElem?_take] at hu
                split at hu
                · rw [List.getElem?_drop, List.getElem?_take] at hu
                  split at hu
                  · rw [Nat.add_assoc]; simpa using hu
                  · cases hu
                · cases hu
              · cases k with
                | none => simpa [part] using hx
                | some k =>
                  simp only [part] at hx ⊢
                  split at hx
                  · rename_i hk
                    cases hx
                    simp only [List.length_drop, List.drop_zero]
                    rw [if_pos (by omega)]
                  · cases hx
          · cases hx
        · cases hx
      · cases hx
  | rptr xs =>
    cases hp with
    | rptr hc hf hl hs =>
      exact key _ _ _ xs hc (fun j u hu => h.mr.stab _ _ _ (hs j u hu)) hx
  | _ => simp [aload] at hx

end

end Go.Proofs.Ytcmdlmcmefbkeaa.Am
