/- Rules: appends, slice literals, calls. -/
import Derived.Test.YtcmdlmcmefbkeaaAmm
namespace Go.Proofs.Ytcmdlmcmefbkeaa.Am
open Go

theorem AV.unNL_zero (l : List AV) : AV.unNL 0 l = some l := rfl

section
variable {P : Program} {N : Nat} {st : St} {Q : St → Prop}

/-- append to a row of ours. -/
theorem app_core {G : Gh} {B : Nat} {a : Act} {w : World} (hr : Rel G B N st a w) {t tx ty e : TypeId} {i : TypeInfo} {zv : Value} (hu : P.underlying t = some (.slice e)) (hi : P.info? e = some i) (hzv : i.zero = some zv) (hz : zv.cells.size = i.size)
    {l site g n : Nat} {xs ys : List AV} {v : Value} (rs : Rep G (.vec l site g 0 n false) v) (hlk : look st.m l site = .vec g i.size xs) (hn : n ≤ xs.length) (hte : tyOk site e = true)
    {y : Value} {cs : List Value} (hsrc : Src P i.size tx y ys.length cs w) (hrep : RepL G (flat ys) cs) (hel : Elems i.size ys) (hmax : n + ys.length ≤ maxLen) (hb : (n + ys.length) * i.bytes ≤ 140737488355328) :
    ∃ v' w' G', (Builtin.append_ #[t, tx] ty #[v, y]).run P w = .ok v' w' ∧ Rel G' B N { st with m := Am.put st.m l site (.vec (g + 1) i.size (xs.take n ++ ys)) } a w' ∧ Ext 1 G w G' w' ∧ Rep G' (.vec l site (g + 1) 0 (n + ys.length) false) v' := by
  obtain ⟨e1, e2, e3, e4⟩ := hr.mr.vec l site g i.size xs hlk
  have hels : Elems i.size (xs.take n ++ ys) := by
    refine ⟨fun u hu => ?_, ?_, ?_⟩
    · rcases List.mem_append.1 hu with hu | hu
      · exact e3.size u (List.mem_of_mem_take hu)
      · exact hel.size u hu
    · rw [flat_append, rfL_append, Bool.and_eq_true]
      exact ⟨rfL_sub e3.rf (flat_mem fun u hu => List.mem_of_mem_take hu), hel.rf⟩
    · rw [flat_append, List.all_append, Bool.and_eq_true]
      exact ⟨leaf_sub e3.leaf (flat_mem fun u hu => List.mem_of_mem_take hu), hel.leaf⟩
  have hlm : l < st.m.length := look_lt (by rw [hlk]; simp)
  have hro : rowOrNone (look st.m l site) = true := by rw [hlk]; rfl
  have hgl : G.vg l site < g + 1 := by omega
  have hlen : (xs.take n ++ ys).length = n + ys.length := by simp; omega
  -- what the slice value is
  have hv : (v = .slice none 0 0 ∧ n = 0 ∧ G.vm l site = none ∧ ([] : List Value) = []) ∨ ∃ b cur, v = .slice (some ⟨b, 0, none⟩) n (G.vc l site) ∧ G.vm l site = some b ∧ Soft site w b cur ∧ cur.size = G.vc l site * i.size ∧ n ≤ G.vc l site ∧ G.vc l site ≤ maxLen ∧ RepL G (flat (xs.take n)) (cur.toList.take (n * i.size)) := by
    cases rs with
    | vec hone' hg hh =>
      rcases hh e1.symm with ⟨hvm, _, rfl, rfl⟩ | ⟨b, A', c', hvm, hok, rfl, hkc, hcm, hq, hA⟩
      · exact .inl ⟨rfl, rfl, hvm, rfl⟩
      · right
        rcases e4 with ⟨e, _⟩ | ⟨b', e, hrow⟩
        · rw [hvm] at e; cases e
        · rw [hvm] at e; cases e
          obtain ⟨⟨cur, hsoft, hcsz, hrepx⟩, hle, hmx⟩ := hrow
          have hA' := hA ⟨.inr rfl, .inl rfl⟩
          have hc' := hq rfl
          simp only [Nat.zero_mul, Nat.sub_zero] at hA' hc'
          subst hA' hc'
          refine ⟨b, cur, rfl, hvm, hsoft, hcsz, hkc, hmx, ?_⟩
          have := hrepx.take (n * i.size)
          rw [flat_take e3.size, List.take_take, Nat.min_eq_left (Nat.mul_le_mul_right _ hn)] at this
          exact this
  have hrunv : ∃ vs : List Value, RepL G (flat (xs.take n)) vs ∧ vs.length = n * i.size ∧ ((v = .slice none 0 0 ∧ n = 0 ∧ vs = []) ∨ ∃ b cur, v = .slice (some ⟨b, 0, none⟩) n (G.vc l site) ∧ Soft site w b cur ∧ cur.size = G.vc l site * i.size ∧ n ≤ G.vc l site ∧ G.vc l site ≤ maxLen ∧ cur.toList.take (n * i.size) = vs) := by
    rcases hv with ⟨rfl, rfl, _⟩ | ⟨b, cur, rfl, hvm, h1, h2, h3, h4, h5⟩
    · exact ⟨[], by simp [flat]; exact .nil, by simp, .inl ⟨rfl, rfl, rfl⟩⟩
    · refine ⟨_, h5, ?_, .inr ⟨b, cur, rfl, h1, h2, h3, h4, rfl⟩⟩
      simp only [List.length_take, Array.length_toList, h2]
      exact Nat.min_eq_left (Nat.mul_le_mul_right _ h3)
  obtain ⟨vs, hvs, hvl, hvv⟩ := hrunv
  obtain ⟨v', w', hrun, hos, htp, hout, hsize, hkeep, hres⟩ := run_append_soft (P := P) (w := w) (ty := ty) hte hu hi hzv hz hvv hvl hsrc hmax hb
  have hvm_own : ∀ k, v.ownBlock = some k ↔ G.vm l site = some k := by
    intro k
    rcases hv with ⟨rfl, _, hvm, _⟩ | ⟨b, cur, rfl, hvm, _⟩
    · rw [hvm]; simp [Value.ownBlock]
    · rw [hvm]; simp [Value.ownBlock]
  have hkeep' : ∀ k, k < w.heap.size → some k ≠ G.vm l site → w'.heap[k]? = w.heap[k]? := fun k hk hne => hkeep k hk fun e => hne ((hvm_own k).1 e).symm
  rcases hres with ⟨rfl, hvv', hm0, rfl⟩ | ⟨b', cap', cur', rfl, hb', hsoft', hcs', hncap, hcm', htake⟩
  · have hn0 : n = 0 ∧ G.vm l site = none := by
      rcases hv with ⟨_, h1, h2, _⟩ | ⟨b, cur, e, _⟩
      · exact ⟨h1, h2⟩
      · rw [hvv'] at e; cases e
    have hys : ys = [] := List.eq_nil_of_length_eq_zero hm0
    obtain ⟨rfl, hvn⟩ := hn0
    subst hys
    obtain ⟨hr', he⟩ := hr.vecput (w' := w') (cap := 0) (b := none) hlm hro hgl rfl rfl rfl (Nat.le_refl _) (fun _ _ _ => rfl) (fun k e => by cases e) hels (.inl ⟨rfl, by simp⟩)
    exact ⟨_, _, _, hrun, hr', he, .vec rfl (Nat.le_of_eq (by simp [Gh.row])) fun _ => .inl ⟨by simp [Gh.row], rfl, by simp, rfl⟩⟩
  · obtain ⟨hr', he⟩ := hr.vecput (w' := w') (cap := cap') (b := some b') hlm hro hgl hos htp hout hsize hkeep' (fun k e => by cases e; exact hb'.imp (hvm_own b').1 id) hels (.inr ⟨b', rfl, ⟨cur', hsoft', hcs', by rw [hlen, htake, flat_append]; exact hvs.append hrep⟩, by rw [hlen]; exact hncap, hcm'⟩)
    exact ⟨_, _, _, hrun, hr', he, .vec rfl (Nat.le_of_eq (by simp [Gh.row])) fun _ => .inr ⟨b', ⟨b', 0, none⟩, cap', by simp [Gh.row], by simp [Gh.row]; exact hncap, rfl, hncap, hcm', fun _ => by simp [Gh.row], fun _ => by simp⟩⟩

theorem AOps.app {d : Option Nat} {sz bytes el : Nat} {s r : RA} {its : List Item} {l site g n : Nat} {xs ys : List AV} (hs : s.ev st.f = .vec l site g 0 n false) (hlk : look st.m l site = .vec g sz xs) (hte : tyOk site el = true) (hn : n ≤ xs.length)
    (hy : elemsOf st.m (r.ev st.f) = some ys) (hsz : ys.all (fun e => e.cells.length == sz) = true) (hmax : n + ys.length ≤ maxLen) (hb : (n + ys.length) * bytes ≤ 140737488355328)
    (h : AOps P N its { st with m := Am.put st.m l site (.vec (g + 1) sz (xs.take n ++ ys)), f := updO st.f d (.vec l site (g + 1) 0 (n + ys.length) false) } Q) : AOps P N (⟨d, .app sz bytes el s r, none⟩ :: its) st Q := by
  refine AOps.step rfl fun G B a w o hr hd hdN hc K QQ hK => ?_
  cases ho : o.op <;> rw [ho] at hc <;> simp only [chkRO, Bool.false_eq_true] at hc
  rename_i cl
  split at hc
  case h_2 => cases hc
  rename_i o1 x y t t' o2
  cases o2
  simp only [Bool.and_eq_true, beq_iff_eq] at hc
  obtain ⟨⟨⟨rfl, hty⟩, hcs⟩, hcr⟩ := hc
  cases hu : P.underlying t with
  | none => simp [hu] at hty
  | some dd =>
    cases dd with
    | slice e =>
      simp only [hu, Bool.and_eq_true, Option.any_eq_true, bne_iff_ne, beq_iff_eq] at hty
      obtain ⟨⟨⟨i, hi, ⟨rfl, rfl⟩, hz⟩, hsz0⟩, rfl⟩ := hty
      cases hzv : i.zero with
      | none => rw [hzv] at hz; cases hz
      | some zv =>
        rw [hzv] at hz
        simp only [beq_iff_eq] at hz
        have rs := chkA_ok hr hcs
        rw [hs] at rs
        obtain ⟨A, c, hyv, sz', cs, hrep, hel, hcell⟩ := elemsOf_ok hr hy (chkA_ok hr hcr)
        have hall : ∀ u ∈ ys, u.cells.length = i.size := fun u hu => by simpa using List.all_eq_true.1 hsz u hu
        have hel' : Elems i.size ys := ⟨hall, hel.rf, hel.leaf⟩
        have hcl : cs.length = ys.length * i.size := by rw [hrep.length, flat_length hall]
        have hone : ∀ u ∈ cs, u.oneCell' = true := hrep.leaves hel.leaf
        have hsrc : Src P i.size t (.slice A ys.length c) ys.length cs w := by
          cases cs with
          | nil =>
            have h0 : ys.length = 0 := by
              rcases Nat.mul_eq_zero.1 (by simpa using hcl.symm) with h0 | h0
              · exact h0
              · exact absurd h0 hsz0
            rw [h0]
            cases A with
            | none => exact Src.ofNil (w := w) hu c
            | some ad => exact Src.ofSlice (w := w) hu ad 0 c [] (by simp) (fun j u h => by cases h) (fun u h => by cases h)
          | cons u0 us =>
            obtain ⟨b, o', rfl, _⟩ := hcell 0 u0 rfl
            refine Src.ofSlice (w := w) hu ⟨b, o', none⟩ ys.length c (u0 :: us) hcl (fun j u hj => ?_) hone
            obtain ⟨b', o'', e, hcc⟩ := hcell j u hj
            cases e
            rw [add_plain]; exact hcc
        obtain ⟨v', w', G', hrun, hr', he, hv'⟩ := app_core (ty := o.type) hr hu hi hzv hz rs hlk hn hte hsrc hrep hel' hmax hb
        have hexec : (execOp a.eval o).run P w = .ok (.value v') w' := by
          simp only [execOp, ho, resolve, invoke, builtin, Sem.run_bind, Sem.run_pure, Result.andThen_ok, List.map_toArray, List.map_cons, List.map_nil, hyv, hrun]
        unfold Oper.wp
        rw [hexec]
        have hd' : o.dst = d := hd
        show K (a.put o.dst v') w'
        rw [hd']
        exact hK _ _ _ _ h (hr'.put hdN hv') he
    | _ => simp [hu] at hty

/-- The bytes of a text. -/
def bytesAV (s : List UInt8) : List AV := s.map fun b => .int .u8 (b.toNat : Int)

theorem bytesAV_rep {G : Gh} (s : List UInt8) : RepL G (bytesAV s) (s.map fun b => Value.int .u8 (b.toNat : Int)) := by
  induction s with
  | nil => exact .nil
  | cons b s ih => exact .cons (.int _ _) ih

theorem bytesAV_flat (s : List UInt8) : flat (bytesAV s) = bytesAV s := by
  induction s with
  | nil => rfl
  | cons b s ih => show [_] ++ flat (bytesAV s) = _; rw [ih]; rfl

theorem bytesAV_elems (s : List UInt8) : Elems 1 (bytesAV s) := by
  refine ⟨fun x hx => ?_, ?_, ?_⟩
  · obtain ⟨b, _, rfl⟩ := List.mem_map.1 hx; rfl
  · rw [bytesAV_flat]
    induction s with
    | nil => rfl
    | cons b s ih => exact ih
  · rw [bytesAV_flat]
    induction s with
    | nil => rfl
    | cons b s ih => exact ih

/-- append of a text's bytes. -/
theorem AOps.appS {d : Option Nat} {el : Nat} {s r : RA} {its : List Item} {l site g n : Nat} {xs : List AV} {t : List UInt8} (hs : s.ev st.f = .vec l site g 0 n false) (hlk : look st.m l site = .vec g 1 xs) (hte : tyOk site el = true) (hn : n ≤ xs.length)
    (hy : r.ev st.f = .str t) (hmax : n + t.length ≤ 140737488355328)
    (h : AOps P N its { st with m := Am.put st.m l site (.vec (g + 1) 1 (xs.take n ++ bytesAV t)), f := updO st.f d (.vec l site (g + 1) 0 (n + t.length) false) } Q) : AOps P N (⟨d, .appS el s r, none⟩ :: its) st Q := by
  refine AOps.step rfl fun G B a w o hr hd hdN hc K QQ hK => ?_
  cases ho : o.op <;> rw [ho] at hc <;> simp only [chkRO, Bool.false_eq_true] at hc
  rename_i cl
  split at hc
  case h_2 => cases hc
  rename_i o1 x y tt t' o2
  cases o2
  simp only [Bool.and_eq_true] at hc
  obtain ⟨⟨⟨hst, hty⟩, hcs⟩, hcr⟩ := hc
  cases hu : P.underlying tt with
  | none => simp [hu] at hty
  | some dd =>
    cases dd with
    | slice e =>
      simp only [hu, Bool.and_eq_true, Option.any_eq_true, beq_iff_eq] at hty
      obtain ⟨⟨i, hi, ⟨hi1, hi2⟩, hz⟩, rfl⟩ := hty
      cases hzv : i.zero with
      | none => rw [hzv] at hz; cases hz
      | some zv =>
        rw [hzv] at hz
        simp only [beq_iff_eq] at hz
        have rs := chkA_ok hr hcs
        rw [hs] at rs
        have rx := chkA_ok hr hcr
        rw [hy] at rx
        have hxv : a.eval y = .string ⟨⟨t⟩⟩ := by
          revert rx
          generalize a.eval y = v
          intro rx
          cases rx
          rfl
        have hlen : (bytesAV t).length = t.length := by simp [bytesAV]
        have hsrc : Src P i.size t' (.string ⟨⟨t⟩⟩) (bytesAV t).length (t.map fun b => Value.int .u8 (b.toNat : Int)) w := by
          rw [hi1, hlen]
          exact Src.ofString (w := w) (isStr_ok hst) ⟨⟨t⟩⟩
        rw [← hi1] at hlk
        obtain ⟨v', w', G', hrun, hr', he, hv'⟩ := app_core (ty := o.type) (ys := bytesAV t) hr hu hi hzv (hz.trans hi1.symm) rs hlk hn hte hsrc (by rw [bytesAV_flat]; exact bytesAV_rep t) (by rw [hi1]; exact bytesAV_elems t) (by rw [hlen]; simp only [maxLen]; omega) (by rw [hlen, hi2]; omega)
        have hexec : (execOp a.eval o).run P w = .ok (.value v') w' := by
          simp only [execOp, ho, resolve, invoke, builtin, Sem.run_bind, Sem.run_pure, Result.andThen_ok, List.map_toArray, List.map_cons, List.map_nil, hxv, hrun]
        unfold Oper.wp
        rw [hexec]
        have hd' : o.dst = d := hd
        show K (a.put o.dst v') w'
        rw [hd']
        rw [hi1] at hr'
        rw [hlen] at hv'
        exact hK _ _ _ _ h (hr'.put hdN hv') he
    | _ => simp [hu] at hty

/-- The same frame behind a callee that may have turned our objects. -/
theorem Rel.after {G G' : Gh} {B : Nat} {a : Act} {w w' : World} {m' : Mem} (h : Rel G B N st a w) (hm : MR G' m' w') (he : Ext 0 G w G' w') (hl : m'.length = st.m.length) : Rel G' B N { st with m := m' } a w' where
  mr := hm
  size := h.size
  slots i := (h.slots i).mono he.gle
  ds := h.ds.mono he.gle
  base s b e := by
    rcases e with e | e
    · rw [he.nm 0 s (Nat.le_refl _)] at e
      exact h.base s b (.inl e)
    · rcases he.mv 0 s b e with e | e
      · exact h.base s b (.inr e)
      · exact Nat.le_trans h.top e
  top := Nat.le_trans h.top he.size
  ne := by
    have := h.ne
    intro e
    have e' : m' = [] := e
    rw [e'] at hl
    exact this (List.eq_nil_of_length_eq_zero hl.symm)

theorem run_call {o : Oper} {x : Operand} {args : Array Operand} {ts : Array TypeId} {a : Act} {w : World} (ho : o.op = .call { callee := .value x, args := args, argTypes := ts }) {k : FuncId} {va vb : List Value} (hx : a.eval x = .func (.func k) ⟨va⟩ ⟨vb⟩) (hk : Callable P k) :
    (execOp a.eval o).run P w = .ok (.enter k ⟨va ++ args.toList.map a.eval ++ vb⟩) w := by
  obtain ⟨fn, hf, hn, hb⟩ := hk
  have e1 : args.map a.eval = ⟨args.toList.map a.eval⟩ := by apply Array.ext'; simp
  simp only [execOp, ho, resolve, hx, Deferred.ofValue, e1, Sem.run_bind, Sem.run_pure, Result.andThen_ok, invoke, callFunc, run_program, hf, hn, Bool.false_eq_true, if_false, hb]
  simp

/-- What a call of a value comes to. -/
theorem call_wp {G : Gh} {B : Nat} {a : Act} {w : World} {o : Oper} (hr : Rel G B N st a w) {f : RA} {args : List RA} {k : FuncId} {fa fb : List AV} (hf : f.ev st.f = .fn (.func k) fa fb) (hk : Callable P k) (hc : chkRO P o.op (.call f args) = true) {K : Act → World → Prop} {QQ : Exit → Act → World → Prop}
    (h : ∀ vs, RepL G (fa ++ args.map (RA.ev st.f) ++ fb) vs → Calls P k ⟨vs⟩ w fun e w' => ∃ v, e = .returned v ∧ K (a.put o.dst v) w') : o.wp P a w K QQ := by
  cases ho : o.op <;> rw [ho] at hc <;> simp only [chkRO, Bool.false_eq_true] at hc
  rename_i cl
  split at hc
  case h_2 => cases hc
  rename_i o1 x as ts o2
  cases o2
  simp only [Bool.and_eq_true] at hc
  have rf := chkA_ok hr hc.1
  rw [hf] at rf
  have ras := chkAs_ok hr hc.2
  obtain ⟨va, vb, hx, h1, h2⟩ : ∃ va vb, a.eval x = .func (.func k) ⟨va⟩ ⟨vb⟩ ∧ RepL G fa va ∧ RepL G fb vb := by
    generalize a.eval x = v at rf
    cases rf with
    | fn h1 h2 => exact ⟨_, _, rfl, h1, h2⟩
  have hrun := run_call (P := P) (w := w) ho hx hk
  unfold Oper.wp
  rw [hrun]
  show Calls P k _ w _
  exact (h _ ((h1.append ras).append h2)).mono fun e w' ⟨v, he, hK⟩ => by subst he; exact hK

/-- A call that is handed our objects. -/
theorem AOps.callFull {d : Option Nat} {f : RA} {args : List RA} {its : List Item} {k : FuncId} {fa fb : List AV} (hf : f.ev st.f = .fn (.func k) fa fb) {R : AV → Mem → Prop} (hk : ACalls P k (fa ++ args.map (RA.ev st.f) ++ fb) st.m R)
    (h : ∀ x m', R x m' → m'.length = st.m.length → AOps P N its { st with m := m', f := updO st.f d x } Q) : AOps P N (⟨d, .call f args, none⟩ :: its) st Q := by
  refine AOps.step rfl fun G B a w o hr hd hdN hc K QQ hK => ?_
  refine call_wp hr hf hk.1 hc fun vs hvs => (hk.2 G w vs hvs hr.mr).mono fun e w' ⟨G', x, v, m', he, hR, hv, hm, hx, hl⟩ => ⟨v, he, ?_⟩
  have hd' : o.dst = d := hd
  rw [hd']
  exact hK G' _ _ w' (h x m' hR hl) ((hr.after hm hx hl).put hdN hv) (hx.mono (Nat.zero_le _))

/-- No objects at all. -/
def Gh.bare (stab : Nat → Nat → Option Value) : Gh := ⟨stab, fun _ _ => none, fun _ _ => none, fun _ _ => 0, fun _ _ => 0, fun _ _ => 0⟩

theorem MR.bare {stab : Nat → Nat → Option Value} {w : World} (h : ∀ b o v, stab b o = some v → w.cell? ⟨b, o, none⟩ = some v) : MR (Gh.bare stab) [] w where
  stab := h
  cells l s xs e := by cases l <;> cases e
  nm l s b e := by cases e
  vec l s g sz xs e := by cases l <;> cases e
  vm l s b e := by cases e
  gone _ _ _ := rfl
  inj1 l s l' s' b e := by cases e
  inj2 l s l' s' b e := by cases e
  inj3 l s l' s' b e := by cases e

theorem Gh.bare_mine {stab : Nat → Nat → Option Value} {b : Nat} : ¬ (Gh.bare stab).mine b := by
  rintro (⟨l, s, e⟩ | ⟨l, s, e⟩) <;> cases e

/-- Another set of cells that stay. -/
def Gh.with (G : Gh) (stab : Nat → Nat → Option Value) : Gh := { G with stab := stab }

/-- Our objects behind a callee that had none of them. -/
theorem MR.kept {G : Gh} {m : Mem} {w w' : World} (h : MR G m w) {stab : Nat → Nat → Option Value} (hk : ∀ b, b < w.heap.size → w'.heap[b]? = w.heap[b]?) (hs : ∀ b o v, stab b o = some v → w'.cell? ⟨b, o, none⟩ = some v) (hg : ∀ b o v, G.stab b o = some v → stab b o = some v) (hm : ∀ b, G.mine b → ∀ o, stab b o = none) : MR (G.with stab) m w' where
  stab := hs
  cells l s xs e := by
    obtain ⟨b, cs, e', hc, hr⟩ := h.cells l s xs e
    exact ⟨b, cs, e', hc.of (hk b hc.lt), RepL.mono (G := G.dn l) (G' := (G.with stab).dn l) ⟨hg, fun _ _ _ h => h, fun _ _ => Nat.le_refl _, fun _ _ _ => ⟨rfl, rfl, rfl⟩⟩ hr⟩
  nm l s b e := ⟨(h.nm l s b e).1, hm b (.inl ⟨l, s, e⟩)⟩
  vec l s g sz xs e := by
    obtain ⟨a1, a2, a3, a4⟩ := h.vec l s g sz xs e
    exact ⟨a1, a2, a3, a4.imp id fun ⟨b, e', r⟩ => ⟨b, e', r.of (hk b (h.mine (.inr ⟨l, s, e'⟩)).1) fun vs hv => RepL.rfd (G := G) (G' := G.with stab) hg a3.rf hv⟩⟩
  vm l s b e := ⟨(h.vm l s b e).1, hm b (.inr ⟨l, s, e⟩)⟩
  gone := h.gone
  inj1 := h.inj1
  inj2 := h.inj2
  inj3 := h.inj3

theorem Ext.bare {G : Gh} {w w' : World} {stab' : Nat → Nat → Option Value} (hos : w'.os = w.os) (htape : w'.tape = w.tape) (hout : w'.output = w.output) (hsize : w.heap.size ≤ w'.heap.size) (hk : ∀ b, b < w.heap.size → w'.heap[b]? = w.heap[b]?) (hg : ∀ b o v, G.stab b o = some v → stab' b o = some v) (ho : ∀ b, b < w.heap.size → ∀ o, stab' b o = G.stab b o) : Ext 0 G w (G.with stab') w' :=
  ⟨hos, htape, hout, hsize, hg, fun _ _ _ => rfl, fun _ _ => Nat.le_refl _, fun _ _ _ => ⟨rfl, rfl, rfl⟩, fun b hb _ => ⟨hk b hb, ho b hb⟩, fun _ h => .inl h, fun _ _ _ h => .inl h⟩

mutual
/-- Holds no list. -/
def AV.nl : AV → Bool
  | .list _ | .rptr _ => false
  | .agg l | .tup l => AV.nlL l
  | .iface _ x => x.nl
  | .fn _ a b => AV.nlL a && AV.nlL b
  | _ => true
def AV.nlL : List AV → Bool
  | [] => true
  | x :: l => x.nl && AV.nlL l
end

mutual
theorem Rep.plain {G G' : Gh} : ∀ {x : AV} {v : Value}, x.nl = true → x.rf = true → Rep G x v → Rep G' x v
  | _, _, _, _, .top v => .top v
  | _, _, _, _, .int k n => .int k n
  | _, _, _, _, .bool b => .bool b
  | _, _, _, _, .str s => .str s
  | _, _, _, _, .nils => .nils
  | _, _, _, _, .nilp => .nilp
  | _, _, _, _, .nilf => .nilf
  | _, _, _, _, .nili => .nili
  | _, _, _, _, .nilm => .nilm
  | _, _, _, _, .anyp p => .anyp p
  | _, _, hn, _, .list hc hz hf hl hs hn' hcap hm => by cases hn
  | _, _, hn, hr, .agg h => .agg (RepL.plain hn hr h)
  | _, _, hn, hr, .tup h => .tup (RepL.plain hn hr h)
  | _, _, hn, hr, .iface h => .iface (Rep.plain hn hr h)
  | _, _, hn, hr, .fn ha hb => by
      have h1 := Bool.and_eq_true_iff.1 hn
      have h2 := Bool.and_eq_true_iff.1 hr
      exact .fn (RepL.plain h1.1 h2.1 ha) (RepL.plain h1.2 h2.2 hb)
  | _, _, _, hr, .ptr h => by cases hr
  | _, _, _, hr, .vec hv hl h => by cases hr
  | _, _, _, hr, .vptr hv hl h => by cases hr
  | _, _, _, hr, .rptr hc hf hl hs => by cases hr
theorem RepL.plain {G G' : Gh} : ∀ {x : List AV} {v : List Value}, AV.nlL x = true → AV.rfL x = true → RepL G x v → RepL G' x v
  | _, _, _, _, .nil => .nil
  | _, _, hn, hr, .cons h t => by
      have h1 := Bool.and_eq_true_iff.1 hn
      have h2 := Bool.and_eq_true_iff.1 hr
      exact .cons (Rep.plain h1.1 h2.1 h) (RepL.plain h1.2 h2.2 t)
end

/-- A contract of a function that is handed no object of ours. -/
def Fn? (P : Program) (k : FuncId) (args : List AV) (R : AV → Prop) : Prop := ACalls P k args [] fun x _ => R x

mutual
theorem still_rf {G : Gh} {own : Bool} {m : Mem} : ∀ {x : AV} {v : Value}, x.rf = true → Rep G x v → ∀ y, x.still own m = some y → Rep G y v
  | .top, v, _, hr, y, e => by cases e; exact .top v
  | .int _ _, _, _, hr, y, e => by cases e; exact hr
  | .bool _, _, _, hr, y, e => by cases e; exact hr
  | .str _, _, _, hr, y, e => by cases e; exact hr
  | .nilp, _, _, hr, y, e => by cases e; exact hr
  | .nilf, _, _, hr, y, e => by cases e; exact hr
  | .nili, _, _, hr, y, e => by cases e; exact hr
  | .nilm, _, _, hr, y, e => by cases e; exact hr
  | .anyp, _, _, hr, y, e => by cases e; exact hr
  | .list _, _, _, hr, y, e => by cases e; exact hr
  | .fn _ _ _, _, _, hr, y, e => by cases e; exact hr
  | .ptr _ _ _, _, hf, hr, y, e => by cases hf
  | .vptr _ _ _ _ _, _, hf, hr, y, e => by cases hf
  | .rptr _, _, hf, hr, y, e => by cases hf
  | .vec _ _ _ _ _ _, _, hf, hr, y, e => by cases hf
  | .nils, _, _, hr, y, e => by
      cases e; cases hr
      exact .list (sz := 0) (cs := []) .nil (by simp) rfl rfl (by simp) rfl (Nat.le_refl _) (Nat.zero_le _)
  | .agg l, _, hf, hr, y, e => by
      simp only [AV.still, Option.map_eq_some_iff] at e
      obtain ⟨l', e, rfl⟩ := e
      cases hr with
      | agg hr => exact .agg (stillL_rf hf hr l' e)
  | .tup l, _, hf, hr, y, e => by
      simp only [AV.still, Option.map_eq_some_iff] at e
      obtain ⟨l', e, rfl⟩ := e
      cases hr with
      | tup hr => exact .tup (stillL_rf hf hr l' e)
  | .iface t x, _, hf, hr, y, e => by
      simp only [AV.still, Option.map_eq_some_iff] at e
      obtain ⟨l', e, rfl⟩ := e
      cases hr with
      | iface hr => exact .iface (still_rf (x := x) hf hr l' e)
theorem stillL_rf {G : Gh} {own : Bool} {m : Mem} : ∀ {x : List AV} {v : List Value}, AV.rfL x = true → RepL G x v → ∀ y, AV.stillL own m x = some y → RepL G y v
  | [], _, _, hr, y, e => by cases e; cases hr; exact .nil
  | x :: l, _, hf, hr, y, e => by
      have h2 := Bool.and_eq_true_iff.1 hf
      simp only [AV.stillL] at e
      split at e
      · rename_i a b ea eb
        cases e
        cases hr with
        | cons hr ht => exact .cons (still_rf h2.1 hr a ea) (stillL_rf h2.2 ht b eb)
      · cases e
end

/-- A call that is handed no object of ours: nil slices and rows of ours go as lists; where a row of ours goes, no list comes back. -/
theorem AOps.callPure {d : Option Nat} {f : RA} {args : List RA} {its : List Item} {k : FuncId} {fa fb ys : List AV} (hf : f.ev st.f = .fn (.func k) fa fb) (hy : AV.stillL false st.m (fa ++ args.map (RA.ev st.f) ++ fb) = some ys) (hrf : AV.rfL ys = true)
    {R : AV → Prop} (hk : Fn? P k ys R) (hx : ∀ x, R x → x.rf = true ∧ (AV.rfL (fa ++ args.map (RA.ev st.f) ++ fb) = true ∨ x.nl = true)) (h : ∀ x, R x → AOps P N its { st with f := updO st.f d x } Q) : AOps P N (⟨d, .call f args, none⟩ :: its) st Q := by
  refine AOps.step rfl fun G B a w o hr hd hdN hc K QQ hK => ?_
  refine call_wp hr hf hk.1 hc fun vs hvs => ?_
  have hd' : o.dst = d := hd
  have hlt : ∀ b o v, G.stab b o = some v → b < w.heap.size := fun b o v e => World.block_lt_of_cell? w (a := ⟨b, o, none⟩) (hr.mr.stab b o v e)
  -- whatever cells stay for the callee
  have key : ∀ stab0 : Nat → Nat → Option Value, (∀ b o v, stab0 b o = some v → w.cell? ⟨b, o, none⟩ = some v) → RepL (Gh.bare stab0) ys vs → ((∀ b, b < w.heap.size → ∀ o, stab0 b o = G.stab b o) ∨ ∀ x, R x → x.nl = true) →
      Calls P k ⟨vs⟩ w fun e w' => ∃ v, e = .returned v ∧ K (a.put o.dst v) w' := by
    intro stab0 hstab hrep hor
    refine (hk.2 (Gh.bare stab0) w vs hrep (MR.bare hstab)).mono fun e w' ⟨G', x, v, m', he, hR, hv, hm, hx', hl⟩ => ⟨v, he, ?_⟩
    rw [hd']
    have hxr := (hx x hR).1
    have hold : ∀ b, b < w.heap.size → w'.heap[b]? = w.heap[b]? := fun b hb => (hx'.old b hb Gh.bare_mine).1
    let stab' : Nat → Nat → Option Value := fun b o => if b < w.heap.size then G.stab b o else G'.stab b o
    have hg : ∀ b o v, G.stab b o = some v → stab' b o = some v := fun b o v e => by
      show (if b < w.heap.size then G.stab b o else G'.stab b o) = some v
      rw [if_pos (hlt b o v e)]; exact e
    have hs' : ∀ b o v, stab' b o = some v → w'.cell? ⟨b, o, none⟩ = some v := fun b o v e => by
      simp only [stab'] at e
      split at e
      · rename_i hb
        rw [World.cell?_of_block (a := ⟨b, o, none⟩) (hold b hb)]
        exact hr.mr.stab b o v e
      · exact hm.stab b o v e
    have hmine : ∀ b, G.mine b → ∀ o, stab' b o = none := fun b hb o => by
      show (if b < w.heap.size then G.stab b o else G'.stab b o) = none
      rw [if_pos (hr.mr.mine hb).1]
      exact (hr.mr.mine hb).2 o
    have hmr := hr.mr.kept hold hs' hg hmine
    have hext : Ext 0 G w (G.with stab') w' := Ext.bare hx'.os hx'.tape hx'.output hx'.size hold hg (fun b hb o => if_pos hb)
    have hv' : Rep (G.with stab') x v := by
      rcases hor with hor | hor
      · refine hv.rfd (fun b o u e => ?_) hxr
        show (if b < w.heap.size then G.stab b o else G'.stab b o) = some u
        split
        · rename_i hb
          have h1 := (hx'.old b hb Gh.bare_mine).2 o
          rw [e] at h1
          rw [← hor b hb o]
          exact h1.symm
        · exact e
      · exact Rep.plain (hor x hR) hxr hv
    exact hK _ _ _ w' (h x hR) ((hr.after hmr hext rfl).put hdN hv') (hext.mono (Nat.zero_le _))
  by_cases hrfa : AV.rfL (fa ++ args.map (RA.ev st.f) ++ fb) = true
  · refine key G.stab hr.mr.stab ?_ (.inl fun _ _ _ => rfl)
    exact RepL.rfd (G := G) (G' := Gh.bare G.stab) (fun _ _ _ h => h) hrf (stillL_rf hrfa hvs ys hy)
  · let S : Nat → Prop := fun b => ∃ l s, G.vm l s = some b
    have hst := stillL_ok hr.mr (own := false) (S := S) (fun l s b _ e => ⟨l, s, e⟩) hvs ys hy
    refine key (G.pub w S).stab (fun b o v e => ?_) (RepL.rfd (G := G.pub w S) (G' := Gh.bare (G.pub w S).stab) (fun _ _ _ h => h) hrf hst) (.inr fun x hR => ((hx x hR).2.resolve_left hrfa))
    by_cases hS : S b
    · rw [Gh.pub_in hS] at e; exact e
    · rw [Gh.pub_out hS] at e; exact hr.mr.stab b o v e

end

end Go.Proofs.Ytcmdlmcmefbkeaa.Am
