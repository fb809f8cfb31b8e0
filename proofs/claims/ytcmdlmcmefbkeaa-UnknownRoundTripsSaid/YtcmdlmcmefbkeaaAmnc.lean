/- Rows that are made whole (make, bytes of a text), texts out of a builder's row, deferred calls. -/
import Derived.Test.YtcmdlmcmefbkeaaAmnb
import Derived.Laws.MakeOwn
import Derived.Lib.UnsafeStr
namespace Go.Proofs.Ytcmdlmcmefbkeaa.Am
open Go

/-- An element out of its zero cells. -/
def zeroE (sz : Nat) (z : List AV) : AV := if sz = 1 then z.headD .top else .agg z

theorem zeroE_cells {sz : Nat} {z : List AV} (hz : z.length = sz) (hl : z.all AV.leaf = true) : (zeroE sz z).cells = z := by
  unfold zeroE
  split
  · rename_i h
    subst h
    match z, hz with
    | [x], _ =>
      show x.cells = [x]
      exact AV.leaf_cells (by simpa using hl)
  · rfl

theorem flat_replicate {sz : Nat} {z : List AV} (hz : z.length = sz) (hl : z.all AV.leaf = true) : ∀ (n : Nat), flat (List.replicate n (zeroE sz z)) = (List.replicate n z).flatten
  | 0 => rfl
  | n + 1 => by
    rw [List.replicate_succ, flat_cons, zeroE_cells hz hl, flat_replicate hz hl n]
    rfl

theorem flatten_at {z : List AV} (hz : z.length ≠ 0) : ∀ (n j : Nat), j < n * z.length → (List.replicate n z).flatten[j]? = z[j % z.length]?
  | 0, j, h => by omega
  | n + 1, j, h => by
    rw [List.replicate_succ, List.flatten_cons]
    by_cases hj : j < z.length
    · rw [List.getElem?_append_left hj, Nat.mod_eq_of_lt hj]
    · rw [List.getElem?_append_right (by omega), flatten_at hz n (j - z.length) (by rw [Nat.succ_mul] at h; omega)]
      rw [← Nat.mod_eq_sub_mod (by omega)]

theorem mem_replicate_elems {sz : Nat} {z : List AV} (hz : z.length = sz) (hf : AV.rfL z = true) (hl : z.all AV.leaf = true) (n : Nat) : Elems sz (List.replicate n (zeroE sz z)) := by
  refine ⟨fun x hx => ?_, ?_, ?_⟩
  · rw [(List.mem_replicate.1 hx).2, zeroE_cells hz hl, hz]
  · rw [flat_replicate hz hl]
    rw [rfL_all] at hf ⊢
    rw [List.all_eq_true] at hf ⊢
    intro x hx
    obtain ⟨l, h1, h2⟩ := List.mem_flatten.1 hx
    rw [(List.mem_replicate.1 h1).2] at h2
    exact hf x h2
  · rw [flat_replicate hz hl]
    rw [List.all_eq_true] at hl ⊢
    intro x hx
    obtain ⟨l, h1, h2⟩ := List.mem_flatten.1 hx
    rw [(List.mem_replicate.1 h1).2] at h2
    exact hl x h2

section
variable {P : Program} {N : Nat} {st : St} {Q : St → Prop}

/-- make. -/
theorem AOps.mk {d : Option Nat} {site el sz bytes : Nat} {z : List AV} {l c : RA} {its : List Item} {kl kc : IntKind} {n m : Nat} (hl : l.ev st.f = .int kl (n : Int)) (hcv : c.ev st.f = .int kc (m : Int)) (hnm : n ≤ m) (hm : m ≤ 9223372036854775807) (hb : bytes * m ≤ 281474976710656)
    (hro : rowOrNone (look st.m 0 site) = true)
    (h : AOps P N its { st with m := Am.put st.m 0 site (.vec (newGen st.m 0 site) sz (List.replicate n (zeroE sz z))), f := updO st.f d (.vec 0 site (newGen st.m 0 site) 0 n false) } Q) : AOps P N (⟨d, .mk site el sz bytes z l c, none⟩ :: its) st Q := by
  refine AOps.step rfl fun G B a w o hr hd hdN hc K QQ hK => ?_
  cases ho : o.op <;> rw [ho] at hc <;> simp only [chkRO, Bool.false_eq_true] at hc
  rename_i t x y
  simp only [Bool.and_eq_true] at hc
  obtain ⟨⟨hty, hcl⟩, hcc⟩ := hc
  cases hu : P.underlying t with
  | none => simp [hu] at hty
  | some dd =>
    cases dd with
    | slice e =>
      simp only [hu, Bool.and_eq_true, Option.any_eq_true, bne_iff_ne, beq_iff_eq] at hty
      obtain ⟨⟨⟨⟨⟨⟨i, hi, ⟨rfl, rfl⟩, hz⟩, hsz0⟩, rfl⟩, hte⟩, hrf⟩, hlf⟩ := hty
      cases hzv : i.zero with
      | none => rw [hzv] at hz; cases hz
      | some zv =>
        rw [hzv] at hz
        simp only [Bool.and_eq_true, beq_iff_eq] at hz
        have rl := chkA_ok hr hcl
        have rc := chkA_ok hr hcc
        rw [hl] at rl
        rw [hcv] at rc
        have hxv : a.eval x = .int kl (n : Int) := by
          revert rl
          generalize a.eval x = v
          intro rl
          cases rl
          rfl
        have hyv : a.eval y = .int kc (m : Int) := by
          revert rc
          generalize a.eval y = v
          intro rc
          cases rc
          rfl
        have hbb : (i.bytes : Int) * (m : Int) ≤ 281474976710656 := by
          have h : ((i.bytes * m : Nat) : Int) ≤ 281474976710656 := by omega
          rwa [Int.natCast_mul] at h
        have hrun := run_make (P := P) w t e i zv hu hi hzv kl kc (n : Int) (m : Int) (by omega) (by omega) hbb (by omega)
        simp only [Int.toNat_natCast] at hrun
        have rz : RepL G z zv.cells.toList := isCL_ok hz.1
        have hzl : zv.cells.size = i.size := by
          have := rz.length
          simp only [Array.length_toList] at this
          omega
        have hsize : (madeCells zv.cells (m * i.size)).size = m * i.size := size_madeCells _ _
        have hrow : RowIs G site (w.alloc (.cells (madeCells zv.cells (m * i.size)) e)) w.heap.size m i.size (List.replicate n (zeroE i.size z)) := by
          refine ⟨⟨_, Soft.new w _ e hte, hsize, ?_⟩, by simpa using hnm, by simp only [maxLen]; omega⟩
          rw [flat_replicate hz.2 hlf, List.length_replicate]
          have hfl : ((List.replicate n z).flatten).length = n * i.size := by simp [hz.2]
          have hle : n * i.size ≤ m * i.size := Nat.mul_le_mul_right _ hnm
          refine RepL.of_all (by rw [hfl, List.length_take, Array.length_toList, hsize]; exact Nat.min_eq_left hle) fun j u v hju hjv => ?_
          have hj : j < n * i.size := by
            rw [← hfl]
            exact (List.getElem?_eq_some_iff.1 hju).1
          rw [flatten_at (by rw [hz.2]; exact hsz0) n j (by rw [hz.2]; exact hj), hz.2] at hju
          have hmod : j % i.size < i.size := Nat.mod_lt _ (by omega)
          obtain ⟨v', hv', hrep⟩ := rz.at_ hju
          rw [List.getElem?_take_of_lt hj] at hjv
          have : v = v' := by
            simp only [madeCells, Array.toList_map, Array.toList_range, List.getElem?_map] at hjv
            rw [List.getElem?_range (by omega)] at hjv
            simp only [Option.map_some, Option.some.injEq] at hjv
            rw [hzl] at hjv
            rw [Array.getElem?_toList] at hv'
            rw [Array.getElem!_eq_getD, Array.getD_eq_getD_getElem?, hv'] at hjv
            simp only [Option.getD_some] at hjv
            exact hjv.symm
          rw [this]; exact hrep
        have hgl := newGen_lt hr.mr hro
        have hl0 : 0 < st.m.length := List.length_pos_iff.2 hr.ne
        obtain ⟨hr', he⟩ := hr.vecput (w' := w.alloc (.cells (madeCells zv.cells (m * i.size)) e)) (cap := m) (b := some w.heap.size) hl0 hro hgl rfl rfl rfl (by simp) (fun k hk _ => RowKit.Below.heap_alloc w _ k hk) (fun k e => by cases e; exact .inr (Nat.le_refl _)) (mem_replicate_elems hz.2 hrf hlf n) (.inr ⟨_, rfl, hrow⟩)
        have hexec : (execOp a.eval o).run P w = .ok (.value (.slice (some ⟨w.heap.size, 0, none⟩) n m)) (w.alloc (.cells (madeCells zv.cells (m * i.size)) e)) := by
          simp only [execOp, ho, Sem.run_bind, hxv, hyv, hrun, Result.andThen_ok]
          rfl
        unfold Oper.wp
        rw [hexec]
        have hd' : o.dst = d := hd
        show K (a.put o.dst _) _
        rw [hd']
        refine hK _ _ _ _ h (hr'.put hdN (.vec rfl (Nat.le_of_eq (by simp [Gh.row])) fun _ => .inr ⟨w.heap.size, ⟨w.heap.size, 0, none⟩, m, by simp [Gh.row], by simp [Gh.row]; exact hnm, rfl, hnm, by simp only [maxLen]; omega, fun _ => by simp [Gh.row], fun _ => by simp⟩)) he
    | _ => simp [hu] at hty

/-- The bytes of a text, in a row of their own. -/
theorem AOps.s2b {d : Option Nat} {site el : Nat} {r : RA} {its : List Item} {s : List UInt8} (hs : r.ev st.f = .str s) (hm : s.length ≤ 9223372036854775807) (hro : rowOrNone (look st.m 0 site) = true)
    (h : AOps P N its { st with m := Am.put st.m 0 site (.vec (newGen st.m 0 site) 1 (bytesAV s)), f := updO st.f d (.vec 0 site (newGen st.m 0 site) 0 s.length false) } Q) : AOps P N (⟨d, .s2b site el r, none⟩ :: its) st Q := by
  refine AOps.step rfl fun G B a w o hr hd hdN hc K QQ hK => ?_
  cases ho : o.op <;> rw [ho] at hc <;> simp only [chkRO, Bool.false_eq_true] at hc
  rename_i src dst x
  simp only [Bool.and_eq_true] at hc
  obtain ⟨⟨hst, hty⟩, hcx⟩ := hc
  cases hu : P.underlying dst with
  | none => simp [hu] at hty
  | some dd =>
    cases dd with
    | slice e =>
      simp only [hu, Bool.and_eq_true, beq_iff_eq] at hty
      obtain ⟨⟨hint, rfl⟩, hte⟩ := hty
      have he8 : P.underlying e = some (.int .u8) := by
        unfold isInt at hint
        split at hint
        · rename_i k hk
          simp only [beq_iff_eq] at hint
          rw [hk, ← hint]
        · cases hint
      have rx := chkA_ok hr hcx
      rw [hs] at rx
      have hxv : a.eval x = .string ⟨⟨s⟩⟩ := by
        revert rx
        generalize a.eval x = v
        intro rx
        cases rx
        rfl
      have hrun := run_bytes_of_string (P := P) w src dst e ⟨⟨s⟩⟩ (isStr_ok hst) hu he8
      have hsz : (⟨⟨s⟩⟩ : ByteArray).size = s.length := rfl
      rw [hsz] at hrun
      have hge := grownCap_ge w s.length 0 e
      have hcm := grownCap_le_maxLen w s.length 0 e (by simp only [maxLen]; omega)
      generalize hcap : grownCap w s.length 0 e = cap at hrun hge hcm
      have hrs : (bytesRow ⟨⟨s⟩⟩ cap).size = cap * 1 := by
        simp only [bytesRow, Array.size_append, Array.size_map, Array.size_replicate, hsz, List.size_toArray]
        omega
      have hrow : RowIs G site (w.drew.alloc (.cells (bytesRow ⟨⟨s⟩⟩ cap) e ((bytesRow ⟨⟨s⟩⟩ cap).size, (bytesRow ⟨⟨s⟩⟩ cap).size + 1))) w.heap.size cap 1 (bytesAV s) := by
        refine ⟨⟨bytesRow ⟨⟨s⟩⟩ cap, ⟨e, _, _, heap_alloc_new w.drew _, hte, fun o ho => by omega⟩, hrs, ?_⟩, by simpa [bytesAV] using hge, hcm⟩
        rw [bytesAV_flat]
        have : (bytesRow ⟨⟨s⟩⟩ cap).toList.take ((bytesAV s).length * 1) = s.map fun b => Value.int .u8 (b.toNat : Int) := by
          have hl : (bytesAV s).length * 1 = (s.map fun b => Value.int .u8 (b.toNat : Int)).length := by simp [bytesAV]
          rw [hl]
          simp only [bytesRow, Array.toList_append, Array.toList_map]
          exact List.take_left
        rw [this]
        exact bytesAV_rep s
      have hgl := newGen_lt hr.mr hro
      have hl0 : 0 < st.m.length := List.length_pos_iff.2 hr.ne
      obtain ⟨hr', he⟩ := hr.vecput (w' := w.drew.alloc (.cells (bytesRow ⟨⟨s⟩⟩ cap) e ((bytesRow ⟨⟨s⟩⟩ cap).size, (bytesRow ⟨⟨s⟩⟩ cap).size + 1))) (cap := cap) (b := some w.heap.size) hl0 hro hgl rfl rfl rfl (by simp) (fun k hk _ => RowKit.Below.heap_alloc w.drew _ k hk) (fun k e => by cases e; exact .inr (Nat.le_refl _)) (bytesAV_elems s) (.inr ⟨_, rfl, hrow⟩)
      have hexec : (execOp a.eval o).run P w = .ok (.value (.slice (some ⟨w.heap.size, 0, none⟩) s.length cap)) (w.drew.alloc (.cells (bytesRow ⟨⟨s⟩⟩ cap) e ((bytesRow ⟨⟨s⟩⟩ cap).size, (bytesRow ⟨⟨s⟩⟩ cap).size + 1))) := by
        simp only [execOp, ho, Sem.run_bind, hxv, hrun, Result.andThen_ok]
        rfl
      unfold Oper.wp
      rw [hexec]
      have hd' : o.dst = d := hd
      show K (a.put o.dst _) _
      rw [hd']
      refine hK _ _ _ _ h (hr'.put hdN (.vec rfl (Nat.le_of_eq (by simp [Gh.row])) fun _ => .inr ⟨w.heap.size, ⟨w.heap.size, 0, none⟩, cap, by simp [Gh.row], by simp [Gh.row]; exact hge, rfl, hge, hcm, fun _ => by simp [Gh.row], fun _ => by simp⟩)) he
    | _ => simp [hu] at hty

/-- A new block that is none of ours. -/
theorem Rel.other {G : Gh} {B : Nat} {a : Act} {w : World} (hr : Rel G B N st a w) (o : Obj) : Rel G B N st a (w.alloc o) ∧ Ext 1 G w G (w.alloc o) := by
  have hold : ∀ b, b < w.heap.size → (w.alloc o).heap[b]? = w.heap[b]? := fun b hb => RowKit.Below.heap_alloc w _ b hb
  have hs : ∀ b k v, G.stab b k = some v → (w.alloc o).cell? ⟨b, k, none⟩ = some v := fun b k v e => by
    rw [World.cell?_of_block (a := ⟨b, k, none⟩) (hold b (World.block_lt_of_cell? w (a := ⟨b, k, none⟩) (hr.mr.stab b k v e)))]
    exact hr.mr.stab b k v e
  have hmr : MR G st.m (w.alloc o) := hr.mr.kept (stab := G.stab) hold hs (fun _ _ _ h => h) fun b hb => (hr.mr.mine hb).2
  refine ⟨⟨hmr, hr.size, hr.slots, hr.ds, hr.base, Nat.le_trans hr.top (by simp), hr.ne⟩, rfl, rfl, rfl, by simp, fun _ _ _ h => h, fun _ _ _ => rfl, fun _ _ => Nat.le_refl _, fun _ _ _ => ⟨rfl, rfl, rfl⟩, fun b hb _ => ⟨hold b hb, fun _ => rfl⟩, fun _ h => .inl h, fun _ _ _ h => .inl h⟩

theorem AOps.usd {d : Option Nat} {r : RA} {its : List Item} {l s g n : Nat} {sz : Nat} {xs : List AV} (hx : r.ev st.f = .vec l s g 0 n false) (hlk : look st.m l s = .vec g sz xs)
    (h : AOps P N its { st with f := updO st.f d (if n = 0 then .anyp else .vptr l s g 0 0) } Q) : AOps P N (⟨d, .usd r, none⟩ :: its) st Q := by
  refine AOps.stepT rfl fun G B a w o hr hd hdN hc hT K QQ hK => ?_
  cases ho : o.op <;> rw [ho] at hc <;> simp only [chkRO, Bool.false_eq_true] at hc
  rename_i cl
  split at hc
  case h_2 => cases hc
  rename_i o1 x ts o2
  cases o2
  simp only [chkT] at hT
  split at hT
  case h_2 => cases hT
  rename_i pe hpe
  have rx := chkA_ok hr hc
  rw [hx] at rx
  have hd' : o.dst = d := hd
  have fin : ∀ (v : Value) (w' : World), (Builtin.unsafeSliceData_ ts o.type #[a.eval x]).run P w = .ok v w' → (Rel G B N st a w' ∧ Ext 1 G w G w') → Rep G (if n = 0 then .anyp else .vptr l s g 0 0) v → o.wp P a w K QQ := by
    intro v w' hrun hrel hrep
    have hexec : (execOp a.eval o).run P w = .ok (.value v) w' := by
      simp only [execOp, ho, resolve, invoke, builtin, Sem.run_bind, Sem.run_pure, Result.andThen_ok, List.map_toArray, List.map_cons, List.map_nil, hrun]
    unfold Oper.wp
    rw [hexec]
    show K (a.put o.dst v) w'
    rw [hd']
    exact hK _ _ _ _ h (hrel.1.put hdN hrep) hrel.2
  obtain ⟨e1, e2, e3, e4⟩ := hr.mr.vec l s g sz xs hlk
  generalize a.eval x = v at rx fin
  cases rx with
  | vec hone hg hh =>
    rcases hh e1.symm with ⟨hvm, _, rfl, rfl⟩ | ⟨b, A, c, hvm, hok, rfl, hkc, hcm, hq, hA⟩
    · exact fin _ w (Lib.run_unsafeSliceData_nil w _ _ 0 0) ⟨hr, Ext.refl 1 G w⟩ (by rw [if_pos rfl]; exact .anyp none)
    · have hA' := hA ⟨.inr rfl, .inl rfl⟩
      simp only [Nat.zero_mul] at hA'
      subst hA'
      by_cases hc0 : c = 0
      · subst hc0
        have hn : n = 0 := by omega
        subst hn
        rcases e4 with ⟨e, _⟩ | ⟨b', e, hrow⟩
        · rw [hvm] at e; cases e
        · rw [hvm] at e; cases e
          obtain ⟨cur, ⟨t', lo, hi, hheap, _⟩, _⟩ := hrow.cur
          have hsh : w.shape? b = some (t', cur.size) := by unfold World.shape?; rw [hheap]
          exact fin _ _ (Lib.run_unsafeSliceData_zero w _ _ pe hpe ⟨b, 0, none⟩ 0 _ hsh) (hr.other _) (by rw [if_pos rfl]; exact .anyp _)
      · refine fin _ w (Lib.run_unsafeSliceData_row w _ _ _ _ _ hc0) ⟨hr, Ext.refl 1 G w⟩ ?_
        by_cases hn : n = 0
        · rw [if_pos hn]; exact .anyp _
        · rw [if_neg hn]
          exact .vptr rfl hg fun _ => ⟨b, hvm, by simp⟩

theorem AOps.ustr0 {d : Option Nat} {el : Nat} {p r : RA} {its : List Item} (hp : p.ev st.f = .anyp) (hx : r.ev st.f = .int .i64 0)
    (h : AOps P N its { st with f := updO st.f d (.str []) } Q) : AOps P N (⟨d, .ustr el p r, none⟩ :: its) st Q := by
  refine AOps.step rfl fun G B a w o hr hd hdN hc K QQ hK => ?_
  cases ho : o.op <;> rw [ho] at hc <;> simp only [chkRO, Bool.false_eq_true] at hc
  rename_i cl
  split at hc
  case h_2 => cases hc
  rename_i o1 x y pt it o2
  cases o2
  simp only [Bool.and_eq_true] at hc
  obtain ⟨⟨h1, h2⟩, h3⟩ := hc
  have r1 := chkA_ok hr h2
  have r2 := chkA_ok hr h3
  rw [hp] at r1
  rw [hx] at r2
  have hyv : a.eval y = .int .i64 0 := by
    revert r2
    generalize a.eval y = v
    intro r2
    cases r2
    rfl
  obtain ⟨q, hxv⟩ : ∃ q, a.eval x = .pointer q := by
    revert r1
    generalize a.eval x = v
    intro r1
    cases r1
    exact ⟨_, rfl⟩
  have hrun := Lib.run_unsafeString_none (P := P) w pt it o.type q
  have hexec : (execOp a.eval o).run P w = .ok (.value (.string .empty)) w := by
    simp only [execOp, ho, resolve, invoke, builtin, Sem.run_bind, Sem.run_pure, Result.andThen_ok, List.map_toArray, List.map_cons, List.map_nil, hxv, hyv, hrun]
  unfold Oper.wp
  rw [hexec]
  have hd' : o.dst = d := hd
  show K (a.put o.dst _) _
  rw [hd']
  exact hK _ _ _ _ h (hr.put hdN (.str [])) (Ext.refl 1 G w)

theorem AOps.ustr {d : Option Nat} {el : Nat} {p r : RA} {its : List Item} {l g n : Nat} {xs : List AV} {s : List UInt8} (hp : p.ev st.f = .vptr l (el + 2000) g 0 0) (hx : r.ev st.f = .int .i64 (n : Int)) (hlk : look st.m l (el + 2000) = .vec g 1 xs) (hn : n ≤ xs.length) (hn0 : n ≠ 0) (hs : xs.take n = bytesAV s)
    (h : AOps P N its { st with m := Am.put st.m l (el + 2000) (.vec (g + 1) 1 []), f := updO st.f d (.str s) } Q) : AOps P N (⟨d, .ustr el p r, none⟩ :: its) st Q := by
  refine AOps.step rfl fun G B a w o hr hd hdN hc K QQ hK => ?_
  cases ho : o.op <;> rw [ho] at hc <;> simp only [chkRO, Bool.false_eq_true] at hc
  rename_i cl
  split at hc
  case h_2 => cases hc
  rename_i o1 x y pt it o2
  cases o2
  simp only [Bool.and_eq_true] at hc
  obtain ⟨⟨h1, h2⟩, h3⟩ := hc
  split at h1
  case h_2 => cases h1
  rename_i e hpt
  simp only [Bool.and_eq_true, beq_iff_eq] at h1
  obtain ⟨rfl, hco⟩ := h1
  have r1 := chkA_ok hr h2
  have r2 := chkA_ok hr h3
  rw [hp] at r1
  rw [hx] at r2
  have hyv : a.eval y = .int .i64 (n : Int) := by
    revert r2
    generalize a.eval y = v
    intro r2
    cases r2
    rfl
  obtain ⟨e1, e2, e3, e4⟩ := hr.mr.vec l (e + 2000) g 1 xs hlk
  have hsl : s.length = n := by
    have := congrArg List.length hs
    simp only [List.length_take, bytesAV, List.length_map] at this
    omega
  obtain ⟨b, hvm, hrow⟩ : ∃ b, G.vm l (e + 2000) = some b ∧ RowIs G (e + 2000) w b (G.vc l (e + 2000)) 1 xs := by
    rcases e4 with ⟨_, e⟩ | h'
    · subst e; simp at hn; exact absurd hn hn0
    · exact h'
  have hxv : a.eval x = .pointer (some ⟨b, 0, none⟩) := by
    revert r1
    generalize a.eval x = v
    intro r1
    cases r1 with
    | vptr _ _ hh =>
      obtain ⟨b', e', rfl⟩ := hh e1.symm
      rw [hvm] at e'; cases e'
      simp
  obtain ⟨⟨cur, ⟨t', lo, hi, hheap, hty, hfr⟩, hcsz, hrep⟩, hle, hmx⟩ := hrow
  have ht : t' = e := tyOk_eq (s := e + 2000) hty (by simp [tyOk]) (by omega)
  subst ht
  have hsh : w.shape? b = some (t', cur.size) := by unfold World.shape?; rw [hheap]
  have hne : s ≠ [] := by rintro rfl; simp at hsl; exact hn0 hsl.symm
  have hcell : ∀ j u, s[j]? = some u → w.cell? ((⟨b, 0, none⟩ : Addr).add j) = some (.int .u8 u.toNat) := by
    intro j u hj
    rw [add_plain, Nat.zero_add, cell_of_row w b j cur t' (lo, hi) hheap, ← Array.getElem?_toList]
    have hjl : j < s.length := (List.getElem?_eq_some_iff.1 hj).1
    have hrep' := hrep.take n
    rw [Nat.mul_one, List.take_take, Nat.min_eq_left hn] at hrep'
    have hft : (flat xs).take n = bytesAV s := by
      have := flat_take e3.size n
      rw [Nat.mul_one] at this
      rw [this, hs, bytesAV_flat]
    rw [hft] at hrep'
    have hb : (bytesAV s)[j]? = some (.int .u8 (u.toNat : Int)) := by simp [bytesAV, hj]
    obtain ⟨v, hv, hr1⟩ := hrep'.at_ hb
    cases hr1
    rw [List.getElem?_take] at hv
    split at hv
    · exact hv
    · cases hv
  have hlc : s.length ≤ cur.size := by rw [hcsz, hsl]; omega
  have hrun := Lib.run_unsafeString_row (P := P) w pt it o.type t' hpt hco b cur.size hsh s hne hlc (by simp only [maxLen] at hmx; omega) hcell
  rw [hsl] at hrun
  have hexec : (execOp a.eval o).run P w = .ok (.value (.string ⟨s.toArray⟩)) (w.freeze ⟨b, 0, none⟩ n) := by
    simp only [execOp, ho, resolve, invoke, builtin, Sem.run_bind, Sem.run_pure, Result.andThen_ok, List.map_toArray, List.map_cons, List.map_nil, hxv, hyv, hrun]
  have hfz : (w.freeze ⟨b, 0, none⟩ n).os = w.os ∧ (w.freeze ⟨b, 0, none⟩ n).tape = w.tape ∧ (w.freeze ⟨b, 0, none⟩ n).output = w.output ∧ (w.freeze ⟨b, 0, none⟩ n).heap.size = w.heap.size ∧ ∀ k, k ≠ b → (w.freeze ⟨b, 0, none⟩ n).heap[k]? = w.heap[k]? := by
    unfold World.freeze
    split
    · exact ⟨rfl, rfl, rfl, rfl, fun _ _ => rfl⟩
    · refine ⟨rfl, rfl, rfl, by simp, fun k hk => ?_⟩
      simp only [Array.getElem?_modify]
      rw [if_neg (fun e => hk e.symm)]
  have hlm : l < st.m.length := look_lt (by rw [hlk]; simp)
  obtain ⟨hr', he⟩ := hr.vecput (w' := w.freeze ⟨b, 0, none⟩ n) (l := l) (s := t' + 2000) (g := g + 1) (sz := 1) (cap := 0) (b := none) (ys := []) hlm (by rw [hlk]; rfl) (by omega) hfz.1 hfz.2.1 hfz.2.2.1 (by rw [hfz.2.2.2.1]; exact Nat.le_refl _) (fun k _ hk => hfz.2.2.2.2 k (fun e => hk (by rw [e, hvm]))) (fun k e => by cases e) ⟨by simp, rfl, rfl⟩ (.inl ⟨rfl, rfl⟩)
  unfold Oper.wp
  rw [hexec]
  have hd' : o.dst = d := hd
  show K (a.put o.dst _) _
  rw [hd']
  exact hK _ _ _ _ h (hr'.put hdN (.str s)) he

/-- A deferred call. -/
theorem AOps.dfr {d : Option Nat} {f : RA} {args : List RA} {its : List Item} {fn : Fn} {fa fb : List AV} (hf : f.ev st.f = .fn fn fa fb)
    (h : AOps P N its { st with ds := ⟨fn, fb, fa ++ args.map (RA.ev st.f)⟩ :: st.ds, f := updO st.f d (.tup []) } Q) : AOps P N (⟨d, .dfr f args, none⟩ :: its) st Q := by
  refine AOps.step rfl fun G B a w o hr hd hdN hc K QQ hK => ?_
  cases ho : o.op <;> rw [ho] at hc <;> simp only [chkRO, Bool.false_eq_true] at hc
  rename_i cl
  split at hc
  case h_2 => cases hc
  rename_i o1 x xs ts o2
  cases o2
  simp only [Bool.and_eq_true] at hc
  have r1 := chkA_ok hr hc.1
  have r2 := chkAs_ok hr hc.2
  rw [hf] at r1
  obtain ⟨va, vb, hxv, ra, rb⟩ : ∃ va vb, a.eval x = .func fn ⟨va⟩ ⟨vb⟩ ∧ RepL G fa va ∧ RepL G fb vb := by
    revert r1
    generalize a.eval x = v
    intro r1
    cases r1 with
    | fn ha hb => exact ⟨_, _, rfl, ha, hb⟩
  have e1 : xs.map a.eval = ⟨xs.toList.map a.eval⟩ := by apply Array.ext'; simp
  have hexec : (execOp a.eval o).run P w = .ok (.defer { target := .fn fn ⟨vb⟩, args := ⟨va ++ xs.toList.map a.eval⟩ }) w := by
    simp only [execOp, ho, resolve, hxv, Deferred.ofValue, e1, Sem.run_bind, Sem.run_pure, Result.andThen_ok, List.append_toArray]
  unfold Oper.wp
  rw [hexec]
  have hd' : o.dst = d := hd
  rw [Oper.upon_defer]
  rw [hd']
  refine hK G { st with ds := ⟨fn, fb, fa ++ args.map (RA.ev st.f)⟩ :: st.ds, f := updO st.f d (.tup []) } _ w h ?_ (Ext.refl 1 G w)
  have hr2 : Rel G B N { st with ds := ⟨fn, fb, fa ++ args.map (RA.ev st.f)⟩ :: st.ds } { a with defers := { target := .fn fn ⟨vb⟩, args := ⟨va ++ xs.toList.map a.eval⟩ } :: a.defers } w :=
    ⟨hr.mr, hr.size, hr.slots, .cons (.mk rb (ra.append r2)) hr.ds, hr.base, hr.top, hr.ne⟩
  exact hr2.put hdN (.tup .nil)

end

end Go.Proofs.Ytcmdlmcmefbkeaa.Am
