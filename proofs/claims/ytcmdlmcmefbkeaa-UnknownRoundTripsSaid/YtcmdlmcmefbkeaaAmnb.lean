/- Slice literals: a row that is never written again. -/
import Derived.Test.YtcmdlmcmefbkeaaAmna
namespace Go.Proofs.Ytcmdlmcmefbkeaa.Am
open Go

/-- The elements out of their cells. -/
def chunk (sz : Nat) : Nat → List AV → List AV
  | 0, _ => []
  | n + 1, y => (if sz = 1 then y.headD .top else .agg (y.take sz)) :: chunk sz n (y.drop sz)

def zeros (z : List AV) (sz len : Nat) : List AV := (List.range (len * sz)).map fun i => (z[i % sz]?).getD .top

theorem chunk_length (sz n : Nat) (y : List AV) : (chunk sz n y).length = n := by
  induction n generalizing y with
  | zero => rfl
  | succ n ih => simp [chunk, ih]

theorem AV.leaf_cells {x : AV} (h : x.leaf = true) : x.cells = [x] := by
  cases x <;> first | rfl | cases h

theorem chunk_flat (sz n : Nat) (y : List AV) (hl : y.length = n * sz) (hy : y.all AV.leaf = true) : flat (chunk sz n y) = y := by
  induction n generalizing y with
  | zero =>
    have : y = [] := List.eq_nil_of_length_eq_zero (by simpa using hl)
    subst this; rfl
  | succ n ih =>
    have hd : (y.drop sz).length = n * sz := by rw [List.length_drop, hl, Nat.add_mul, Nat.one_mul]; omega
    have hld : (y.drop sz).all AV.leaf = true := leaf_sub hy fun x hx => List.mem_of_mem_drop hx
    rw [chunk, flat_cons, ih _ hd hld]
    split
    · rename_i h1
      subst h1
      cases y with
      | nil => simp at hl
      | cons x y =>
        have : x.leaf = true := by simp only [List.all_cons, Bool.and_eq_true] at hy; exact hy.1
        simp [AV.leaf_cells this]
    · exact List.take_append_drop sz y

theorem chunk_size (sz n : Nat) (y : List AV) (hl : y.length = n * sz) (hy : y.all AV.leaf = true) : ∀ x ∈ chunk sz n y, x.cells.length = sz := by
  induction n generalizing y with
  | zero => intro x hx; cases hx
  | succ n ih =>
    have hd : (y.drop sz).length = n * sz := by rw [List.length_drop, hl, Nat.add_mul, Nat.one_mul]; omega
    have hld : (y.drop sz).all AV.leaf = true := leaf_sub hy fun x hx => List.mem_of_mem_drop hx
    intro x hx
    rw [chunk] at hx
    rcases List.mem_cons.1 hx with rfl | hx
    · split
      · rename_i h1
        subst h1
        cases y with
        | nil => simp at hl
        | cons x y =>
          have : x.leaf = true := by simp only [List.all_cons, Bool.and_eq_true] at hy; exact hy.1
          simp [AV.leaf_cells this]
      · show (y.take sz).length = sz
        rw [List.length_take, hl, Nat.add_mul, Nat.one_mul]; omega
    · exact ih _ hd hld x hx

theorem fill_length {f : Fr} : ∀ {ps : List (Nat × Nat × RA)} {z y : List AV}, fill f ps z = some y → y.length = z.length
  | [], z, y, h => by cases h; rfl
  | (o, n, r) :: ps, z, y, h => by
    simp only [fill] at h
    split at h
    · rename_i hh
      rw [fill_length h, splice_length (by omega)]
    · cases h

section
variable {P : Program} {G : Gh} {B N : Nat} {st : St} {a : Act} {w : World}

theorem fillS_ok (h : Rel G B N st a w) {sz : Nat} : ∀ {xs : List (Nat × Operand)} {rs : List (Nat × Nat × RA)} {z y : List AV} {cs : Array Value}, chkSlots sz xs rs = true → RepL G z cs.toList → fill st.f rs z = some y →
    ∃ cs', Instr.fill (fun i => some (i * sz, sz)) cs (xs.map fun (i, x) => (i, a.eval x)) = some cs' ∧ RepL G y cs'.toList
  | [], [], z, y, cs, _, hz, hf => by cases hf; exact ⟨cs, rfl, hz⟩
  | (i, x) :: xs, (o, n, r) :: rs, z, y, cs, hc, hz, hf => by
    simp only [chkSlots, Bool.and_eq_true, beq_iff_eq] at hc
    simp only [fill] at hf
    obtain ⟨⟨⟨rfl, rfl⟩, hca⟩, hc⟩ := hc
    split at hf
    · rename_i hh
      obtain ⟨h1, h2, h3⟩ := hh
      have hr := (chkA_ok h hca).cells h3
      have hl := hr.length
      have hzl := hz.length
      simp only [Array.length_toList] at hl hzl
      have hfold := foldl_splice (i * n) (a.eval x).cells.toList 0 cs (by simp only [Array.length_toList]; omega)
      simp only [Nat.add_zero] at hfold
      have hsz : ((a.eval x).cells.zipIdx.foldl (fun cs (c, j) => cs.setIfInBounds (i * n + j) c) cs).toList = cs.toList.take (i * n) ++ (a.eval x).cells.toList ++ cs.toList.drop (i * n + (a.eval x).cells.toList.length) := by
        rw [← hfold, ← Array.foldl_toList, Array.toList_zipIdx]
      obtain ⟨cs', h4, h5⟩ := fillS_ok h (cs := (a.eval x).cells.zipIdx.foldl (fun cs (c, j) => cs.setIfInBounds (i * n + j) c) cs) hc (by rw [hsz]; exact hz.splice hr (i * n)) hf
      refine ⟨cs', ?_, h5⟩
      simp only [List.map_cons, Instr.fill]
      rw [if_neg (by simp; omega)]
      exact h4
    · cases hf
  | [], _ :: _, _, _, _, hc, _, _ => by simp [chkSlots] at hc
  | _ :: _, [], _, _, _, hc, _, _ => by simp [chkSlots] at hc

end

section
variable {P : Program} {N : Nat} {st : St} {Q : St → Prop}

theorem AOps.bsl {d : Option Nat} {sz len : Nat} {z : List AV} {ps : List (Nat × Nat × RA)} {its : List Item} {y : List AV} (hy : fill st.f ps (zeros z sz len) = some y) (hf : AV.rfL y = true) (hl : y.all AV.leaf = true)
    (h : AOps P N its { st with f := updO st.f d (.list (chunk sz len y)) } Q) : AOps P N (⟨d, .bsl sz len z ps, none⟩ :: its) st Q := by
  refine AOps.step rfl fun G B a w o hr hd hdN hc K QQ hK => ?_
  cases ho : o.op <;> rw [ho] at hc <;> simp only [chkRO, Bool.false_eq_true, Bool.and_eq_true, beq_iff_eq, bne_iff_ne, decide_eq_true_eq] at hc
  rename_i t n parts
  obtain ⟨⟨⟨⟨⟨rfl, hbig⟩, hsz0⟩, hlen0⟩, hty⟩, hps⟩ := hc
  cases hu : P.underlying t with
  | none => simp [hu] at hty
  | some dd =>
    cases dd with
    | slice e =>
      simp only [hu, Option.any_eq_true, Bool.and_eq_true, beq_iff_eq] at hty
      obtain ⟨i, hi, rfl, hz⟩ := hty
      cases hzv : i.zero with
      | none => rw [hzv] at hz; cases hz
      | some zv =>
        rw [hzv] at hz
        simp only [Bool.and_eq_true, beq_iff_eq] at hz
        have rz : RepL G z zv.cells.toList := isCL_ok hz.1
        have hzl : zv.cells.size = i.size := by
          have := rz.length
          simp only [Array.length_toList] at this
          omega
        have r0 : RepL G (zeros z i.size n) ((Array.range (n * i.size)).map (zv.cells[· % zv.cells.size]!)).toList := by
          refine RepL.of_all (by simp [zeros]) fun j x v hx hv => ?_
          simp only [zeros, List.getElem?_map] at hx
          simp only [Array.toList_map, Array.toList_range, List.getElem?_map] at hv
          by_cases hj : j < n * i.size
          · rw [List.getElem?_range hj] at hx hv
            simp only [Option.map_some, Option.some.injEq] at hx hv
            have hm : j % i.size < i.size := Nat.mod_lt _ (by omega)
            obtain ⟨u, hu1, hu2⟩ := rz.at_ (i := j % i.size) (List.getElem?_eq_getElem (by omega))
            rw [List.getElem?_eq_getElem (by omega)] at hx
            simp only [Option.getD_some] at hx
            subst hx
            rw [hzl] at hv
            rw [Array.getElem?_toList] at hu1
            rw [Array.getElem!_eq_getD, Array.getD_eq_getD_getElem?, hu1] at hv
            simp only [Option.getD_some] at hv
            subst hv
            exact hu2
          · rw [List.getElem?_eq_none (by simp; omega)] at hx
            cases hx
        obtain ⟨cs, hfill, hrep⟩ := fillS_ok hr hps r0 hy
        have hyl : y.length = n * i.size := by rw [fill_length hy]; simp [zeros]
        have hne : n * i.size ≠ 0 := Nat.mul_ne_zero hlen0 hsz0
        have hrun : (execOp a.eval o).run P w = .ok (.value (.slice (some ⟨w.heap.size, 0, none⟩) n n)) (w.alloc (.cells cs e)) := by
          have e2 : (parts.map fun (x : Nat × Operand) => (x.1, a.eval x.2)).toList = parts.toList.map fun x => (x.1, a.eval x.2) := by simp
          simp only [execOp, ho, Instr.buildSlice, Sem.run_bind, run_underlying hu, Result.andThen_ok, run_sizeOf hi]
          rw [if_neg (by omega), if_neg hne]
          simp only [Sem.run_bind, Sem.run_pure, Result.andThen_ok, zeroValue, typeInfo, run_program, hi, hzv, e2, hfill, newRow, run_newObj]
          rfl
        let stab' : Nat → Nat → Option Value := fun b k => if b = w.heap.size then cs[k]? else G.stab b k
        have hlt : ∀ b k v, G.stab b k = some v → b < w.heap.size := fun b k v e => World.block_lt_of_cell? w (a := ⟨b, k, none⟩) (hr.mr.stab b k v e)
        have hold : ∀ b, b < w.heap.size → (w.alloc (.cells cs e)).heap[b]? = w.heap[b]? := fun b hb => RowKit.Below.heap_alloc w _ b hb
        have hg : ∀ b k v, G.stab b k = some v → stab' b k = some v := fun b k v e => by
          have := hlt b k v e
          show (if b = w.heap.size then cs[k]? else G.stab b k) = some v
          rw [if_neg (by omega)]; exact e
        have hs : ∀ b k v, stab' b k = some v → (w.alloc (.cells cs e)).cell? ⟨b, k, none⟩ = some v := fun b k v e' => by
          by_cases hb : b = w.heap.size
          · subst hb
            rw [(Soft.new (s := 0) w cs e rfl).cell]
            exact (if_pos rfl).symm.trans e'
          · have e2 : G.stab b k = some v := (if_neg hb).symm.trans e'
            rw [World.cell?_of_block (a := ⟨b, k, none⟩) (hold b (hlt b k v e2))]
            exact hr.mr.stab b k v e2
        have hm : ∀ b, G.mine b → ∀ k, stab' b k = none := fun b hb k => by
          have := (hr.mr.mine hb).1
          show (if b = w.heap.size then cs[k]? else G.stab b k) = none
          rw [if_neg (by omega)]; exact (hr.mr.mine hb).2 k
        have hmr := hr.mr.kept hold hs hg hm
        have hext : Ext 0 G w (G.with stab') (w.alloc (.cells cs e)) := Ext.bare rfl rfl rfl (by simp) hold hg fun b hb k => if_neg (by omega)
        unfold Oper.wp
        rw [hrun]
        have hd' : o.dst = d := hd
        show K (a.put o.dst _) _
        rw [hd']
        refine hK _ _ _ _ h ((hr.after hmr hext rfl).put hdN ?_) (hext.mono (Nat.zero_le _))
        have hfl := chunk_flat i.size n y hyl hl
        refine .list (cs := cs.toList) (sz := i.size) ?_ (chunk_size i.size n y hyl hl) (by rw [hfl]; exact hf) (by rw [hfl]; exact hl) (fun j u hu' => ?_) (chunk_length i.size n y).symm (Nat.le_refl _) ?_
        · rw [hfl]; exact hrep.mono hext.gle
        · refine ⟨w.heap.size, 0, rfl, ?_⟩
          show (if w.heap.size = w.heap.size then cs[0 + j]? else _) = some u
          rw [if_pos rfl, Nat.zero_add]
          simpa using hu'
        · have : n ≤ n * i.size := Nat.le_mul_of_pos_right n (by omega)
          simp only [maxLen]
          omega
    | _ => simp [hu] at hty

end

end Go.Proofs.Ytcmdlmcmefbkeaa.Am
