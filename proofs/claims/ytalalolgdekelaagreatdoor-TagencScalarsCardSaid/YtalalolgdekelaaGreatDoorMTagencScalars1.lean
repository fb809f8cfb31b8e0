/- Parts of the proof, in order. -/
import Derived.Laws.MakeOwn
import Derived.Lib.UnsafeStr
import Derived.Laws.RangeString
import Derived.Lib.Bytealg
import Derived.Deep.LoopGhost
import Derived.Scope
import Derived.Orders
import Derived.Defers
import Derived.Below
import Derived.ChangeSame
import Derived.ProofKit
import Derived.Lib.SmallJoins
import Derived.Deep.Slices
import Derived.DataShut
import Derived.Test.YtalalolgdekelaaGreatDoorRows
import Derived.Test.YtalalolgdekelaaGreatDoorProg
import Derived.WalkKit
import Derived.Test.YtalalolgdekelaaGreatDoorMTagencScalars0

/- Slice literals: a row that is never written again. -/
namespace Go.Proofs.YtalalolgdekelaaGreatDoor.Am
open Go

/-- The elements out of their cells. -/
def chunk (sz : Nat) : Nat → List AV → List AV
  | 0, _ => []
  | n + 1, y => (if sz = 1 then y.headD .top else .agg (y.take sz)) :: chunk sz n (y.drop sz)

def zeros (z : List AV) (sz len : Nat) : List AV := (List.range (len * sz)).map fun i => (z[i % sz]?).getD .top

theorem chunk_length (sz n : Nat) (y : List AV) : (chunk sz n y).length = n := by
  induction n generalizing y with
  | zero => rfl
  | succ n ih => simp [chunk, ih]

theorem AV.leaf_cells {x : AV} (h : x.leaf = true) : x.cells = [x] := by
  cases x <;> first | rfl | cases h

theorem chunk_flat (sz n : Nat) (y : List AV) (hl : y.length = n * sz) (hy : y.all AV.leaf = true) : flat (chunk sz n y) = y := by
  induction n generalizing y with
  | zero =>
    have : y = [] := List.eq_nil_of_length_eq_zero (by simpa using hl)
    subst this; rfl
  | succ n ih =>
    have hd : (y.drop sz).length = n * sz := by rw [List.length_drop, hl, Nat.add_mul, Nat.one_mul]; omega
    have hld : (y.drop sz).all AV.leaf = true := leaf_sub hy fun x hx => List.mem_of_mem_drop hx
    rw [chunk, flat_cons, ih _ hd hld]
    split
    · rename_i h1
      subst h1
      cases y with
      | nil => simp at hl
      | cons x y =>
        have : x.leaf = true := by simp only [List.all_cons, Bool.and_eq_true] at hy; exact hy.1
        simp [AV.leaf_cells this]
    · exact List.take_append_drop sz y

theorem chunk_size (sz n : Nat) (y : List AV) (hl : y.length = n * sz) (hy : y.all AV.leaf = true) : ∀ x ∈ chunk sz n y, x.cells.length = sz := by
  induction n generalizing y with
  | zero => intro x hx; cases hx
  | succ n ih =>
    have hd : (y.drop sz).length = n * sz := by rw [List.length_drop, hl, Nat.add_mul, Nat.one_mul]; omega
    have hld : (y.drop sz).all AV.leaf = true := leaf_sub hy fun x hx => List.mem_of_mem_drop hx
    intro x hx
    rw [chunk] at hx
    rcases List.mem_cons.1 hx with rfl | hx
    · split
      · rename_i h1
        subst h1
        cases y with
        | nil => simp at hl
        | cons x y =>
          have : x.leaf = true := by simp only [List.all_cons, Bool.and_eq_true] at hy; exact hy.1
          simp [AV.leaf_cells this]
      · show (y.take sz).length = sz
        rw [List.length_take, hl, Nat.add_mul, Nat.one_mul]; omega
    · exact ih _ hd hld x hx

theorem fill_length {f : Fr} : ∀ {ps : List (Nat × Nat × RA)} {z y : List AV}, fill f ps z = some y → y.length = z.length
  | [], z, y, h => by cases h; rfl
  | (o, n, r) :: ps, z, y, h => by
    simp only [fill] at h
    split at h
    · rename_i hh
      rw [fill_length h, splice_length (by omega)]
    · cases h

section
variable {P : Program} {G : Gh} {B N : Nat} {st : St} {a : Act} {w : World}

theorem fillS_ok (h : Rel G B N st a w) {sz : Nat} : ∀ {xs : List (Nat × Operand)} {rs : List (Nat × Nat × RA)} {z y : List AV} {cs : Array Value}, chkSlots sz xs rs = true → RepL G z cs.toList → fill st.f rs z = some y →
    ∃ cs', Instr.fill (fun i => some (i * sz, sz)) cs (xs.map fun (i, x) => (i, a.eval x)) = some cs' ∧ RepL G y cs'.toList
  | [], [], z, y, cs, _, hz, hf => by cases hf; exact ⟨cs, rfl, hz⟩
  | (i, x) :: xs, (o, n, r) :: rs, z, y, cs, hc, hz, hf => by
    simp only [chkSlots, Bool.and_eq_true, beq_iff_eq] at hc
    simp only [fill] at hf
    obtain ⟨⟨⟨rfl, rfl⟩, hca⟩, hc⟩ := hc
    split at hf
    · rename_i hh
      obtain ⟨h1, h2, h3⟩ := hh
      have hr := (chkA_ok h hca).cells h3
      have hl := hr.length
      have hzl := hz.length
      simp only [Array.length_toList] at hl hzl
      have hfold := foldl_splice (i * n) (a.eval x).cells.toList 0 cs (by simp only [Array.length_toList]; omega)
      simp only [Nat.add_zero] at hfold
      have hsz : ((a.eval x).cells.zipIdx.foldl (fun cs (c, j) => cs.setIfInBounds (i * n + j) c) cs).toList = cs.toList.take (i * n) ++ (a.eval x).cells.toList ++ cs.toList.drop (i * n + (a.eval x).cells.toList.length) := by
        rw [← hfold, ← Array.foldl_toList, Array.toList_zipIdx]
      obtain ⟨cs', h4, h5⟩ := fillS_ok h (cs := (a.eval x).cells.zipIdx.foldl (fun cs (c, j) => cs.setIfInBounds (i * n + j) c) cs) hc (by rw [hsz]; exact hz.splice hr (i * n)) hf
      refine ⟨cs', ?_, h5⟩
      simp only [List.map_cons, Instr.fill]
      rw [if_neg (by simp; omega)]
      exact h4
    · cases hf
  | [], _ :: _, _, _, _, hc, _, _ => by simp [chkSlots] at hc
  | _ :: _, [], _, _, _, hc, _, _ => by simp [chkSlots] at hc

end

/-- A nil slice as it is stored: an empty list. -/
def nn0 : AV → AV
  | .nils => .list []
  | x => x

theorem Rep.nn0 {G : Gh} {x : AV} {v : Value} (h : Rep G x v) : Rep G (nn0 x) v := by
  unfold Am.nn0
  split
  · cases h
    exact .list (sz := 0) (cs := []) .nil (by simp) rfl rfl (by simp) rfl (Nat.le_refl _) (Nat.zero_le _)
  · exact h

theorem RepL.nn0 {G : Gh} : ∀ {l : List AV} {vs : List Value}, RepL G l vs → RepL G (l.map nn0) vs
  | [], _, h => h
  | _ :: _, _, h => by
    cases h with
    | cons h t => exact .cons h.nn0 t.nn0

theorem nn0_rf {x : AV} (h : x.rf = true) : (nn0 x).rf = true := by
  unfold Am.nn0; split
  · rfl
  · exact h
theorem nn0_leaf {x : AV} (h : x.leaf = true) : (nn0 x).leaf = true := by
  unfold Am.nn0; split
  · rfl
  · exact h
theorem nn0_rfL : ∀ {l : List AV}, AV.rfL l = true → AV.rfL (l.map nn0) = true
  | [], _ => rfl
  | x :: l, h => by
    simp only [AV.rfL, Bool.and_eq_true] at h
    simp only [List.map_cons, AV.rfL, Bool.and_eq_true]
    exact ⟨nn0_rf h.1, nn0_rfL h.2⟩
theorem nn0_all {l : List AV} (h : l.all AV.leaf = true) : (l.map nn0).all AV.leaf = true := by
  rw [List.all_eq_true] at h ⊢
  intro x hx
  obtain ⟨y, hy, rfl⟩ := List.mem_map.1 hx
  exact nn0_leaf (h y hy)

section
variable {P : Program} {N : Nat} {st : St} {Q : St → Prop}

theorem AOps.bsl {d : Option Nat} {sz len : Nat} {z : List AV} {ps : List (Nat × Nat × RA)} {its : List Item} {y : List AV} (hy : fill st.f ps (zeros z sz len) = some y) (hf : AV.rfL y = true) (hl : y.all AV.leaf = true)
    (h : AOps P N its { st with f := updO st.f d (.list (chunk sz len (y.map nn0))) } Q) : AOps P N (⟨d, .bsl sz len z ps, none⟩ :: its) st Q := by
  refine AOps.step rfl fun G B a w o hr hd hdN hc K QQ hK => ?_
  cases ho : o.op <;> rw [ho] at hc <;> simp only [chkRO, Bool.false_eq_true, Bool.and_eq_true, beq_iff_eq, bne_iff_ne, decide_eq_true_eq] at hc
  rename_i t n parts
  obtain ⟨⟨⟨⟨⟨rfl, hbig⟩, hsz0⟩, hlen0⟩, hty⟩, hps⟩ := hc
  cases hu : P.underlying t with
  | none => simp [hu] at hty
  | some dd =>
    cases dd with
    | slice e =>
      simp only [hu, Option.any_eq_true, Bool.and_eq_true, beq_iff_eq] at hty
      obtain ⟨i, hi, rfl, hz⟩ := hty
      cases hzv : i.zero with
      | none => rw [hzv] at hz; cases hz
      | some zv =>
        rw [hzv] at hz
        simp only [Bool.and_eq_true, beq_iff_eq] at hz
        have rz : RepL G z zv.cells.toList := isCL_ok hz.1
        have hzl : zv.cells.size = i.size := by
          have := rz.length
          simp only [Array.length_toList] at this
          omega
        have r0 : RepL G (zeros z i.size n) ((Array.range (n * i.size)).map (zv.cells[· % zv.cells.size]!)).toList := by
          refine RepL.of_all (by simp [zeros]) fun j x v hx hv => ?_
          simp only [zeros, List.getElem?_map] at hx
          simp only [Array.toList_map, Array.toList_range, List.getElem?_map] at hv
          by_cases hj : j < n * i.size
          · rw [List.getElem?_range hj] at hx hv
            simp only [Option.map_some, Option.some.injEq] at hx hv
            have hm : j % i.size < i.size := Nat.mod_lt _ (by omega)
            obtain ⟨u, hu1, hu2⟩ := rz.at_ (i := j % i.size) (List.getElem?_eq_getElem (by omega))
            rw [List.getElem?_eq_getElem (by omega)] at hx
            simp only [Option.getD_some] at hx
            subst hx
            rw [hzl] at hv
            rw [Array.getElem?_toList] at hu1
            rw [Array.getElem!_eq_getD, Array.getD_eq_getD_getElem?, hu1] at hv
            simp only [Option.getD_some] at hv
            subst hv
            exact hu2
          · rw [List.getElem?_eq_none (by simp; omega)] at hx
            cases hx
        obtain ⟨cs, hfill, hrep0⟩ := fillS_ok hr hps r0 hy
        have hrep := hrep0.nn0
        have hf := nn0_rfL hf
        have hl := nn0_all hl
        have hyl : (y.map nn0).length = n * i.size := by rw [List.length_map, fill_length hy]; simp [zeros]
        have hne : n * i.size ≠ 0 := Nat.mul_ne_zero hlen0 hsz0
        have hrun : (execOp a.eval o).run P w = .ok (.value (.slice (some ⟨w.heap.size, 0, none⟩) n n)) (w.alloc (.cells cs e)) := by
          have e2 : (parts.map fun (x : Nat × Operand) => (x.1, a.eval x.2)).toList = parts.toList.map fun x => (x.1, a.eval x.2) := by simp
          simp only [execOp, ho, Instr.buildSlice, Sem.run_bind, run_underlying hu, Result.andThen_ok, run_sizeOf hi]
          rw [if_neg (by omega), if_neg hne]
          simp only [Sem.run_bind, Sem.run_pure, Result.andThen_ok, zeroValue, typeInfo, run_program, hi, hzv, e2, hfill, newRow, run_newObj]
          rfl
        let stab' : Nat → Nat → Option Value := fun b k => if b = w.heap.size then cs[k]? else G.stab b k
        have hlt : ∀ b k v, G.stab b k = some v → b < w.heap.size := fun b k v e => World.block_lt_of_cell? w (a := ⟨b, k, none⟩) (hr.mr.stab b k v e)
        have hold : ∀ b, b < w.heap.size → (w.alloc (.cells cs e)).heap[b]? = w.heap[b]? := fun b hb => RowKit.Below.heap_alloc w _ b hb
        have hg : ∀ b k v, G.stab b k = some v → stab' b k = some v := fun b k v e => by
          have := hlt b k v e
          show (if b = w.heap.size then cs[k]? else G.stab b k) = some v
          rw [if_neg (by omega)]; exact e
        have hs : ∀ b k v, stab' b k = some v → (w.alloc (.cells cs e)).cell? ⟨b, k, none⟩ = some v := fun b k v e' => by
          by_cases hb : b = w.heap.size
          · subst hb
            rw [(Soft.new (s := 0) w cs e rfl).cell]
            exact (if_pos rfl).symm.trans e'
          · have e2 : G.stab b k = some v := (if_neg hb).symm.trans e'
            rw [World.cell?_of_block (a := ⟨b, k, none⟩) (hold b (hlt b k v e2))]
            exact hr.mr.stab b k v e2
        have hm : ∀ b, G.mine b → ∀ k, stab' b k = none := fun b hb k => by
          have := (hr.mr.mine hb).1
          show (if b = w.heap.size then cs[k]? else G.stab b k) = none
          rw [if_neg (by omega)]; exact (hr.mr.mine hb).2 k
        have hmr := hr.mr.kept hold hs hg hm
        have hext : Ext 0 G w (G.with stab') (w.alloc (.cells cs e)) := Ext.bare rfl rfl rfl (by simp) hold hg fun b hb k => if_neg (by omega)
        unfold Oper.wp
        rw [hrun]
        have hd' : o.dst = d := hd
        show K (a.put o.dst _) _
        rw [hd']
        refine hK _ _ _ _ h ((hr.after hmr hext rfl).put hdN ?_) (hext.mono (Nat.zero_le _))
        have hfl := chunk_flat i.size n _ hyl hl
        refine .list (cs := cs.toList) (sz := i.size) ?_ (chunk_size i.size n _ hyl hl) (by rw [hfl]; exact hf) (by rw [hfl]; exact hl) (fun j u hu' => ?_) (chunk_length i.size n _).symm (Nat.le_refl _) ?_
        · rw [hfl]; exact hrep.mono hext.gle
        · refine ⟨w.heap.size, 0, rfl, ?_⟩
          show (if w.heap.size = w.heap.size then cs[0 + j]? else _) = some u
          rw [if_pos rfl, Nat.zero_add]
          simpa using hu'
        · have : n ≤ n * i.size := Nat.le_mul_of_pos_right n (by omega)
          simp only [maxLen]
          omega
    | _ => simp [hu] at hty

theorem AOps.bslv {d : Option Nat} {site sz len : Nat} {z : List AV} {ps : List (Nat × Nat × RA)} {its : List Item} {y : List AV} (hy : fill st.f ps (zeros z sz len) = some y) (hf : AV.rfL y = true) (hl : y.all AV.leaf = true) (hro : rowOrNone (look st.m 0 site) = true)
    (h : AOps P N its { st with m := Am.put st.m 0 site (.vec (newGen st.m 0 site) sz (chunk sz len (y.map nn0))), f := updO st.f d (.vec 0 site (newGen st.m 0 site) 0 len false) } Q) : AOps P N (⟨d, .bslv site sz len z ps, none⟩ :: its) st Q := by
  refine AOps.step rfl fun G B a w o hr hd hdN hc K QQ hK => ?_
  cases ho : o.op <;> rw [ho] at hc <;> simp only [chkRO, Bool.false_eq_true, Bool.and_eq_true, beq_iff_eq, bne_iff_ne, decide_eq_true_eq] at hc
  rename_i t n parts
  obtain ⟨⟨⟨⟨⟨rfl, hbig⟩, hsz0⟩, hlen0⟩, hty⟩, hps⟩ := hc
  cases hu : P.underlying t with
  | none => simp [hu] at hty
  | some dd =>
    cases dd with
    | slice e =>
      simp only [hu, Option.any_eq_true, Bool.and_eq_true, beq_iff_eq] at hty
      obtain ⟨⟨i, hi, rfl, hz⟩, hte⟩ := hty
      cases hzv : i.zero with
      | none => rw [hzv] at hz; cases hz
      | some zv =>
        rw [hzv] at hz
        simp only [Bool.and_eq_true, beq_iff_eq] at hz
        have rz : RepL G z zv.cells.toList := isCL_ok hz.1
        have hzl : zv.cells.size = i.size := by
          have := rz.length
          simp only [Array.length_toList] at this
          omega
        have r0 : RepL G (zeros z i.size n) ((Array.range (n * i.size)).map (zv.cells[· % zv.cells.size]!)).toList := by
          refine RepL.of_all (by simp [zeros]) fun j x v hx hv => ?_
          simp only [zeros, List.getElem?_map] at hx
          simp only [Array.toList_map, Array.toList_range, List.getElem?_map] at hv
          by_cases hj : j < n * i.size
          · rw [List.getElem?_range hj] at hx hv
            simp only [Option.map_some, Option.some.injEq] at hx hv
            have hm : j % i.size < i.size := Nat.mod_lt _ (by omega)
            obtain ⟨u, hu1, hu2⟩ := rz.at_ (i := j % i.size) (List.getElem?_eq_getElem (by omega))
            rw [List.getElem?_eq_getElem (by omega)] at hx
            simp only [Option.getD_some] at hx
            subst hx
            rw [hzl] at hv
            rw [Array.getElem?_toList] at hu1
            rw [Array.getElem!_eq_getD, Array.getD_eq_getD_getElem?, hu1] at hv
            simp only [Option.getD_some] at hv
            subst hv
            exact hu2
          · rw [List.getElem?_eq_none (by simp; omega)] at hx
            cases hx
        obtain ⟨cs, hfill, hrep0⟩ := fillS_ok hr hps r0 hy
        have hrep := hrep0.nn0
        have hf := nn0_rfL hf
        have hl := nn0_all hl
        have hyl : (y.map nn0).length = n * i.size := by rw [List.length_map, fill_length hy]; simp [zeros]
        have hne : n * i.size ≠ 0 := Nat.mul_ne_zero hlen0 hsz0
        have hrun : (execOp a.eval o).run P w = .ok (.value (.slice (some ⟨w.heap.size, 0, none⟩) n n)) (w.alloc (.cells cs e)) := by
          have e2 : (parts.map fun (x : Nat × Operand) => (x.1, a.eval x.2)).toList = parts.toList.map fun x => (x.1, a.eval x.2) := by simp
          simp only [execOp, ho, Instr.buildSlice, Sem.run_bind, run_underlying hu, Result.andThen_ok, run_sizeOf hi]
          rw [if_neg (by omega), if_neg hne]
          simp only [Sem.run_bind, Sem.run_pure, Result.andThen_ok, zeroValue, typeInfo, run_program, hi, hzv, e2, hfill, newRow, run_newObj]
          rfl
        have hcsz : cs.size = n * i.size := by
          have := hrep.length
          simp only [Array.length_toList] at this
          omega
        have hfl := chunk_flat i.size n _ hyl hl
        have hcl := chunk_length i.size n (y.map nn0)
        have hnm : n ≤ maxLen := by
          have : n ≤ n * i.size := Nat.le_mul_of_pos_right n (by omega)
          simp only [maxLen]
          omega
        have hrow : RowIs G site (w.alloc (.cells cs e)) w.heap.size n i.size (chunk i.size n (y.map nn0)) := by
          refine ⟨⟨cs, Soft.new w _ e hte, hcsz, ?_⟩, by rw [hcl]; exact Nat.le_refl _, hnm⟩
          rw [hfl, hcl, List.take_of_length_le (by rw [Array.length_toList, hcsz]; exact Nat.le_refl _)]
          exact hrep
        have hels : Elems i.size (chunk i.size n (y.map nn0)) := ⟨chunk_size i.size n _ hyl hl, by rw [hfl]; exact hf, by rw [hfl]; exact hl⟩
        have hgl := newGen_lt hr.mr hro
        have hl0 : 0 < st.m.length := List.length_pos_iff.2 hr.ne
        obtain ⟨hr', he⟩ := hr.vecput (w' := w.alloc (.cells cs e)) (cap := n) (b := some w.heap.size) hl0 hro hgl rfl rfl rfl (by simp) (fun k hk _ => RowKit.Below.heap_alloc w _ k hk) (fun k e => by cases e; exact .inr (Nat.le_refl _)) hels (.inr ⟨_, rfl, hrow⟩)
        unfold Oper.wp
        rw [hrun]
        have hd' : o.dst = d := hd
        show K (a.put o.dst _) _
        rw [hd']
        exact hK _ _ _ _ h (hr'.put hdN (.vec rfl (Nat.le_of_eq (by simp [Gh.row])) fun _ => .inr ⟨w.heap.size, ⟨w.heap.size, 0, none⟩, n, by simp [Gh.row], by simp [Gh.row], rfl, Nat.le_refl _, hnm, fun _ => by simp [Gh.row], fun _ => by simp⟩)) he
    | _ => simp [hu] at hty

theorem AOps.bsl0 {d : Option Nat} {site sz : Nat} {its : List Item} (hro : rowOrNone (look st.m 0 site) = true)
    (h : AOps P N its { st with m := Am.put st.m 0 site (.vec (newGen st.m 0 site) sz []), f := updO st.f d (.vec 0 site (newGen st.m 0 site) 0 0 false) } Q) : AOps P N (⟨d, .bsl0 site sz, none⟩ :: its) st Q := by
  refine AOps.step rfl fun G B a w o hr hd hdN hc K QQ hK => ?_
  cases ho : o.op <;> rw [ho] at hc <;> simp only [chkRO, Bool.false_eq_true, Bool.and_eq_true, beq_iff_eq] at hc
  rename_i t n parts
  obtain ⟨⟨rfl, hpe⟩, hty⟩ := hc
  have hpe' : parts = #[] := Array.isEmpty_iff.1 hpe
  subst hpe'
  cases hu : P.underlying t with
  | none => simp [hu] at hty
  | some dd =>
    cases dd with
    | slice e =>
      simp only [hu, Option.any_eq_true, Bool.and_eq_true, beq_iff_eq] at hty
      obtain ⟨⟨i, hi, rfl⟩, hte⟩ := hty
      have hrun : (execOp a.eval o).run P w = .ok (.value (.slice (some ⟨w.heap.size, 0, none⟩) 0 0)) (w.alloc (.cells #[] e)) := by
        have e0 : Array.range 0 = #[] := rfl
        simp [execOp, ho, Instr.buildSlice, Sem.run_bind, run_underlying hu, Result.andThen_ok, run_sizeOf hi, Instr.fill, newRow, e0]
      have hrow : RowIs G site (w.alloc (.cells #[] e)) w.heap.size 0 i.size [] := ⟨⟨#[], Soft.new w _ e hte, by simp, by simp [flat]; exact .nil⟩, Nat.le_refl _, Nat.zero_le _⟩
      have hels : Elems i.size [] := ⟨by simp, rfl, rfl⟩
      have hgl := newGen_lt hr.mr hro
      have hl0 : 0 < st.m.length := List.length_pos_iff.2 hr.ne
      obtain ⟨hr', he⟩ := hr.vecput (w' := w.alloc (.cells #[] e)) (cap := 0) (b := some w.heap.size) hl0 hro hgl rfl rfl rfl (by simp) (fun k hk _ => RowKit.Below.heap_alloc w _ k hk) (fun k e => by cases e; exact .inr (Nat.le_refl _)) hels (.inr ⟨_, rfl, hrow⟩)
      unfold Oper.wp
      rw [hrun]
      have hd' : o.dst = d := hd
      show K (a.put o.dst _) _
      rw [hd']
      exact hK _ _ _ _ h (hr'.put hdN (.vec rfl (Nat.le_of_eq (by simp [Gh.row])) fun _ => .inr ⟨w.heap.size, ⟨w.heap.size, 0, none⟩, 0, by simp [Gh.row], by simp [Gh.row], rfl, Nat.le_refl _, Nat.zero_le _, fun _ => by simp [Gh.row], fun _ => by simp⟩)) he
    | _ => simp [hu] at hty

theorem run_slice_nil {w : World} {t e : TypeId} (hu : P.underlying t = some (.slice e)) (A : Option Addr) (n c : Nat) : (binOp .eql t (.slice A n c) (.slice none 0 0)).run P w = .ok (.bool A.isNone) w ∧ (binOp .neq t (.slice A n c) (.slice none 0 0)).run P w = .ok (.bool (!A.isNone)) w := by
  have h : ∀ d : Nat, (Op.equalIn (d + 1) t (.slice A n c) (.slice none 0 0)).run P w = .ok A.isNone w := fun d => by
    cases A <;> simp [Op.equalIn, run_underlying hu]
  simp only [binOp]
  constructor <;> simp [Op.equal, Op.maxDepth, h 9999]

/-- append to a list without room behind it: a new row of our own. -/
theorem AOps.appc {d : Option Nat} {site sz bytes el : Nat} {s r : RA} {its : List Item} {xs ys : List AV} (hs : s.ev st.f = .lcap xs) (hy : elemsOf st.m (r.ev st.f) = some ys) (hne : ys ≠ []) (hxz : xs.all (fun e => e.cells.length == sz) = true) (hsz : ys.all (fun e => e.cells.length == sz) = true)
    (hmax : xs.length + ys.length ≤ maxLen) (hb : (xs.length + ys.length) * bytes ≤ 140737488355328) (hro : rowOrNone (look st.m 0 site) = true)
    (h : AOps P N its { st with m := Am.put st.m 0 site (.vec (newGen st.m 0 site) sz (xs ++ ys)), f := updO st.f d (.vec 0 site (newGen st.m 0 site) 0 (xs.length + ys.length) false) } Q) : AOps P N (⟨d, .appc site sz bytes el s r, none⟩ :: its) st Q := by
  refine AOps.step rfl fun G B a w o hr hd hdN hc K QQ hK => ?_
  cases ho : o.op <;> rw [ho] at hc <;> simp only [chkRO, Bool.false_eq_true] at hc
  rename_i cl
  split at hc
  case h_2 => cases hc
  rename_i o1 x y t t' o2
  cases o2
  simp only [Bool.and_eq_true, beq_iff_eq] at hc
  obtain ⟨⟨⟨rfl, hty⟩, hcs⟩, hcr⟩ := hc
  cases hu : P.underlying t with
  | none => simp [hu] at hty
  | some dd =>
    cases dd with
    | slice e =>
      simp only [hu, Bool.and_eq_true, Option.any_eq_true, bne_iff_ne, beq_iff_eq] at hty
      obtain ⟨⟨⟨⟨i, hi, ⟨rfl, rfl⟩, hz⟩, hsz0⟩, rfl⟩, hte⟩ := hty
      cases hzv : i.zero with
      | none => rw [hzv] at hz; cases hz
      | some zv =>
        rw [hzv] at hz
        simp only [beq_iff_eq] at hz
        have rs := chkA_ok hr hcs
        rw [hs] at rs
        obtain ⟨A, c, hyv, sz', cs, hrep, hel, hcell⟩ := elemsOf_ok hr hy (chkA_ok hr hcr)
        have hall : ∀ u ∈ ys, u.cells.length = i.size := fun u hu => by simpa using List.all_eq_true.1 hsz u hu
        have hallx : ∀ u ∈ xs, u.cells.length = i.size := fun u hu => by simpa using List.all_eq_true.1 hxz u hu
        have hcl : cs.length = ys.length * i.size := by rw [hrep.length, flat_length hall]
        have hone : ∀ u ∈ cs, u.oneCell' = true := hrep.leaves hel.leaf
        have hylen : 0 < ys.length := List.length_pos_iff.2 hne
        have hsrc : Src P i.size t (.slice A ys.length c) ys.length cs w := by
          cases cs with
          | nil =>
            have h0 : ys.length = 0 := by
              rcases Nat.mul_eq_zero.1 (by simpa using hcl.symm) with h0 | h0
              · exact h0
              · exact absurd h0 hsz0
            omega
          | cons u0 us =>
            obtain ⟨b, o', rfl, _⟩ := hcell 0 u0 rfl
            refine Src.ofSlice (w := w) hu ⟨b, o', none⟩ ys.length c (u0 :: us) hcl (fun j u hj => ?_) hone
            obtain ⟨b', o'', e, hcc⟩ := hcell j u hj
            cases e
            rw [add_plain]; exact hcc
        revert rs
        generalize hxv : a.eval x = v
        intro rs
        cases rs with
        | lcap hc0 hz0 hf0 hl0 hs0 hn0 hm0 =>
          rename_i cs0 A0 n0 sz0
          subst hn0
          have hcl0 : cs0.length = xs.length * i.size := by rw [hc0.length, flat_length hallx]
          have hold : (Builtin.firstCells i.size xs.length (.slice A0 xs.length xs.length)).run P w.drew = .ok cs0.toArray w.drew := by
            cases A0 with
            | none =>
              have : cs0 = [] := by
                cases cs0 with
                | nil => rfl
                | cons u us =>
                  obtain ⟨b, o', e, _⟩ := hs0 0 u rfl
                  cases e
              subst this
              exact run_firstCells_none w.drew i.size _ _ _
            | some ad =>
              refine run_firstCells_some w.drew i.size xs.length ad _ _ cs0 hcl0 fun j u hj => ?_
              obtain ⟨b, o', e, hst⟩ := hs0 j u hj
              cases e
              show w.cell? _ = _
              rw [add_plain]
              exact hr.mr.stab _ _ _ hst
          have hmax' : xs.length + ys.length ≤ 9223372036854775807 := by simp only [maxLen] at hmax; omega
          have hrun := run_append_grow_src (P := P) w t t o.type e i zv hu hi hzv A0 xs.length xs.length cs0 hold (.slice A ys.length c) ys.length cs hsrc (by omega) (by omega) (growslice_fits (by omega) hb)
          have hge := grownCap_ge w (xs.length + ys.length) xs.length e
          have hcm := grownCap_le_maxLen w (xs.length + ys.length) xs.length e hmax
          generalize hcap : grownCap w (xs.length + ys.length) xs.length e = cap at hrun hge hcm
          have hlen : (cs0 ++ cs).length = (xs ++ ys).length * i.size := by rw [List.length_append, hcl0, hcl, List.length_append, Nat.add_mul]
          have hrow : RowIs G site (w.drew.alloc (.cells ((cs0 ++ cs).toArray ++ Builtin.zeroCells zv.cells (cap - (xs.length + ys.length))) e)) w.heap.size cap i.size (xs ++ ys) := by
            refine ⟨⟨_, Soft.new w.drew _ e hte, ?_, ?_⟩, by rw [List.length_append]; exact hge, hcm⟩
            · simp only [Array.size_append, List.size_toArray, size_zeroCells, hz, hlen, List.length_append, ← Nat.add_mul]
              congr 1
              omega
            · simp only [Array.toList_append]
              rw [← hlen, List.take_left, flat_append]
              exact hc0.append hrep
          have hels : Elems i.size (xs ++ ys) := by
            refine ⟨fun u hu => ?_, ?_, ?_⟩
            · rcases List.mem_append.1 hu with hu | hu
              · exact hallx u hu
              · exact hall u hu
            · rw [flat_append, rfL_append, hf0, hel.rf]; rfl
            · rw [flat_append, List.all_append, hl0, hel.leaf]; rfl
          have hgl := newGen_lt hr.mr hro
          have hl0' : 0 < st.m.length := List.length_pos_iff.2 hr.ne
          obtain ⟨hr', he⟩ := hr.vecput (w' := w.drew.alloc (.cells ((cs0 ++ cs).toArray ++ Builtin.zeroCells zv.cells (cap - (xs.length + ys.length))) e)) (cap := cap) (b := some w.heap.size) hl0' hro hgl rfl rfl rfl (by simp) (fun k hk _ => RowKit.Below.heap_alloc w.drew _ k hk) (fun k e => by cases e; exact .inr (Nat.le_refl _)) hels (.inr ⟨_, rfl, hrow⟩)
          have hexec : (execOp a.eval o).run P w = .ok (.value (.slice (some ⟨w.heap.size, 0, none⟩) (xs.length + ys.length) cap)) (w.drew.alloc (.cells ((cs0 ++ cs).toArray ++ Builtin.zeroCells zv.cells (cap - (xs.length + ys.length))) e)) := by
            simp only [execOp, ho, resolve, invoke, builtin, Sem.run_bind, Sem.run_pure, Result.andThen_ok, List.map_toArray, List.map_cons, List.map_nil, hyv, hxv, hrun]
          unfold Oper.wp
          rw [hexec]
          have hd' : o.dst = d := hd
          show K (a.put o.dst _) _
          rw [hd']
          exact hK _ _ _ _ h (hr'.put hdN (.vec rfl (Nat.le_of_eq (by simp [Gh.row])) fun _ => .inr ⟨w.heap.size, ⟨w.heap.size, 0, none⟩, cap, by simp [Gh.row], by simp [Gh.row]; exact hge, rfl, hge, hcm, fun _ => by simp [Gh.row], fun _ => by simp⟩)) he
    | _ => simp [hu] at hty

/-- A slice compared with nil: of an empty list both answers are to be reckoned with. -/
theorem AOps.isnil {d : Option Nat} {neg : Bool} {r : RA} {its : List Item} {ys : List AV} (hx : elemsOf st.m (r.ev st.f) = some ys)
    (h0 : r.ev st.f ≠ .nils → AOps P N its { st with f := updO st.f d (.bool neg) } Q) (h1 : (r.ev st.f = .nils ∨ flat ys = []) → AOps P N its { st with f := updO st.f d (.bool (!neg)) } Q) : AOps P N (⟨d, .isnil neg r, none⟩ :: its) st Q := by
  refine AOps.step rfl fun G B a w o hr hd hdN hc K QQ hK => ?_
  cases ho : o.op <;> rw [ho] at hc <;> simp only [chkRO, Bool.false_eq_true, Bool.and_eq_true, beq_iff_eq] at hc
  rename_i b t x y yt
  obtain ⟨⟨⟨hty, rfl⟩, hcx⟩, hcy⟩ := hc
  have hrx := chkA_ok hr hcx
  obtain ⟨A, c, hv, sz, cs, hrep, _, hcell⟩ := elemsOf_ok hr hx hrx
  have hry := chkA_ok hr hcy
  have hyv : a.eval y = .slice none 0 0 := by
    revert hry
    generalize a.eval y = u
    intro hry
    have hry : Rep G .nils u := hry
    cases hry
    rfl
  split at hty
  case h_2 => cases hty
  rename_i e hu
  have hd' : o.dst = d := hd
  have hguard : (eqGuard (bif neg then .neq else .eql) t x y (a.eval x) (a.eval y)).run P w = .ok () w := by
    rw [hv, hyv]; cases neg <;> simp [eqGuard]
  have fin : ∀ q : Bool, AOps P N its { st with f := updO st.f d (.bool q) } Q → (binOp (bif neg then .neq else .eql) t (a.eval x) (a.eval y)).run P w = .ok (.bool q) w → o.wp P a w K QQ := by
    intro q hq hrun
    have hexec : (execOp a.eval o).run P w = .ok (.value (.bool q)) w := by
      simp only [execOp, ho, Sem.run_bind, hguard, hrun, Result.andThen_ok]
      rfl
    unfold Oper.wp
    rw [hexec]
    show K (a.put o.dst _) w
    rw [hd']
    exact hK _ _ _ _ hq (hr.put hdN (.bool _)) (Ext.refl 1 G w)
  have key : (binOp (bif neg then .neq else .eql) t (a.eval x) (a.eval y)).run P w = .ok (.bool (bif A.isNone then !neg else neg)) w := by
    rw [hv, hyv]
    cases neg
    · rw [show (bif false then BinOp.neq else .eql) = .eql from rfl, (run_slice_nil hu A _ _).1]; cases A <;> rfl
    · rw [show (bif true then BinOp.neq else .eql) = .neq from rfl, (run_slice_nil hu A _ _).2]; cases A <;> rfl
  cases A with
  | none =>
    refine fin _ (h1 (.inr ?_)) key
    have hcs : cs = [] := by
      cases cs with
      | nil => rfl
      | cons u cs =>
        obtain ⟨b, o, e, _⟩ := hcell 0 u rfl
        cases e
    subst hcs
    cases hf : flat ys with
    | nil => rfl
    | cons z zs => rw [hf] at hrep; cases hrep
  | some A =>
    refine fin _ (h0 fun e => ?_) key
    rw [e] at hrx
    rw [hv] at hrx
    cases hrx

theorem BV.zero {y : Operand} (h : isZ y = true) (a : Act) (d : Nat) : BV (some (a.eval y)) d 0 := by
  unfold isZ at h
  split at h
  · rename_i k n
    simp only [beq_iff_eq] at h
    subst h
    exact .inr ⟨k, 0, rfl, Int.le_refl _, rfl⟩
  · cases h

/-- x[:0:0]: an empty row of our own. -/
theorem AOps.slc0 {d : Option Nat} {site sz : Nat} {r : RA} {its : List Item} {ys : List AV} (hx : elemsOf st.m (r.ev st.f) = some ys) (hro : rowOrNone (look st.m 0 site) = true)
    (h : AOps P N its { st with m := Am.put st.m 0 site (.vec (newGen st.m 0 site) sz []), f := updO st.f d (.vec 0 site (newGen st.m 0 site) 0 0 false) } Q) : AOps P N (⟨d, .slc0 site sz r, none⟩ :: its) st Q := by
  refine AOps.step rfl fun G B a w o hr hd hdN hc K QQ hK => ?_
  cases ho : o.op <;> rw [ho] at hc <;> simp only [chkRO, Bool.false_eq_true] at hc
  rename_i t x olo ohi omx
  cases olo with
  | some _ => simp at hc
  | none =>
  cases ohi with
  | none => simp at hc
  | some y =>
  cases omx with
  | none => simp at hc
  | some y' =>
  simp only [Bool.and_eq_true, decide_eq_true_eq] at hc
  obtain ⟨⟨⟨⟨hty, hcx⟩, hz1⟩, hz2⟩, hs2⟩ := hc
  cases hu : P.underlying t with
  | none => simp [hu] at hty
  | some dd =>
    cases dd with
    | slice e =>
      simp only [hu, Option.any_eq_true, beq_iff_eq] at hty
      obtain ⟨i, hi, rfl⟩ := hty
      obtain ⟨A, c, hv, _⟩ := elemsOf_ok hr hx (chkA_ok hr hcx)
      have hb := run_bounds (P := P) (w := w) true ys.length c (lo := none) (hi := some (a.eval y)) (mx := some (a.eval y')) (.inl ⟨rfl, rfl⟩) (BV.zero hz1 a _) (BV.zero hz2 a _) (fun _ => rfl) (Nat.le_refl _) (Nat.le_refl _) (Nat.zero_le _)
      have hrun : (execOp a.eval o).run P w = .ok (.value (.slice A 0 0)) w := by
        simp only [execOp, ho, Sem.run_bind, hv, Option.map_none, Option.map_some, Instr.sliceAt, run_underlying hu, Result.andThen_ok, Instr.slice, hb, run_sizeOf hi, Sem.run_pure]
        rfl
      have hels : Elems i.size [] := ⟨by simp, rfl, rfl⟩
      have hgl := newGen_lt hr.mr hro
      have hl0 : 0 < st.m.length := List.length_pos_iff.2 hr.ne
      obtain ⟨hr', he⟩ := hr.vecput (w' := w) (cap := 0) (b := none) hl0 hro hgl rfl rfl rfl (Nat.le_refl _) (fun k hk _ => rfl) (fun k e => by cases e) hels (.inl ⟨rfl, rfl⟩)
      unfold Oper.wp
      rw [hrun]
      have hd' : o.dst = d := hd
      show K (a.put o.dst _) _
      rw [hd']
      exact hK _ _ _ _ h (hr'.put hdN (.vec rfl (Nat.le_of_eq (by simp [Gh.row])) fun _ => .inl ⟨by simp [Gh.row], rfl, rfl, A, rfl, fun h => by omega⟩)) he
    | _ => simp [hu] at hty

end

end Go.Proofs.YtalalolgdekelaaGreatDoor.Am

/- Rows that are made whole (make, bytes of a text), texts out of a builder's row, deferred calls. -/
namespace Go.Proofs.YtalalolgdekelaaGreatDoor.Am
open Go

/-- An element out of its zero cells. -/
def zeroE (sz : Nat) (z : List AV) : AV := if sz = 1 then z.headD .top else .agg z

theorem zeroE_cells {sz : Nat} {z : List AV} (hz : z.length = sz) (hl : z.all AV.leaf = true) : (zeroE sz z).cells = z := by
  unfold zeroE
  split
  · rename_i h
    subst h
    match z, hz with
    | [x], _ =>
      show x.cells = [x]
      exact AV.leaf_cells (by simpa using hl)
  · rfl

theorem flat_replicate {sz : Nat} {z : List AV} (hz : z.length = sz) (hl : z.all AV.leaf = true) : ∀ (n : Nat), flat (List.replicate n (zeroE sz z)) = (List.replicate n z).flatten
  | 0 => rfl
  | n + 1 => by
    rw [List.replicate_succ, flat_cons, zeroE_cells hz hl, flat_replicate hz hl n]
    rfl

theorem flatten_at {z : List AV} (hz : z.length ≠ 0) : ∀ (n j : Nat), j < n * z.length → (List.replicate n z).flatten[j]? = z[j % z.length]?
  | 0, j, h => by omega
  | n + 1, j, h => by
    rw [List.replicate_succ, List.flatten_cons]
    by_cases hj : j < z.length
    · rw [List.getElem?_append_left hj, Nat.mod_eq_of_lt hj]
    · rw [List.getElem?_append_right (by omega), flatten_at hz n (j - z.length) (by rw [Nat.succ_mul] at h; omega)]
      rw [← Nat.mod_eq_sub_mod (by omega)]

theorem mem_replicate_elems {sz : Nat} {z : List AV} (hz : z.length = sz) (hf : AV.rfL z = true) (hl : z.all AV.leaf = true) (n : Nat) : Elems sz (List.replicate n (zeroE sz z)) := by
  refine ⟨fun x hx => ?_, ?_, ?_⟩
  · rw [(List.mem_replicate.1 hx).2, zeroE_cells hz hl, hz]
  · rw [flat_replicate hz hl]
    rw [rfL_all] at hf ⊢
    rw [List.all_eq_true] at hf ⊢
    intro x hx
    obtain ⟨l, h1, h2⟩ := List.mem_flatten.1 hx
    rw [(List.mem_replicate.1 h1).2] at h2
    exact hf x h2
  · rw [flat_replicate hz hl]
    rw [List.all_eq_true] at hl ⊢
    intro x hx
    obtain ⟨l, h1, h2⟩ := List.mem_flatten.1 hx
    rw [(List.mem_replicate.1 h1).2] at h2
    exact hl x h2

section
variable {P : Program} {N : Nat} {st : St} {Q : St → Prop}

/-- make. -/
theorem AOps.mk {d : Option Nat} {site el sz bytes : Nat} {z : List AV} {l c : RA} {its : List Item} {kl kc : IntKind} {n m : Nat} (hl : l.ev st.f = .int kl (n : Int)) (hcv : c.ev st.f = .int kc (m : Int)) (hnm : n ≤ m) (hm : m ≤ 9223372036854775807) (hb : bytes * m ≤ 281474976710656)
    (hro : rowOrNone (look st.m 0 site) = true)
    (h : AOps P N its { st with m := Am.put st.m 0 site (.vec (newGen st.m 0 site) sz (List.replicate n (zeroE sz z))), f := updO st.f d (.vec 0 site (newGen st.m 0 site) 0 n false) } Q) : AOps P N (⟨d, .mk site el sz bytes z l c, none⟩ :: its) st Q := by
  refine AOps.step rfl fun G B a w o hr hd hdN hc K QQ hK => ?_
  cases ho : o.op <;> rw [ho] at hc <;> simp only [chkRO, Bool.false_eq_true] at hc
  rename_i t x y
  simp only [Bool.and_eq_true] at hc
  obtain ⟨⟨hty, hcl⟩, hcc⟩ := hc
  cases hu : P.underlying t with
  | none => simp [hu] at hty
  | some dd =>
    cases dd with
    | slice e =>
      simp only [hu, Bool.and_eq_true, Option.any_eq_true, bne_iff_ne, beq_iff_eq] at hty
      obtain ⟨⟨⟨⟨⟨⟨i, hi, ⟨rfl, rfl⟩, hz⟩, hsz0⟩, rfl⟩, hte⟩, hrf⟩, hlf⟩ := hty
      cases hzv : i.zero with
      | none => rw [hzv] at hz; cases hz
      | some zv =>
        rw [hzv] at hz
        simp only [Bool.and_eq_true, beq_iff_eq] at hz
        have rl := chkA_ok hr hcl
        have rc := chkA_ok hr hcc
        rw [hl] at rl
        rw [hcv] at rc
        have hxv : a.eval x = .int kl (n : Int) := by
          revert rl
          generalize a.eval x = v
          intro rl
          cases rl
          rfl
        have hyv : a.eval y = .int kc (m : Int) := by
          revert rc
          generalize a.eval y = v
          intro rc
          cases rc
          rfl
        have hbb : (i.bytes : Int) * (m : Int) ≤ 281474976710656 := by
          have h : ((i.bytes * m : Nat) : Int) ≤ 281474976710656 := by omega
          rwa [Int.natCast_mul] at h
        have hrun := run_make (P := P) w t e i zv hu hi hzv kl kc (n : Int) (m : Int) (by omega) (by omega) hbb (by omega)
        simp only [Int.toNat_natCast] at hrun
        have rz : RepL G z zv.cells.toList := isCL_ok hz.1
        have hzl : zv.cells.size = i.size := by
          have := rz.length
          simp only [Array.length_toList] at this
          omega
        have hsize : (madeCells zv.cells (m * i.size)).size = m * i.size := size_madeCells _ _
        have hrow : RowIs G site (w.alloc (.cells (madeCells zv.cells (m * i.size)) e)) w.heap.size m i.size (List.replicate n (zeroE i.size z)) := by
          refine ⟨⟨_, Soft.new w _ e hte, hsize, ?_⟩, by simpa using hnm, by simp only [maxLen]; omega⟩
          rw [flat_replicate hz.2 hlf, List.length_replicate]
          have hfl : ((List.replicate n z).flatten).length = n * i.size := by simp [hz.2]
          have hle : n * i.size ≤ m * i.size := Nat.mul_le_mul_right _ hnm
          refine RepL.of_all (by rw [hfl, List.length_take, Array.length_toList, hsize]; exact Nat.min_eq_left hle) fun j u v hju hjv => ?_
          have hj : j < n * i.size := by
            rw [← hfl]
            exact (List.getElem?_eq_some_iff.1 hju).1
          rw [flatten_at (by rw [hz.2]; exact hsz0) n j (by rw [hz.2]; exact hj), hz.2] at hju
          have hmod : j % i.size < i.size := Nat.mod_lt _ (by omega)
          obtain ⟨v', hv', hrep⟩ := rz.at_ hju
          rw [List.getElem?_take_of_lt hj] at hjv
          have : v = v' := by
            simp only [madeCells, Array.toList_map, Array.toList_range, List.getElem?_map] at hjv
            rw [List.getElem?_range (by omega)] at hjv
            simp only [Option.map_some, Option.some.injEq] at hjv
            rw [hzl] at hjv
            rw [Array.getElem?_toList] at hv'
            rw [Array.getElem!_eq_getD, Array.getD_eq_getD_getElem?, hv'] at hjv
            simp only [Option.getD_some] at hjv
            exact hjv.symm
          rw [this]; exact hrep
        have hgl := newGen_lt hr.mr hro
        have hl0 : 0 < st.m.length := List.length_pos_iff.2 hr.ne
        obtain ⟨hr', he⟩ := hr.vecput (w' := w.alloc (.cells (madeCells zv.cells (m * i.size)) e)) (cap := m) (b := some w.heap.size) hl0 hro hgl rfl rfl rfl (by simp) (fun k hk _ => RowKit.Below.heap_alloc w _ k hk) (fun k e => by cases e; exact .inr (Nat.le_refl _)) (mem_replicate_elems hz.2 hrf hlf n) (.inr ⟨_, rfl, hrow⟩)
        have hexec : (execOp a.eval o).run P w = .ok (.value (.slice (some ⟨w.heap.size, 0, none⟩) n m)) (w.alloc (.cells (madeCells zv.cells (m * i.size)) e)) := by
          simp only [execOp, ho, Sem.run_bind, hxv, hyv, hrun, Result.andThen_ok]
          rfl
        unfold Oper.wp
        rw [hexec]
        have hd' : o.dst = d := hd
        show K (a.put o.dst _) _
        rw [hd']
        refine hK _ _ _ _ h (hr'.put hdN (.vec rfl (Nat.le_of_eq (by simp [Gh.row])) fun _ => .inr ⟨w.heap.size, ⟨w.heap.size, 0, none⟩, m, by simp [Gh.row], by simp [Gh.row]; exact hnm, rfl, hnm, by simp only [maxLen]; omega, fun _ => by simp [Gh.row], fun _ => by simp⟩)) he
    | _ => simp [hu] at hty

/-- The bytes of a text, in a row of their own. -/
theorem AOps.s2b {d : Option Nat} {site el : Nat} {r : RA} {its : List Item} {s : List UInt8} (hs : r.ev st.f = .str s) (hm : s.length ≤ 9223372036854775807) (hro : rowOrNone (look st.m 0 site) = true)
    (h : AOps P N its { st with m := Am.put st.m 0 site (.vec (newGen st.m 0 site) 1 (bytesAV s)), f := updO st.f d (.vec 0 site (newGen st.m 0 site) 0 s.length false) } Q) : AOps P N (⟨d, .s2b site el r, none⟩ :: its) st Q := by
  refine AOps.step rfl fun G B a w o hr hd hdN hc K QQ hK => ?_
  cases ho : o.op <;> rw [ho] at hc <;> simp only [chkRO, Bool.false_eq_true] at hc
  rename_i src dst x
  simp only [Bool.and_eq_true] at hc
  obtain ⟨⟨hst, hty⟩, hcx⟩ := hc
  cases hu : P.underlying dst with
  | none => simp [hu] at hty
  | some dd =>
    cases dd with
    | slice e =>
      simp only [hu, Bool.and_eq_true, beq_iff_eq] at hty
      obtain ⟨⟨hint, rfl⟩, hte⟩ := hty
      have he8 : P.underlying e = some (.int .u8) := by
        unfold isInt at hint
        split at hint
        · rename_i k hk
          simp only [beq_iff_eq] at hint
          rw [hk, ← hint]
        · cases hint
      have rx := chkA_ok hr hcx
      rw [hs] at rx
      have hxv : a.eval x = .string ⟨⟨s⟩⟩ := by
        revert rx
        generalize a.eval x = v
        intro rx
        cases rx
        rfl
      have hrun := run_bytes_of_string (P := P) w src dst e ⟨⟨s⟩⟩ (isStr_ok hst) hu he8
      have hsz : (⟨⟨s⟩⟩ : ByteArray).size = s.length := rfl
      rw [hsz] at hrun
      have hge := grownCap_ge w s.length 0 e
      have hcm := grownCap_le_maxLen w s.length 0 e (by simp only [maxLen]; omega)
      generalize hcap : grownCap w s.length 0 e = cap at hrun hge hcm
      have hrs : (bytesRow ⟨⟨s⟩⟩ cap).size = cap * 1 := by
        simp only [bytesRow, Array.size_append, Array.size_map, Array.size_replicate, hsz, List.size_toArray]
        omega
      have hrow : RowIs G site (w.drew.alloc (.cells (bytesRow ⟨⟨s⟩⟩ cap) e ((bytesRow ⟨⟨s⟩⟩ cap).size, (bytesRow ⟨⟨s⟩⟩ cap).size + 1))) w.heap.size cap 1 (bytesAV s) := by
        refine ⟨⟨bytesRow ⟨⟨s⟩⟩ cap, ⟨e, _, _, heap_alloc_new w.drew _, hte, fun o ho => by omega⟩, hrs, ?_⟩, by simpa [bytesAV] using hge, hcm⟩
        rw [bytesAV_flat]
        have : (bytesRow ⟨⟨s⟩⟩ cap).toList.take ((bytesAV s).length * 1) = s.map fun b => Value.int .u8 (b.toNat : Int) := by
          have hl : (bytesAV s).length * 1 = (s.map fun b => Value.int .u8 (b.toNat : Int)).length := by simp [bytesAV]
          rw [hl]
          simp only [bytesRow, Array.toList_append, Array.toList_map]
          exact List.take_left
        rw [this]
        exact bytesAV_rep s
      have hgl := newGen_lt hr.mr hro
      have hl0 : 0 < st.m.length := List.length_pos_iff.2 hr.ne
      obtain ⟨hr', he⟩ := hr.vecput (w' := w.drew.alloc (.cells (bytesRow ⟨⟨s⟩⟩ cap) e ((bytesRow ⟨⟨s⟩⟩ cap).size, (bytesRow ⟨⟨s⟩⟩ cap).size + 1))) (cap := cap) (b := some w.heap.size) hl0 hro hgl rfl rfl rfl (by simp) (fun k hk _ => RowKit.Below.heap_alloc w.drew _ k hk) (fun k e => by cases e; exact .inr (Nat.le_refl _)) (bytesAV_elems s) (.inr ⟨_, rfl, hrow⟩)
      have hexec : (execOp a.eval o).run P w = .ok (.value (.slice (some ⟨w.heap.size, 0, none⟩) s.length cap)) (w.drew.alloc (.cells (bytesRow ⟨⟨s⟩⟩ cap) e ((bytesRow ⟨⟨s⟩⟩ cap).size, (bytesRow ⟨⟨s⟩⟩ cap).size + 1))) := by
        simp only [execOp, ho, Sem.run_bind, hxv, hrun, Result.andThen_ok]
        rfl
      unfold Oper.wp
      rw [hexec]
      have hd' : o.dst = d := hd
      show K (a.put o.dst _) _
      rw [hd']
      refine hK _ _ _ _ h (hr'.put hdN (.vec rfl (Nat.le_of_eq (by simp [Gh.row])) fun _ => .inr ⟨w.heap.size, ⟨w.heap.size, 0, none⟩, cap, by simp [Gh.row], by simp [Gh.row]; exact hge, rfl, hge, hcm, fun _ => by simp [Gh.row], fun _ => by simp⟩)) he
    | _ => simp [hu] at hty

/-- A new block that is none of ours. -/
theorem Rel.other {G : Gh} {B : Nat} {a : Act} {w : World} (hr : Rel G B N st a w) (o : Obj) : Rel G B N st a (w.alloc o) ∧ Ext 1 G w G (w.alloc o) := by
  have hold : ∀ b, b < w.heap.size → (w.alloc o).heap[b]? = w.heap[b]? := fun b hb => RowKit.Below.heap_alloc w _ b hb
  have hs : ∀ b k v, G.stab b k = some v → (w.alloc o).cell? ⟨b, k, none⟩ = some v := fun b k v e => by
    rw [World.cell?_of_block (a := ⟨b, k, none⟩) (hold b (World.block_lt_of_cell? w (a := ⟨b, k, none⟩) (hr.mr.stab b k v e)))]
    exact hr.mr.stab b k v e
  have hmr : MR G st.m (w.alloc o) := hr.mr.kept (stab := G.stab) hold hs (fun _ _ _ h => h) fun b hb => (hr.mr.mine hb).2
  refine ⟨⟨hmr, hr.size, hr.slots, hr.ds, hr.base, Nat.le_trans hr.top (by simp), hr.ne⟩, rfl, rfl, rfl, by simp, fun _ _ _ h => h, fun _ _ _ => rfl, fun _ _ => Nat.le_refl _, fun _ _ _ => ⟨rfl, rfl, rfl⟩, fun b hb _ => ⟨hold b hb, fun _ => rfl⟩, fun _ h => .inl h, fun l s _ h => .inl ⟨l, s, Nat.le_refl _, h⟩⟩

theorem AOps.usd {d : Option Nat} {r : RA} {its : List Item} {l s g n : Nat} {sz : Nat} {xs : List AV} (hs2 : 2000 ≤ s) (hx : r.ev st.f = .vec l s g 0 n false) (hlk : look st.m l s = .vec g sz xs)
    (h : AOps P N its { st with f := updO st.f d (if n = 0 then .anyp else .vptr l s g 0 0) } Q) : AOps P N (⟨d, .usd r, none⟩ :: its) st Q := by
  refine AOps.stepT rfl fun G B a w o hr hd hdN hc hT K QQ hK => ?_
  cases ho : o.op <;> rw [ho] at hc <;> simp only [chkRO, Bool.false_eq_true] at hc
  rename_i cl
  split at hc
  case h_2 => cases hc
  rename_i o1 x ts o2
  cases o2
  simp only [chkT] at hT
  split at hT
  case h_2 => cases hT
  rename_i pe hpe
  have rx := chkA_ok hr hc
  rw [hx] at rx
  have hd' : o.dst = d := hd
  have fin : ∀ (v : Value) (w' : World), (Builtin.unsafeSliceData_ ts o.type #[a.eval x]).run P w = .ok v w' → (Rel G B N st a w' ∧ Ext 1 G w G w') → Rep G (if n = 0 then .anyp else .vptr l s g 0 0) v → o.wp P a w K QQ := by
    intro v w' hrun hrel hrep
    have hexec : (execOp a.eval o).run P w = .ok (.value v) w' := by
      simp only [execOp, ho, resolve, invoke, builtin, Sem.run_bind, Sem.run_pure, Result.andThen_ok, List.map_toArray, List.map_cons, List.map_nil, hrun]
    unfold Oper.wp
    rw [hexec]
    show K (a.put o.dst v) w'
    rw [hd']
    exact hK _ _ _ _ h (hrel.1.put hdN hrep) hrel.2
  obtain ⟨e1, e2, e3, e4⟩ := hr.mr.vec l s g sz xs hlk
  generalize a.eval x = v at rx fin
  cases rx with
  | vec hone hg hh =>
    rcases hh e1.symm with ⟨hvm, _, rfl, A0, rfl, hA0⟩ | ⟨b, A, c, hvm, hok, rfl, hkc, hcm, hq, hA⟩
    · rw [hA0 hs2] at fin
      exact fin _ w (Lib.run_unsafeSliceData_nil w _ _ 0 0) ⟨hr, Ext.refl 1 G w⟩ (by rw [if_pos rfl]; exact .anyp none)
    · have hA' := hA ⟨.inr rfl, .inl rfl⟩
      simp only [Nat.zero_mul] at hA'
      subst hA'
      by_cases hc0 : c = 0
      · subst hc0
        have hn : n = 0 := by omega
        subst hn
        rcases e4 with ⟨e, _⟩ | ⟨b', e, hrow⟩
        · rw [hvm] at e; cases e
        · rw [hvm] at e; cases e
          obtain ⟨cur, ⟨t', lo, hi, hheap, _⟩, _⟩ := hrow.cur
          have hsh : w.shape? b = some (t', cur.size) := by unfold World.shape?; rw [hheap]
          exact fin _ _ (Lib.run_unsafeSliceData_zero w _ _ pe hpe ⟨b, 0, none⟩ 0 _ hsh) (hr.other _) (by rw [if_pos rfl]; exact .anyp _)
      · refine fin _ w (Lib.run_unsafeSliceData_row w _ _ _ _ _ hc0) ⟨hr, Ext.refl 1 G w⟩ ?_
        by_cases hn : n = 0
        · rw [if_pos hn]; exact .anyp _
        · rw [if_neg hn]
          exact .vptr rfl hg fun _ => ⟨b, hvm, by simp⟩

theorem AOps.ustr0 {d : Option Nat} {el : Nat} {p r : RA} {its : List Item} (hp : p.ev st.f = .anyp) (hx : r.ev st.f = .int .i64 0)
    (h : AOps P N its { st with f := updO st.f d (.str []) } Q) : AOps P N (⟨d, .ustr el p r, none⟩ :: its) st Q := by
  refine AOps.step rfl fun G B a w o hr hd hdN hc K QQ hK => ?_
  cases ho : o.op <;> rw [ho] at hc <;> simp only [chkRO, Bool.false_eq_true] at hc
  rename_i cl
  split at hc
  case h_2 => cases hc
  rename_i o1 x y pt it o2
  cases o2
  simp only [Bool.and_eq_true] at hc
  obtain ⟨⟨h1, h2⟩, h3⟩ := hc
  have r1 := chkA_ok hr h2
  have r2 := chkA_ok hr h3
  rw [hp] at r1
  rw [hx] at r2
  have hyv : a.eval y = .int .i64 0 := by
    revert r2
    generalize a.eval y = v
    intro r2
    cases r2
    rfl
  obtain ⟨q, hxv⟩ : ∃ q, a.eval x = .pointer q := by
    revert r1
    generalize a.eval x = v
    intro r1
    cases r1
    exact ⟨_, rfl⟩
  have hrun := Lib.run_unsafeString_none (P := P) w pt it o.type q
  have hexec : (execOp a.eval o).run P w = .ok (.value (.string .empty)) w := by
    simp only [execOp, ho, resolve, invoke, builtin, Sem.run_bind, Sem.run_pure, Result.andThen_ok, List.map_toArray, List.map_cons, List.map_nil, hxv, hyv, hrun]
  unfold Oper.wp
  rw [hexec]
  have hd' : o.dst = d := hd
  show K (a.put o.dst _) _
  rw [hd']
  exact hK _ _ _ _ h (hr.put hdN (.str [])) (Ext.refl 1 G w)

theorem AOps.ustr {d : Option Nat} {el : Nat} {p r : RA} {its : List Item} {l g n : Nat} {xs : List AV} {s : List UInt8} (hp : p.ev st.f = .vptr l (el + 2000) g 0 0) (hx : r.ev st.f = .int .i64 (n : Int)) (hlk : look st.m l (el + 2000) = .vec g 1 xs) (hn : n ≤ xs.length) (hn0 : n ≠ 0) (hs : xs.take n = bytesAV s)
    (h : AOps P N its { st with m := Am.put st.m l (el + 2000) (.vec (g + 1) 1 []), f := updO st.f d (.str s) } Q) : AOps P N (⟨d, .ustr el p r, none⟩ :: its) st Q := by
  refine AOps.step rfl fun G B a w o hr hd hdN hc K QQ hK => ?_
  cases ho : o.op <;> rw [ho] at hc <;> simp only [chkRO, Bool.false_eq_true] at hc
  rename_i cl
  split at hc
  case h_2 => cases hc
  rename_i o1 x y pt it o2
  cases o2
  simp only [Bool.and_eq_true] at hc
  obtain ⟨⟨h1, h2⟩, h3⟩ := hc
  split at h1
  case h_2 => cases h1
  rename_i e hpt
  simp only [Bool.and_eq_true, beq_iff_eq] at h1
  obtain ⟨rfl, hco⟩ := h1
  have r1 := chkA_ok hr h2
  have r2 := chkA_ok hr h3
  rw [hp] at r1
  rw [hx] at r2
  have hyv : a.eval y = .int .i64 (n : Int) := by
    revert r2
    generalize a.eval y = v
    intro r2
    cases r2
    rfl
  obtain ⟨e1, e2, e3, e4⟩ := hr.mr.vec l (e + 2000) g 1 xs hlk
  have hsl : s.length = n := by
    have := congrArg List.length hs
    simp only [List.length_take, bytesAV, List.length_map] at this
    omega
  obtain ⟨b, hvm, hrow⟩ : ∃ b, G.vm l (e + 2000) = some b ∧ RowIs G (e + 2000) w b (G.vc l (e + 2000)) 1 xs := by
    rcases e4 with ⟨_, e⟩ | h'
    · subst e; simp at hn; exact absurd hn hn0
    · exact h'
  have hxv : a.eval x = .pointer (some ⟨b, 0, none⟩) := by
    revert r1
    generalize a.eval x = v
    intro r1
    cases r1 with
    | vptr _ _ hh =>
      obtain ⟨b', e', rfl⟩ := hh e1.symm
      rw [hvm] at e'; cases e'
      simp
  obtain ⟨⟨cur, ⟨t', lo, hi, hheap, hty, hfr⟩, hcsz, hrep⟩, hle, hmx⟩ := hrow
  have ht : t' = e := tyOk_eq (s := e + 2000) hty (by simp [tyOk]) (by omega)
  subst ht
  have hsh : w.shape? b = some (t', cur.size) := by unfold World.shape?; rw [hheap]
  have hne : s ≠ [] := by rintro rfl; simp at hsl; exact hn0 hsl.symm
  have hcell : ∀ j u, s[j]? = some u → w.cell? ((⟨b, 0, none⟩ : Addr).add j) = some (.int .u8 u.toNat) := by
    intro j u hj
    rw [add_plain, Nat.zero_add, cell_of_row w b j cur t' (lo, hi) hheap, ← Array.getElem?_toList]
    have hjl : j < s.length := (List.getElem?_eq_some_iff.1 hj).1
    have hrep' := hrep.take n
    rw [Nat.mul_one, List.take_take, Nat.min_eq_left hn] at hrep'
    have hft : (flat xs).take n = bytesAV s := by
      have := flat_take e3.size n
      rw [Nat.mul_one] at this
      rw [this, hs, bytesAV_flat]
    rw [hft] at hrep'
    have hb : (bytesAV s)[j]? = some (.int .u8 (u.toNat : Int)) := by simp [bytesAV, hj]
    obtain ⟨v, hv, hr1⟩ := hrep'.at_ hb
    cases hr1
    rw [List.getElem?_take] at hv
    split at hv
    · exact hv
    · cases hv
  have hlc : s.length ≤ cur.size := by rw [hcsz, hsl]; omega
  have hrun := Lib.run_unsafeString_row (P := P) w pt it o.type t' hpt hco b cur.size hsh s hne hlc (by simp only [maxLen] at hmx; omega) hcell
  rw [hsl] at hrun
  have hexec : (execOp a.eval o).run P w = .ok (.value (.string ⟨s.toArray⟩)) (w.freeze ⟨b, 0, none⟩ n) := by
    simp only [execOp, ho, resolve, invoke, builtin, Sem.run_bind, Sem.run_pure, Result.andThen_ok, List.map_toArray, List.map_cons, List.map_nil, hxv, hyv, hrun]
  have hfz : (w.freeze ⟨b, 0, none⟩ n).os = w.os ∧ (w.freeze ⟨b, 0, none⟩ n).tape = w.tape ∧ (w.freeze ⟨b, 0, none⟩ n).output = w.output ∧ (w.freeze ⟨b, 0, none⟩ n).heap.size = w.heap.size ∧ ∀ k, k ≠ b → (w.freeze ⟨b, 0, none⟩ n).heap[k]? = w.heap[k]? := by
    unfold World.freeze
    split
    · exact ⟨rfl, rfl, rfl, rfl, fun _ _ => rfl⟩
    · refine ⟨rfl, rfl, rfl, by simp, fun k hk => ?_⟩
      simp only [Array.getElem?_modify]
      rw [if_neg (fun e => hk e.symm)]
  have hlm : l < st.m.length := look_lt (by rw [hlk]; simp)
  obtain ⟨hr', he⟩ := hr.vecput (w' := w.freeze ⟨b, 0, none⟩ n) (l := l) (s := t' + 2000) (g := g + 1) (sz := 1) (cap := 0) (b := none) (ys := []) hlm (by rw [hlk]; rfl) (by omega) hfz.1 hfz.2.1 hfz.2.2.1 (by rw [hfz.2.2.2.1]; exact Nat.le_refl _) (fun k _ hk => hfz.2.2.2.2 k (fun e => hk (by rw [e, hvm]))) (fun k e => by cases e) ⟨by simp, rfl, rfl⟩ (.inl ⟨rfl, rfl⟩)
  unfold Oper.wp
  rw [hexec]
  have hd' : o.dst = d := hd
  show K (a.put o.dst _) _
  rw [hd']
  exact hK _ _ _ _ h (hr'.put hdN (.str s)) he

/-- A deferred call. -/
theorem AOps.dfr {d : Option Nat} {f : RA} {args : List RA} {its : List Item} {fn : Fn} {fa fb : List AV} (hf : f.ev st.f = .fn fn fa fb)
    (h : AOps P N its { st with ds := ⟨fn, fb, fa ++ args.map (RA.ev st.f)⟩ :: st.ds, f := updO st.f d (.tup []) } Q) : AOps P N (⟨d, .dfr f args, none⟩ :: its) st Q := by
  refine AOps.step rfl fun G B a w o hr hd hdN hc K QQ hK => ?_
  cases ho : o.op <;> rw [ho] at hc <;> simp only [chkRO, Bool.false_eq_true] at hc
  rename_i cl
  split at hc
  case h_2 => cases hc
  rename_i o1 x xs ts o2
  cases o2
  simp only [Bool.and_eq_true] at hc
  have r1 := chkA_ok hr hc.1
  have r2 := chkAs_ok hr hc.2
  rw [hf] at r1
  obtain ⟨va, vb, hxv, ra, rb⟩ : ∃ va vb, a.eval x = .func fn ⟨va⟩ ⟨vb⟩ ∧ RepL G fa va ∧ RepL G fb vb := by
    revert r1
    generalize a.eval x = v
    intro r1
    cases r1 with
    | fn ha hb => exact ⟨_, _, rfl, ha, hb⟩
  have e1 : xs.map a.eval = ⟨xs.toList.map a.eval⟩ := by apply Array.ext'; simp
  have hexec : (execOp a.eval o).run P w = .ok (.defer { target := .fn fn ⟨vb⟩, args := ⟨va ++ xs.toList.map a.eval⟩ }) w := by
    simp only [execOp, ho, resolve, hxv, Deferred.ofValue, e1, Sem.run_bind, Sem.run_pure, Result.andThen_ok, List.append_toArray]
  unfold Oper.wp
  rw [hexec]
  have hd' : o.dst = d := hd
  rw [Oper.upon_defer]
  rw [hd']
  refine hK G { st with ds := ⟨fn, fb, fa ++ args.map (RA.ev st.f)⟩ :: st.ds, f := updO st.f d (.tup []) } _ w h ?_ (Ext.refl 1 G w)
  have hr2 : Rel G B N { st with ds := ⟨fn, fb, fa ++ args.map (RA.ev st.f)⟩ :: st.ds } { a with defers := { target := .fn fn ⟨vb⟩, args := ⟨va ++ xs.toList.map a.eval⟩ } :: a.defers } w :=
    ⟨hr.mr, hr.size, hr.slots, .cons (.mk rb (ra.append r2)) hr.ds, hr.base, hr.top, hr.ne⟩
  exact hr2.put hdN (.tup .nil)

end

end Go.Proofs.YtalalolgdekelaaGreatDoor.Am

/- A row of the frame that is written no more becomes a list; its site holds an empty row of a new generation. -/
namespace Go.Proofs.YtalalolgdekelaaGreatDoor.Am
open Go

/-- What a slice of a row is, once the row's cells are known to stay. -/
theorem vec_list {G G' : Gh} {m : Mem} {w : World} (h : MR G m w) {s g sz o n : Nat} {q : Bool} {xs : List AV} {v : Value} (hlk : look m 0 s = .vec g sz xs) (hle : o + n ≤ xs.length) (hr : Rep G (.vec 0 s g o n q) v)
    (hst : G.sameStab G') (hpub : ∀ b o v, G.vm 0 s = some b → w.cell? ⟨b, o, none⟩ = some v → G'.stab b o = some v) : Rep G' (.list ((xs.drop o).take n)) v := by
  obtain ⟨e1, e2, e3, e4⟩ := h.vec 0 s g sz xs hlk
  have hmem : ∀ x ∈ (xs.drop o).take n, x ∈ xs := fun x hx => List.mem_of_mem_drop (List.mem_of_mem_take hx)
  cases hr with
  | vec hone hg hh' =>
    rcases hh' e1.symm with ⟨hvm, rfl, rfl, A0, rfl, hA0⟩ | ⟨b, A, c, hvm, hok, rfl, hkc, hcm, hq, hA⟩
    · simp only [List.take_zero]
      exact .list (sz := 0) (cs := []) .nil (by simp) rfl rfl (by simp) rfl (Nat.le_refl _) (Nat.zero_le _)
    · rcases e4 with ⟨e, _⟩ | ⟨b', e, hrow⟩
      · rw [hvm] at e; cases e
      · rw [hvm] at e; cases e
        obtain ⟨cur, hsoft, hcs, hrep⟩ := hrow.cur
        have hr := (RepL.rfd hst e3.rf hrep).takeDrop (o * sz) (n * sz)
        rw [flat_drop e3.size, flat_take (fun x hx => e3.size x (List.mem_of_mem_drop hx))] at hr
        refine .list (sz := sz) hr (fun x hx => e3.size x (hmem x hx)) (rfL_sub e3.rf (flat_mem hmem)) (leaf_sub e3.leaf (flat_mem hmem)) (fun j u hu => ?_) (by simp; omega) hkc (by omega)
        rw [List.getElem?_take] at hu
        split at hu
        · rename_i hj
          rw [List.getElem?_drop, List.getElem?_take] at hu
          split at hu
          · have hk : 0 < n := by
              rcases Nat.eq_zero_or_pos n with h0 | h0
              · subst h0; simp at hj
              · exact h0
            have hovc : o < G.vc 0 s := Nat.lt_of_lt_of_le (Nat.lt_add_of_pos_right hk) hok
            have hA' := hA ⟨.inl hovc, .inr hk⟩
            rw [e2] at hA'
            refine ⟨b, o * sz, by rw [hA'], hpub b (o * sz + j) u hvm ?_⟩
            rw [hsoft.cell]
            simpa using hu
          · cases hu
        · cases hu

/-- A row of the frame is written no more: its site holds an empty row of a new generation, its slices are lists. -/
theorem Rel.pub0 {G : Gh} {B N : Nat} {st : St} {a : Act} {w : World} (h : Rel G B N st a w) {site g sz : Nat} {xs : List AV} (hlk : look st.m 0 site = .vec g sz xs) :
    ∃ G', Rel G' B N { st with m := Am.put st.m 0 site (.vec (g + 1) sz []) } a w ∧ Ext 1 G w G' w ∧ (∀ o n q v, o + n ≤ xs.length → Rep G (.vec 0 site g o n q) v → Rep G' (.list ((xs.drop o).take n)) v) ∧ G'.nm = G.nm := by
  have hl : 0 < st.m.length := List.length_pos_iff.2 h.ne
  have hro : rowOrNone (look st.m 0 site) = true := by rw [hlk]; rfl
  have hvg := (h.mr.vec 0 site g sz xs hlk).1
  obtain ⟨h1, h2⟩ := h.vecput (w' := w) (sz := sz) (cap := 0) (b := none) (g := g + 1) (ys := []) hl hro (by omega) rfl rfl rfl (Nat.le_refl _) (fun _ _ _ => rfl) (fun k e => by cases e) ⟨by simp, rfl, rfl⟩ (.inl ⟨rfl, rfl⟩)
  generalize hG1 : G.row 0 site none 0 (g + 1) sz = G1 at h1 h2
  have hst1 : G1.stab = G.stab := by rw [← hG1]; rfl
  have hnm1 : G1.nm = G.nm := by rw [← hG1]; rfl
  have hvm1 : ∀ l s, G1.vm l s = if l = 0 ∧ s = site then none else G.vm l s := by rw [← hG1]; exact fun _ _ => rfl
  have hle1 : Gle G1 (G1.pub w fun b => G.vm 0 site = some b) := Gh.pub_gle h1.mr.stab
  have nS : ∀ l s b, G1.nm l s = some b → ¬ G.vm 0 site = some b := fun l s b e => by rw [hnm1] at e; exact h.mr.inj3 _ _ _ _ _ e
  have vS : ∀ l s b, G1.vm l s = some b → ¬ G.vm 0 site = some b := fun l s b e e' => by
    rw [hvm1] at e
    split at e
    · cases e
    · rename_i hh; exact hh (h.mr.inj2 _ _ _ _ _ e e')
  refine ⟨G1.pub w fun b => G.vm 0 site = some b, ⟨⟨?_, ?_, ?_, ?_, ?_, h1.mr.gone, h1.mr.inj1, h1.mr.inj2, h1.mr.inj3, h1.mr.iter⟩, h.size, ?_, h1.ds.mono hle1, h1.base, h1.top, h1.ne⟩, ?_, ?_, hnm1⟩
  · intro b o v e
    by_cases hS : G.vm 0 site = some b
    · rw [Gh.pub_in hS] at e; exact e
    · rw [Gh.pub_out hS] at e; exact h1.mr.stab b o v e
  · intro l s zs e
    obtain ⟨b, cs, e', hc, hr⟩ := h1.mr.cells l s zs e
    exact ⟨b, cs, e', hc, hr.mono (hle1.dn l)⟩
  · intro l s b e
    obtain ⟨g1, g2⟩ := h1.mr.nm l s b e
    exact ⟨g1, fun o => by rw [Gh.pub_out (nS l s b e)]; exact g2 o⟩
  · intro l s g' z zs e
    obtain ⟨a1, a2, a3, a4⟩ := h1.mr.vec l s g' z zs e
    exact ⟨a1, a2, a3, a4.imp id fun ⟨b, e', r⟩ => ⟨b, e', r.of rfl fun vs hv => RepL.rfd hle1.stab a3.rf hv⟩⟩
  · intro l s b e
    obtain ⟨g1, g2⟩ := h1.mr.vm l s b e
    exact ⟨g1, fun o => by rw [Gh.pub_out (vS l s b e)]; exact g2 o⟩
  · exact fun i => (h1.slots i).mono hle1
  · refine ⟨rfl, rfl, rfl, Nat.le_refl _, fun b o v e => hle1.stab b o v (by rw [hst1]; exact e), fun l s _ => by show G1.nm l s = _; rw [hnm1], h2.vg, h2.vs, fun b hb hm => ⟨rfl, fun o => ?_⟩, h2.mine, h2.mv⟩
    rw [Gh.pub_out (fun e => hm (.inr ⟨0, site, e⟩)), hst1]
  · intro o n q v hle hr
    refine vec_list h.mr hlk hle hr (fun b o v e => ?_) (fun b o v e hv => ?_)
    · exact hle1.stab b o v (by rw [hst1]; exact e)
    · rw [Gh.pub_in e]; exact hv

theorem Rel.publish {G : Gh} {B N : Nat} {st : St} {a : Act} {w : World} (h : Rel G B N st a w) {slot site g sz o n : Nat} {q : Bool} {xs : List AV} (hs : st.f slot = .vec 0 site g o n q) (hlk : look st.m 0 site = .vec g sz xs) (hle : o + n ≤ xs.length) :
    ∃ G', Rel G' B N { st with m := Am.put st.m 0 site (.vec (g + 1) sz []), f := upd st.f slot (.list ((xs.drop o).take n)) } a w ∧ Ext 1 G w G' w := by
  obtain ⟨G', h1, h2, h3, h4⟩ := h.pub0 hlk
  refine ⟨G', ⟨h1.mr, h1.size, fun i => ?_, h1.ds, h1.base, h1.top, h1.ne⟩, h2⟩
  by_cases hi : i = slot
  · subst hi
    show Rep _ (upd st.f i _ i) _
    rw [upd_same]
    have hr := h.slots i
    rw [hs] at hr
    exact h3 _ _ _ _ hle hr
  · show Rep _ (upd st.f slot _ i) _
    rw [upd_ne _ _ hi]
    exact h1.slots i

/-- A variable's cell that holds such a row becomes a list. -/
theorem Rel.publishc {G : Gh} {B N : Nat} {st : St} {a : Act} {w : World} (h : Rel G B N st a w) {s idx site g sz o n : Nat} {q : Bool} {xs cs : List AV} (hc : look st.m 0 s = .cells cs) (hs : cs[idx]? = some (.vec 0 site g o n q)) (hlk : look st.m 0 site = .vec g sz xs) (hle : o + n ≤ xs.length) :
    ∃ G', Rel G' B N { st with m := Am.put (Am.put st.m 0 site (.vec (g + 1) sz [])) 0 s (.cells (cs.set idx (.list ((xs.drop o).take n)))) } a w ∧ Ext 1 G w G' w := by
  have hne : s ≠ site := fun e => by rw [e, hlk] at hc; cases hc
  obtain ⟨G', h1, h2, h3, h4⟩ := h.pub0 hlk
  obtain ⟨b0, vs0, hb0, hsoft0, hrep0⟩ := h.mr.cells 0 s cs hc
  obtain ⟨v, hv, hr⟩ := hrep0.at_ hs
  have hlk' : look (Am.put st.m 0 site (.vec (g + 1) sz [])) 0 s = .cells cs := by
    rw [look_put_ne (.inr hne)]; exact hc
  obtain ⟨b, vs, hb, hsoft, hrep⟩ := h1.mr.cells 0 s cs hlk'
  have hbb : b = b0 := by
    rw [h4, hb0] at hb; exact (Option.some.inj hb).symm
  subst hbb
  have hvv : vs = vs0 := hsoft.uniq hsoft0
  subst hvv
  have hr' := h3 o n q v hle hr
  have hset : vs.toList.set idx v = vs.toList := by
    obtain ⟨hi, he⟩ := List.getElem?_eq_some_iff.1 hv
    rw [← he, List.set_getElem_self]
  have hrep' := hrep.set idx hr'
  rw [hset] at hrep'
  exact ⟨G', ⟨h1.mr.stored hlk' hb (Turned.refl b w) hsoft hrep', h1.size, h1.slots, h1.ds, h1.base, h1.top, put_ne h1.ne⟩, h2⟩

/-- A row of the frame becomes one of a frame further out. -/
theorem Rel.give {G : Gh} {B N : Nat} {st : St} {a : Act} {w : World} (h : Rel G B N st a w) {slot site g sz o n l S : Nat} {q : Bool} {xs : List AV} (hs : st.f slot = .vec 0 site g o n q) (hlk : look st.m 0 site = .vec g sz xs) (hl : l < st.m.length) (hl0 : l ≠ 0) (hro : rowOrNone (look st.m l S) = true) (hS : S < 2000) :
    ∃ G', Rel G' B N { st with m := Am.put (Am.put st.m 0 site (.vec (g + 1) sz [])) l S (.vec (newGen st.m l S) sz xs), f := upd st.f slot (.vec l S (newGen st.m l S) o n q) } a w ∧ Ext 1 G w G' w := by
  have hlp : 0 < st.m.length := List.length_pos_iff.2 h.ne
  have hro0 : rowOrNone (look st.m 0 site) = true := by rw [hlk]; rfl
  obtain ⟨e1, e2, e3, e4⟩ := h.mr.vec 0 site g sz xs hlk
  obtain ⟨h1, h2⟩ := h.vecput (w' := w) (sz := sz) (cap := 0) (b := none) (g := g + 1) (ys := []) hlp hro0 (by omega) rfl rfl rfl (Nat.le_refl _) (fun _ _ _ => rfl) (fun k e => by cases e) ⟨by simp, rfl, rfl⟩ (.inl ⟨rfl, rfl⟩)
  have hlen : (Am.put st.m 0 site (.vec (g + 1) sz [])).length = st.m.length := by
    cases st.m <;> rfl
  have hlk1 : look (Am.put st.m 0 site (.vec (g + 1) sz [])) l S = look st.m l S := look_put_ne (.inl hl0)
  have hng : newGen (Am.put st.m 0 site (.vec (g + 1) sz [])) l S = newGen st.m l S := by unfold newGen; rw [hlk1]
  have hgl : (G.row 0 site none 0 (g + 1) sz).vg l S < newGen st.m l S := by
    rw [← hng]; exact newGen_lt h1.mr (by rw [hlk1]; exact hro)
  have hvm1 : ∀ i t, (G.row 0 site none 0 (g + 1) sz).vm i t = if i = 0 ∧ t = site then none else G.vm i t := fun _ _ => rfl
  have hfree : ∀ k, G.vm 0 site = some k → ¬ (G.row 0 site none 0 (g + 1) sz).mine k ∧ ∀ o, (G.row 0 site none 0 (g + 1) sz).stab k o = none := by
    intro k e
    refine ⟨?_, (h.mr.vm 0 site k e).2⟩
    rintro (⟨i, t, e'⟩ | ⟨i, t, e'⟩)
    · exact h.mr.inj3 _ _ _ _ _ e' e
    · rw [hvm1] at e'
      split at e'
      · cases e'
      · rename_i hh
        exact hh (h.mr.inj2 _ _ _ _ _ e' e)
  have hrow : (G.vm 0 site = none ∧ xs = []) ∨ ∃ k, G.vm 0 site = some k ∧ RowIs (G.row 0 site none 0 (g + 1) sz) S w k (G.vc 0 site) sz xs := by
    rcases e4 with e | ⟨b, e, hr⟩
    · exact .inl e
    · refine .inr ⟨b, e, ⟨?_, hr.le, hr.max⟩⟩
      obtain ⟨cs, ⟨t, lo, hi, hh, _, hb⟩, hsz, hrep⟩ := hr.cur
      exact ⟨cs, ⟨t, lo, hi, hh, by simp [tyOk, hS], hb⟩, hsz, RepL.rfd (G := G) (G' := G.row 0 site none 0 (g + 1) sz) (fun _ _ _ h => h) e3.rf hrep⟩
  have hmr := h1.mr.vecput' (l := l) (s := S) (g := newGen st.m l S) (sz := sz) (cap := G.vc 0 site) (b := G.vm 0 site) (ys := xs) (w' := w) (by rw [hlen]; exact hl) (by rw [hlk1]; exact hro) hgl (fun _ _ _ => rfl) (fun k e => .inr (hfree k e)) e3 hrow
  have hgle := Gh.row_gle (G := G.row 0 site none 0 (g + 1) sz) (l := l) (s := S) (cap := G.vc 0 site) (sz := sz) (b := G.vm 0 site) hgl
  have hnm2 : ((G.row 0 site none 0 (g + 1) sz).row l S (G.vm 0 site) (G.vc 0 site) (newGen st.m l S) sz).nm = G.nm := rfl
  have hvm2 : ∀ i t, ((G.row 0 site none 0 (g + 1) sz).row l S (G.vm 0 site) (G.vc 0 site) (newGen st.m l S) sz).vm i t = if i = l ∧ t = S then G.vm 0 site else if i = 0 ∧ t = site then none else G.vm i t := fun _ _ => rfl
  have hvc2 : ((G.row 0 site none 0 (g + 1) sz).row l S (G.vm 0 site) (G.vc 0 site) (newGen st.m l S) sz).vc l S = G.vc 0 site := by simp [Gh.row]
  have hvz2 : ((G.row 0 site none 0 (g + 1) sz).row l S (G.vm 0 site) (G.vc 0 site) (newGen st.m l S) sz).vz l S = sz := by simp [Gh.row]
  have hvg2 : ((G.row 0 site none 0 (g + 1) sz).row l S (G.vm 0 site) (G.vc 0 site) (newGen st.m l S) sz).vg l S = newGen st.m l S := by simp [Gh.row]
  refine ⟨(G.row 0 site none 0 (g + 1) sz).row l S (G.vm 0 site) (G.vc 0 site) (newGen st.m l S) sz, ⟨hmr, h1.size, fun i => ?_, h1.ds.mono hgle, fun s' b' e => ?_, h1.top, put_ne h1.ne⟩, ⟨rfl, rfl, rfl, Nat.le_refl _, h2.stab, fun _ _ _ => rfl, fun i t => Nat.le_trans (h2.vg i t) (hgle.vg i t), ?_, h2.old, fun b e => ?_, fun i t b e => ?_⟩⟩
  · by_cases hi : i = slot
    · subst hi
      show Rep _ (upd st.f i _ i) _
      rw [upd_same]
      have hr := h.slots i
      rw [hs] at hr
      generalize a.tmps.getD i undef = v at hr
      cases hr with
      | vec hone hg hh =>
        refine .vec hone (by rw [hvg2]; exact Nat.le_refl _) fun _ => ?_
        rcases hh e1.symm with ⟨hvm, ho, hn, A, hv, _⟩ | ⟨b, A, c, hvm, hok, hv, hkc, hcm, hq, hA⟩
        · exact .inl ⟨by rw [hvm2, if_pos ⟨rfl, rfl⟩]; exact hvm, ho, hn, A, hv, fun h => by omega⟩
        · refine .inr ⟨b, A, c, by rw [hvm2, if_pos ⟨rfl, rfl⟩]; exact hvm, by rw [hvc2]; exact hok, hv, hkc, hcm, by rw [hvc2]; exact hq, ?_⟩
          rw [hvc2, hvz2, ← e2]
          exact hA
    · show Rep _ (upd st.f slot _ i) _
      rw [upd_ne _ _ hi]
      exact (h1.slots i).mono hgle
  · rw [hnm2, hvm2] at e
    rw [if_neg (by omega)] at e
    exact h1.base s' b' (by rw [hvm1]; exact e)
  · intro i t e
    have hb1 := h2.vg i t
    have hb2 := hgle.vg i t
    obtain ⟨a1, a2, a3⟩ := h2.vs i t (by omega)
    obtain ⟨b1, b2, b3⟩ := hgle.vs i t (by omega)
    exact ⟨b1.trans a1, b2.trans a2, b3.trans a3⟩
  · refine .inl ?_
    rcases e with ⟨i, t, e⟩ | ⟨i, t, e⟩
    · exact .inl ⟨i, t, e⟩
    · rw [hvm2] at e
      split at e
      · exact .inr ⟨0, site, e⟩
      · split at e
        · cases e
        · exact .inr ⟨i, t, e⟩
  · refine .inl ?_
    rw [hvm2] at e
    split at e
    · exact ⟨0, site, Nat.zero_le _, e⟩
    · split at e
      · cases e
      · exact ⟨i, t, Nat.le_refl _, e⟩

end Go.Proofs.YtalalolgdekelaaGreatDoor.Am

/- A loop over a text: its iterator made, its next step. -/
namespace Go.Proofs.YtalalolgdekelaaGreatDoor.Am
open Go

/-- The code point at a place of a text, and how many bytes it has. -/
def udec (t : List UInt8) (p : Nat) : Nat × Nat := Utf8.decode ⟨⟨t⟩⟩ p

/-- An iterator moved. -/
theorem MR.moved {G : Gh} {m : Mem} {w w' : World} (h : MR G m w) {l s b p q : Nat} {t u : List UInt8} (hx : look m l s = .iter t p) (hb : G.nm l s = some b) (ht : Turned b w w') (hs : w'.heap[b]? = some (.stringIter ⟨⟨u⟩⟩ q)) :
    MR G (Am.put m l s (.iter u q)) w' where
  stab k o v e := by
    have hk : k ≠ b := by rintro rfl; rw [(h.nm l s k hb).2 o] at e; cases e
    rw [ht.cell hk]
    exact h.stab k o v e
  cells l' s' zs e := by
    by_cases hh : l' = l ∧ s' = s
    · obtain ⟨rfl, rfl⟩ := hh
      rw [look_put_same (look_lt (by rw [hx]; simp))] at e
      cases e
    · rw [look_put_ne (by omega)] at e
      obtain ⟨b', cs', e', hc, hr⟩ := h.cells l' s' zs e
      exact ⟨b', cs', e', hc.of (ht.heap b' (fun eb => hh (by subst eb; exact h.inj1 _ _ _ _ _ e' hb))), hr⟩
  nm l' s' b' e := by
    obtain ⟨hz, h2⟩ := h.nm l' s' b' e
    refine ⟨?_, h2⟩
    by_cases hh : l' = l ∧ s' = s
    · obtain ⟨rfl, rfl⟩ := hh
      rw [look_put_same (look_lt (by rw [hx]; simp))]; rfl
    · rw [look_put_ne (by omega)]; exact hz
  vec l' s' g sz zs e := by
    by_cases hh : l' = l ∧ s' = s
    · obtain ⟨rfl, rfl⟩ := hh
      rw [look_put_same (look_lt (by rw [hx]; simp))] at e
      cases e
    · rw [look_put_ne (by omega)] at e
      obtain ⟨a1, a2, a3, a4⟩ := h.vec l' s' g sz zs e
      refine ⟨a1, a2, a3, a4.imp id fun ⟨b', e', r⟩ => ⟨b', e', r.of (ht.heap b' ?_) fun _ h => h⟩⟩
      rintro rfl
      exact h.inj3 _ _ _ _ _ hb e'
  vm l' s' b' e := by
    obtain ⟨⟨g, sz, zs, hz⟩, h2⟩ := h.vm l' s' b' e
    refine ⟨?_, h2⟩
    by_cases hh : l' = l ∧ s' = s
    · obtain ⟨rfl, rfl⟩ := hh
      rw [hx] at hz; cases hz
    · exact ⟨g, sz, zs, by rw [look_put_ne (by omega)]; exact hz⟩
  gone l' s' e := by
    by_cases hh : l' = l ∧ s' = s
    · obtain ⟨rfl, rfl⟩ := hh
      exact h.gone l' s' (by rw [hx]; rfl)
    · rw [look_put_ne (by omega)] at e
      exact h.gone l' s' e
  inj1 := h.inj1
  inj2 := h.inj2
  inj3 := h.inj3
  iter l' s' t' p' e := by
    by_cases hh : l' = l ∧ s' = s
    · obtain ⟨rfl, rfl⟩ := hh
      rw [look_put_same (look_lt (by rw [hx]; simp))] at e
      cases e
      exact ⟨b, hb, hs⟩
    · rw [look_put_ne (by omega)] at e
      obtain ⟨b', e', hc⟩ := h.iter l' s' t' p' e
      exact ⟨b', e', (ht.heap b' (fun eb => hh (by subst eb; exact h.inj1 _ _ _ _ _ e' hb))).trans hc⟩

theorem run_next_iter {P : Program} {w : World} {b p : Nat} {s : ByteArray} (hh : w.heap[b]? = some (.stringIter s p)) (h : p < s.size) (ty : TypeId) :
    (Instr.next (.pointer (some ⟨b, 0, none⟩)) true ty).run P w = .ok (.tuple #[.bool true, .int .i64 p, .int .i32 (Utf8.decode s p).1]) { w with heap := w.heap.setIfInBounds b (.stringIter s (p + (Utf8.decode s p).2)) } := by
  simp only [Instr.next, getObj, setObj, Sem.run_bind, Sem.run, hh, Result.andThen, h, if_true]
  simp [goInt]
theorem run_next_done {P : Program} {w : World} {b p : Nat} {s : ByteArray} (hh : w.heap[b]? = some (.stringIter s p)) (h : ¬ p < s.size) (ty : TypeId) :
    (Instr.next (.pointer (some ⟨b, 0, none⟩)) true ty).run P w = .ok (.tuple #[.bool false]) w := by
  simp [Instr.next, getObj, Sem.run, hh, h]

section
variable {P : Program} {N : Nat} {st : St} {Q : St → Prop}

theorem AOps.rngs {d : Option Nat} {s : Nat} {r : RA} {its : List Item} {t : List UInt8} (ht : r.ev st.f = .str t) (hn : noOb st.m s = true) (h : AOps P N its { st with m := Am.put st.m 0 s (.iter t 0), f := updO st.f d (.ptr 0 s 0) } Q) :
    AOps P N (⟨d, .rngs s r, none⟩ :: its) st Q := by
  refine AOps.step rfl fun G B a w o hr hd hdN hc K QQ hK => ?_
  cases ho : o.op <;> rw [ho] at hc <;> simp only [chkRO, Bool.false_eq_true, Bool.and_eq_true] at hc
  rename_i ty x
  have hx := chkA_ok hr hc.2
  rw [ht] at hx
  have hv : a.eval x = .string ⟨⟨t⟩⟩ := by
    generalize a.eval x = v at hx
    cases hx; rfl
  obtain ⟨hr', he⟩ := hr.freshO s hn (ob := .iter t 0) (x := .stringIter ⟨⟨t⟩⟩ 0) rfl (fun _ e => by cases e) (fun _ _ e => by cases e; rfl)
  have hrun : (execOp a.eval o).run P w = .ok (.value (.pointer (some ⟨w.heap.size, 0, none⟩))) (w.alloc (.stringIter ⟨⟨t⟩⟩ 0)) := by
    simp only [execOp, ho, hv, Sem.run_bind, run_range_string w ty _ (isStr_ok hc.1), Result.andThen_ok, Sem.run_pure]
    rfl
  unfold Oper.wp
  rw [hrun]
  have hd' : o.dst = d := hd
  show K (a.put o.dst _) _
  rw [hd']
  refine hK _ _ _ _ h (hr'.put hdN (.ptr ?_)) he
  show (if (0 : Nat) = 0 ∧ s = s then some w.heap.size else G.nm 0 s) = some w.heap.size
  simp

theorem AOps.nxts {d : Option Nat} {r : RA} {its : List Item} {l s p : Nat} {t : List UInt8} (hp : r.ev st.f = .ptr l s 0) (hl : look st.m l s = .iter t p)
    (h1 : p < t.length → AOps P N its { st with m := Am.put st.m l s (.iter t (p + (udec t p).2)), f := updO st.f d (.tup [.bool true, .int .i64 (p : Nat), .int .i32 ((udec t p).1 : Nat)]) } Q)
    (h2 : t.length ≤ p → AOps P N its { st with f := updO st.f d (.tup [.bool false]) } Q) :
    AOps P N (⟨d, .nxts r, none⟩ :: its) st Q := by
  refine AOps.step rfl fun G B a w o hr hd hdN hc K QQ hK => ?_
  cases ho : o.op <;> rw [ho] at hc <;> simp only [chkRO, Bool.false_eq_true] at hc
  rename_i x str
  cases str with
  | false => cases hc
  | true =>
  have hx := chkA_ok hr hc
  rw [hp] at hx
  obtain ⟨b, hb, hh⟩ := hr.mr.iter l s t p hl
  have hv : a.eval x = .pointer (some ⟨b, 0, none⟩) := by
    generalize a.eval x = v at hx
    cases hx
    rename_i b' hb'
    rw [hb] at hb'; cases hb'; rfl
  have hd' : o.dst = d := hd
  unfold Oper.wp
  by_cases hlt : p < t.length
  · have hrun : (execOp a.eval o).run P w = .ok (.value (.tuple #[.bool true, .int .i64 p, .int .i32 (udec t p).1])) { w with heap := w.heap.setIfInBounds b (.stringIter ⟨⟨t⟩⟩ (p + (udec t p).2)) } := by
      simp only [execOp, ho, hv, Sem.run_bind, run_next_iter hh (show p < ByteArray.size ⟨⟨t⟩⟩ from hlt), Result.andThen_ok, Sem.run_pure]
      rfl
    rw [hrun]
    show K (a.put o.dst _) _
    rw [hd']
    have hlen : b < w.heap.size := (Array.getElem?_eq_some_iff.1 hh).1
    have htn : Turned b w { w with heap := w.heap.setIfInBounds b (.stringIter ⟨⟨t⟩⟩ (p + (udec t p).2)) } :=
      ⟨rfl, rfl, rfl, by simp, fun k hk => by
        show (w.heap.setIfInBounds b _)[k]? = _
        rw [Array.getElem?_setIfInBounds_ne (fun e => hk e.symm)]⟩
    have hnew : (w.heap.setIfInBounds b (.stringIter ⟨⟨t⟩⟩ (p + (udec t p).2)))[b]? = some (.stringIter ⟨⟨t⟩⟩ (p + (udec t p).2)) := by
      rw [Array.getElem?_setIfInBounds_self, if_pos hlen]
    have hm := hr.mr.moved hl hb htn hnew
    have hr' : Rel G B N { st with m := Am.put st.m l s (.iter t (p + (udec t p).2)) } a { w with heap := w.heap.setIfInBounds b (.stringIter ⟨⟨t⟩⟩ (p + (udec t p).2)) } :=
      ⟨hm, hr.size, hr.slots, hr.ds, hr.base, by rw [htn.size]; exact hr.top, put_ne hr.ne⟩
    exact hK _ _ _ _ (h1 hlt) (hr'.put hdN (.tup (.cons (.bool _) (.cons (.int _ _) (.cons (.int _ _) .nil))))) (Ext.turned htn (.inl ⟨l, s, hb⟩))
  · have hrun : (execOp a.eval o).run P w = .ok (.value (.tuple #[.bool false])) w := by
      simp only [execOp, ho, hv, Sem.run_bind, run_next_done hh (show ¬ p < ByteArray.size ⟨⟨t⟩⟩ from hlt), Result.andThen_ok, Sem.run_pure]
    rw [hrun]
    show K (a.put o.dst _) _
    rw [hd']
    exact hK _ _ _ _ (h2 (by omega)) (hr.put hdN (.tup (.cons (.bool _) .nil))) (Ext.refl 1 G w)

/-- How often a byte stands in a text, or where. -/
def xbv (cnt : Bool) (t : List UInt8) (b : Int) : Int := if cnt then (Lib.countByte t b.toNat.toUInt8 : Nat) else Lib.indexByte t b.toNat.toUInt8

theorem ext_cnt {fn : Func} (h1 : fn.name = "internal/bytealg.CountString") (h2 : fn.origin = "") : Extern.findNext fn = none ∧ Extern.find fn = some Extern.BytealgCount.count := by
  unfold Extern.findNext Extern.find
  rw [h1, h2]
  exact ⟨by kernel_rfl, by kernel_rfl⟩
theorem ext_idx {fn : Func} (h1 : fn.name = "internal/bytealg.IndexByteString") (h2 : fn.origin = "") : Extern.findNext fn = none ∧ Extern.find fn = some Extern.BytealgIndexByte.indexByte := by
  unfold Extern.findNext Extern.find
  rw [h1, h2]
  exact ⟨by kernel_rfl, by kernel_rfl⟩

theorem AOps.xb {d : Option Nat} {cnt : Bool} {k : Nat} {s c : RA} {its : List Item} {t : List UInt8} {b : Int} (hs : s.ev st.f = .str t) (hb : c.ev st.f = .int .u8 b) (h : AOps P N its { st with f := updO st.f d (.int .i64 (xbv cnt t b)) } Q) :
    AOps P N (⟨d, .xb cnt k s c, none⟩ :: its) st Q := by
  refine AOps.step rfl fun G B a w o hr hd hdN hc K QQ hK => ?_
  cases ho : o.op <;> rw [ho] at hc <;> simp only [chkRO, Bool.false_eq_true] at hc
  rename_i cl
  split at hc
  case h_2 => cases hc
  rename_i o1 k' x y ts o2
  cases o2
  simp only [Bool.and_eq_true, beq_iff_eq] at hc
  obtain ⟨⟨⟨hk, hf⟩, hx⟩, hy⟩ := hc
  subst hk
  cases hfn : P.funcs[k]? with
  | none => rw [hfn] at hf; cases hf
  | some fn =>
  rw [hfn] at hf
  simp only [Bool.and_eq_true, beq_iff_eq] at hf
  obtain ⟨⟨hname, hor⟩, hbody⟩ := hf
  have rs := chkA_ok hr hx
  have rc := chkA_ok hr hy
  rw [hs] at rs
  rw [hb] at rc
  have ev : a.eval x = .string ⟨⟨t⟩⟩ := by
    generalize a.eval x = v at rs
    cases rs; rfl
  have ec : a.eval y = .int .u8 b := by
    generalize a.eval y = v at rc
    cases rc; rfl
  have hrun : (execOp a.eval o).run P w = .ok (.value (.int .i64 (xbv cnt t b))) w := by
    cases cnt with
    | true =>
      have hname : fn.name = "internal/bytealg.CountString" := hname
      obtain ⟨e1, e2⟩ := ext_cnt hname hor
      have hcf := run_callFunc_extern (P := P) hfn (by rw [hname]; decide) hbody e1 e2 #[.string ⟨⟨t⟩⟩, .int .u8 b] w
      rw [Lib.run_countString] at hcf
      simp only [execOp, ho, resolve, Act.eval, Deferred.ofValue, Sem.run_bind, Sem.run_pure, Result.andThen_ok, invoke]
      simp [ev, ec, hcf, xbv, Result.andThen]
    | false =>
      have hname : fn.name = "internal/bytealg.IndexByteString" := hname
      obtain ⟨e1, e2⟩ := ext_idx hname hor
      have hcf := run_callFunc_extern (P := P) hfn (by rw [hname]; decide) hbody e1 e2 #[.string ⟨⟨t⟩⟩, .int .u8 b] w
      rw [Lib.run_indexByteString] at hcf
      simp only [execOp, ho, resolve, Act.eval, Deferred.ofValue, Sem.run_bind, Sem.run_pure, Result.andThen_ok, invoke]
      simp [ev, ec, hcf, xbv, Result.andThen]
  unfold Oper.wp
  rw [hrun]
  have hd' : o.dst = d := hd
  show K (a.put o.dst _) _
  rw [hd']
  exact hK _ _ _ _ h (hr.put hdN (.int _ _)) (Ext.refl 1 G w)

end

end Go.Proofs.YtalalolgdekelaaGreatDoor.Am

/- Code of the abstract machine, and what it comes to: a predicate that is worked out by rewriting; it is sound for the model. -/
namespace Go.Proofs.YtalalolgdekelaaGreatDoor.Am
open Go

/-- A contract of a function that is handed no object of ours: its value. -/
def Fn1 (P : Program) (k : FuncId) (args : List AV) (v : AV) : Prop := Fn? P k args (· = v)

/-- What one operation comes to. -/
def aop (P : Program) (d : Option Nat) (op : RO) (st : St) (K : St → Prop) : Prop :=
  match op with
  | .val vo => ∃ x, vop st.f st.m vo = some x ∧ K { st with f := updO st.f d x }
  | .allocN s z => noOb st.m s = true ∧ K { st with m := Am.put st.m 0 s (.cells z), f := updO st.f d (.ptr 0 s 0) }
  | .boxN s r => noOb st.m s = true ∧ (r.ev st.f).cells.all AV.leaf = true ∧ K { st with m := Am.put st.m 0 s (.cells (r.ev st.f).cells), f := updO st.f d (.ptr 0 s 0) }
  | .store n p r => (r.ev st.f).cells.length = n ∧ (r.ev st.f).cells.all AV.leaf = true ∧ ∃ m', astore st.m (p.ev st.f) (r.ev st.f).cells = some m' ∧ K { st with m := m', f := updO st.f d (.tup []) }
  | .app sz bytes el s r => ∃ l site g n xs ys, s.ev st.f = .vec l site g 0 n false ∧ look st.m l site = .vec g sz xs ∧ tyOk site el = true ∧ n ≤ xs.length ∧ elemsOf st.m (r.ev st.f) = some ys ∧ ys.all (fun e => e.cells.length == sz) = true ∧ n + ys.length ≤ maxLen ∧ (n + ys.length) * bytes ≤ 140737488355328 ∧
      K { st with m := Am.put st.m l site (.vec (g + 1) sz (xs.take n ++ ys)), f := updO st.f d (.vec l site (g + 1) 0 (n + ys.length) false) }
  | .storev l s n p r => (∃ o, p.ev st.f = .ptr l s o) ∧ (r.ev st.f).cells.length = n ∧ (r.ev st.f).cells.all AV.leaf = true ∧ ∃ m', astore st.m (p.ev st.f) (r.ev st.f).cells = some m' ∧ K { st with m := m', f := updO st.f d (.tup []) }
  | .call f args => ∃ k fa fb ys v, f.ev st.f = .fn (.func k) fa fb ∧ AV.stillL false st.m (fa ++ args.map (RA.ev st.f) ++ fb) = some ys ∧ AV.rfL ys = true ∧ Fn1 P k ys v ∧ v.rf = true ∧ (AV.rfL (fa ++ args.map (RA.ev st.f) ++ fb) = true ∨ v.nl = true) ∧ K { st with f := updO st.f d v }
  | .callF f args => ∃ k fa fb v m', f.ev st.f = .fn (.func k) fa fb ∧ ACalls P k (fa ++ args.map (RA.ev st.f) ++ fb) st.m (fun x m => x = v ∧ m = m') ∧ K { st with m := m', f := updO st.f d v }
  | .bsl sz len z ps => ∃ y, fill st.f ps (zeros z sz len) = some y ∧ AV.rfL y = true ∧ y.all AV.leaf = true ∧ K { st with f := updO st.f d (.list (chunk sz len (y.map nn0))) }
  | .bslv site sz len z ps => ∃ y, fill st.f ps (zeros z sz len) = some y ∧ AV.rfL y = true ∧ y.all AV.leaf = true ∧ rowOrNone (look st.m 0 site) = true ∧
      K { st with m := Am.put st.m 0 site (.vec (newGen st.m 0 site) sz (chunk sz len (y.map nn0))), f := updO st.f d (.vec 0 site (newGen st.m 0 site) 0 len false) }
  | .bsl0 site sz => rowOrNone (look st.m 0 site) = true ∧ K { st with m := Am.put st.m 0 site (.vec (newGen st.m 0 site) sz []), f := updO st.f d (.vec 0 site (newGen st.m 0 site) 0 0 false) }
  | .appc site sz bytes _ s r => ∃ xs ys, s.ev st.f = .lcap xs ∧ elemsOf st.m (r.ev st.f) = some ys ∧ ys ≠ [] ∧ xs.all (fun e => e.cells.length == sz) = true ∧ ys.all (fun e => e.cells.length == sz) = true ∧ xs.length + ys.length ≤ maxLen ∧ (xs.length + ys.length) * bytes ≤ 140737488355328 ∧ rowOrNone (look st.m 0 site) = true ∧
      K { st with m := Am.put st.m 0 site (.vec (newGen st.m 0 site) sz (xs ++ ys)), f := updO st.f d (.vec 0 site (newGen st.m 0 site) 0 (xs.length + ys.length) false) }
  | .isnil neg r => ∃ ys, elemsOf st.m (r.ev st.f) = some ys ∧ (r.ev st.f ≠ .nils → K { st with f := updO st.f d (.bool neg) }) ∧ ((r.ev st.f = .nils ∨ flat ys = []) → K { st with f := updO st.f d (.bool (!neg)) })
  | .slc0 site sz r => ∃ ys, elemsOf st.m (r.ev st.f) = some ys ∧ rowOrNone (look st.m 0 site) = true ∧ K { st with m := Am.put st.m 0 site (.vec (newGen st.m 0 site) sz []), f := updO st.f d (.vec 0 site (newGen st.m 0 site) 0 0 false) }
  | .callK l s f args => ∃ k fa fb v m', f.ev st.f = .fn (.func k) fa fb ∧ ACalls P k (fa ++ args.map (RA.ev st.f) ++ fb) st.m (fun x m => x = v ∧ m = m') ∧ look m' l s = look st.m l s ∧ K { st with m := m', f := updO st.f d v }
  | .xb cnt _ s c => ∃ t b, s.ev st.f = .str t ∧ c.ev st.f = .int .u8 b ∧ K { st with f := updO st.f d (.int .i64 (xbv cnt t b)) }
  | .callR f args => ∃ k fa fb ys R, f.ev st.f = .fn (.func k) fa fb ∧ AV.stillL false st.m (fa ++ args.map (RA.ev st.f) ++ fb) = some ys ∧ AV.rfL ys = true ∧ Fn? P k ys R ∧ (∀ v, R v → v.rf = true ∧ (AV.rfL (fa ++ args.map (RA.ev st.f) ++ fb) = true ∨ v.nl = true)) ∧ ∀ v, R v → K { st with f := updO st.f d v }
  | .rngs s r => ∃ t, r.ev st.f = .str t ∧ noOb st.m s = true ∧ K { st with m := Am.put st.m 0 s (.iter t 0), f := updO st.f d (.ptr 0 s 0) }
  | .nxts r => ∃ l s t p, r.ev st.f = .ptr l s 0 ∧ look st.m l s = .iter t p ∧
      (p < t.length → K { st with m := Am.put st.m l s (.iter t (p + (udec t p).2)), f := updO st.f d (.tup [.bool true, .int .i64 (p : Nat), .int .i32 ((udec t p).1 : Nat)]) }) ∧ (t.length ≤ p → K { st with f := updO st.f d (.tup [.bool false]) })
  | .appS el s r => ∃ l site g n xs t, s.ev st.f = .vec l site g 0 n false ∧ look st.m l site = .vec g 1 xs ∧ tyOk site el = true ∧ n ≤ xs.length ∧ r.ev st.f = .str t ∧ n + t.length ≤ 140737488355328 ∧
      K { st with m := Am.put st.m l site (.vec (g + 1) 1 (xs.take n ++ bytesAV t)), f := updO st.f d (.vec l site (g + 1) 0 (n + t.length) false) }
  | .mk site _ sz bytes z l c => ∃ (kl kc : IntKind) (n k : Nat), l.ev st.f = .int kl (n : Int) ∧ c.ev st.f = .int kc (k : Int) ∧ n ≤ k ∧ k ≤ 9223372036854775807 ∧ bytes * k ≤ 281474976710656 ∧ rowOrNone (look st.m 0 site) = true ∧
      K { st with m := Am.put st.m 0 site (.vec (newGen st.m 0 site) sz (List.replicate n (zeroE sz z))), f := updO st.f d (.vec 0 site (newGen st.m 0 site) 0 n false) }
  | .s2b site _ r => ∃ s, r.ev st.f = .str s ∧ s.length ≤ 9223372036854775807 ∧ rowOrNone (look st.m 0 site) = true ∧
      K { st with m := Am.put st.m 0 site (.vec (newGen st.m 0 site) 1 (bytesAV s)), f := updO st.f d (.vec 0 site (newGen st.m 0 site) 0 s.length false) }
  | .usd r => ∃ l s g n sz xs, 2000 ≤ s ∧ r.ev st.f = .vec l s g 0 n false ∧ look st.m l s = .vec g sz xs ∧ K { st with f := updO st.f d (if n = 0 then .anyp else .vptr l s g 0 0) }
  | .ustr el p r => (p.ev st.f = .anyp ∧ r.ev st.f = .int .i64 0 ∧ K { st with f := updO st.f d (.str []) }) ∨
      ∃ l g n xs s, p.ev st.f = .vptr l (el + 2000) g 0 0 ∧ r.ev st.f = .int .i64 ((n : Nat) : Int) ∧ look st.m l (el + 2000) = .vec g 1 xs ∧ n ≤ xs.length ∧ n ≠ 0 ∧ xs.take n = bytesAV s ∧ K { st with m := Am.put st.m l (el + 2000) (.vec (g + 1) 1 []), f := updO st.f d (.str s) }
  | .dfr f args => ∃ fn fa fb, f.ev st.f = .fn fn fa fb ∧ K { st with ds := ⟨fn, fb, fa ++ args.map (RA.ev st.f)⟩ :: st.ds, f := updO st.f d (.tup []) }

def astep (P : Program) (it : Item) (st : St) (K : St → Prop) : Prop :=
  match it.g with
  | none => aop P it.dst it.op st K
  | some (j, want) => match st.f j with
    | .bool b => (b = want → aop P it.dst it.op st K) ∧ (b = (!want) → K { st with f := updO st.f it.dst (.tup []) })
    | .tup l => l = [] ∧ K { st with f := updO st.f it.dst (.tup []) }
    | _ => False

def aops (P : Program) : List Item → St → (St → Prop) → Prop
  | [], st, K => K st
  | it :: its, st, K => astep P it st fun st' => aops P its st' K

section
variable {P : Program} {N : Nat}

theorem aop_ok {d : Option Nat} {op : RO} {its : List Item} {st : St} {Q : St → Prop} (h : aop P d op st fun st' => AOps P N its st' Q) : AOps P N (⟨d, op, none⟩ :: its) st Q := by
  cases op with
  | val vo => obtain ⟨x, hx, h⟩ := h; exact .val hx h
  | allocN s z => exact .allocN h.1 h.2
  | boxN s r => exact .boxN h.1 h.2.1 h.2.2
  | store n p r => obtain ⟨h1, h2, m', h3, h⟩ := h; exact .store h1 h2 h3 h
  | app sz bytes el s r => obtain ⟨l, site, g, n, xs, ys, h1, h2, ht, h3, h4, h5, h6, h7, h⟩ := h; exact .app h1 h2 ht h3 h4 h5 h6 h7 h
  | appS el s r => obtain ⟨l, site, g, n, xs, t, h1, h2, ht, h3, h4, h5, h⟩ := h; exact .appS h1 h2 ht h3 h4 h5 h
  | mk site el sz bytes z l c => obtain ⟨kl, kc, n, k, h1, h2, h3, h4, h5, h6, h⟩ := h; exact .mk h1 h2 h3 h4 h5 h6 h
  | s2b site el r => obtain ⟨s, h1, h2, h3, h⟩ := h; exact .s2b h1 h2 h3 h
  | usd r => obtain ⟨l, s, g, n, sz, xs, h0, h1, h2, h⟩ := h; exact .usd h0 h1 h2 h
  | ustr el p r =>
    rcases h with ⟨h1, h2, h⟩ | ⟨l, g, n, xs, s, h1, h2, h3, h4, h5, h6, h⟩
    · exact .ustr0 h1 h2 h
    · exact .ustr h1 h2 h3 h4 h5 h6 h
  | storev l s n p r => obtain ⟨_, h1, h2, m', h3, h⟩ := h; exact .same (ro := .store n p r) (fun _ => rfl) (.store h1 h2 h3 h)
  | call f args =>
    obtain ⟨k, fa, fb, ys, v, hf, h1, h2, h3, h4, h5, h⟩ := h
    exact .callPure hf h1 h2 h3 (fun x hx => by subst hx; exact ⟨h4, h5⟩) fun x hx => by subst hx; exact h
  | callF f args =>
    obtain ⟨k, fa, fb, v, m', hf, h1, h⟩ := h
    exact .same (ro := .call f args) (fun _ => rfl) (.callFull hf h1 fun x m hx _ => by obtain ⟨rfl, rfl⟩ := hx; exact h)
  | bsl sz len z ps => obtain ⟨y, h1, h2, h3, h⟩ := h; exact .bsl h1 h2 h3 h
  | bslv site sz len z ps => obtain ⟨y, h1, h2, h3, h4, h⟩ := h; exact .bslv h1 h2 h3 h4 h
  | bsl0 site sz => exact .bsl0 h.1 h.2
  | isnil neg r => obtain ⟨ys, h1, h2, h3⟩ := h; exact .isnil h1 h2 h3
  | appc site sz bytes el s r => obtain ⟨xs, ys, h1, h2, h3, h4, h5, h6, h7, h8, h⟩ := h; exact .appc h1 h2 h3 h4 h5 h6 h7 h8 h
  | slc0 site sz r => obtain ⟨ys, h1, h2, h⟩ := h; exact .slc0 h1 h2 h
  | dfr f args => obtain ⟨fn, fa, fb, h1, h⟩ := h; exact .dfr h1 h
  | callK l s f args =>
    obtain ⟨k, fa, fb, v, m', hf, h1, _, h⟩ := h
    exact .same (ro := .call f args) (fun _ => rfl) (.callFull hf h1 fun x m hx _ => by obtain ⟨rfl, rfl⟩ := hx; exact h)
  | xb cnt k s c => obtain ⟨t, b, h1, h2, h⟩ := h; exact .xb h1 h2 h
  | callR f args =>
    obtain ⟨k, fa, fb, ys, R, hf, h1, h2, h3, h4, h⟩ := h
    exact .same (ro := .call f args) (fun _ => rfl) (.callPure hf h1 h2 h3 h4 h)
  | rngs s r => obtain ⟨t, h1, h2, h⟩ := h; exact .rngs h1 h2 h
  | nxts r => obtain ⟨l, s, t, p, h1, h2, h3, h4⟩ := h; exact .nxts h1 h2 h3 h4

theorem astep_ok {it : Item} {its : List Item} {st : St} {Q : St → Prop} (h : astep P it st fun st' => AOps P N its st' Q) : AOps P N (it :: its) st Q := by
  obtain ⟨d, op, g⟩ := it
  cases g with
  | none => exact aop_ok h
  | some p =>
    obtain ⟨j, want⟩ := p
    simp only [astep] at h
    split at h
    · rename_i b hj
      by_cases hb : b = want
      · subst hb; exact .yes hj (aop_ok (h.1 rfl))
      · have hb' : b = !want := by cases b <;> cases want <;> first | rfl | exact absurd rfl hb
        subst hb'
        exact .no (.inl hj) (h.2 rfl)
    · rename_i l hj
      obtain ⟨rfl, h⟩ := h
      exact .no (.inr hj) h
    · exact h.elim

theorem aop_mono {d : Option Nat} {op : RO} {st : St} {K K' : St → Prop} (hk : ∀ s, K s → K' s) (h : aop P d op st K) : aop P d op st K' := by
  cases op <;> simp only [aop] at h ⊢
  case val => obtain ⟨x, a, b⟩ := h; exact ⟨x, a, hk _ b⟩
  case allocN => exact ⟨h.1, hk _ h.2⟩
  case boxN => exact ⟨h.1, h.2.1, hk _ h.2.2⟩
  case store => obtain ⟨h1, h2, m', h3, h⟩ := h; exact ⟨h1, h2, m', h3, hk _ h⟩
  case app => obtain ⟨l, site, g, n, xs, ys, h1, h2, ht, h3, h4, h5, h6, h7, h⟩ := h; exact ⟨l, site, g, n, xs, ys, h1, h2, ht, h3, h4, h5, h6, h7, hk _ h⟩
  case appS => obtain ⟨l, site, g, n, xs, t, h1, h2, ht, h3, h4, h5, h⟩ := h; exact ⟨l, site, g, n, xs, t, h1, h2, ht, h3, h4, h5, hk _ h⟩
  case mk => obtain ⟨kl, kc, n, k, h1, h2, h3, h4, h5, h6, h⟩ := h; exact ⟨kl, kc, n, k, h1, h2, h3, h4, h5, h6, hk _ h⟩
  case s2b => obtain ⟨s, h1, h2, h3, h⟩ := h; exact ⟨s, h1, h2, h3, hk _ h⟩
  case usd => obtain ⟨l, s, g, n, sz, xs, h0, h1, h2, h⟩ := h; exact ⟨l, s, g, n, sz, xs, h0, h1, h2, hk _ h⟩
  case ustr =>
    rcases h with ⟨h1, h2, h⟩ | ⟨l, g, n, xs, s, h1, h2, h3, h4, h5, h6, h⟩
    · exact .inl ⟨h1, h2, hk _ h⟩
    · exact .inr ⟨l, g, n, xs, s, h1, h2, h3, h4, h5, h6, hk _ h⟩
  case dfr => obtain ⟨fn, fa, fb, h1, h⟩ := h; exact ⟨fn, fa, fb, h1, hk _ h⟩
  case bsl => obtain ⟨y, h1, h2, h3, h⟩ := h; exact ⟨y, h1, h2, h3, hk _ h⟩
  case bslv => obtain ⟨y, h1, h2, h3, h4, h⟩ := h; exact ⟨y, h1, h2, h3, h4, hk _ h⟩
  case bsl0 => exact ⟨h.1, hk _ h.2⟩
  case appc => obtain ⟨xs, ys, h1, h2, h3, h4, h5, h6, h7, h8, h⟩ := h; exact ⟨xs, ys, h1, h2, h3, h4, h5, h6, h7, h8, hk _ h⟩
  case isnil => obtain ⟨ys, h1, h2, h3⟩ := h; exact ⟨ys, h1, fun e => hk _ (h2 e), fun e => hk _ (h3 e)⟩
  case slc0 => obtain ⟨ys, h1, h2, h⟩ := h; exact ⟨ys, h1, h2, hk _ h⟩
  case callK => obtain ⟨k, fa, fb, v, m', hf, h1, h2, h⟩ := h; exact ⟨k, fa, fb, v, m', hf, h1, h2, hk _ h⟩
  case xb => obtain ⟨t, b, h1, h2, h⟩ := h; exact ⟨t, b, h1, h2, hk _ h⟩
  case callR => obtain ⟨k, fa, fb, ys, R, hf, h1, h2, h3, h4, h⟩ := h; exact ⟨k, fa, fb, ys, R, hf, h1, h2, h3, h4, fun v hv => hk _ (h v hv)⟩
  case rngs => obtain ⟨t, h1, h2, h⟩ := h; exact ⟨t, h1, h2, hk _ h⟩
  case nxts => obtain ⟨l, s, t, p, h1, h2, h3, h4⟩ := h; exact ⟨l, s, t, p, h1, h2, fun e => hk _ (h3 e), fun e => hk _ (h4 e)⟩
  case storev => obtain ⟨h0, h1, h2, m', h3, h⟩ := h; exact ⟨h0, h1, h2, m', h3, hk _ h⟩
  case call => obtain ⟨k, fa, fb, ys, v, hf, h1, h2, h3, h4, h5, h⟩ := h; exact ⟨k, fa, fb, ys, v, hf, h1, h2, h3, h4, h5, hk _ h⟩
  case callF => obtain ⟨k, fa, fb, v, m', hf, h1, h⟩ := h; exact ⟨k, fa, fb, v, m', hf, h1, hk _ h⟩

theorem astep_mono {it : Item} {st : St} {K K' : St → Prop} (hk : ∀ s, K s → K' s) (h : astep P it st K) : astep P it st K' := by
  unfold astep at h ⊢
  split at h
  · exact aop_mono hk h
  · split at h
    · exact ⟨fun e => aop_mono hk (h.1 e), fun e => hk _ (h.2 e)⟩
    · exact ⟨h.1, hk _ h.2⟩
    · exact h.elim

theorem aops_mono : ∀ {its : List Item} {st : St} {Q Q' : St → Prop}, (∀ s, Q s → Q' s) → aops P its st Q → aops P its st Q'
  | [], _, _, _, hk, h => hk _ h
  | _ :: _, _, _, _, hk, h => astep_mono (fun _ hs => aops_mono hk hs) h

theorem aops_ok : ∀ {its : List Item} {st : St} {Q : St → Prop}, aops P its st Q → AOps P N its st Q
  | [], _, _, h => .nil h
  | _ :: _, _, _, h => astep_ok (astep_mono (fun _ hs => aops_ok hs) h)

end

/-- A turn of the reading alone. -/
inductive GO where
  | vec (slot site sz : Nat)
  | drop (s : Nat)
  | vecc (s idx site sz : Nat)
  | pub (slot site : Nat)
  | pubc (s idx site : Nat)
  | give (slot site l S : Nat)
  | lst (slot : Nat)

def gstep (g : GO) (st : St) : Option St :=
  match g with
  | .vec slot site sz => match st.f slot with
    | .nils => bif rowOrNone (look st.m 0 site) then some { st with m := Am.put st.m 0 site (.vec (newGen st.m 0 site) sz []), f := upd st.f slot (.vec 0 site (newGen st.m 0 site) 0 0 false) } else none
    | _ => none
  | .drop s => bif noRow st.m s then some (st.drop s) else none
  | .vecc s idx site sz => match look st.m 0 s with
    | .cells xs => match xs[idx]? with
      | some .nils => bif rowOrNone (look st.m 0 site) && !(Nat.beq site s) then some { st with m := Am.put (Am.put st.m 0 site (.vec (newGen st.m 0 site) sz [])) 0 s (.cells (xs.set idx (.vec 0 site (newGen st.m 0 site) 0 0 false))) } else none
      | some _ => some st
      | none => none
    | _ => none
  | .pub slot site => match st.f slot with
    | .vec 0 s' g o n _ => match look st.m 0 site with
      | .vec g' sz xs => bif Nat.beq s' site && Nat.beq g g' && Nat.ble (o + n) xs.length then some { st with m := Am.put st.m 0 site (.vec (g + 1) sz []), f := upd st.f slot (.list ((xs.drop o).take n)) } else none
      | _ => none
    | _ => none
  | .pubc s idx site => match look st.m 0 s with
    | .cells cs => match cs[idx]? with
      | some (.vec 0 s' g o n _) => match look st.m 0 site with
        | .vec g' sz xs => bif Nat.beq s' site && Nat.beq g g' && Nat.ble (o + n) xs.length then some { st with m := Am.put (Am.put st.m 0 site (.vec (g + 1) sz [])) 0 s (.cells (cs.set idx (.list ((xs.drop o).take n)))) } else none
        | _ => none
      | _ => none
    | _ => none
  | .give slot site l S => match st.f slot with
    | .vec 0 s' g o n q => match look st.m 0 site with
      | .vec g' sz xs => bif Nat.beq s' site && Nat.beq g g' && Nat.blt l st.m.length && !(Nat.beq l 0) && rowOrNone (look st.m l S) && Nat.blt S 2000 then some { st with m := Am.put (Am.put st.m 0 site (.vec (g + 1) sz [])) l S (.vec (newGen st.m l S) sz xs), f := upd st.f slot (.vec l S (newGen st.m l S) o n q) } else none
      | _ => none
    | _ => none
  | .lst slot => match st.f slot with
    | .nils => some { st with f := upd st.f slot (.list []) }
    | .list l => some { st with f := upd st.f slot (.list l) }
    | _ => none

inductive RC where
  | skip
  | reg (its : List Item)
  | draw (its : List Item)
  | seq (a b : RC)
  | cond (c : RA) (a b : RC)
  | block (id : Nat) (a : RC)
  | loop (a : RC)
  | exit (id : Nat)
  | scope (a : RC)
  | lab
  | ret
  | gho (g : GO) (a : RC)
  | no

def Ks (f : St → Prop) (Q : Exit → St → Prop) : Exit → St → Prop
  | .normal, st => f st
  | e, st => Q e st
def Kb (id : Nat) (Q : Exit → St → Prop) : Exit → St → Prop
  | .exit i, st => if i = id then Q .normal st else Q (.exit i) st
  | e, st => Q e st
def Kg (Q : Exit → St → Prop) : Exit → St → Prop
  | .goto _, _ => False
  | e, st => Q e st

/-- What code comes to. -/
def awp (P : Program) : RC → St → (Exit → St → Prop) → Prop
  | .skip, st, Q => Q .normal st
  | .reg its, st, Q => aops P its st (Q .normal)
  | .draw its, st, Q => aops P its st (Q .normal)
  | .seq a b, st, Q => awp P a st (Ks (fun st' => awp P b st' Q) Q)
  | .cond c a b, st, Q => ∃ t, c.ev st.f = .bool t ∧ (t = true → awp P a st Q) ∧ (t = false → awp P b st Q)
  | .block id a, st, Q => awp P a st (Kb id Q)
  | .loop a, st, Q => ∃ (I : Nat → St → Prop) (n : Nat), I n st ∧ ∀ n st', I n st' → awp P a st' (Ks (fun s => ∃ k, k < n ∧ I k s) Q)
  | .exit id, st, Q => Q (.exit id) st
  | .scope a, st, Q => awp P a st (Kg Q)
  | .lab, st, Q => Q .normal st
  | .ret, st, Q => Q .ret st
  | .gho g a, st, Q => ∃ st', gstep g st = some st' ∧ awp P a st' Q
  | .no, _, _ => False

theorem slots_upd {G : Gh} {f : Fr} {a : Act} (hs : ∀ i, Rep G (f i) (a.tmps.getD i undef)) {d : Nat} {x : AV} (hx : Rep G x (a.tmps.getD d undef)) : ∀ i, Rep G (upd f d x i) (a.tmps.getD i undef) := by
  intro i
  by_cases hi : i = d
  · subst hi; rw [upd_same]; exact hx
  · rw [upd_ne _ _ hi]; exact hs i

theorem gstep_ok {G : Gh} {B N : Nat} {st st' : St} {a : Act} {w : World} (h : Rel G B N st a w) {g : GO} (hg : gstep g st = some st') : ∃ G', Rel G' B N st' a w ∧ Ext 1 G w G' w := by
  cases g with
  | vec slot site sz =>
    simp only [gstep] at hg
    split at hg
    · rename_i hn
      cases hro : rowOrNone (look st.m 0 site) with
      | false => rw [hro] at hg; cases hg
      | true =>
        rw [hro] at hg
        simp only [cond_true, Option.some.injEq] at hg
        subst hg
        have hl : 0 < st.m.length := List.length_pos_iff.2 h.ne
        obtain ⟨h1, h2⟩ := h.vecput (w' := w) (sz := sz) (cap := 0) (b := none) (ys := []) hl hro (newGen_lt h.mr hro) rfl rfl rfl (Nat.le_refl _) (fun _ _ _ => rfl) (fun k e => by cases e) ⟨by simp, rfl, rfl⟩ (.inl ⟨rfl, rfl⟩)
        refine ⟨_, ⟨h1.mr, h1.size, slots_upd h1.slots ?_, h1.ds, h1.base, h1.top, h1.ne⟩, h2⟩
        have hs := h.slots slot
        rw [hn] at hs
        generalize a.tmps.getD slot undef = v at hs
        cases hs
        exact .vec rfl (Nat.le_of_eq (by simp [Gh.row])) fun _ => .inl ⟨by simp [Gh.row], rfl, rfl, none, rfl, fun _ => rfl⟩
    · cases hg
  | drop s =>
    simp only [gstep] at hg
    cases hro : noRow st.m s with
    | false => rw [hro] at hg; cases hg
    | true =>
      rw [hro] at hg
      simp only [cond_true, Option.some.injEq] at hg
      subst hg
      exact ⟨_, h.drop s hro⟩
  | vecc s idx site sz =>
    simp only [gstep] at hg
    split at hg
    · rename_i xs hlk
      split at hg
      · rename_i hn
        cases hro : (rowOrNone (look st.m 0 site) && !(Nat.beq site s)) with
        | false => rw [hro] at hg; cases hg
        | true =>
          rw [hro] at hg
          simp only [cond_true, Option.some.injEq] at hg
          subst hg
          rw [Bool.and_eq_true] at hro
          have hne : s ≠ site := fun e => by
            have h2 := hro.2
            rw [e] at h2
            simp at h2
          have hl : 0 < st.m.length := List.length_pos_iff.2 h.ne
          obtain ⟨h1, h2⟩ := h.vecput (w' := w) (sz := sz) (cap := 0) (b := none) (ys := []) hl hro.1 (newGen_lt h.mr hro.1) rfl rfl rfl (Nat.le_refl _) (fun _ _ _ => rfl) (fun k e => by cases e) ⟨by simp, rfl, rfl⟩ (.inl ⟨rfl, rfl⟩)
          have hlk' : look (Am.put st.m 0 site (.vec (newGen st.m 0 site) sz [])) 0 s = .cells xs := by
            rw [look_put_ne (.inr hne)]; exact hlk
          obtain ⟨b, cs, hb, hsoft, hrep⟩ := h1.mr.cells 0 s xs hlk'
          obtain ⟨v, hv, hr⟩ := hrep.at_ hn
          have hvn : v = .slice none 0 0 := by cases hr; rfl
          subst hvn
          have hset : cs.toList.set idx (.slice none 0 0) = cs.toList := by
            obtain ⟨hi, he⟩ := List.getElem?_eq_some_iff.1 hv
            rw [← he, List.set_getElem_self]
          have hrep' := hrep.set idx (x := .vec 0 site (newGen st.m 0 site) 0 0 false) (v := .slice none 0 0) (.vec rfl (Nat.le_of_eq (by simp [Gh.row, Gh.dn])) fun _ => .inl ⟨by simp [Gh.row, Gh.dn], rfl, rfl, none, rfl, fun _ => rfl⟩)
          rw [hset] at hrep'
          exact ⟨_, ⟨h1.mr.stored hlk' hb (Turned.refl b w) hsoft hrep', h1.size, h1.slots, h1.ds, h1.base, h1.top, put_ne h1.ne⟩, h2⟩
      · cases hg; exact ⟨G, h, Ext.refl 1 G w⟩
      · cases hg
    · cases hg
  | pub slot site =>
    simp only [gstep] at hg
    split at hg
    · rename_i s' g o n q hs
      split at hg
      · rename_i g' sz xs hlk
        cases hb : (Nat.beq s' site && Nat.beq g g' && Nat.ble (o + n) xs.length) with
        | false => rw [hb] at hg; cases hg
        | true =>
          rw [hb] at hg
          simp only [cond_true, Option.some.injEq] at hg
          subst hg
          simp only [Bool.and_eq_true] at hb
          obtain ⟨⟨b1, b2⟩, b3⟩ := hb
          have e1 := Nat.eq_of_beq_eq_true b1
          have e2 := Nat.eq_of_beq_eq_true b2
          subst e1 e2
          exact h.publish hs hlk (Nat.le_of_ble_eq_true b3)
      · cases hg
    · cases hg
  | pubc s idx site =>
    simp only [gstep] at hg
    split at hg
    · rename_i cs hc
      split at hg
      · rename_i s' g o n q hs
        split at hg
        · rename_i g' sz xs hlk
          cases hb : (Nat.beq s' site && Nat.beq g g' && Nat.ble (o + n) xs.length) with
          | false => rw [hb] at hg; cases hg
          | true =>
            rw [hb] at hg
            simp only [cond_true, Option.some.injEq] at hg
            subst hg
            simp only [Bool.and_eq_true] at hb
            obtain ⟨⟨b1, b2⟩, b3⟩ := hb
            have e1 := Nat.eq_of_beq_eq_true b1
            have e2 := Nat.eq_of_beq_eq_true b2
            subst e1 e2
            exact h.publishc hc hs hlk (Nat.le_of_ble_eq_true b3)
        · cases hg
      · cases hg
    · cases hg
  | give slot site l S =>
    simp only [gstep] at hg
    split at hg
    · rename_i s' g o n q hs
      split at hg
      · rename_i g' sz xs hlk
        cases hb : (Nat.beq s' site && Nat.beq g g' && Nat.blt l st.m.length && !(Nat.beq l 0) && rowOrNone (look st.m l S) && Nat.blt S 2000) with
        | false => rw [hb] at hg; cases hg
        | true =>
          rw [hb] at hg
          simp only [cond_true, Option.some.injEq] at hg
          subst hg
          simp only [Bool.and_eq_true] at hb
          obtain ⟨⟨⟨⟨⟨b1, b2⟩, b3⟩, b4⟩, b5⟩, b6⟩ := hb
          have e1 := Nat.eq_of_beq_eq_true b1
          have e2 := Nat.eq_of_beq_eq_true b2
          subst e1 e2
          have b4' : l ≠ 0 := fun e => by rw [e] at b4; simp at b4
          exact h.give hs hlk (Nat.le_of_ble_eq_true b3) b4' b5 (Nat.le_of_ble_eq_true b6)
      · cases hg
    · cases hg
  | lst slot =>
    simp only [gstep] at hg
    split at hg
    · rename_i hs
      cases hg
      refine ⟨G, ⟨h.mr, h.size, slots_upd h.slots ?_, h.ds, h.base, h.top, h.ne⟩, Ext.refl 1 G w⟩
      have hr := h.slots slot
      rw [hs] at hr
      exact hr.nn0
    · rename_i l hs
      cases hg
      refine ⟨G, ⟨h.mr, h.size, slots_upd h.slots ?_, h.ds, h.base, h.top, h.ne⟩, Ext.refl 1 G w⟩
      have hr := h.slots slot
      rw [hs] at hr
      exact hr
    · cases hg

end Go.Proofs.YtalalolgdekelaaGreatDoor.Am

/- Operations that may change places: what an operation looks at, what it turns. -/
namespace Go.Proofs.YtalalolgdekelaaGreatDoor.Am
open Go

def RA.sl : RA → List Nat
  | .t n => [n]
  | _ => []
def slO : Option RA → List Nat
  | some r => r.sl
  | none => []
def VO.sl : VO → List Nat
  | .mov x => x.sl
  | .pick c a b => c.sl ++ (a.sl ++ b.sl)
  | .build _ ps => ps.flatMap fun p => p.2.2.sl
  | .load _ x => x.sl
  | .loadv _ _ _ x => x.sl
  | .loado _ x => x.sl
  | .loadr _ x => x.sl
  | .nilck x => x.sl
  | .un _ x => x.sl
  | .cvi _ x => x.sl
  | .b2s x => x.sl
  | .faddr _ x => x.sl
  | .fld _ _ x => x.sl
  | .ext x _ => x.sl
  | .len _ x => x.sl
  | .bin _ _ x y => x.sl ++ y.sl
  | .eqs _ _ x y => x.sl ++ y.sl
  | .iaddr _ _ x y => x.sl ++ y.sl
  | .idx x y => x.sl ++ y.sl
  | .mnx _ x y => x.sl ++ y.sl
  | .slc _ x lo hi mx => x.sl ++ (slO lo ++ (slO hi ++ slO mx))
  | .slcl x hi mx => x.sl ++ (hi.sl ++ mx.sl)
  | .mkfn _ a b => a.flatMap RA.sl ++ b.flatMap RA.sl
  | .toU x => x.sl
  | .ofU _ _ x => x.sl
  | .same x => x.sl
def RO.sl : RO → List Nat
  | .val v => v.sl
  | .allocN _ _ => []
  | .boxN _ r => r.sl
  | .store _ p r => p.sl ++ r.sl
  | .storev _ _ _ p r => p.sl ++ r.sl
  | .app _ _ _ s r => s.sl ++ r.sl
  | .appS _ s r => s.sl ++ r.sl
  | .mk _ _ _ _ _ l c => l.sl ++ c.sl
  | .s2b _ _ r => r.sl
  | .usd r => r.sl
  | .ustr _ p r => p.sl ++ r.sl
  | .bsl _ _ _ ps => ps.flatMap fun p => p.2.2.sl
  | .call f rs => f.sl ++ rs.flatMap RA.sl
  | .callF f rs => f.sl ++ rs.flatMap RA.sl
  | .dfr f rs => f.sl ++ rs.flatMap RA.sl
  | .slc0 _ _ x => x.sl
  | .bslv _ _ _ _ ps => ps.flatMap fun p => p.2.2.sl
  | .bsl0 _ _ => []
  | .isnil _ x => x.sl
  | .appc _ _ _ _ s r => s.sl ++ r.sl
  | .callR f rs => f.sl ++ rs.flatMap RA.sl
  | .xb _ _ s c => s.sl ++ c.sl
  | .callK _ _ f rs => f.sl ++ rs.flatMap RA.sl
  | .rngs _ r => r.sl
  | .nxts r => r.sl
def Item.sl (it : Item) : List Nat := it.op.sl ++ (match it.g with | some (j, _) => [j] | none => [])

/-- The same there. -/
def Same (l : List Nat) (f f' : Fr) : Prop := ∀ t, t ∈ l → f t = f' t
theorem Same.left {a b : List Nat} {f f' : Fr} (h : Same (a ++ b) f f') : Same a f f' := fun t ht => h t (List.mem_append_left _ ht)
theorem Same.right {a b : List Nat} {f f' : Fr} (h : Same (a ++ b) f f') : Same b f f' := fun t ht => h t (List.mem_append_right _ ht)

theorem RA.ev_same {r : RA} {f f' : Fr} (h : Same r.sl f f') : r.ev f = r.ev f' := by
  cases r with
  | t n => exact h n (by simp [RA.sl])
  | c x => rfl
  | f k => rfl

theorem evs_same : ∀ {rs : List RA} {f f' : Fr}, Same (rs.flatMap RA.sl) f f' → rs.map (RA.ev f) = rs.map (RA.ev f')
  | [], _, _, _ => rfl
  | r :: rs, f, f', h => by
    rw [List.flatMap_cons] at h
    rw [List.map_cons, List.map_cons, RA.ev_same h.left, evs_same h.right]

theorem fill_same {f f' : Fr} : ∀ {ps : List (Nat × Nat × RA)} {z : List AV}, Same (ps.flatMap fun p => p.2.2.sl) f f' → fill f ps z = fill f' ps z
  | [], _, _ => rfl
  | (o, n, r) :: ps, z, h => by
    rw [List.flatMap_cons] at h
    simp only [fill, RA.ev_same h.left, fill_same h.right]

theorem bnd_same {f f' : Fr} {d : Nat} {r : Option RA} (h : Same (slO r) f f') : bnd f d r = bnd f' d r := by
  cases r with
  | none => rfl
  | some r => simp only [bnd, RA.ev_same (r := r) h]

theorem vop_same {f f' : Fr} {m : Mem} {vo : VO} (h : Same vo.sl f f') : vop f m vo = vop f' m vo := by
  cases vo with
  | mov x => simp only [vop, RA.ev_same (r := x) h]
  | pick c a b => simp only [vop, RA.ev_same (r := c) h.left, RA.ev_same (r := a) h.right.left, RA.ev_same (r := b) h.right.right]
  | build z ps => simp only [vop, fill_same (ps := ps) h]
  | load k x => simp only [vop, RA.ev_same (r := x) h]
  | loadv l s k x => simp only [vop, RA.ev_same (r := x) h]
  | loado k x => simp only [vop, RA.ev_same (r := x) h]
  | loadr k x => simp only [vop, RA.ev_same (r := x) h]
  | nilck x => simp only [vop, RA.ev_same (r := x) h]
  | un o x => simp only [vop, RA.ev_same (r := x) h]
  | cvi k x => simp only [vop, RA.ev_same (r := x) h]
  | b2s x => simp only [vop, RA.ev_same (r := x) h]
  | faddr o x => simp only [vop, RA.ev_same (r := x) h]
  | fld o k x => simp only [vop, RA.ev_same (r := x) h]
  | ext x i => simp only [vop, RA.ev_same (r := x) h]
  | toU x => simp only [vop, RA.ev_same (r := x) h]
  | ofU t n x => simp only [vop, RA.ev_same (r := x) h]
  | same x => simp only [vop, RA.ev_same (r := x) h]
  | len k x => simp only [vop, RA.ev_same (r := x) h]
  | bin t o x y => simp only [vop, RA.ev_same (r := x) h.left, RA.ev_same (r := y) h.right]
  | eqs n ks x y => simp only [vop, RA.ev_same (r := x) h.left, RA.ev_same (r := y) h.right]
  | iaddr sz len x y => simp only [vop, RA.ev_same (r := x) h.left, RA.ev_same (r := y) h.right]
  | idx x y => simp only [vop, RA.ev_same (r := x) h.left, RA.ev_same (r := y) h.right]
  | mnx b x y => simp only [vop, RA.ev_same (r := x) h.left, RA.ev_same (r := y) h.right]
  | slc sz x lo hi mx =>
    have h1 := h.right.left
    have h2 := h.right.right.left
    have h3 := h.right.right.right
    simp only [vop, RA.ev_same (r := x) h.left, bnd_same (r := lo) h1, bnd_same (r := hi) h2]
    cases mx with
    | none => rfl
    | some r => simp only [bnd_same (r := some r) h3]
  | mkfn fn a b => simp only [vop, evs_same (rs := a) h.left, evs_same (rs := b) h.right]
  | slcl x hi mx => simp only [vop, RA.ev_same (r := x) h.left, RA.ev_same (r := hi) h.right.left, RA.ev_same (r := mx) h.right.right]

/-- What of the memory is looked at. -/
inductive MC where
  | no
  | shape
  | rows
  | cell (l s : Nat)
  | outer
  | all
  deriving DecidableEq

def VO.mc : VO → MC
  | .load _ _ => .all
  | .loadv l s _ _ => .cell l s
  | .loado _ _ => .outer
  | .loadr _ _ => .rows
  | .b2s _ => .rows
  | .nilck _ => .shape
  | .faddr _ _ => .shape
  | .len _ _ => .shape
  | .slc .. => .shape
  | .iaddr .. => .shape
  | .toU _ => .all
  | .ofU .. => .all
  | _ => .no

def Ob.sh : Ob → Option (Nat × Nat)
  | .vec g z _ => some (g, z)
  | _ => Option.none
def Ob.row : Ob → Option (Nat × Nat × List AV)
  | .vec g z xs => some (g, z, xs)
  | _ => Option.none

def Agree : MC → Mem → Mem → Prop
  | .no, _, _ => True
  | .shape, m, m' => ∀ l s, (look m l s).sh = (look m' l s).sh
  | .rows, m, m' => ∀ l s, (look m l s).row = (look m' l s).row
  | .cell l s, m, m' => look m l s = look m' l s ∨ ((look m l s).isRow = true ∧ (look m' l s).isRow = true)
  | .outer, m, m' => ∀ l s, look m (l + 1) s = look m' (l + 1) s
  | .all, m, m' => m = m'

theorem Agree.refl (c : MC) (m : Mem) : Agree c m m := by
  cases c <;> simp [Agree]

theorem gen_shape {m m' : Mem} {l s : Nat} (h : (look m l s).sh = (look m' l s).sh) : gen? m l s = gen? m' l s := by
  unfold gen?
  cases h1 : look m l s <;> cases h2 : look m' l s <;> rw [h1, h2] at h <;> simp_all [Ob.sh]

theorem elems_rows {m m' : Mem} (h : Agree .rows m m') (x : AV) : elemsOf m x = elemsOf m' x := by
  cases x with
  | vec l s g o n q =>
    have h := h l s
    simp only [elemsOf]
    cases h1 : look m l s <;> cases h2 : look m' l s <;> rw [h1, h2] at h <;> simp_all [Ob.row]
  | _ => rfl

theorem aslice_shape {m m' : Mem} (h : Agree .shape m m') (sz : Option Nat) (x : AV) (lo hi : Nat) (mx : Option Nat) : aslice m sz x lo hi mx = aslice m' sz x lo hi mx := by
  cases sz with
  | none => rfl
  | some z =>
    cases x with
    | vec l s g o n q =>
      have h := h l s
      simp only [aslice]
      cases h1 : look m l s <;> cases h2 : look m' l s <;> rw [h1, h2] at h <;> simp_all [Ob.sh]
    | _ => rfl

theorem aiaddr_shape {m m' : Mem} (h : Agree .shape m m') (sz : Nat) (len : Option Nat) (x : AV) (i : Int) : aiaddr m sz len x i = aiaddr m' sz len x i := by
  unfold aiaddr
  cases len with
  | none =>
    cases x with
    | vec l s g o n q =>
      have h := h l s
      simp only
      cases h1 : look m l s <;> cases h2 : look m' l s <;> rw [h1, h2] at h <;> simp_all [Ob.sh]
    | _ => rfl
  | some k => rfl

def rowF (F : Nat → List AV → Option AV) : Ob → Option AV
  | .vec g _ xs => F g xs
  | _ => none

theorem row_match {o o' : Ob} (h : o.row = o'.row) (F : Nat → List AV → Option AV) : rowF F o = rowF F o' := by
  cases o <;> cases o' <;> simp only [Ob.row, Option.some.injEq, Prod.mk.injEq, reduceCtorEq] at h <;> first
    | rfl
    | (obtain ⟨rfl, _, rfl⟩ := h
       rfl)

theorem aload_vptr (m : Mem) (k : Option Nat) (l s g i o : Nat) : aload m k (.vptr l s g i o) = rowF (fun g' xs => if g = g' then match xs[i]? with
    | some e => part e.cells o k
    | none => none
  else none) (look m l s) := by
  simp only [aload]
  cases look m l s <;> rfl

theorem vop_mem {f : Fr} {m m' : Mem} {vo : VO} (h : Agree vo.mc m m') : vop f m vo = vop f m' vo := by
  cases vo <;> simp only [VO.mc] at h <;> try rfl
  case load k x => have h : m = m' := h; subst h; rfl
  case toU x => have h : m = m' := h; subst h; rfl
  case ofU t n x => have h : m = m' := h; subst h; rfl
  case loado k x =>
    have h : ∀ l s, look m (l + 1) s = look m' (l + 1) s := h
    simp only [vop]
    split
    · simp only [aload, h]
    · rfl
  case loadv l s k x =>
    have h : look m l s = look m' l s ∨ ((look m l s).isRow = true ∧ (look m' l s).isRow = true) := h
    simp only [vop]
    split
    · split
      · rename_i hh
        obtain ⟨rfl, rfl⟩ := hh
        rcases h with h | ⟨h1, h2⟩
        · simp only [aload, h]
        · simp only [aload]
          cases e1 : look m _ _ <;> cases e2 : look m' _ _ <;> rw [e1] at h1 <;> rw [e2] at h2 <;> first | rfl | (simp [Ob.isRow] at h1; done) | (simp [Ob.isRow] at h2; done)
      · rfl
    · rfl
  case b2s x => simp only [vop, elems_rows h]
  case loadr k x =>
    simp only [vop]
    split
    · rfl
    · rename_i l s g i o e
      have h4 : (look m l s).row = (look m' l s).row := h l s
      rw [aload_vptr, aload_vptr, row_match h4]
    · rfl
  case nilck x => simp only [vop, fun l s => gen_shape (h l s)]
  case faddr o x => simp only [vop, fun l s => gen_shape (h l s)]
  case len k x => simp only [vop, fun l s => gen_shape (h l s)]
  case slc sz x lo hi mx => simp only [vop, aslice_shape h]
  case iaddr sz len x i => simp only [vop, aiaddr_shape h]

mutual
theorem still_rows {m m' : Mem} (h : Agree .rows m m') : ∀ x : AV, x.still false m = x.still false m'
  | .vec l s g o n q => by
      have h := h l s
      simp only [AV.still]
      cases h1 : look m l s <;> cases h2 : look m' l s <;> rw [h1, h2] at h <;> simp_all [Ob.row]
  | .agg l => by simp only [AV.still, stillL_rows h l]
  | .tup l => by simp only [AV.still, stillL_rows h l]
  | .iface t x => by simp only [AV.still, still_rows h x]
  | .top | .int .. | .bool _ | .str _ | .nils | .nilp | .nilf | .nili | .nilm | .anyp | .list _ | .lcap _ | .fn .. | .ptr .. | .vptr .. | .rptr _ => rfl
theorem stillL_rows {m m' : Mem} (h : Agree .rows m m') : ∀ l : List AV, AV.stillL false m l = AV.stillL false m' l
  | [] => rfl
  | x :: l => by simp only [AV.stillL, still_rows h x, stillL_rows h l]
end

/-- Operations that turn no object. -/
def RO.pure : RO → Bool
  | .val _ => true
  | .bsl .. => true
  | .call _ _ => true
  | .usd _ => true
  | _ => false

def RO.mc : RO → MC
  | .val v => v.mc
  | .call _ _ => .rows
  | .usd _ => .rows
  | .bsl .. => .no
  | _ => .all

section
variable {P : Program}

/-- A pure operation gives x. -/
def pgood (P : Program) (op : RO) (st : St) (x : AV) : Prop :=
  match op with
  | .val vo => vop st.f st.m vo = some x
  | .call f args => ∃ k fa fb ys, f.ev st.f = .fn (.func k) fa fb ∧ AV.stillL false st.m (fa ++ args.map (RA.ev st.f) ++ fb) = some ys ∧ AV.rfL ys = true ∧ Fn1 P k ys x ∧ x.rf = true ∧ (AV.rfL (fa ++ args.map (RA.ev st.f) ++ fb) = true ∨ x.nl = true)
  | _ => False

/-- An operation gives x and leaves the objects m. -/
def mgood (P : Program) (op : RO) (st : St) (x : AV) (m : Mem) : Prop :=
  match op with
  | .val vo => vop st.f st.m vo = some x ∧ m = st.m
  | .call f args => pgood P (.call f args) st x ∧ m = st.m
  | .allocN s z => noOb st.m s = true ∧ x = .ptr 0 s 0 ∧ m = Am.put st.m 0 s (.cells z)
  | .boxN s r => noOb st.m s = true ∧ (r.ev st.f).cells.all AV.leaf = true ∧ x = .ptr 0 s 0 ∧ m = Am.put st.m 0 s (.cells (r.ev st.f).cells)
  | .store n p r => (r.ev st.f).cells.length = n ∧ (r.ev st.f).cells.all AV.leaf = true ∧ astore st.m (p.ev st.f) (r.ev st.f).cells = some m ∧ x = .tup []
  | .storev l s n p r => (∃ o, p.ev st.f = .ptr l s o) ∧ (r.ev st.f).cells.length = n ∧ (r.ev st.f).cells.all AV.leaf = true ∧ astore st.m (p.ev st.f) (r.ev st.f).cells = some m ∧ x = .tup []
  | .app sz bytes el s r => ∃ l site g n xs ys, s.ev st.f = .vec l site g 0 n false ∧ look st.m l site = .vec g sz xs ∧ tyOk site el = true ∧ n ≤ xs.length ∧ elemsOf st.m (r.ev st.f) = some ys ∧ ys.all (fun e => e.cells.length == sz) = true ∧ n + ys.length ≤ maxLen ∧ (n + ys.length) * bytes ≤ 140737488355328 ∧
      x = .vec l site (g + 1) 0 (n + ys.length) false ∧ m = Am.put st.m l site (.vec (g + 1) sz (xs.take n ++ ys))
  | .bsl sz len z ps => (∃ y, fill st.f ps (zeros z sz len) = some y ∧ AV.rfL y = true ∧ y.all AV.leaf = true ∧ x = .list (chunk sz len (y.map nn0))) ∧ m = st.m
  | .bslv site sz len z ps => ∃ y, fill st.f ps (zeros z sz len) = some y ∧ AV.rfL y = true ∧ y.all AV.leaf = true ∧ rowOrNone (look st.m 0 site) = true ∧ x = .vec 0 site (newGen st.m 0 site) 0 len false ∧ m = Am.put st.m 0 site (.vec (newGen st.m 0 site) sz (chunk sz len (y.map nn0)))
  | .bsl0 site sz => rowOrNone (look st.m 0 site) = true ∧ x = .vec 0 site (newGen st.m 0 site) 0 0 false ∧ m = Am.put st.m 0 site (.vec (newGen st.m 0 site) sz [])
  | .appc site sz bytes _ s r => ∃ xs ys, s.ev st.f = .lcap xs ∧ elemsOf st.m (r.ev st.f) = some ys ∧ ys ≠ [] ∧ xs.all (fun e => e.cells.length == sz) = true ∧ ys.all (fun e => e.cells.length == sz) = true ∧ xs.length + ys.length ≤ maxLen ∧ (xs.length + ys.length) * bytes ≤ 140737488355328 ∧ rowOrNone (look st.m 0 site) = true ∧
      x = .vec 0 site (newGen st.m 0 site) 0 (xs.length + ys.length) false ∧ m = Am.put st.m 0 site (.vec (newGen st.m 0 site) sz (xs ++ ys))
  | .callF f args => ∃ k fa fb, f.ev st.f = .fn (.func k) fa fb ∧ ACalls P k (fa ++ args.map (RA.ev st.f) ++ fb) st.m (fun y m' => y = x ∧ m' = m)
  | .callK l s f args => ∃ k fa fb, f.ev st.f = .fn (.func k) fa fb ∧ ACalls P k (fa ++ args.map (RA.ev st.f) ++ fb) st.m (fun y m' => y = x ∧ m' = m) ∧ look m l s = look st.m l s
  | .usd r => (∃ l s g n sz xs, 2000 ≤ s ∧ r.ev st.f = .vec l s g 0 n false ∧ look st.m l s = .vec g sz xs ∧ x = (if n = 0 then .anyp else .vptr l s g 0 0)) ∧ m = st.m
  | .ustr el p r => (p.ev st.f = .anyp ∧ r.ev st.f = .int .i64 0 ∧ x = .str [] ∧ m = st.m) ∨
      ∃ l g n xs s, p.ev st.f = .vptr l (el + 2000) g 0 0 ∧ r.ev st.f = .int .i64 ((n : Nat) : Int) ∧ look st.m l (el + 2000) = .vec g 1 xs ∧ n ≤ xs.length ∧ n ≠ 0 ∧ xs.take n = bytesAV s ∧ x = .str s ∧ m = Am.put st.m l (el + 2000) (.vec (g + 1) 1 [])
  | _ => False

/-- Operations that forget nothing. -/
def RO.keeps : RO → Bool
  | .appS .. => false
  | .mk .. => false
  | .s2b .. => false
  | .dfr .. => false
  | .slc0 .. => false
  | .isnil .. => false
  | .callR .. => false
  | .xb .. => false
  | .rngs .. => false
  | .nxts .. => false
  | _ => true

theorem aop_good {d : Option Nat} {op : RO} {st : St} {K : St → Prop} (hk : op.keeps = true) : aop P d op st K ↔ ∃ x m, mgood P op st x m ∧ K { st with m := m, f := updO st.f d x } := by
  cases op <;> simp only [RO.keeps, Bool.false_eq_true] at hk <;> simp only [aop, mgood, pgood]
  case val => exact ⟨fun ⟨x, h, k⟩ => ⟨x, _, ⟨h, rfl⟩, k⟩, fun ⟨x, m, ⟨h, e⟩, k⟩ => by subst e; exact ⟨x, h, k⟩⟩
  case allocN => exact ⟨fun ⟨h, k⟩ => ⟨_, _, ⟨h, rfl, rfl⟩, k⟩, fun ⟨x, m, ⟨h, e, e'⟩, k⟩ => by subst e e'; exact ⟨h, k⟩⟩
  case boxN => exact ⟨fun ⟨h, h', k⟩ => ⟨_, _, ⟨h, h', rfl, rfl⟩, k⟩, fun ⟨x, m, ⟨h, h', e, e'⟩, k⟩ => by subst e e'; exact ⟨h, h', k⟩⟩
  case store => exact ⟨fun ⟨h1, h2, m', h3, k⟩ => ⟨_, m', ⟨h1, h2, h3, rfl⟩, k⟩, fun ⟨x, m, ⟨h1, h2, h3, e⟩, k⟩ => by subst e; exact ⟨h1, h2, m, h3, k⟩⟩
  case storev => exact ⟨fun ⟨h0, h1, h2, m', h3, k⟩ => ⟨_, m', ⟨h0, h1, h2, h3, rfl⟩, k⟩, fun ⟨x, m, ⟨h0, h1, h2, h3, e⟩, k⟩ => by subst e; exact ⟨h0, h1, h2, m, h3, k⟩⟩
  case app => exact ⟨fun ⟨l, site, g, n, xs, ys, h1, h2, ht, h3, h4, h5, h6, h7, k⟩ => ⟨_, _, ⟨l, site, g, n, xs, ys, h1, h2, ht, h3, h4, h5, h6, h7, rfl, rfl⟩, k⟩, fun ⟨x, m, ⟨l, site, g, n, xs, ys, h1, h2, ht, h3, h4, h5, h6, h7, e, e'⟩, k⟩ => by subst e e'; exact ⟨l, site, g, n, xs, ys, h1, h2, ht, h3, h4, h5, h6, h7, k⟩⟩
  case call => exact ⟨fun ⟨k, fa, fb, ys, v, h1, h2, h3, h4, h5, h6, kk⟩ => ⟨v, _, ⟨⟨k, fa, fb, ys, h1, h2, h3, h4, h5, h6⟩, rfl⟩, kk⟩, fun ⟨x, m, ⟨⟨k, fa, fb, ys, h1, h2, h3, h4, h5, h6⟩, e⟩, kk⟩ => by subst e; exact ⟨k, fa, fb, ys, x, h1, h2, h3, h4, h5, h6, kk⟩⟩
  case usd => exact ⟨fun ⟨l, s, g, n, sz, xs, h0, h1, h2, k⟩ => ⟨_, _, ⟨⟨l, s, g, n, sz, xs, h0, h1, h2, rfl⟩, rfl⟩, k⟩, fun ⟨x, m, ⟨⟨l, s, g, n, sz, xs, h0, h1, h2, e⟩, e'⟩, k⟩ => by subst e e'; exact ⟨l, s, g, n, sz, xs, h0, h1, h2, k⟩⟩
  case ustr =>
    constructor
    · rintro (⟨h1, h2, k⟩ | ⟨l, g, n, xs, s, h1, h2, h3, h4, h5, h6, k⟩)
      · exact ⟨_, _, .inl ⟨h1, h2, rfl, rfl⟩, k⟩
      · exact ⟨_, _, .inr ⟨l, g, n, xs, s, h1, h2, h3, h4, h5, h6, rfl, rfl⟩, k⟩
    · rintro ⟨x, m, ⟨h1, h2, e, e'⟩ | ⟨l, g, n, xs, s, h1, h2, h3, h4, h5, h6, e, e'⟩, k⟩
      · subst e e'; exact .inl ⟨h1, h2, k⟩
      · subst e e'; exact .inr ⟨l, g, n, xs, s, h1, h2, h3, h4, h5, h6, k⟩
  case bsl => exact ⟨fun ⟨y, h1, h2, h3, k⟩ => ⟨_, _, ⟨⟨y, h1, h2, h3, rfl⟩, rfl⟩, k⟩, fun ⟨x, m, ⟨⟨y, h1, h2, h3, e⟩, e'⟩, k⟩ => by subst e e'; exact ⟨y, h1, h2, h3, k⟩⟩
  case bslv => exact ⟨fun ⟨y, h1, h2, h3, h4, k⟩ => ⟨_, _, ⟨y, h1, h2, h3, h4, rfl, rfl⟩, k⟩, fun ⟨x, m, ⟨y, h1, h2, h3, h4, e, e'⟩, k⟩ => by subst e e'; exact ⟨y, h1, h2, h3, h4, k⟩⟩
  case bsl0 => exact ⟨fun ⟨h1, k⟩ => ⟨_, _, ⟨h1, rfl, rfl⟩, k⟩, fun ⟨x, m, ⟨h1, e, e'⟩, k⟩ => by subst e e'; exact ⟨h1, k⟩⟩
  case appc => exact ⟨fun ⟨xs, ys, h1, h2, h3, h4, h5, h6, h7, h8, k⟩ => ⟨_, _, ⟨xs, ys, h1, h2, h3, h4, h5, h6, h7, h8, rfl, rfl⟩, k⟩, fun ⟨x, m, ⟨xs, ys, h1, h2, h3, h4, h5, h6, h7, h8, e, e'⟩, k⟩ => by subst e e'; exact ⟨xs, ys, h1, h2, h3, h4, h5, h6, h7, h8, k⟩⟩
  case callK => exact ⟨fun ⟨k, fa, fb, v, m', h1, h2, h3, kk⟩ => ⟨v, m', ⟨k, fa, fb, h1, h2, h3⟩, kk⟩, fun ⟨x, m, ⟨k, fa, fb, h1, h2, h3⟩, kk⟩ => ⟨k, fa, fb, x, m, h1, h2, h3, kk⟩⟩
  case callF => exact ⟨fun ⟨k, fa, fb, v, m', h1, h2, kk⟩ => ⟨v, m', ⟨k, fa, fb, h1, h2⟩, kk⟩, fun ⟨x, m, ⟨k, fa, fb, h1, h2⟩, kk⟩ => ⟨k, fa, fb, x, m, h1, h2, kk⟩⟩

/-- One operation, guard and all. -/
def sgood (P : Program) (it : Item) (st : St) (x : AV) (m : Mem) : Prop :=
  match it.g with
  | none => mgood P it.op st x m
  | some (j, want) => match st.f j with
    | .bool b => (b = want ∧ mgood P it.op st x m) ∨ (b = (!want) ∧ x = .tup [] ∧ m = st.m)
    | .tup l => l = [] ∧ x = .tup [] ∧ m = st.m
    | _ => False

theorem astep_good {it : Item} {st : St} {K : St → Prop} (hk : it.op.keeps = true) : astep P it st K ↔ ∃ x m, sgood P it st x m ∧ K { st with m := m, f := updO st.f it.dst x } := by
  obtain ⟨d, op, g⟩ := it
  cases g with
  | none => exact aop_good hk
  | some p =>
    obtain ⟨j, want⟩ := p
    simp only [astep, sgood]
    cases hj : st.f j with
    | bool b =>
      simp only
      rw [aop_good hk]
      constructor
      · intro ⟨h1, h2⟩
        by_cases hb : b = want
        · obtain ⟨x, m, h, k⟩ := h1 hb; exact ⟨x, m, .inl ⟨hb, h⟩, k⟩
        · have hb' : b = !want := by cases b <;> cases want <;> first | rfl | exact absurd rfl hb
          exact ⟨_, _, .inr ⟨hb', rfl, rfl⟩, h2 hb'⟩
      · rintro ⟨x, m, ⟨hb, h⟩ | ⟨hb, rfl, rfl⟩, k⟩
        · exact ⟨fun _ => ⟨x, m, h, k⟩, fun e => by rw [hb] at e; cases want <;> cases e⟩
        · exact ⟨fun e => (by rw [hb] at e; cases want <;> cases e), fun _ => k⟩
    | tup l =>
      constructor
      · rintro ⟨h, k⟩
        exact ⟨_, _, ⟨h, rfl, rfl⟩, k⟩
      · rintro ⟨x, m, ⟨h, rfl, rfl⟩, k⟩
        exact ⟨h, k⟩
    | _ => exact ⟨fun h => h.elim, fun ⟨_, _, h, _⟩ => h.elim⟩

theorem mgood_same {op : RO} {f f' : Fr} {m m' : Mem} {ds ds' : List DF} {x : AV} (h : Same op.sl f f') (k : mgood P op ⟨f, m, ds⟩ x m') : mgood P op ⟨f', m, ds'⟩ x m' := by
  cases op with
  | val vo => simp only [mgood, vop_same (vo := vo) h] at k ⊢; exact k
  | call g args => simp only [mgood, pgood, RA.ev_same (r := g) h.left, evs_same (rs := args) h.right] at k ⊢; exact k
  | callK l s g args => simp only [mgood, RA.ev_same (r := g) h.left, evs_same (rs := args) h.right] at k ⊢; exact k
  | callF g args => simp only [mgood, RA.ev_same (r := g) h.left, evs_same (rs := args) h.right] at k ⊢; exact k
  | allocN s z => exact k
  | boxN s r => simp only [mgood, RA.ev_same (r := r) h] at k ⊢; exact k
  | store n p r => simp only [mgood, RA.ev_same (r := p) h.left, RA.ev_same (r := r) h.right] at k ⊢; exact k
  | storev l s n p r => simp only [mgood, RA.ev_same (r := p) h.left, RA.ev_same (r := r) h.right] at k ⊢; exact k
  | usd r => simp only [mgood, RA.ev_same (r := r) h] at k ⊢; exact k
  | ustr el p r => simp only [mgood, RA.ev_same (r := p) h.left, RA.ev_same (r := r) h.right] at k ⊢; exact k
  | app sz bytes el s r => simp only [mgood, RA.ev_same (r := s) h.left, RA.ev_same (r := r) h.right] at k ⊢; exact k
  | appc site sz bytes el s r => simp only [mgood, RA.ev_same (r := s) h.left, RA.ev_same (r := r) h.right] at k ⊢; exact k
  | bsl sz len z ps => simp only [mgood, fill_same (ps := ps) h] at k ⊢; exact k
  | bslv site sz len z ps => simp only [mgood, fill_same (ps := ps) h] at k ⊢; exact k
  | bsl0 site sz => exact k
  | _ => exact k.elim

theorem sgood_same {it : Item} {f f' : Fr} {m m' : Mem} {ds ds' : List DF} {x : AV} (h : Same it.sl f f') (k : sgood P it ⟨f, m, ds⟩ x m') : sgood P it ⟨f', m, ds'⟩ x m' := by
  obtain ⟨d, op, g⟩ := it
  cases g with
  | none => exact mgood_same (Same.left h) k
  | some p =>
    obtain ⟨j, want⟩ := p
    have hj : f j = f' j := (Same.right h) j (by simp)
    simp only [sgood] at k ⊢
    rw [← hj]
    cases he : f j with
    | bool b => rw [he] at k; exact k.imp (fun h1 => ⟨h1.1, mgood_same (Same.left h) h1.2⟩) id
    | tup l => rw [he] at k; exact k
    | _ => rw [he] at k; exact k

/-- A pure operation over another memory. -/
theorem pure_mem {op : RO} (hp : op.pure = true) {f : Fr} {m m' m1 : Mem} {ds ds' : List DF} {x : AV} (h : Agree op.mc m m') (k : mgood P op ⟨f, m, ds⟩ x m1) : m1 = m ∧ mgood P op ⟨f, m', ds'⟩ x m' := by
  cases op with
  | bsl sz len z ps => obtain ⟨k, e⟩ := k; exact ⟨e, k, rfl⟩
  | val vo => obtain ⟨k, e⟩ := k; exact ⟨e, by rw [← vop_mem (f := f) h]; exact k, rfl⟩
  | call g args =>
    obtain ⟨⟨k, fa, fb, ys, h1, h2, h3, h4, h5, h6⟩, e⟩ := k
    refine ⟨e, ⟨k, fa, fb, ys, h1, ?_, h3, h4, h5, h6⟩, rfl⟩
    rw [← stillL_rows h]; exact h2
  | usd r =>
    obtain ⟨⟨l, s, g, n, sz, xs, h0, h1, h2, h3⟩, e⟩ := k
    refine ⟨e, ⟨l, s, g, n, sz, xs, h0, h1, ?_, h3⟩, rfl⟩
    have h4 : (look m l s).row = (look m' l s).row := h l s
    have h2 : look m l s = .vec g sz xs := h2
    show look m' l s = .vec g sz xs
    rw [h2] at h4
    cases hl : look m' l s with
    | vec g' sz' xs' => rw [hl] at h4; simp only [Ob.row, Option.some.injEq, Prod.mk.injEq] at h4; obtain ⟨rfl, rfl, rfl⟩ := h4; rfl
    | none => rw [hl] at h4; cases h4
    | cells _ => rw [hl] at h4; cases h4
    | iter _ _ => rw [hl] at h4; cases h4
  | _ => cases hp

theorem pure_smem {it : Item} (hp : it.op.pure = true) {f : Fr} {m m' m1 : Mem} {ds ds' : List DF} {x : AV} (h : Agree it.op.mc m m') (k : sgood P it ⟨f, m, ds⟩ x m1) : m1 = m ∧ sgood P it ⟨f, m', ds'⟩ x m' := by
  obtain ⟨d, op, g⟩ := it
  cases g with
  | none => exact pure_mem hp h k
  | some p =>
    obtain ⟨j, want⟩ := p
    simp only [sgood] at k ⊢
    cases he : f j with
    | bool b =>
      rw [he] at k
      rcases k with ⟨h1, k⟩ | ⟨h1, h2, h3⟩
      · obtain ⟨a, b⟩ := pure_mem hp h k
        exact ⟨a, .inl ⟨h1, b⟩⟩
      · exact ⟨h3, .inr ⟨h1, h2, trivial⟩⟩
    | tup l => rw [he] at k; exact ⟨k.2.2, k.1, k.2.1, trivial⟩
    | _ => rw [he] at k; exact k.elim

/-- What an operation turns leaves that part of the memory as it was. -/
def RO.lets (op : RO) (c : MC) : Bool :=
  match op with
  | .val _ => true
  | .call _ _ => true
  | .store .. => c == .no || c == .shape
  | .storev l s _ _ _ => match c with
    | .cell l' s' => l' != l || s' != s
    | .outer => l == 0
    | .all => false
    | _ => true
  | .allocN s _ => match c with
    | .cell l' s' => l' != 0 || s' != s
    | .all => false
    | _ => true
  | .boxN s _ => match c with
    | .cell l' s' => l' != 0 || s' != s
    | .all => false
    | _ => true
  | .app .. => match c with
    | .no => true
    | .cell _ _ => true
    | _ => false
  | .bsl .. => true
  | .bslv s _ _ _ _ => match c with
    | .no => true
    | .cell l' s' => l' != 0 || s' != s
    | .outer => true
    | _ => false
  | .bsl0 s _ => match c with
    | .no => true
    | .cell l' s' => l' != 0 || s' != s
    | .outer => true
    | _ => false
  | .appc s _ _ _ _ _ => match c with
    | .no => true
    | .cell l' s' => l' != 0 || s' != s
    | .outer => true
    | _ => false
  | .callF .. => c == .no
  | .callK l s _ _ => match c with
    | .no => true
    | .cell l' s' => l' == l && s' == s
    | _ => false
  | .usd _ => true
  | .ustr .. => c == .no
  | _ => false

theorem agree_cells {m : Mem} {l s : Nat} {o o' : Ob} (hl : look m l s = o) (ho : o.row = none) (ho' : o'.row = none) (hlt : l < m.length) {c : MC} (hc : match c with
    | .cell l' s' => (l' != l || s' != s) = true
    | .outer => (l == 0) = true
    | .all => False
    | _ => True) : Agree c m (Am.put m l s o') := by
  have key : ∀ l' s', (l' = l ∧ s' = s) ∨ look (Am.put m l s o') l' s' = look m l' s' := by
    intro l' s'
    by_cases hh : l' = l ∧ s' = s
    · exact .inl hh
    · exact .inr (look_put_ne (by omega))
  have hsh : ∀ {x : Ob}, x.row = none → x.sh = none := by intro x; cases x <;> simp [Ob.row, Ob.sh]
  cases c with
  | no => trivial
  | shape =>
    intro l' s'
    rcases key l' s' with ⟨rfl, rfl⟩ | e
    · rw [look_put_same hlt, hl, hsh ho, hsh ho']
    · rw [e]
  | rows =>
    intro l' s'
    rcases key l' s' with ⟨rfl, rfl⟩ | e
    · rw [look_put_same hlt, hl, ho, ho']
    · rw [e]
  | cell l' s' =>
    show look m l' s' = look _ l' s' ∨ _
    rcases key l' s' with ⟨rfl, rfl⟩ | e
    · simp at hc
    · exact .inl e.symm
  | outer =>
    intro l' s'
    have hc : l = 0 := by simpa using hc
    exact (look_put_ne (by omega)).symm
  | all => exact hc.elim

theorem noOb_look {m : Mem} {s : Nat} (h : noOb m s = true) : look m 0 s = .none := by
  unfold noOb at h
  split at h
  · assumption
  · cases h

end

end Go.Proofs.YtalalolgdekelaaGreatDoor.Am

/- Operations that may change places do; a region whose order is drawn comes to what it comes to in the order of its text. -/
namespace Go.Proofs.YtalalolgdekelaaGreatDoor.Am
open Go

theorem Agree.symm {c : MC} {m m' : Mem} (h : Agree c m m') : Agree c m' m := by
  cases c with
  | no => trivial
  | shape => exact fun l s => (h l s).symm
  | rows => exact fun l s => (h l s).symm
  | cell l s => exact Or.imp Eq.symm And.symm h
  | outer => exact fun l s => (h l s).symm
  | all => exact Eq.symm h

theorem astore_shape {m m' : Mem} {p : AV} {ys : List AV} (h : astore m p ys = some m') : Agree .shape m m' := by
  cases p with
  | ptr l s o =>
    simp only [astore] at h
    split at h
    · rename_i xs hlk
      split at h
      · split at h
        · cases h
          exact agree_cells (c := .shape) hlk rfl rfl (look_lt (by rw [hlk]; simp)) trivial
        · cases h
      · cases h
    · cases h
  | vptr l s g i o =>
    simp only [astore] at h
    split at h
    · rename_i g' sz xs hlk
      split at h
      · rename_i hg
        subst hg
        split at h
        · split at h
          · cases h
            intro l' s'
            by_cases hh : l' = l ∧ s' = s
            · obtain ⟨rfl, rfl⟩ := hh
              rw [look_put_same (look_lt (by rw [hlk]; simp)), hlk]
              rfl
            · rw [look_put_ne (by omega)]
          · cases h
        · cases h
      · cases h
    · cases h
  | _ => simp [astore] at h

section
variable {P : Program} {N : Nat}

theorem put_none {m : Mem} {s : Nat} {xs : List AV} (h : noOb m s = true) {c : MC} (hc : match c with
    | .cell l' s' => (l' != 0 || s' != s) = true
    | .all => False
    | _ => True) : Agree c m (Am.put m 0 s (.cells xs)) := by
  cases m with
  | nil => exact Agree.refl c _
  | cons fr m => exact agree_cells (noOb_look h) rfl rfl (by simp) (by cases c <;> first | exact hc | rfl)

theorem mgood_lets {op : RO} {c : MC} (hc : op.lets c = true) {st : St} {x : AV} {m : Mem} (h : mgood P op st x m) : Agree c st.m m := by
  cases op with
  | val vo => rw [h.2]; exact Agree.refl c _
  | call f args => rw [h.2]; exact Agree.refl c _
  | usd r => rw [h.2]; exact Agree.refl c _
  | callK l s f args =>
    obtain ⟨_, _, _, _, _, he⟩ := h
    cases c with
    | no => trivial
    | cell l' s' =>
      simp only [RO.lets, Bool.and_eq_true, beq_iff_eq] at hc
      obtain ⟨rfl, rfl⟩ := hc
      exact .inl he.symm
    | _ => simp [RO.lets] at hc
  | ustr el p r =>
    simp only [RO.lets, beq_iff_eq] at hc
    subst hc; trivial
  | store n p r =>
    simp only [RO.lets, Bool.or_eq_true, beq_iff_eq] at hc
    rcases hc with rfl | rfl
    · trivial
    · exact astore_shape h.2.2.1
  | storev l s n p r =>
    obtain ⟨⟨o, ho⟩, h1, h2, h3, h4⟩ := h
    rw [ho] at h3
    simp only [astore] at h3
    split at h3
    · rename_i xs hlk
      split at h3
      · split at h3
        · cases h3
          refine agree_cells hlk rfl rfl (look_lt (by rw [hlk]; simp)) ?_
          cases c <;> first | trivial | exact hc | cases hc
        · cases h3
      · cases h3
    · cases h3
  | allocN s z =>
    rw [h.2.2]
    refine put_none h.1 ?_
    cases c <;> first | trivial | exact hc | cases hc
  | boxN s r =>
    rw [h.2.2.2]
    refine put_none h.1 ?_
    cases c <;> first | trivial | exact hc | cases hc
  | app sz bytes el s r =>
    obtain ⟨l, site, g, n, xs, ys, _, hlk, _, _, _, _, _, _, _, rfl⟩ := h
    cases c with
    | no => trivial
    | cell l' s' =>
      show look st.m l' s' = look _ l' s' ∨ _
      by_cases hh : l' = l ∧ s' = site
      · obtain ⟨rfl, rfl⟩ := hh
        refine .inr ⟨by rw [hlk]; rfl, ?_⟩
        rw [look_put_same (look_lt (by rw [hlk]; simp))]; rfl
      · exact .inl (look_put_ne (by omega)).symm
    | _ => simp [RO.lets] at hc
  | bsl sz len z ps => rw [h.2]; exact Agree.refl c _
  | bslv site sz len z ps =>
    obtain ⟨y, _, _, _, _, _, rfl⟩ := h
    cases c with
    | no => trivial
    | cell l' s' =>
      simp only [RO.lets, Bool.or_eq_true, bne_iff_ne] at hc
      exact .inl (look_put_ne (by omega)).symm
    | outer => exact fun l' s' => (look_put_ne (.inl (Nat.succ_ne_zero l'))).symm
    | _ => simp [RO.lets] at hc
  | bsl0 site sz =>
    obtain ⟨_, _, rfl⟩ := h
    cases c with
    | no => trivial
    | cell l' s' =>
      simp only [RO.lets, Bool.or_eq_true, bne_iff_ne] at hc
      exact .inl (look_put_ne (by omega)).symm
    | outer => exact fun l' s' => (look_put_ne (.inl (Nat.succ_ne_zero l'))).symm
    | _ => simp [RO.lets] at hc
  | appc site sz bytes el s r =>
    obtain ⟨xs, ys, _, _, _, _, _, _, _, _, _, rfl⟩ := h
    cases c with
    | no => trivial
    | cell l' s' =>
      simp only [RO.lets, Bool.or_eq_true, bne_iff_ne] at hc
      exact .inl (look_put_ne (by omega)).symm
    | outer => exact fun l' s' => (look_put_ne (.inl (Nat.succ_ne_zero l'))).symm
    | _ => simp [RO.lets] at hc
  | callF f args =>
    simp only [RO.lets, beq_iff_eq] at hc
    subst hc; trivial
  | _ => exact h.elim

theorem sgood_lets {it : Item} {c : MC} (hc : it.op.lets c = true) {st : St} {x : AV} {m : Mem} (h : sgood P it st x m) : Agree c st.m m := by
  obtain ⟨d, op, g⟩ := it
  cases g with
  | none => exact mgood_lets hc h
  | some p =>
    obtain ⟨j, want⟩ := p
    simp only [sgood] at h
    cases he : st.f j with
    | bool b =>
      rw [he] at h
      rcases h with ⟨_, h⟩ | ⟨_, _, h⟩
      · exact mgood_lets hc h
      · rw [h]; exact Agree.refl c _
    | tup l => rw [he] at h; rw [h.2.2]; exact Agree.refl c _
    | _ => rw [he] at h; exact h.elim

/-- Neither writes what the other looks at. -/
def apart (a b : Item) : Bool :=
  (match a.dst with
   | some d => !(b.sl.contains d) && b.dst != some d
   | none => true) &&
  (match b.dst with
   | some d => !(a.sl.contains d)
   | none => true)

def indep (a b : Item) : Bool :=
  a.op.keeps && b.op.keeps && apart a b && ((a.op.pure && b.op.lets a.op.mc) || (b.op.pure && a.op.lets b.op.mc))

theorem updO_same {l : List Nat} {f : Fr} {d : Option Nat} {x : AV} (h : ∀ k, d = some k → k ∉ l) : Same l f (updO f d x) := by
  intro t ht
  cases d with
  | none => rfl
  | some k =>
    have : t ≠ k := fun e => h k rfl (e ▸ ht)
    show f t = upd f k x t
    rw [upd_ne _ _ this]

theorem updO_comm {f : Fr} {d e : Option Nat} {x y : AV} (h : ∀ k, d = some k → e ≠ some k) : updO (updO f d x) e y = updO (updO f e y) d x := by
  cases d with
  | none => rfl
  | some d =>
    cases e with
    | none => rfl
    | some e =>
      have hne : d ≠ e := fun hh => h d rfl (hh ▸ rfl)
      funext i
      show upd (upd f d x) e y i = upd (upd f e y) d x i
      by_cases h1 : i = e
      · subst h1
        rw [upd_same, upd_ne _ _ (Ne.symm hne), upd_same]
      · rw [upd_ne _ _ h1]
        by_cases h2 : i = d
        · subst h2; rw [upd_same, upd_same]
        · rw [upd_ne _ _ h2, upd_ne _ _ h2, upd_ne _ _ h1]

theorem apart_spec {a b : Item} (h : apart a b = true) : (∀ k, a.dst = some k → k ∉ b.sl) ∧ (∀ k, a.dst = some k → b.dst ≠ some k) ∧ (∀ k, b.dst = some k → k ∉ a.sl) := by
  unfold apart at h
  simp only [Bool.and_eq_true] at h
  refine ⟨fun k e => ?_, fun k e => ?_, fun k e => ?_⟩
  · have := h.1; rw [e] at this; simp at this; exact this.1
  · have := h.1; rw [e] at this; simp at this; exact this.2
  · have := h.2; rw [e] at this; simpa using this

theorem astep_comm {a b : Item} (h : indep a b = true) {st : St} {K : St → Prop} (k : astep P a st fun s => astep P b s K) : astep P b st fun s => astep P a s K := by
  unfold indep at h
  simp only [Bool.and_eq_true, Bool.or_eq_true] at h
  obtain ⟨⟨⟨ka, kb⟩, hap⟩, hor⟩ := h
  obtain ⟨h1, h2, h3⟩ := apart_spec hap
  rw [astep_good ka] at k
  obtain ⟨x, m, ga, k⟩ := k
  rw [astep_good kb] at k
  obtain ⟨y, m2, gb, k⟩ := k
  rw [astep_good kb]
  have hs1 : ∀ f : Fr, Same b.sl f (updO f a.dst x) := fun f => updO_same h1
  have hs3 : ∀ f : Fr, Same a.sl f (updO f b.dst y) := fun f => updO_same h3
  have hsym : ∀ {l f f'}, Same l f f' → Same l f' f := fun h t ht => (h t ht).symm
  have hK : K { st with m := m2, f := updO (updO st.f b.dst y) a.dst x } := by
    rw [← updO_comm h2]; exact k
  rcases hor with ⟨pa, lb⟩ | ⟨pb, la⟩
  · have e : m = st.m := (pure_smem (m' := st.m) (ds' := st.ds) pa (Agree.refl _ _) ga).1
    subst e
    have gb' : sgood P b st y m2 := sgood_same (hsym (hs1 st.f)) gb
    refine ⟨y, m2, gb', ?_⟩
    rw [astep_good ka]
    have ga' : sgood P a { st with m := m2 } x m2 := (pure_smem pa (sgood_lets lb gb') ga).2
    exact ⟨x, m2, sgood_same (hs3 st.f) ga', hK⟩
  · have hag := sgood_lets la ga
    obtain ⟨e, gb1⟩ := pure_smem (m' := st.m) (ds' := st.ds) pb hag.symm gb
    have e : m2 = m := e
    subst e
    have gb' : sgood P b st y st.m := sgood_same (hsym (hs1 st.f)) gb1
    refine ⟨y, st.m, gb', ?_⟩
    rw [astep_good ka]
    exact ⟨x, m2, sgood_same (hs3 st.f) ga, hK⟩

/-- One operation of a region. -/
theorem single_ok {ops : Array Oper} {o : Oper} {i : Nat} (hi : ops[i]? = some o) {it : Item} (hc : chkI P N ops o it = true) {st : St} {K : St → Prop} (h : astep P it st K) {G : Gh} {B : Nat} {a : Act} {w : World} (hr : Rel G B N st a w) {KK : Act → World → Prop} {QQ : Exit → Act → World → Prop}
    (hk : ∀ G' st' a' w', K st' → Rel G' B N st' a' w' → Ext 1 G w G' w' → KK a' w') : wpOp P ops QQ i KK a w := by
  have h1 : AOps P N [it] st K := astep_ok (astep_mono (fun _ hs => AOps.nil hs) h)
  have h2 := h1 ops [o] (by simp [chkIs, hc]) G B a w hr (fun e a w => match e with
    | .normal => KK a w
    | e => QQ e a w) (fun G' st' a' w' h1 h2 h3 => hk G' st' a' w' h1 h2 h3)
  unfold wpOp
  simp only [hi]
  unfold wpList at h2
  split
  · rename_i hw
    rw [if_pos hw] at h2
    rcases h2 with h2 | h2
    · left
      unfold Oper.wp at h2 ⊢
      generalize (execOp a.eval o).run P w = r at h2 ⊢
      cases r with
      | ok n w' =>
        cases n <;> simp only [Oper.upon] at h2 ⊢ <;> first
          | exact h2
          | exact Calls.mono h2 (fun e w'' he => by cases e <;> exact he)
      | halt x w' => cases x <;> simp only [Oper.upon] at h2 ⊢ <;> exact h2
    · exact .inr h2
  · rename_i hw
    rw [if_neg hw] at h2
    exact h2

def dflt : Item := ⟨none, .val (.mov (.c .top)), none⟩
def pickI (its : List Item) (l : List Nat) : List Item := l.map fun i => its.getD i dflt

theorem bubble {its : List Item} {i : Nat} {post : List Nat} {Q : St → Prop} : ∀ {pre : List Nat} {st : St}, (∀ p, p ∈ pre → indep (its.getD p dflt) (its.getD i dflt) = true) →
    aops P (pickI its (pre ++ i :: post)) st Q → astep P (its.getD i dflt) st fun s => aops P (pickI its (pre ++ post)) s Q
  | [], _, _, h => h
  | p :: pre, st, hp, h => by
    have h' : astep P (its.getD p dflt) st fun s => aops P (pickI its (pre ++ i :: post)) s Q := h
    have h2 := astep_mono (fun s hs => bubble (fun q hq => hp q (List.mem_cons_of_mem _ hq)) hs) h'
    exact astep_comm (hp p (List.mem_cons_self ..)) h2

/-- p comes before i, by a chain of edges. -/
inductive Bef (ops : Array Oper) : Nat → Nat → Prop
  | one {i : Nat} {o : Oper} {e : Edge} (ho : ops[i]? = some o) (he : e ∈ o.after) (hb : Region.binds .any e = true) : Bef ops e.on i
  | more {i p : Nat} {o : Oper} {e : Edge} (ho : ops[i]? = some o) (he : e ∈ o.after) (hb : Region.binds .any e = true) (h : Bef ops p e.on) : Bef ops p i

def maskE (acc : List Nat) (m : Nat) (e : Edge) : Nat := if Region.binds .any e then (m ||| 2 ^ e.on) ||| acc.getD e.on 0 else m
def maskOf (acc : List Nat) (o : Oper) : Nat := o.after.toList.foldl (maskE acc) 0
/-- For each operation: those that come before it, as bits. -/
def masks : List Oper → List Nat → List Nat
  | [], acc => acc
  | o :: os, acc => masks os (acc ++ [maskOf acc o])

theorem maskE_fold {acc : List Nat} {p : Nat} : ∀ (l : List Edge) (m : Nat), (l.foldl (maskE acc) m).testBit p = true → m.testBit p = true ∨ ∃ e ∈ l, Region.binds .any e = true ∧ (p = e.on ∨ (acc.getD e.on 0).testBit p = true)
  | [], m, h => .inl h
  | e :: l, m, h => by
    rw [List.foldl_cons] at h
    rcases maskE_fold l _ h with h1 | ⟨e', h1, h2, h3⟩
    · unfold maskE at h1
      split at h1
      · rename_i hb
        rw [Nat.testBit_or, Nat.testBit_or, Bool.or_eq_true, Bool.or_eq_true] at h1
        rcases h1 with (h1 | h1) | h1
        · exact .inl h1
        · rw [Nat.testBit_two_pow] at h1
          exact .inr ⟨e, List.mem_cons_self .., hb, .inl (of_decide_eq_true h1).symm⟩
        · exact .inr ⟨e, List.mem_cons_self .., hb, .inr h1⟩
      · exact .inl h1
    · exact .inr ⟨e', List.mem_cons_of_mem _ h1, h2, h3⟩

theorem masks_ok {ops : Array Oper} : ∀ (l : List Oper) (acc : List Nat), ops.toList = ops.toList.take acc.length ++ l → acc.length + l.length = ops.size → (∀ i p, (acc.getD i 0).testBit p = true → Bef ops p i) → ∀ i p, ((masks l acc).getD i 0).testBit p = true → Bef ops p i
  | [], acc, _, _, h => h
  | o :: l, acc, e, hn, h => by
    have hlen : acc.length < ops.toList.length := by simp at hn ⊢; omega
    have hat : ops[acc.length]? = some o := by
      rw [← Array.getElem?_toList, e, List.getElem?_append_right (by simp; omega)]
      simp
      have : acc.length - min acc.length ops.size = 0 := by simp at hlen; omega
      rw [this]; rfl
    refine masks_ok l (acc ++ [maskOf acc o]) ?_ (by simp at hn ⊢; omega) fun i p hb => ?_
    · rw [List.length_append, List.length_singleton, List.take_succ_eq_append_getElem hlen, List.append_assoc]
      have : ops.toList[acc.length] = o := by
        have := List.getElem?_eq_getElem hlen
        rw [Array.getElem?_toList, hat] at this
        cases this; rfl
      rw [this]
      exact e
    · rw [List.getD_eq_getElem?_getD] at hb
      by_cases hi : i < acc.length
      · rw [List.getElem?_append_left hi, ← List.getD_eq_getElem?_getD] at hb
        exact h i p hb
      · by_cases hi2 : i = acc.length
        · subst hi2
          rw [List.getElem?_append_right (Nat.le_refl _)] at hb
          simp only [Nat.sub_self, List.getElem?_cons_zero, Option.getD_some] at hb
          rcases maskE_fold _ _ hb with h1 | ⟨e', h1, h2, h3⟩
          · simp at h1
          · rcases h3 with rfl | h3
            · exact .one hat (by simpa using h1) h2
            · exact .more hat (by simpa using h1) h2 (h _ _ h3)
        · rw [List.getElem?_eq_none (by simp; omega)] at hb
          simp at hb

/-- Whatever no chain of edges orders may change places. -/
def chkDraw (ops : Array Oper) (its : List Item) : Bool :=
  (List.range ops.size).all fun i => match ops[i]? with
    | some o => o.after.all (fun e => !Region.binds .any e || decide (e.on < i)) && (List.range i).all fun p => ((masks ops.toList []).getD i 0).testBit p || indep (its.getD p dflt) (its.getD i dflt)
    | none => true

/-- What is before an operation all of whose edges' ends are listed is listed. -/
theorem Bef.listed {ops : Array Oper} {L : Nat → Prop} (hcl : ∀ q, L q → ∀ o e, ops[q]? = some o → e ∈ o.after → Region.binds .any e = true → L e.on) {p i : Nat} (h : Bef ops p i) (hi : ∀ o e, ops[i]? = some o → e ∈ o.after → Region.binds .any e = true → L e.on) : L p := by
  induction h with
  | one ho he hb => exact hi _ _ ho he hb
  | more ho he hb _ ih => exact ih (hcl _ (hi _ _ ho he hb))

def unl (n : Nat) (listed : Array Bool) : List Nat := (List.range n).filter fun i => !listed.getD i true

theorem chkIs_at {ops : Array Oper} : ∀ {l : List Oper} {its : List Item}, chkIs P N ops l its = true → l.length = its.length ∧ ∀ (i : Nat) (o : Oper), l[i]? = some o → chkI P N ops o (its.getD i dflt) = true
  | [], its, h => by
    cases its with
    | nil => exact ⟨rfl, by simp⟩
    | cons it its => simp [chkIs] at h
  | o :: l, its, h => by
    cases its with
    | nil => simp [chkIs] at h
    | cons it its =>
      simp only [chkIs, Bool.and_eq_true] at h
      obtain ⟨e, h2⟩ := chkIs_at h.2
      refine ⟨by simp [e], fun i o' ho => ?_⟩
      cases i with
      | zero => simp at ho; subst ho; exact h.1
      | succ i => simpa using h2 i o' (by simpa using ho)

theorem draw_any {ops : Array Oper} {its : List Item} (hc : chkIs P N ops ops.toList its = true) (hd : chkDraw ops its = true) {B : Nat} {Q : St → Prop} {QQ : Exit → Act → World → Prop} :
    ∀ (fuel : Nat) (listed : Array Bool), listed.size = ops.size → (∀ q, listed.getD q false = true → ∀ o e, ops[q]? = some o → e ∈ o.after → Region.binds .any e = true → listed.getD e.on false = true) → (unl ops.size listed).length ≤ fuel → ∀ (st : St) (G : Gh) (a : Act) (w : World), aops P (pickI its (unl ops.size listed)) st Q → Rel G B N st a w →
      (∀ G' st' a' w', Q st' → Rel G' B N st' a' w' → Ext 1 G w G' w' → QQ .normal a' w') → wpAny P .any ops QQ fuel listed a w := by
  obtain ⟨hlen, hcs⟩ := chkIs_at hc
  have hready : ∀ (listed : Array Bool) i, i ∈ Region.ready .any ops listed → i ∈ unl ops.size listed := by
    intro listed i hi
    obtain ⟨h0, o, ho, _⟩ := mem_ready.1 hi
    exact List.mem_filter.2 ⟨List.mem_range.2 (Array.getElem?_eq_some_iff.1 ho).1, by simp [h0]⟩
  have hat : ∀ i, i < ops.size → ∃ o, ops[i]? = some o ∧ (∀ e ∈ o.after, Region.binds .any e = true → e.on < i) ∧ ∀ p, p < i → Bef ops p i ∨ indep (its.getD p dflt) (its.getD i dflt) = true := by
    intro i hi
    refine ⟨ops[i], Array.getElem?_eq_getElem hi, ?_⟩
    have h1 := List.all_eq_true.1 hd i (List.mem_range.2 hi)
    rw [Array.getElem?_eq_getElem hi] at h1
    simp only [Bool.and_eq_true] at h1
    refine ⟨fun e he hb => ?_, fun p hp => ?_⟩
    · have h2 := Array.all_eq_true_iff_forall_mem.1 h1.1 e he
      simpa [hb] using h2
    · have h2 := List.all_eq_true.1 h1.2 p (List.mem_range.2 hp)
      rw [Bool.or_eq_true] at h2
      rcases h2 with h2 | h2
      · exact .inl (masks_ok ops.toList [] (by simp) (by simp) (fun i p hb => by simp at hb) i p h2)
      · exact .inr h2
  -- the first that is left is ready
  have hfirst : ∀ (listed : Array Bool), listed.size = ops.size → Region.ready .any ops listed = [] → unl ops.size listed = [] := by
    intro listed hsz hr
    cases hu : unl ops.size listed with
    | nil => rfl
    | cons i rest =>
      exfalso
      have hpw : (unl ops.size listed).Pairwise (· < ·) := List.Pairwise.filter _ List.pairwise_lt_range
      have hi : i ∈ unl ops.size listed := by rw [hu]; exact List.mem_cons_self ..
      obtain ⟨hi1, hi2⟩ := List.mem_filter.1 hi
      obtain ⟨o, ho, h1, _⟩ := hat i (List.mem_range.1 hi1)
      have : i ∈ Region.ready .any ops listed := by
        refine mem_ready.2 ⟨by simpa using hi2, o, ho, fun e he hb => ?_⟩
        have hlt := h1 e he hb
        cases hg : listed.getD e.on false with
        | true => rfl
        | false =>
          have hin : e.on ∈ unl ops.size listed := by
            refine List.mem_filter.2 ⟨List.mem_range.2 (Nat.lt_trans hlt (List.mem_range.1 hi1)), ?_⟩
            have hlt' : e.on < listed.size := by rw [hsz]; exact Nat.lt_trans hlt (List.mem_range.1 hi1)
            simp [Array.getElem?_eq_getElem hlt'] at hg ⊢
            exact hg
          rw [hu] at hin hpw
          rcases List.mem_cons.1 hin with e' | e'
          · omega
          · have := (List.pairwise_cons.1 hpw).1 _ e'
            omega
      rw [hr] at this
      cases this
  intro fuel
  induction fuel with
  | zero =>
    intro listed hsz hcl hl st G a w h hr hq
    have hu : unl ops.size listed = [] := List.eq_nil_of_length_eq_zero (by omega)
    refine ⟨?_, ?_⟩
    · cases hx : Region.ready .any ops listed with
      | nil => rfl
      | cons i r =>
        have := hready listed i (by rw [hx]; exact List.mem_cons_self ..)
        rw [hu] at this
        cases this
    · rw [hu] at h
      exact hq G st a w h hr (Ext.refl 1 G w)
  | succ fuel ih =>
    intro listed hsz hcl hl st G a w h hr hq
    refine ⟨fun hx => ?_, fun i hi => ?_⟩
    · rw [hfirst listed hsz hx] at h
      exact hq G st a w h hr (Ext.refl 1 G w)
    · have hiu := hready listed i hi
      obtain ⟨pre, post, hsplit⟩ := List.append_of_mem hiu
      have hpw : (unl ops.size listed).Pairwise (· < ·) := List.Pairwise.filter _ List.pairwise_lt_range
      rw [hsplit] at h hpw
      obtain ⟨_, hp2, hp3⟩ := List.pairwise_append.1 hpw
      obtain ⟨hi1, hi2⟩ := List.mem_filter.1 hiu
      obtain ⟨o, ho, h1, h2⟩ := hat i (List.mem_range.1 hi1)
      obtain ⟨_, o', ho', h3⟩ := mem_ready.1 hi
      rw [ho] at ho'
      cases ho'
      have hind : ∀ p, p ∈ pre → indep (its.getD p dflt) (its.getD i dflt) = true := by
        intro p hp
        rcases h2 p (hp3 p hp i (List.mem_cons_self ..)) with hbef | h
        · exfalso
          have hl1 := hbef.listed (L := fun q => listed.getD q false = true) hcl (fun o2 e ho2 he hb => by rw [ho] at ho2; cases ho2; exact h3 e he hb)
          have hpu : p ∈ unl ops.size listed := by rw [hsplit]; exact List.mem_append_left _ hp
          obtain ⟨hr1, hr2⟩ := List.mem_filter.1 hpu
          have hlt' : p < listed.size := by rw [hsz]; exact List.mem_range.1 hr1
          simp [Array.getElem?_eq_getElem hlt'] at hl1 hr2
          rw [hl1] at hr2
          cases hr2
        · exact h
      have hb := bubble (P := P) hind h
      have hnext : unl ops.size (listed.setIfInBounds i true) = pre ++ post := by
        have e1 : unl ops.size (listed.setIfInBounds i true) = (unl ops.size listed).filter fun j => j != i := by
          unfold unl
          rw [List.filter_filter]
          refine List.filter_congr fun j hj => ?_
          by_cases hji : j = i
          · subst hji
            have hlt' : j < listed.size := by rw [hsz]; exact List.mem_range.1 hj
            simp [hlt']
          · rw [getD_set_ne true (fun e => hji e.symm)]
            simp [hji]
        rw [e1, hsplit, List.filter_append, List.filter_cons]
        have e2 : pre.filter (fun j => j != i) = pre := List.filter_eq_self.2 fun j hj => by
          have := hp3 j hj i (List.mem_cons_self ..)
          simp; omega
        have e3 : post.filter (fun j => j != i) = post := List.filter_eq_self.2 fun j hj => by
          have := (List.pairwise_cons.1 hp2).1 j hj
          simp; omega
        rw [e2, e3]
        simp
      have hset : ∀ q, listed.getD q false = true → (listed.setIfInBounds i true).getD q false = true := fun q hq' => by
        by_cases hqi : q = i
        · subst hqi
          have hlt' : q < listed.size := by rw [hsz]; exact List.mem_range.1 hi1
          simp [hlt']
        · rw [getD_set_ne false (fun e => hqi e.symm)]; exact hq'
      have hcl' : ∀ q, (listed.setIfInBounds i true).getD q false = true → ∀ o e, ops[q]? = some o → e ∈ o.after → Region.binds .any e = true → (listed.setIfInBounds i true).getD e.on false = true := fun q hq' o2 e ho2 he2 hb2 => by
        by_cases hqi : q = i
        · subst hqi
          rw [ho] at ho2; cases ho2
          exact hset _ (h3 e he2 hb2)
        · rw [getD_set_ne false (fun e => hqi e.symm)] at hq'
          exact hset _ (hcl q hq' o2 e ho2 he2 hb2)
      refine single_ok ho (hcs i o (by simpa using ho)) hb hr fun G' st' a' w' hk hr' he => ?_
      refine ih (listed.setIfInBounds i true) (by simpa using hsz) hcl' ?_ st' G' a' w' (by rw [hnext]; exact hk) hr' fun G2 st2 a2 w2 hq2 hr2 he2 => hq G2 st2 a2 w2 hq2 hr2 (he.trans he2)
      rw [hnext]
      rw [hsplit] at hl
      simp only [List.length_append, List.length_cons] at hl ⊢
      omega

theorem pickI_all {its : List Item} : pickI its (List.range its.length) = its := by
  apply List.ext_getElem
  · simp [pickI]
  · intro i h1 h2
    simp [pickI, h2]

theorem draw_ok {ops : Array Oper} {its : List Item} (hm : P.follows .mixedOrders = true) (hc : chkIs P N ops ops.toList its = true) (hd : chkDraw ops its = true) {st : St} {Q : St → Prop} (h : aops P its st Q) {G : Gh} {B : Nat} {a : Act} {w : World} (hr : Rel G B N st a w) {QQ : Exit → Act → World → Prop} {id : Nat}
    (hq : ∀ G' st' a' w', Q st' → Rel G' B N st' a' w' → Ext 1 G w G' w' → QQ .normal a' w') : (Code.region id ops true).wp P QQ a w := by
  refine wp_region_any hm ?_
  have hlen := (chkIs_at hc).1
  simp only [Array.length_toList] at hlen
  have hu : unl ops.size (Array.replicate ops.size false) = List.range its.length := by
    unfold unl
    rw [hlen]
    refine List.filter_eq_self.2 fun i hi => ?_
    simp [List.mem_range.1 hi]
  refine draw_any hc hd ops.size (Array.replicate ops.size false) (by simp) (fun q hq' => by rw [Array.getD_eq_getD_getElem?] at hq'; simp [Array.getElem?_replicate] at hq'; split at hq' <;> cases hq') (by rw [hu]; simp [hlen]) st G a _ (by rw [hu, pickI_all]; exact h) hr.drew fun G' st' a' w' h1 h2 h3 => hq G' st' a' w' h1 h2 ((Ext.drew G w).trans h3)

end

end Go.Proofs.YtalalolgdekelaaGreatDoor.Am

/- Code of the abstract machine is sound for the model; a function's contract out of its code. -/
namespace Go.Proofs.YtalalolgdekelaaGreatDoor.Am
open Go

/-- Which code of the model each stands for. -/
def chkC (P : Program) (N : Nat) : RC → Code → Bool
  | .gho _ r, c => chkC P N r c
  | .no, _ => true
  | .skip, c => match c with
    | .skip => true
    | _ => false
  | .reg its, c => match c with
    | .region _ ops false => chkIs P N ops ops.toList its
    | _ => false
  | .draw its, c => match c with
    | .region _ ops true => P.follows .mixedOrders && chkIs P N ops ops.toList its && chkDraw ops its
    | _ => false
  | .seq a b, c => match c with
    | .seq x y => chkC P N a x && chkC P N b y
    | _ => false
  | .cond r a b, c => match c with
    | .cond o x y => chkA o r && chkC P N a x && chkC P N b y
    | _ => false
  | .block i a, c => match c with
    | .block j x => i == j && chkC P N a x
    | _ => false
  | .loop a, c => match c with
    | .loop x => chkC P N a x
    | _ => false
  | .exit i, c => match c with
    | .exit j => i == j
    | _ => false
  | .scope a, c => match c with
    | .scope x => chkC P N a x
    | _ => false
  | .lab, c => match c with
    | .label _ => true
    | _ => false
  | .ret, c => match c with
    | .ret => true
    | _ => false

section
variable {P : Program} {N B : Nat}

theorem awp_ok : ∀ {rc : RC} {c : Code} {st : St} {Q : Exit → St → Prop}, awp P rc st Q → chkC P N rc c = true → ∀ {G : Gh} {a : Act} {w : World}, Rel G B N st a w → ∀ {QQ : Exit → Act → World → Prop},
    (∀ e G' st' a' w', Q e st' → Rel G' B N st' a' w' → Ext 1 G w G' w' → QQ e a' w') → c.wp P QQ a w := by
  intro rc
  induction rc with
  | skip =>
    intro c st Q h hc G a w hr QQ hq
    cases c <;> simp only [chkC, Bool.false_eq_true] at hc
    exact wp_skip (hq _ _ _ _ _ h hr (Ext.refl 1 G w))
  | reg its =>
    intro c st Q h hc G a w hr QQ hq
    cases c <;> simp only [chkC, Bool.false_eq_true] at hc
    rename_i id ops d
    cases d <;> simp only [Bool.false_eq_true] at hc
    refine wp_region_list ?_
    exact aops_ok (N := N) h ops ops.toList hc G B a w hr QQ fun G' st' a' w' h1 h2 h3 => hq _ _ _ _ _ h1 h2 h3
  | draw its =>
    intro c st Q h hc G a w hr QQ hq
    cases c <;> simp only [chkC, Bool.false_eq_true] at hc
    rename_i id ops d
    cases d <;> simp only [Bool.false_eq_true, Bool.and_eq_true] at hc
    exact draw_ok hc.1.1 hc.1.2 hc.2 h hr fun G' st' a' w' h1 h2 h3 => hq _ _ _ _ _ h1 h2 h3
  | seq x y ihx ihy =>
    intro c st Q h hc G a w hr QQ hq
    cases c <;> simp only [chkC, Bool.false_eq_true, Bool.and_eq_true] at hc
    refine wp_seq (ihx h hc.1 hr fun e G' st' a' w' h1 h2 h3 => ?_)
    cases e with
    | normal => exact ihy h1 hc.2 h2 fun e G2 st2 a2 w2 k1 k2 k3 => hq _ _ _ _ _ k1 k2 (h3.trans k3)
    | _ => exact hq _ _ _ _ _ h1 h2 h3
  | cond r x y ihx ihy =>
    intro c st Q h hc G a w hr QQ hq
    cases c <;> simp only [chkC, Bool.false_eq_true, Bool.and_eq_true] at hc
    rename_i o cx cy
    obtain ⟨t, ht, h1, h2⟩ := h
    have hv := chkA_ok hr hc.1.1
    rw [ht] at hv
    have hv' : a.eval o = .bool t := by
      generalize a.eval o = v at hv
      cases hv; rfl
    refine wp_cond_split hv' (fun e => ?_) (fun e => ?_)
    · exact ihx (h1 e) hc.1.2 hr hq
    · exact ihy (h2 e) hc.2 hr hq
  | block i x ih =>
    intro c st Q h hc G a w hr QQ hq
    cases c <;> simp only [chkC, Bool.false_eq_true, Bool.and_eq_true, beq_iff_eq] at hc
    obtain ⟨rfl, hc⟩ := hc
    refine wp_block (ih h hc hr fun e G' st' a' w' h1 h2 h3 => ?_)
    cases e with
    | exit j =>
      simp only [Exit.inBlock]
      simp only [Kb] at h1
      split
      · rename_i hh; rw [if_pos hh] at h1; exact hq _ _ _ _ _ h1 h2 h3
      · rename_i hh; rw [if_neg hh] at h1; exact hq _ _ _ _ _ h1 h2 h3
    | _ => exact hq _ _ _ _ _ h1 h2 h3
  | loop x ih =>
    intro c st Q h hc G a w hr QQ hq
    cases c <;> simp only [chkC, Bool.false_eq_true] at hc
    obtain ⟨I, n, h0, hI⟩ := h
    refine wp_loop_ghost (fun k a' w' => ∃ G' st', I k st' ∧ Rel G' B N st' a' w' ∧ Ext 1 G w G' w') n ⟨G, st, h0, hr, Ext.refl 1 G w⟩ ?_
    rintro k a' w' ⟨G', st', i1, i2, i3⟩
    refine ih (hI k st' i1) hc i2 fun e G2 st2 a2 w2 h1 h2 h3 => ?_
    cases e with
    | normal =>
      obtain ⟨k', hk, hi⟩ := h1
      exact ⟨k', hk, G2, st2, hi, h2, i3.trans h3⟩
    | _ => exact hq _ _ _ _ _ h1 h2 (i3.trans h3)
  | exit i =>
    intro c st Q h hc G a w hr QQ hq
    cases c <;> simp only [chkC, Bool.false_eq_true, beq_iff_eq] at hc
    subst hc
    exact wp_exit (hq _ _ _ _ _ h hr (Ext.refl 1 G w))
  | scope x ih =>
    intro c st Q h hc G a w hr QQ hq
    cases c <;> simp only [chkC, Bool.false_eq_true] at hc
    refine wp_scope_straight (ih h hc hr fun e G' st' a' w' h1 h2 h3 => ?_)
    cases e with
    | goto l => exact h1.elim
    | _ => exact hq _ _ _ _ _ h1 h2 h3
  | lab =>
    intro c st Q h hc G a w hr QQ hq
    cases c <;> simp only [chkC, Bool.false_eq_true] at hc
    exact wp_label (hq _ _ _ _ _ h hr (Ext.refl 1 G w))
  | ret =>
    intro c st Q h hc G a w hr QQ hq
    cases c <;> simp only [chkC, Bool.false_eq_true] at hc
    exact wp_ret (hq _ _ _ _ _ h hr (Ext.refl 1 G w))
  | gho g x ih =>
    intro c st Q h hc G a w hr QQ hq
    obtain ⟨st', hg, h⟩ := h
    obtain ⟨G', h1, h2⟩ := gstep_ok hr hg
    exact ih h hc h1 fun e G2 st2 a2 w2 k1 k2 k3 => hq _ _ _ _ _ k1 k2 (h2.trans k3)
  | no =>
    intro c st Q h
    exact h.elim

theorem MR.out {G : Gh} {fr : Nat → Ob} {m : Mem} {w : World} (h : MR G (fr :: m) w) {S : Nat → Prop} (hS : ∀ b, S b → ∃ s, G.vm 0 s = some b) : MR ((G.pub w S).dn 1) m w := by
  have hnS : ∀ l s b, G.nm l s = some b → ¬ S b := fun l s b e hs => by
    obtain ⟨s', e'⟩ := hS b hs
    exact h.inj3 _ _ _ _ _ e e'
  have hvS : ∀ l s b, G.vm (l + 1) s = some b → ¬ S b := fun l s b e hs => by
    obtain ⟨s', e'⟩ := hS b hs
    have := (h.inj2 _ _ _ _ _ e e').1
    omega
  have hgle : Gle G (G.pub w S) := Gh.pub_gle h.stab
  refine ⟨fun b o v e => ?_, fun l s xs e => ?_, fun l s b e => ?_, fun l s g sz xs e => ?_, fun l s b e => ?_, fun l s e => ?_, fun l s l' s' b e e' => ?_, fun l s l' s' b e e' => ?_, fun l s l' s' b e e' => ?_, fun l s t p e => h.iter (l + 1) s t p e⟩
  · have e : (G.pub w S).stab b o = some v := e
    by_cases hs : S b
    · rw [Gh.pub_in hs] at e; exact e
    · rw [Gh.pub_out hs] at e; exact h.stab b o v e
  · obtain ⟨b, cs, e', hc, hr⟩ := h.cells (l + 1) s xs e
    refine ⟨b, cs, e', hc, ?_⟩
    rw [Gh.dn_dn]
    exact hr.mono (hgle.dn (l + 1))
  · obtain ⟨h1, h2⟩ := h.nm (l + 1) s b e
    refine ⟨h1, fun o => ?_⟩
    show (G.pub w S).stab b o = none
    rw [Gh.pub_out (hnS _ _ _ e)]; exact h2 o
  · obtain ⟨a1, a2, a3, a4⟩ := h.vec (l + 1) s g sz xs e
    exact ⟨a1, a2, a3, a4.imp id fun ⟨b, e', r⟩ => ⟨b, e', r.of rfl fun vs hv => RepL.rfd (G := G) (G' := (G.pub w S).dn 1) hgle.stab a3.rf hv⟩⟩
  · obtain ⟨h1, h2⟩ := h.vm (l + 1) s b e
    refine ⟨h1, fun o => ?_⟩
    show (G.pub w S).stab b o = none
    rw [Gh.pub_out (hvS _ _ _ e)]; exact h2 o
  · exact h.gone (l + 1) s e
  · obtain ⟨h1, h2⟩ := h.inj1 _ _ _ _ _ e e'; exact ⟨by omega, h2⟩
  · obtain ⟨h1, h2⟩ := h.inj2 _ _ _ _ _ e e'; exact ⟨by omega, h2⟩
  · exact h.inj3 _ _ _ _ _ e e'

/-- How a body may end: these values, these objects of ours. -/
def AEnds (rs : List RR) (n : Nat) (R : AV → Mem → Prop) : Exit → St → Prop := fun e st =>
  (e = .normal ∨ e = .ret) ∧ st.ds = [] ∧ ∃ x y fr m, resV st rs = some x ∧ leave st.m x = some y ∧ st.m = fr :: m ∧ m.length = n ∧ R y m

theorem slots_enter {G : Gh} {args : List AV} {vs : List Value} (h : RepL G args vs) {N : Nat} (i : Nat) : Rep G.up (argF (AV.shL args) i) (((vs.toArray ++ Array.replicate (N - vs.toArray.size) undef) : Array Value).getD i undef) := by
  have h' : RepL G.up (AV.shL args) vs := RepL.sh (G := G.up) (by rw [Gh.up_dn]; exact h)
  have hl := h'.length
  unfold argF
  by_cases hi : i < vs.length
  · obtain ⟨x, e, hx⟩ := h'.back (List.getElem?_eq_getElem hi)
    rw [e]
    simp only [Option.getD_some, Array.getD_eq_getD_getElem?]
    rw [Array.getElem?_append_left (by simpa using hi)]
    simpa [hi] using hx
  · rw [List.getElem?_eq_none (by omega)]
    simp only [Option.getD_none, Array.getD_eq_getD_getElem?]
    rw [Array.getElem?_append_right (by simpa using hi)]
    cases hx : (Array.replicate (N - vs.toArray.size) undef)[i - vs.toArray.size]? with
    | none => exact .tup .nil
    | some v =>
      have := Array.getElem?_eq_some_iff.1 hx
      obtain ⟨_, h2⟩ := this
      simp at h2
      subst h2
      exact .tup .nil

theorem rel_enter {fn : Func} {args : List AV} {m : Mem} {G : Gh} {w : World} {vs : List Value} (hvs : RepL G args vs) (hm : MR G m w) (hN : fn.ntmps = N) (ha : args.length ≤ N) :
    Rel G.up w.heap.size N (St.enter args m) { tmps := vs.toArray ++ Array.replicate (fn.ntmps - vs.toArray.size) undef, defers := [] } w := by
  have hlen := hvs.length
  refine ⟨hm.up, ?_, fun i => slots_enter hvs i, .nil, fun s b e => ?_, Nat.le_refl _, by simp [St.enter]⟩
  · simp; omega
  · rcases e with e | e <;> cases e

/-- The end of a call: its results are read, its frame is left. -/
theorem ends_ok {fn : Func} {rs : List RR} {G G' : Gh} {m m' : Mem} {w w' : World} {st' : St} {a' : Act} {fr : Nat → Ob} {x y : AV} {R : AV → Mem → Prop} (hr : chkR P fn.results.toList rs = true) (hr' : Rel G' w.heap.size N st' a' w') (he : Ext 1 G.up w G' w')
    (hx : resV st' rs = some x) (hy : leave st'.m x = some y) (hst : st'.m = fr :: m') (hml : m'.length = m.length) (hR : R y m') :
    ∃ v, (results fn a'.tmps).run P w' = .ok v w' ∧ (∃ G'' x v' m'', (Ending.returned v) = .returned v' ∧ R x m'' ∧ Rep G'' x v' ∧ MR G'' m'' w' ∧ Ext 0 G w G'' w' ∧ m''.length = m.length) := by
  obtain ⟨v, hrun, hv⟩ := resV_ok (P := P) hr' hr hx
  let S : Nat → Prop := fun b => ∃ s, G'.vm 0 s = some b
  have hmr := hr'.mr
  have hSt : ∀ l s b, (true && l != 0) = false → G'.vm l s = some b → S b := by
    intro l s b hl e
    have : l = 0 := by simpa using hl
    subst this
    exact ⟨s, e⟩
  unfold leave at hy
  rw [Option.bind_eq_some_iff] at hy
  obtain ⟨z, hz, hy⟩ := hy
  have hv2 := Rep.un (still_ok hmr (own := true) (S := S) hSt hv z hz) y hy
  rw [hst] at hmr
  have hout := hmr.out (S := S) (fun b hs => hs)
  have hmine : ∀ b, ((G'.pub w' S).dn 1).mine b → G'.mine b := by
    rintro b (⟨l, s, e⟩ | ⟨l, s, e⟩)
    · exact .inl ⟨l + 1, s, e⟩
    · exact .inr ⟨l + 1, s, e⟩
  have hext : Ext 0 G w ((G'.pub w' S).dn 1) w' := by
    refine ⟨he.os, he.tape, he.output, he.size, fun b o v e => ?_, fun l s _ => he.nm (l + 1) s (by omega), fun l s => he.vg (l + 1) s, fun l s e => he.vs (l + 1) s e, fun b hb hnm => ?_, fun b hb => ?_, fun l s b e => ?_⟩
    · exact (Gh.pub_gle (S := S) hr'.mr.stab).stab b o v (he.stab b o v e)
    · obtain ⟨h1, h2⟩ := he.old b hb (fun hx => hnm (Gh.up_mine.1 hx))
      refine ⟨h1, fun o => ?_⟩
      have hnS : ¬ S b := by
        rintro ⟨s, e⟩
        have := hr'.base s b (.inr e)
        omega
      show (G'.pub w' S).stab b o = G.stab b o
      rw [Gh.pub_out hnS]; exact h2 o
    · rcases he.mine b (hmine b hb) with h1 | h1
      · exact .inl (Gh.up_mine.1 h1)
      · exact .inr h1
    · rcases he.mv (l + 1) s b e with ⟨i, t, hi, h1⟩ | h1
      · cases i with
        | zero => cases h1
        | succ i => exact .inl ⟨i, t, by omega, h1⟩
      · exact .inr h1
  exact ⟨v, hrun, _, y, v, m', rfl, hR, hv2, hout, hext, hml⟩

theorem acalls_of_awp {k : FuncId} {fn : Func} {c : Code} {rc : RC} {rs : List RR} {args : List AV} {m : Mem} {R : AV → Mem → Prop} (hf : P.funcs[k]? = some fn) (hb : fn.body = some c) (hn : (fn.name == "runtime.NumGoroutine") = false) (hN : fn.ntmps = N) (hc : chkC P N rc c = true) (hr : chkR P fn.results.toList rs = true)
    (ha : args.length ≤ N) (h : awp P rc (St.enter args m) (AEnds rs m.length R)) : ACalls P k args m R := by
  refine ⟨⟨fn, hf, hn, by rw [hb]; rfl⟩, fun G w vs hvs hm => ?_⟩
  refine calls_of_wp hf hb ?_
  refine awp_ok h hc (rel_enter hvs hm hN ha) fun e G' st' a' w' hq hr' he => ?_
  obtain ⟨hex, hds, x, y, fr, m', hx, hy, hst, hml, hR⟩ := hq
  have hdef : a'.defers = [] := by
    have := hr'.ds
    rw [hds] at this
    cases hd : a'.defers with
    | nil => rfl
    | cons d l => rw [hd] at this; cases this
  have hfin := ends_ok (R := R) hr hr' he hx hy hst hml hR
  rcases hex with rfl | rfl
  · exact ⟨hdef, hfin⟩
  · exact ⟨hdef, hfin⟩

/-- A contract of a function that is called as a deferred one. -/
def ACallsD (P : Program) (k : FuncId) (args : List AV) (m : Mem) (R : AV → Mem → Prop) : Prop :=
  Callable P k ∧ ∀ (G : Gh) (w : World) (vs : List Value), RepL G args vs → MR G m w → ∀ u, CallsD P k ⟨vs⟩ u w fun e u' w' => u' = u ∧ ∃ G' x v m', e = .returned v ∧ R x m' ∧ Rep G' x v ∧ MR G' m' w' ∧ Ext 0 G w G' w' ∧ m'.length = m.length

theorem acallsD_of_awp {k : FuncId} {fn : Func} {c : Code} {rc : RC} {rs : List RR} {args : List AV} {m : Mem} {R : AV → Mem → Prop} (hf : P.funcs[k]? = some fn) (hb : fn.body = some c) (hn : (fn.name == "runtime.NumGoroutine") = false) (hN : fn.ntmps = N) (hc : chkC P N rc c = true) (hr : chkR P fn.results.toList rs = true)
    (ha : args.length ≤ N) (h : awp P rc (St.enter args m) (AEnds rs m.length R)) : ACallsD P k args m R := by
  refine ⟨⟨fn, hf, hn, by rw [hb]; rfl⟩, fun G w vs hvs hm u => ?_⟩
  refine callsD_of_wp (R := fun e w' => ∃ G' x v m', e = .returned v ∧ R x m' ∧ Rep G' x v ∧ MR G' m' w' ∧ Ext 0 G w G' w' ∧ m'.length = m.length) hf hb ?_
  refine awp_ok h hc (rel_enter hvs hm hN ha) fun e G' st' a' w' hq hr' he => ?_
  obtain ⟨hex, hds, x, y, fr, m', hx, hy, hst, hml, hR⟩ := hq
  have hdef : a'.defers = [] := by
    have := hr'.ds
    rw [hds] at this
    cases hd : a'.defers with
    | nil => rfl
    | cons d l => rw [hd] at this; cases this
  have hfin := ends_ok (R := R) hr hr' he hx hy hst hml hR
  rcases hex with rfl | rfl
  · exact ⟨hdef, hfin⟩
  · exact ⟨hdef, hfin⟩

/-- How a frame with deferred calls is left. -/
def ALeaves (P : Program) (rs : List RR) (n : Nat) (R : AV → Mem → Prop) (f : Fr) : List DF → Mem → Prop
  | [], m => ∃ x y fr m', resV ⟨f, m, []⟩ rs = some x ∧ leave m x = some y ∧ m = fr :: m' ∧ m'.length = n ∧ R y m'
  | d :: ds, m => ∃ k, d.fn = .func k ∧ ACallsD P k (d.args ++ d.cap) m fun _ m1 => ALeaves P rs n R f ds m1

theorem leaves_ok {fn : Func} {rs : List RR} {G : Gh} {m : Mem} {w : World} {R : AV → Mem → Prop} (hr : chkR P fn.results.toList rs = true) (hm : MR G m w) (f : Fr) : ∀ (ds : List DF) (m1 : Mem) (G1 : Gh) (a : Act) (w1 : World), ALeaves P rs m.length R f ds m1 → Rel G1 w.heap.size N ⟨f, m1, ds⟩ a w1 → Ext 1 G.up w G1 w1 →
    Leaves P fn a.tmps (fun e w' => ∃ G' x v m', e = .returned v ∧ R x m' ∧ Rep G' x v ∧ MR G' m' w' ∧ Ext 0 G w G' w' ∧ m'.length = m.length) a.defers .returning w1
  | [], m1, G1, a, w1, h, hrel, he => by
    obtain ⟨x, y, fr, m', hx, hy, hst, hml, hR⟩ := h
    have hdef : a.defers = [] := by
      have := hrel.ds
      cases hd : a.defers with
      | nil => rfl
      | cons d l => rw [hd] at this; cases this
    rw [hdef]
    exact ends_ok (R := R) hr hrel he hx hy hst hml hR
  | d :: ds, m1, G1, a, w1, h, hrel, he => by
    obtain ⟨k, hk, ⟨fn', hf', hn', hb'⟩, hcall⟩ := h
    cases hd : a.defers with
    | nil => have := hrel.ds; rw [hd] at this; cases this
    | cons dv dvs =>
      have hds := hrel.ds
      rw [hd] at hds
      cases hds with
      | cons hd1 hds' =>
        cases hd1 with
        | mk hcap hargs =>
          rename_i fnn cap args vc va
          have hk : fnn = .func k := hk
          subst hk
          have hc2 := hcall G1 w1 (va ++ vc) (hargs.append hcap) hrel.mr .returning
          refine ⟨by simp, .func k, ⟨vc⟩, k, ⟨va ++ vc⟩, rfl, ?_, ?_⟩
          · simp only [invoke, callFunc, Sem.run_bind, run_program, Result.andThen_ok, hf', hn', Bool.false_eq_true, if_false, hb']
            simp
          · intro c cs hu
            obtain ⟨e, u', w', fr', ⟨hu', G2, x, v, m2, rfl, hR2, hv2, hm2, he2, hl2⟩, h1, h2, h3⟩ := hc2 c cs hu
            subst hu'
            refine ⟨_, _, w', fr', ?_, h1, h2, h3⟩
            show Leaves P fn a.tmps _ dvs (settle .returning) w'
            have hrel2 := hrel.after hm2 he2 hl2
            have hrel3 : Rel G2 w.heap.size N ⟨f, m2, ds⟩ { a with defers := dvs } w' :=
              ⟨hrel2.mr, hrel2.size, hrel2.slots, hds'.mono he2.gle, hrel2.base, hrel2.top, hrel2.ne⟩
            exact leaves_ok hr hm f ds m2 G2 { a with defers := dvs } w' hR2 hrel3 (he.trans (he2.mono (Nat.zero_le _)))

theorem acalls_of_awpD {k : FuncId} {fn : Func} {c : Code} {rc : RC} {rs : List RR} {args : List AV} {m : Mem} {R : AV → Mem → Prop} (hf : P.funcs[k]? = some fn) (hb : fn.body = some c) (hn : (fn.name == "runtime.NumGoroutine") = false) (hN : fn.ntmps = N) (hc : chkC P N rc c = true) (hr : chkR P fn.results.toList rs = true)
    (ha : args.length ≤ N) (h : awp P rc (St.enter args m) (fun e st => (e = .normal ∨ e = .ret) ∧ ALeaves P rs m.length R st.f st.ds st.m)) : ACalls P k args m R := by
  refine ⟨⟨fn, hf, hn, by rw [hb]; rfl⟩, fun G w vs hvs hm => ?_⟩
  refine calls_of_wp_defers hf hb ?_
  refine awp_ok h hc (rel_enter hvs hm hN ha) fun e G' st' a' w' hq hr' he => ?_
  obtain ⟨hex, hlv⟩ := hq
  have := leaves_ok (N := N) hr hm st'.f st'.ds st'.m G' a' w' hlv hr' he
  rcases hex with rfl | rfl
  · exact this
  · exact this

/-- What is known of its value. -/
theorem fnR_of_awp {k : FuncId} {fn : Func} {c : Code} {rc : RC} {rs : List RR} {args : List AV} {R : AV → Prop} (hf : P.funcs[k]? = some fn) (hb : fn.body = some c) (hn : (fn.name == "runtime.NumGoroutine") = false) (hN : fn.ntmps = N) (hc : chkC P N rc c = true) (hr : chkR P fn.results.toList rs = true)
    (ha : args.length ≤ N) (h : awp P rc (St.enter args []) (AEnds rs 0 fun x _ => R x)) : Fn? P k args R :=
  acalls_of_awp hf hb hn hN hc hr ha h

/-- A function that is handed no object of ours: its value. -/
theorem fn1_of_awp {k : FuncId} {fn : Func} {c : Code} {rc : RC} {rs : List RR} {args : List AV} {v : AV} (hf : P.funcs[k]? = some fn) (hb : fn.body = some c) (hn : (fn.name == "runtime.NumGoroutine") = false) (hN : fn.ntmps = N) (hc : chkC P N rc c = true) (hr : chkR P fn.results.toList rs = true)
    (ha : args.length ≤ N) (h : awp P rc (St.enter args []) (AEnds rs 0 fun x _ => x = v)) : Fn1 P k args v :=
  acalls_of_awp hf hb hn hN hc hr ha h

end

end Go.Proofs.YtalalolgdekelaaGreatDoor.Am

/- How code of the abstract machine is worked out: one equation for each kind of operation. -/
namespace Go.Proofs.YtalalolgdekelaaGreatDoor.Am
open Go

section
variable {P : Program} {f : Fr} {m : Mem} {ds : List DF} {K : St → Prop} {Q : Exit → St → Prop} {its : List Item} {d : Nat}

/-- What follows. -/
def Kc (P : Program) (b : RC) (Q : Exit → St → Prop) : Exit → St → Prop := Ks (fun st' => awp P b st' Q) Q
def Kl (I : Nat → St → Prop) (n : Nat) (Q : Exit → St → Prop) : Exit → St → Prop := Ks (fun s => ∃ k, k < n ∧ I k s) Q

theorem e_skip {st : St} : awp P .skip st Q = Q .normal st := id rfl
theorem e_no {st : St} : awp P .no st Q = False := id rfl
theorem e_lab {st : St} : awp P .lab st Q = Q .normal st := id rfl
theorem e_ret {st : St} : awp P .ret st Q = Q .ret st := id rfl
theorem e_exit {st : St} {i : Nat} : awp P (.exit i) st Q = Q (.exit i) st := id rfl
theorem e_reg {st : St} : awp P (.reg its) st Q = aops P its st (Q .normal) := id rfl
theorem e_draw {st : St} : awp P (.draw its) st Q = aops P its st (Q .normal) := id rfl
theorem e_seq {st : St} {a b : RC} : awp P (.seq a b) st Q = awp P a st (Kc P b Q) := id rfl
theorem e_block {st : St} {i : Nat} {a : RC} : awp P (.block i a) st Q = awp P a st (Kb i Q) := id rfl
theorem e_scope {st : St} {a : RC} : awp P (.scope a) st Q = awp P a st (Kg Q) := id rfl
def bget : AV → Bool
  | .bool b => b
  | _ => false
def isB : AV → Prop
  | .bool _ => True
  | _ => False
theorem e_bget (b : Bool) : bget (.bool b) = b := id rfl
theorem e_isB (b : Bool) : isB (.bool b) = True := id rfl
/-- A choice. -/
def csel (P : Program) (v : AV) (a b : RC) (st : St) (Q : Exit → St → Prop) : Prop := isB v ∧ (bget v = true → awp P a st Q) ∧ (bget v = false → awp P b st Q)
theorem e_csel_t {a b : RC} {st : St} : csel P (.bool true) a b st Q = awp P a st Q := by simp [csel, isB, bget]
theorem e_csel_f {a b : RC} {st : St} : csel P (.bool false) a b st Q = awp P b st Q := by simp [csel, isB, bget]
theorem csel_of {t : Bool} {a b : RC} {st : St} (h1 : t = true → awp P a st Q) (h2 : t = false → awp P b st Q) : csel P (.bool t) a b st Q := ⟨trivial, h1, h2⟩
theorem e_cond {c : RA} {a b : RC} : awp P (.cond c a b) ⟨f, m, ds⟩ Q = csel P (c.ev f) a b ⟨f, m, ds⟩ Q := by
  simp only [awp, csel]
  generalize c.ev f = v
  cases v <;> simp [bget, isB]

theorem e_kc_n {b : RC} {st : St} : Kc P b Q .normal st = awp P b st Q := id rfl
theorem e_kc_x {b : RC} {st : St} {i : Nat} : Kc P b Q (.exit i) st = Q (.exit i) st := id rfl
theorem e_kc_r {b : RC} {st : St} : Kc P b Q .ret st = Q .ret st := id rfl
theorem e_kb_n {st : St} {i : Nat} : Kb i Q .normal st = Q .normal st := id rfl
theorem e_kb_x {st : St} {i j : Nat} : Kb i Q (.exit j) st = if j = i then Q .normal st else Q (.exit j) st := id rfl
theorem e_kb_r {st : St} {i : Nat} : Kb i Q .ret st = Q .ret st := id rfl
theorem e_kg_n {st : St} : Kg Q .normal st = Q .normal st := id rfl
theorem e_kg_x {st : St} {j : Nat} : Kg Q (.exit j) st = Q (.exit j) st := id rfl
theorem e_kg_r {st : St} : Kg Q .ret st = Q .ret st := id rfl
theorem e_kl_n {I : Nat → St → Prop} {n : Nat} {st : St} : Kl I n Q .normal st = ∃ k, k < n ∧ I k st := id rfl
theorem e_kl_x {I : Nat → St → Prop} {n : Nat} {st : St} {j : Nat} : Kl I n Q (.exit j) st = Q (.exit j) st := id rfl
theorem e_kl_r {I : Nat → St → Prop} {n : Nat} {st : St} : Kl I n Q .ret st = Q .ret st := id rfl

theorem awp_loop {a : RC} {st : St} (I : Nat → St → Prop) (n : Nat) (h0 : I n st) (h : ∀ n st', I n st' → awp P a st' (Kl I n Q)) : awp P (.loop a) st Q := ⟨I, n, h0, h⟩

theorem e_nil {st : St} : aops P [] st K = K st := id rfl
def vget (x : Option AV) : AV := x.getD .top
def isV (x : Option AV) : Prop := x.isSome = true
theorem e_vget (x : AV) : vget (some x) = x := id rfl
theorem e_isV (x : AV) : isV (some x) = True := by simp [isV]
theorem e_val {vo : VO} : aops P (⟨some d, .val vo, none⟩ :: its) ⟨f, m, ds⟩ K = (isV (vop f m vo) ∧ aops P its ⟨upd f d (vget (vop f m vo)), m, ds⟩ K) := by
  simp only [aops, astep, aop, updO]
  generalize vop f m vo = v
  cases v <;> simp [vget, isV]

def mget (x : Option Mem) : Mem := x.getD []
def isM (x : Option Mem) : Prop := x.isSome = true
theorem e_mget (x : Mem) : mget (some x) = x := id rfl
theorem e_isM (x : Mem) : isM (some x) = True := by simp [isM]
theorem e_store {n : Nat} {p r : RA} : aops P (⟨none, .store n p r, none⟩ :: its) ⟨f, m, ds⟩ K = ((r.ev f).cells.length = n ∧ (r.ev f).cells.all AV.leaf = true ∧ isM (astore m (p.ev f) (r.ev f).cells) ∧ aops P its ⟨f, mget (astore m (p.ev f) (r.ev f).cells), ds⟩ K) := by
  simp only [aops, astep, aop, updO]
  generalize astore m (p.ev f) (r.ev f).cells = v
  cases v <;> simp [mget, isM]
def isPv (l s : Nat) (v : AV) : Prop := ∃ o, v = .ptr l s o
theorem e_isPv (l s o : Nat) : isPv l s (.ptr l s o) = True := eq_true ⟨o, rfl⟩
theorem e_storev {l s n : Nat} {p r : RA} : aops P (⟨none, .storev l s n p r, none⟩ :: its) ⟨f, m, ds⟩ K = (isPv l s (p.ev f) ∧ (r.ev f).cells.length = n ∧ (r.ev f).cells.all AV.leaf = true ∧ isM (astore m (p.ev f) (r.ev f).cells) ∧ aops P its ⟨f, mget (astore m (p.ev f) (r.ev f).cells), ds⟩ K) := by
  simp only [aops, astep, aop, updO, isPv]
  generalize astore m (p.ev f) (r.ev f).cells = v
  cases v <;> simp [mget, isM]
theorem e_allocN {s : Nat} {z : List AV} : aops P (⟨some d, .allocN s z, none⟩ :: its) ⟨f, m, ds⟩ K = (noOb m s = true ∧ aops P its ⟨upd f d (.ptr 0 s 0), Am.put m 0 s (.cells z), ds⟩ K) := id rfl
theorem e_boxN {s : Nat} {r : RA} : aops P (⟨some d, .boxN s r, none⟩ :: its) ⟨f, m, ds⟩ K = (noOb m s = true ∧ (r.ev f).cells.all AV.leaf = true ∧ aops P its ⟨upd f d (.ptr 0 s 0), Am.put m 0 s (.cells (r.ev f).cells), ds⟩ K) := id rfl

theorem e_bsl {sz len : Nat} {z : List AV} {ps : List (Nat × Nat × RA)} {y : List AV} (hy : fill f ps (zeros z sz len) = some y) (h1 : AV.rfL y = true) (h2 : y.all AV.leaf = true) : aops P (⟨some d, .bsl sz len z ps, none⟩ :: its) ⟨f, m, ds⟩ K = aops P its ⟨upd f d (.list (chunk sz len (y.map nn0))), m, ds⟩ K := by
  apply propext
  constructor
  · rintro ⟨y', h, _, _, k⟩
    have h : fill f ps (zeros z sz len) = some y' := h
    rw [hy] at h; cases h
    exact k
  · intro k
    exact ⟨y, hy, h1, h2, k⟩
/-- A row of one element of one cell. -/
theorem e_bsl1 {z : AV} {r : RA} {k : IntKind} {n : Int} (hr : r.ev f = .int k n) : aops P (⟨some d, .bsl 1 1 [z] [(0, 1, r)], none⟩ :: its) ⟨f, m, ds⟩ K = aops P its ⟨upd f d (.list [.int k n]), m, ds⟩ K := by
  refine e_bsl (y := [.int k n]) ?_ rfl rfl
  simp [fill, hr, AV.cells, AV.leaf, zeros, List.range_succ, splice]

theorem aops_bsl1 {z : AV} {r : RA} {k : IntKind} {n : Int} (hr : r.ev f = .int k n) (h : aops P its ⟨upd f d (.list [.int k n]), m, ds⟩ K) : aops P (⟨some d, .bsl 1 1 [z] [(0, 1, r)], none⟩ :: its) ⟨f, m, ds⟩ K := by
  rw [e_bsl1 hr]; exact h

/-- A row of one element of many cells. -/
theorem aops_bslA {sz : Nat} {z l : List AV} {r : RA} (hr : r.ev f = .agg l) (hl : l.length = sz) (h1 : sz ≠ 1) (hf : AV.rfL l = true) (hlf : l.all AV.leaf = true) (h : aops P its ⟨upd f d (.list [.agg (l.map nn0)]), m, ds⟩ K) :
    aops P (⟨some d, .bsl sz 1 z [(0, sz, r)], none⟩ :: its) ⟨f, m, ds⟩ K := by
  have hz : (zeros z sz 1).length = sz := by simp [zeros]
  have hy : fill f [(0, sz, r)] (zeros z sz 1) = some l := by
    simp only [fill, hr, AV.cells, hl, hlf, Nat.zero_add, hz, Nat.le_refl, and_self, if_true, splice, List.take_zero, List.nil_append]
    rw [List.drop_of_length_le (by omega), List.append_nil]
  rw [e_bsl hy hf hlf]
  have hc : chunk sz 1 (l.map nn0) = [.agg (l.map nn0)] := by
    simp only [chunk, if_neg h1]
    rw [List.take_of_length_le (by rw [List.length_map]; omega)]
  rw [hc]
  exact h

/-- A deferred call. -/
theorem aops_dfr {r : RA} {args : List RA} {fn : Fn} {fa fb : List AV} (hr : r.ev f = .fn fn fa fb) (h : aops P its ⟨f, m, ⟨fn, fb, fa ++ args.map (RA.ev f)⟩ :: ds⟩ K) : aops P (⟨none, .dfr r args, none⟩ :: its) ⟨f, m, ds⟩ K :=
  ⟨fn, fa, fb, hr, h⟩

theorem ACallsD.mono {k : FuncId} {args : List AV} {m : Mem} {R R' : AV → Mem → Prop} (h : ACallsD P k args m R) (hr : ∀ x m', R x m' → R' x m') : ACallsD P k args m R' :=
  ⟨h.1, fun G w vs h1 h2 u c cs hu => by
    obtain ⟨e, u', w', fr, ⟨h3, G', x, v, m', h4, h5, h6⟩, h7⟩ := h.2 G w vs h1 h2 u c cs hu
    exact ⟨e, u', w', fr, ⟨h3, G', x, v, m', h4, hr _ _ h5, h6⟩, h7⟩⟩

theorem leaves_nil {rs : List RR} {n : Nat} {R : AV → Mem → Prop} (h : AEnds rs n R .ret ⟨f, m, []⟩) : ALeaves P rs n R f [] m := by
  obtain ⟨_, _, x, y, fr, m', h1, h2, h3, h4, h5⟩ := h
  exact ⟨x, y, fr, m', h1, h2, h3, h4, h5⟩

theorem leaves_cons {rs : List RR} {n : Nat} {R : AV → Mem → Prop} {k : FuncId} {cap args : List AV} {dss : List DF} {m1 : Mem} (h : ACallsD P k (args ++ cap) m fun _ m' => m' = m1) (hk : ALeaves P rs n R f dss m1) : ALeaves P rs n R f (⟨.func k, cap, args⟩ :: dss) m :=
  ⟨k, rfl, h.mono fun _ _ e => by rw [e]; exact hk⟩

/-- A nil slice becomes a row of the frame's own. -/
theorem awp_vec {slot site sz : Nat} {a : RC} {fr : Nat → Ob} (h1 : f slot = .nils) (h2 : fr site = .none) (h : awp P a ⟨upd f slot (.vec 0 site 1 0 0 false), upd fr site (.vec 1 sz []) :: m, ds⟩ Q) : awp P (.gho (.vec slot site sz) a) ⟨f, fr :: m, ds⟩ Q := by
  refine ⟨_, ?_, h⟩
  have e : look (fr :: m) 0 site = .none := h2
  simp [gstep, h1, e, rowOrNone, newGen, Am.put]

theorem elems_own {fr : Nat → Ob} {site g sz n : Nat} {q : Bool} {xs : List AV} (hl : fr site = .vec g sz xs) (hn : n = xs.length) : elemsOf (fr :: m) (.vec 0 site g 0 n q) = some xs := by
  subst hn
  simp [elemsOf, Am.look, hl]

/-- append to a row of the frame's own. -/
theorem aops_app {sz bytes el : Nat} {s r : RA} {site g n : Nat} {fr : Nat → Ob} {xs ys : List AV} (hs : s.ev f = .vec 0 site g 0 n false) (hl : fr site = .vec g sz xs) (ht : tyOk site el = true) (hn : n = xs.length) (hr : r.ev f = .list ys) (hz : ys.all (fun e => e.cells.length == sz) = true) (hm : n + ys.length ≤ maxLen) (hb : (n + ys.length) * bytes ≤ 140737488355328)
    (h : aops P its ⟨upd f d (.vec 0 site (g + 1) 0 (n + ys.length) false), upd fr site (.vec (g + 1) sz (xs ++ ys)) :: m, ds⟩ K) : aops P (⟨some d, .app sz bytes el s r, none⟩ :: its) ⟨f, fr :: m, ds⟩ K := by
  refine ⟨0, site, g, n, xs, ys, hs, hl, ht, by omega, ?_, hz, hm, hb, ?_⟩
  · show elemsOf (fr :: m) (r.ev f) = some ys
    rw [hr]; rfl
  · subst hn
    rw [List.take_length]
    exact h

/-- A call of a function that is handed no object of ours. -/
theorem aops_call {k : Nat} {args : List RA} {ys : List AV} {v : AV} (hk : Fn1 P k ys v) (hy : AV.stillL false m (args.map (RA.ev f)) = some ys) (h1 : AV.rfL ys = true) (h2 : v.rf = true) (h3 : AV.rfL (args.map (RA.ev f)) = true ∨ v.nl = true) (h : aops P its ⟨upd f d v, m, ds⟩ K) :
    aops P (⟨some d, .call (.f k) args, none⟩ :: its) ⟨f, m, ds⟩ K := by
  refine ⟨k, [], [], ys, v, rfl, ?_, h1, hk, h2, ?_, h⟩
  · simpa using hy
  · simpa using h3

/-- A byte counted or found. -/
theorem aops_xb {cnt : Bool} {k : Nat} {s c : RA} {t : List UInt8} {b : Int} (hs : s.ev f = .str t) (hb : c.ev f = .int .u8 b) (h : aops P its ⟨upd f d (.int .i64 (xbv cnt t b)), m, ds⟩ K) : aops P (⟨some d, .xb cnt k s c, none⟩ :: its) ⟨f, m, ds⟩ K :=
  ⟨t, b, hs, hb, h⟩

/-- The same, of whose value something is known. -/
theorem aops_callR {k : Nat} {args : List RA} {ys : List AV} {R : AV → Prop} (hk : Fn? P k ys R) (hy : AV.stillL false m (args.map (RA.ev f)) = some ys) (h1 : AV.rfL ys = true) (h2 : ∀ v, R v → v.rf = true ∧ (AV.rfL (args.map (RA.ev f)) = true ∨ v.nl = true)) (h : ∀ v, R v → aops P its ⟨upd f d v, m, ds⟩ K) :
    aops P (⟨some d, .callR (.f k) args, none⟩ :: its) ⟨f, m, ds⟩ K := by
  refine ⟨k, [], [], ys, R, rfl, ?_, h1, hk, ?_, h⟩
  · simpa using hy
  · simpa using h2

/-- A loop over a text begins. -/
theorem aops_rngs {s : Nat} {r : RA} {fr : Nat → Ob} {t : List UInt8} (ht : r.ev f = .str t) (hn : fr s = .none) (h : aops P its ⟨upd f d (.ptr 0 s 0), upd fr s (.iter t 0) :: m, ds⟩ K) :
    aops P (⟨some d, .rngs s r, none⟩ :: its) ⟨f, fr :: m, ds⟩ K := by
  refine ⟨t, ht, ?_, h⟩
  show (match fr s with | .none => true | _ => false) = true
  rw [hn]

/-- Its next step. -/
theorem aops_nxts {s p : Nat} {r : RA} {fr : Nat → Ob} {t : List UInt8} (hr : r.ev f = .ptr 0 s 0) (hl : fr s = .iter t p)
    (h1 : p < t.length → aops P its ⟨upd f d (.tup [.bool true, .int .i64 (p : Nat), .int .i32 ((udec t p).1 : Nat)]), upd fr s (.iter t (p + (udec t p).2)) :: m, ds⟩ K)
    (h2 : t.length ≤ p → aops P its ⟨upd f d (.tup [.bool false]), fr :: m, ds⟩ K) :
    aops P (⟨some d, .nxts r, none⟩ :: its) ⟨f, fr :: m, ds⟩ K :=
  ⟨0, s, t, p, hr, hl, h1, h2⟩

/-- A call that is handed objects of ours. -/
theorem aops_callF {k : Nat} {args : List RA} {ys : List AV} {v : AV} {m' : Mem} (hk : ACalls P k ys m fun x m1 => x = v ∧ m1 = m') (hy : args.map (RA.ev f) = ys) (h : aops P its ⟨upd f d v, m', ds⟩ K) :
    aops P (⟨some d, .callF (.f k) args, none⟩ :: its) ⟨f, m, ds⟩ K := by
  refine ⟨k, [], [], v, m', rfl, ?_, h⟩
  show ACalls P k (args.map (RA.ev f) ++ []) m fun x m1 => x = v ∧ m1 = m'
  rw [List.append_nil, hy]
  exact hk

/-- .. whose value is not kept. -/
theorem aops_callF0 {k : Nat} {args : List RA} {ys : List AV} {v : AV} {m' : Mem} (hk : ACalls P k ys m fun x m1 => x = v ∧ m1 = m') (hy : args.map (RA.ev f) = ys) (h : aops P its ⟨f, m', ds⟩ K) :
    aops P (⟨none, .callF (.f k) args, none⟩ :: its) ⟨f, m, ds⟩ K := by
  refine ⟨k, [], [], v, m', rfl, ?_, h⟩
  show ACalls P k (args.map (RA.ev f) ++ []) m fun x m1 => x = v ∧ m1 = m'
  rw [List.append_nil, hy]
  exact hk

/-- make, at a site where nothing lies. -/
theorem aops_mk {site el sz bytes : Nat} {z : List AV} {l c : RA} {kl kc : IntKind} {n k : Nat} {fr : Nat → Ob} (hl : l.ev f = .int kl (n : Int)) (hc : c.ev f = .int kc (k : Int)) (hnk : n ≤ k) (hk : k ≤ 9223372036854775807) (hb : bytes * k ≤ 281474976710656) (hs : fr site = .none)
    (h : aops P its ⟨upd f d (.vec 0 site 1 0 n false), upd fr site (.vec 1 sz (List.replicate n (zeroE sz z))) :: m, ds⟩ K) : aops P (⟨some d, .mk site el sz bytes z l c, none⟩ :: its) ⟨f, fr :: m, ds⟩ K := by
  have e : look (fr :: m) 0 site = .none := hs
  refine ⟨kl, kc, n, k, hl, hc, hnk, hk, hb, ?_, ?_⟩
  · show rowOrNone (look (fr :: m) 0 site) = true
    rw [e]; rfl
  · have hg : newGen (fr :: m) 0 site = 1 := by unfold newGen; rw [e]
    simp only [hg]
    exact h

/-- The bytes of a text, at a site where nothing lies. -/
theorem aops_s2b {site el : Nat} {r : RA} {s : List UInt8} {fr : Nat → Ob} (hr : r.ev f = .str s) (hl : s.length ≤ 9223372036854775807) (hs : fr site = .none)
    (h : aops P its ⟨upd f d (.vec 0 site 1 0 s.length false), upd fr site (.vec 1 1 (bytesAV s)) :: m, ds⟩ K) : aops P (⟨some d, .s2b site el r, none⟩ :: its) ⟨f, fr :: m, ds⟩ K := by
  have e : look (fr :: m) 0 site = .none := hs
  refine ⟨s, hr, hl, ?_, ?_⟩
  · show rowOrNone (look (fr :: m) 0 site) = true
    rw [e]; rfl
  · have hg : newGen (fr :: m) 0 site = 1 := by unfold newGen; rw [e]
    simp only [hg]
    exact h

/-- append of a text's bytes. -/
theorem aops_appS {el : Nat} {s r : RA} {l site g n : Nat} {xs : List AV} {t : List UInt8} (hs : s.ev f = .vec l site g 0 n false) (hl : look m l site = .vec g 1 xs) (ht : tyOk site el = true) (hn : n = xs.length) (hr : r.ev f = .str t) (hm : n + t.length ≤ 140737488355328)
    (h : aops P its ⟨upd f d (.vec l site (g + 1) 0 (n + t.length) false), Am.put m l site (.vec (g + 1) 1 (xs ++ bytesAV t)), ds⟩ K) : aops P (⟨some d, .appS el s r, none⟩ :: its) ⟨f, m, ds⟩ K := by
  subst hn
  refine ⟨l, site, g, _, xs, t, hs, hl, ht, Nat.le_refl _, hr, hm, ?_⟩
  rw [List.take_length]
  exact h

/-- A variable of an elder round is forgotten. -/
theorem e_drop {s : Nat} {a : RC} {fr : Nat → Ob} : awp P (.gho (.drop s) a) ⟨f, fr :: m, ds⟩ Q = ((fr s).isRow = false ∧ awp P a ⟨fun i => (f i).scrub s, upd (fun i => (fr i).scrub s) s .none :: m, ds.map (DF.scrub s)⟩ Q) := by
  apply propext
  have hn : noRow (fr :: m) s = !(fr s).isRow := by
    unfold noRow
    show (match fr s with | .vec .. => false | _ => true) = _
    cases fr s <;> rfl
  constructor
  · rintro ⟨st', h1, h2⟩
    simp only [gstep, hn] at h1
    cases hr : (fr s).isRow with
    | true => rw [hr] at h1; cases h1
    | false => rw [hr] at h1; cases h1; exact ⟨rfl, h2⟩
  · rintro ⟨h1, h2⟩
    refine ⟨_, ?_, h2⟩
    simp only [gstep, hn, h1]
    rfl
theorem e_scr_top (s : Nat) : AV.top.scrub s = .top := id rfl
theorem e_scr_int (s : Nat) (k : IntKind) (n : Int) : (AV.int k n).scrub s = .int k n := id rfl
theorem e_scr_bool (s : Nat) (b : Bool) : (AV.bool b).scrub s = .bool b := id rfl
theorem e_scr_str (s : Nat) (b : List UInt8) : (AV.str b).scrub s = .str b := id rfl
theorem e_scr_nils (s : Nat) : AV.nils.scrub s = .nils := id rfl
theorem e_scr_nilp (s : Nat) : AV.nilp.scrub s = .nilp := id rfl
theorem e_scr_nili (s : Nat) : AV.nili.scrub s = .nili := id rfl
theorem e_scr_nilf (s : Nat) : AV.nilf.scrub s = .nilf := id rfl
theorem e_scr_list (s : Nat) (l : List AV) : (AV.list l).scrub s = .list l := id rfl
theorem e_scr_vec (s l t g o n : Nat) (q : Bool) : (AV.vec l t g o n q).scrub s = .vec l t g o n q := id rfl
theorem e_scr_agg (s : Nat) (l : List AV) : (AV.agg l).scrub s = .agg (AV.scrubL s l) := id rfl
theorem e_scr_tup (s : Nat) (l : List AV) : (AV.tup l).scrub s = .tup (AV.scrubL s l) := id rfl
theorem e_scr_ptr (s t o : Nat) : (AV.ptr 0 t o).scrub s = bif Nat.beq t s then .top else .ptr 0 t o := id rfl
theorem e_scr_ptr1 (s l t o : Nat) : (AV.ptr (l + 1) t o).scrub s = .ptr (l + 1) t o := id rfl
theorem e_scr_nil (s : Nat) : AV.scrubL s [] = [] := id rfl
theorem e_scr_cons (s : Nat) (x : AV) (l : List AV) : AV.scrubL s (x :: l) = x.scrub s :: AV.scrubL s l := id rfl
theorem e_scr_cells (s : Nat) (l : List AV) : (Ob.cells l).scrub s = .cells (AV.scrubL s l) := id rfl
theorem e_scr_row (s g z : Nat) (l : List AV) : (Ob.vec g z l).scrub s = .vec g z l := id rfl
theorem e_scr_none (s : Nat) : Ob.none.scrub s = .none := id rfl
theorem e_scr_isRow (s : Nat) (o : Ob) : (o.scrub s).isRow = o.isRow := by cases o <;> rfl
theorem e_row_cells (l : List AV) : (Ob.cells l).isRow = false := id rfl
theorem e_row_none : Ob.none.isRow = false := id rfl

/-- A guard. -/
def gsel (P : Program) (v : AV) (w : Bool) (d : Option Nat) (ro : RO) (its : List Item) (st : St) (K : St → Prop) : Prop :=
  match v with
  | .bool b => (b = w → aops P (⟨d, ro, none⟩ :: its) st K) ∧ (b = (!w) → aops P its { st with f := updO st.f d (.tup []) } K)
  | .tup l => l = [] ∧ aops P its { st with f := updO st.f d (.tup []) } K
  | _ => False
theorem gsel_of {b w : Bool} {d : Option Nat} {ro : RO} {st : St} (h1 : b = w → aops P (⟨d, ro, none⟩ :: its) st K) (h2 : b = (!w) → aops P its { st with f := updO st.f d (.tup []) } K) : gsel P (.bool b) w d ro its st K := ⟨h1, h2⟩
theorem gsel_t {b : Bool} {d : Option Nat} {ro : RO} {st : St} (h1 : b = true → aops P (⟨d, ro, none⟩ :: its) st K) (h2 : b = false → aops P its { st with f := updO st.f d (.tup []) } K) : gsel P (.bool b) true d ro its st K := ⟨h1, h2⟩
theorem gsel_f {b : Bool} {d : Option Nat} {ro : RO} {st : St} (h1 : b = false → aops P (⟨d, ro, none⟩ :: its) st K) (h2 : b = true → aops P its { st with f := updO st.f d (.tup []) } K) : gsel P (.bool b) false d ro its st K := ⟨h1, h2⟩
theorem e_gsel_t {d : Option Nat} {ro : RO} {st : St} : gsel P (.bool true) true d ro its st K = aops P (⟨d, ro, none⟩ :: its) st K := by simp [gsel]
theorem e_gsel_f {d : Option Nat} {ro : RO} {st : St} : gsel P (.bool false) false d ro its st K = aops P (⟨d, ro, none⟩ :: its) st K := by simp [gsel]
theorem e_gsel_tf {ro : RO} : gsel P (.bool true) false (some d) ro its ⟨f, m, ds⟩ K = aops P its ⟨upd f d (.tup []), m, ds⟩ K := by simp [gsel, updO]
theorem e_gsel_ft {ro : RO} : gsel P (.bool false) true (some d) ro its ⟨f, m, ds⟩ K = aops P its ⟨upd f d (.tup []), m, ds⟩ K := by simp [gsel, updO]
theorem e_gsel_n {ro : RO} {w : Bool} : gsel P (.tup []) w (some d) ro its ⟨f, m, ds⟩ K = aops P its ⟨upd f d (.tup []), m, ds⟩ K := by simp [gsel, updO]
theorem e_gsel_tf0 {ro : RO} {st : St} : gsel P (.bool true) false none ro its st K = aops P its st K := by simp [gsel, updO]
theorem e_gsel_ft0 {ro : RO} {st : St} : gsel P (.bool false) true none ro its st K = aops P its st K := by simp [gsel, updO]
theorem e_gsel_n0 {ro : RO} {w : Bool} {st : St} : gsel P (.tup []) w none ro its st K = aops P its st K := by simp [gsel, updO]
theorem e_g {ro : RO} {j : Nat} {w : Bool} {d : Option Nat} : aops P (⟨d, ro, some (j, w)⟩ :: its) ⟨f, m, ds⟩ K = gsel P (f j) w d ro its ⟨f, m, ds⟩ K := by
  simp only [aops, astep, gsel]
  all_goals (generalize f j = v; cases v <;> rfl)

theorem e_ends_r {rs : List RR} {n : Nat} {R : AV → Mem → Prop} {fr : Nat → Ob} : AEnds rs n R .ret ⟨f, fr :: m, ds⟩ = (ds = [] ∧ isV (resV ⟨f, fr :: m, ds⟩ rs) ∧ isV (leave (fr :: m) (vget (resV ⟨f, fr :: m, ds⟩ rs))) ∧ m.length = n ∧ R (vget (leave (fr :: m) (vget (resV ⟨f, fr :: m, ds⟩ rs)))) m) := by
  apply propext
  constructor
  · rintro ⟨_, h1, x, y, fr', m', h2, h3, h4, h5, h6⟩
    cases h4
    have h1 : ds = [] := h1
    rw [h2, e_vget, h3]
    exact ⟨h1, rfl, rfl, h5, h6⟩
  · rintro ⟨h1, h2, h3, h4, h5⟩
    generalize hv : resV ⟨f, fr :: m, ds⟩ rs = v at h2 h3 h5
    cases v with
    | none => cases h2
    | some x =>
      rw [e_vget] at h3 h5
      cases hl : leave (fr :: m) x with
      | none => rw [hl] at h3; cases h3
      | some y =>
        rw [hl] at h5
        exact ⟨.inr rfl, h1, x, y, fr, m, hv, hl, rfl, h4, h5⟩
theorem e_ends_n {rs : List RR} {n : Nat} {R : AV → Mem → Prop} {st : St} : AEnds rs n R .normal st = AEnds rs n R .ret st := by
  simp [AEnds]

theorem e_upd {α : Type} (f : Nat → α) (d : Nat) (x : α) (i : Nat) : upd f d x i = bif Nat.beq i d then x else f i := id rfl
theorem e_nbeq (a b : Nat) : Nat.beq a b = (a == b) := by
  cases h : Nat.beq a b with
  | true => rw [Nat.eq_of_beq_eq_true h]; simp
  | false => have := Nat.ne_of_beq_eq_false h; simp [this]
/-- A nil slice in a variable becomes a row of the frame's own. -/
theorem awp_vecc {s idx site sz : Nat} {a : RC} {fr : Nat → Ob} {xs : List AV} (h1 : fr s = .cells xs) (h2 : xs[idx]? = some .nils) (h3 : fr site = .none) (hne : Nat.beq site s = false) (h : awp P a ⟨f, upd (upd fr site (.vec 1 sz [])) s (.cells (xs.set idx (.vec 0 site 1 0 0 false))) :: m, ds⟩ Q) : awp P (.gho (.vecc s idx site sz) a) ⟨f, fr :: m, ds⟩ Q := by
  refine ⟨_, ?_, h⟩
  have e1 : look (fr :: m) 0 s = .cells xs := h1
  have e : look (fr :: m) 0 site = .none := h3
  simp [gstep, e1, h2, e, rowOrNone, newGen, Am.put, hne]
theorem upd_upd {α : Type} (f : Nat → α) (d : Nat) (x y : α) : upd (upd f d x) d y = upd f d y := by
  funext i
  by_cases h : i = d
  · subst h; rw [upd_same, upd_same]
  · rw [upd_ne _ _ h, upd_ne _ _ h, upd_ne _ _ h]
theorem upd_comm {α : Type} (f : Nat → α) (d e : Nat) (x y : α) (hde : d ≠ e) : upd (upd f d x) e y = upd (upd f e y) d x := by
  funext i
  by_cases h : i = d
  · subst h; rw [upd_same, upd_ne _ _ hde, upd_same]
  · by_cases h2 : i = e
    · subst h2; rw [upd_same, upd_ne _ _ h, upd_same]
    · rw [upd_ne _ _ h2, upd_ne _ _ h, upd_ne _ _ h, upd_ne _ _ h2]
theorem upd_eta {α : Type} (f : Nat → α) (d : Nat) (x : α) (h : f d = x) : upd f d x = f := by
  funext i
  by_cases hi : i = d
  · subst hi; rw [upd_same, h]
  · rw [upd_ne _ _ hi]
theorem e_t (n : Nat) : (RA.t n).ev f = f n := id rfl
theorem e_c (x : AV) : (RA.c x).ev f = x := id rfl
theorem e_f (k : Nat) : (RA.f k).ev f = .fn (.func k) [] [] := id rfl

end

end Go.Proofs.YtalalolgdekelaaGreatDoor.Am

/- From a contract of the abstract machine to what a call of the model does; what a statement about a law asks. -/
namespace Go.Proofs.YtalalolgdekelaaGreatDoor.Br
open Go Am Go.RowKit Go.WideShapes Go.ChangeShapes Go.ChangeAt

theorem calls_of_fn1 {P : Program} {k : FuncId} {args : List AV} {v : Bool} (h : Fn1 P k args (.bool v)) {stab : Nat → Nat → Option Value} {w : World} (hs : ∀ b o u, stab b o = some u → w.cell? ⟨b, o, none⟩ = some u) {vs : List Value} (hr : RepL (Gh.bare stab) args vs) :
    Calls P k ⟨vs⟩ w fun e w' => e = .returned (.bool v) ∧ Below w.heap.size w w' :=
  (h.2 (Gh.bare stab) w vs hr (MR.bare hs)).mono fun e w' ⟨G', x, u, m', he, hx, hu, _, hex, _⟩ => by
    subst hx
    cases hu
    exact ⟨he, hex.os, hex.tape, hex.output, hex.size, fun b hb => (hex.old b hb Gh.bare_mine).1⟩

theorem rep_str {G : Gh} (s : ByteArray) : Rep G (.str s.data.toList) (.string s) := by
  obtain ⟨⟨l⟩⟩ := s
  exact .str l

theorem str_len {s : ByteArray} (h : s.size ≤ maxLen) : s.data.toList.length ≤ 9223372036854775807 := by
  have e : s.data.toList.length = s.size := Array.length_toList
  have m : maxLen ≤ 9223372036854775807 := by unfold maxLen; omega
  omega

theorem i64_lo {n : Int} (h : (Lit.int .i64 n).wf = true) : -9223372036854775808 ≤ n := by
  simp [Lit.wf, IntKind.min, IntKind.max, IntKind.bits, IntKind.signed] at h
  omega
theorem i64_hi {n : Int} (h : (Lit.int .i64 n).wf = true) : n < 9223372036854775808 := by
  simp [Lit.wf, IntKind.min, IntKind.max, IntKind.bits, IntKind.signed] at h
  omega
theorem u8_lo {n : Int} (h : (Lit.int .u8 n).wf = true) : 0 ≤ n := by
  simp [Lit.wf, IntKind.min, IntKind.max, IntKind.bits, IntKind.signed] at h
  omega
theorem u8_hi {n : Int} (h : (Lit.int .u8 n).wf = true) : n < 256 := by
  simp [Lit.wf, IntKind.min, IntKind.max, IntKind.bits, IntKind.signed] at h
  omega
theorem u64_lo {n : Int} (h : (Lit.int .u64 n).wf = true) : 0 ≤ n := by
  simp [Lit.wf, IntKind.min, IntKind.max, IntKind.bits, IntKind.signed] at h
  omega
theorem u64_hi {n : Int} (h : (Lit.int .u64 n).wf = true) : n < 18446744073709551616 := by
  simp [Lit.wf, IntKind.min, IntKind.max, IntKind.bits, IntKind.signed] at h
  omega

section
variable {H : Type} {enc : TypeId × Value → H} {P : Program}
theorem post_of_below {f : Func} {s : ChangeSpec} {apart fresh handsOn again : Bool} {W W' : World} {args : Array Value} {v : Value} {ds gs : List (DataW H)} {before pa pv : List MemPlace}
    (hW : DataW.Whole enc P f.params.toList s.vars apart W args.toList ds gs before)
    (hres : ∀ (b : Nat) (sp : Nat → Bool) (hd : Bool), DataW.TrodAll enc P W' b sp hd f.resultTypes.toList (v.resultList f.resultTypes.size) (s.fn H (ds ++ gs)).results [])
    (hargs : ∀ sp : Nat → Bool, (∀ p ∈ before, sp p.block = true) → DataW.TrodAll enc P W' 0 sp true f.params.toList args.toList (s.fn H (ds ++ gs)).args pa)
    (hvars : ∀ sp : Nat → Bool, (∀ p ∈ before, sp p.block = true) → DataW.TrodVars enc P W' sp s.vars (s.fn H (ds ++ gs)).vars pv)
    (hps : before = pa ++ pv) (hb : Below W.heap.size W W')
    (hok : ∀ (j : Nat) (t : TypeId) (r : Value), f.resultTypes[j]? = some t → (v.resultList f.resultTypes.size)[j]? = some r → Value.okWide P W' .any 0 t r) :
    s.post enc P f apart fresh handsOn again W args v W' := by
  have hlt : ∀ p ∈ before, p.block < W.heap.size := fun p hp => hW.lt p hp
  have hold : ∀ p ∈ before, (fun b => decide (b < W.heap.size)) p.block = true := fun p hp => by simpa using hlt p hp
  refine ⟨ds, gs, before, [], pa, pv, hW, hres _ _ _, hargs _ hold, hvars _ hold, World.keptBut_mono (fun p hp => ⟨hp, ?_⟩) (hb.frame (· ∈ before)), fun _ => ?_⟩
  · rw [hps, List.mem_append] at hp
    exact Or.inr hp
  · obtain ⟨_, _, _, _, _, hz, hn⟩ := hW
    refine ⟨hok, _, _, ([] ++ pa) ++ pv, ⟨[] ++ pa, pv, trodAll_append (hargs _ (fun _ _ => rfl)) (hres _ _ _), hvars _ (fun _ _ => rfl), rfl, ?_, ?_⟩, ?_⟩
    · intro b off hp
      have hin : MemPlace.cell b off ∈ before := by rw [hps]; simpa using hp
      rw [hb.frozen (hlt _ hin)]
      exact hz b off hin
    · intro ha
      have := hn ha
      rw [hps] at this
      simpa using this
    · intro p hp _
      rw [hps]
      simpa using hp
end

end Go.Proofs.YtalalolgdekelaaGreatDoor.Br

/- Arguments that are structs of texts and numbers: opened and shut. -/
namespace Go.Proofs.YtalalolgdekelaaGreatDoor.Br
open Go Am Go.RowKit Go.WideShapes Go.ChangeShapes Go.ChangeAt Go.Joins Go.Deep Go.WideElems Go.Maps

section
variable {H : Type} {enc : TypeId × Value → H} {P : Program} {W : World} {base : Nat} {sp : Nat → Bool} {held : Bool}

theorem array6 {α : Type} {cs : Array α} (h : cs.size = 6) : ∃ c0 c1 c2 c3 c4 c5, cs = #[c0, c1, c2, c3, c4, c5] := by
  obtain ⟨l⟩ := cs
  match l, h with
  | [c0, c1, c2, c3, c4, c5], _ => exact ⟨c0, c1, c2, c3, c4, c5, rfl⟩

/-- What the fields of a struct of one-cell fields read. -/
theorem open_six {r : Reach} {b0 : Nat} {t : TypeId} {f0 f1 f2 f3 f4 f5 : Field} {v : Value} {d : DataW H} {p : List MemPlace} (hs : P.underlying t = some (.struct #[f0, f1, f2, f3, f4, f5])) (hone : oneCellFields P #[f0, f1, f2, f3, f4, f5] = true) (hC : P.cellsOf t = 6)
    (hv : Value.okWide P W r b0 t v) (h : DataW.Trod enc P W base sp held t v d p) :
    ∃ (v0 v1 v2 v3 v4 v5 : Value) (y0 y1 y2 y3 y4 y5 : DataW H × List MemPlace) (n : Nat), v = .agg #[v0, v1, v2, v3, v4, v5] ∧ d = .agg [y0.1, y1.1, y2.1, y3.1, y4.1, y5.1] ∧ p = y0.2 ++ (y1.2 ++ (y2.2 ++ (y3.2 ++ (y4.2 ++ y5.2)))) ∧
      DataW.trod enc P W base sp held n f0.type [v0] = some y0 ∧ DataW.trod enc P W base sp held n f1.type [v1] = some y1 ∧ DataW.trod enc P W base sp held n f2.type [v2] = some y2 ∧ DataW.trod enc P W base sp held n f3.type [v3] = some y3 ∧
      DataW.trod enc P W base sp held n f4.type [v4] = some y4 ∧ DataW.trod enc P W base sp held n f5.type [v5] = some y5 := by
  obtain ⟨cs, rfl, hsz⟩ := okWide_struct hs hv
  obtain ⟨c0, c1, c2, c3, c4, c5, rfl⟩ := array6 (hsz.trans hC)
  obtain ⟨fuel, hf⟩ := h
  obtain ⟨xs, n, _, hx, _, hlen, hg⟩ := DataW.trod_struct hs hf
  have ho := fun i f => hone_of hone i f
  match xs, hlen with
  | [y0, y1, y2, y3, y4, y5], _ =>
    obtain ⟨o0, k0⟩ := ho 0 f0 rfl
    obtain ⟨o1, k1⟩ := ho 1 f1 rfl
    obtain ⟨o2, k2⟩ := ho 2 f2 rfl
    obtain ⟨o3, k3⟩ := ho 3 f3 rfl
    obtain ⟨o4, k4⟩ := ho 4 f4 rfl
    obtain ⟨o5, k5⟩ := ho 5 f5 rfl
    simp only [Prod.mk.injEq] at hx
    refine ⟨c0, c1, c2, c3, c4, c5, y0, y1, y2, y3, y4, y5, n, rfl, by rw [hx.1]; rfl, by rw [hx.2]; simp, ?_, ?_, ?_, ?_, ?_, ?_⟩
    · simpa [Value.cells, o0, k0] using hg 0 f0 rfl
    · simpa [Value.cells, o1, k1] using hg 1 f1 rfl
    · simpa [Value.cells, o2, k2] using hg 2 f2 rfl
    · simpa [Value.cells, o3, k3] using hg 3 f3 rfl
    · simpa [Value.cells, o4, k4] using hg 4 f4 rfl
    · simpa [Value.cells, o5, k5] using hg 5 f5 rfl

/-- A text and five numbers. -/
theorem open_cur {r : Reach} {b0 : Nat} {t ts ti : TypeId} {f0 f1 f2 f3 f4 f5 : Field} {v : Value} {d : DataW H} {p : List MemPlace} (hs : P.underlying t = some (.struct #[f0, f1, f2, f3, f4, f5])) (hone : oneCellFields P #[f0, f1, f2, f3, f4, f5] = true) (hC : P.cellsOf t = 6)
    (hts : P.underlying ts = some .string) (hti : P.underlying ti = some (.int .i64)) (hf : f0.type = ts ∧ f1.type = ti ∧ f2.type = ti ∧ f3.type = ti ∧ f4.type = ti ∧ f5.type = ti)
    (hv : Value.okWide P W r b0 t v) (h : DataW.Trod enc P W base sp held t v d p) :
    ∃ (s : ByteArray) (a b c e g : Int), v = .agg #[.string s, .int .i64 a, .int .i64 b, .int .i64 c, .int .i64 e, .int .i64 g] ∧ d = .agg [.lit (.string s.data.toList), .lit (.int .i64 a), .lit (.int .i64 b), .lit (.int .i64 c), .lit (.int .i64 e), .lit (.int .i64 g)] ∧ p = [] ∧
      s.size ≤ maxLen ∧ (Lit.int .i64 a).wf = true ∧ (Lit.int .i64 b).wf = true ∧ (Lit.int .i64 c).wf = true ∧ (Lit.int .i64 e).wf = true ∧ (Lit.int .i64 g).wf = true := by
  obtain ⟨v0, v1, v2, v3, v4, v5, y0, y1, y2, y3, y4, y5, n, rfl, rfl, rfl, h0, h1, h2, h3, h4, h5⟩ := open_six hs hone hC hv h
  obtain ⟨t0, t1, t2, t3, t4, t5⟩ := hf
  rw [t0] at h0
  rw [t1] at h1
  rw [t2] at h2
  rw [t3] at h3
  rw [t4] at h4
  rw [t5] at h5
  obtain ⟨s, e0, rfl, w0⟩ := DataW.trod_string hts h0
  obtain ⟨a, e1, rfl, w1⟩ := DataW.trod_int hti h1
  obtain ⟨b, e2, rfl, w2⟩ := DataW.trod_int hti h2
  obtain ⟨c, e3, rfl, w3⟩ := DataW.trod_int hti h3
  obtain ⟨e, e4, rfl, w4⟩ := DataW.trod_int hti h4
  obtain ⟨g, e5, rfl, w5⟩ := DataW.trod_int hti h5
  simp at e0 e1 e2 e3 e4 e5
  subst e0 e1 e2 e3 e4 e5
  exact ⟨s, a, b, c, e, g, rfl, rfl, rfl, w0, w1, w2, w3, w4, w5⟩

theorem shut_cur {t ts ti : TypeId} {f0 f1 f2 f3 f4 f5 : Field} (hs : P.underlying t = some (.struct #[f0, f1, f2, f3, f4, f5])) (hone : oneCellFields P #[f0, f1, f2, f3, f4, f5] = true) (hC : P.cellsOf t = 6)
    (hts : P.underlying ts = some .string) (hti : P.underlying ti = some (.int .i64)) (hf : f0.type = ts ∧ f1.type = ti ∧ f2.type = ti ∧ f3.type = ti ∧ f4.type = ti ∧ f5.type = ti)
    {s : ByteArray} {a b c e g : Int} (w0 : s.size ≤ maxLen) (w1 : (Lit.int .i64 a).wf = true) (w2 : (Lit.int .i64 b).wf = true) (w3 : (Lit.int .i64 c).wf = true) (w4 : (Lit.int .i64 e).wf = true) (w5 : (Lit.int .i64 g).wf = true) :
    DataW.Trod enc P W base sp held t (.agg #[.string s, .int .i64 a, .int .i64 b, .int .i64 c, .int .i64 e, .int .i64 g]) (.agg [.lit (.string s.data.toList), .lit (.int .i64 a), .lit (.int .i64 b), .lit (.int .i64 c), .lit (.int .i64 e), .lit (.int .i64 g)]) [] := by
  have hint : ∀ n : Int, (Lit.int .i64 n).wf = true → DataW.trod enc P W base sp held 1 ti [.int .i64 n] = some (.lit (.int .i64 n), []) := fun n hn => by simp [DataW.trod, hti, hn]
  have hstr : DataW.trod enc P W base sp held 1 ts [.string s] = some (.lit (.string s.data.toList), []) := by simp [DataW.trod, hts, w0]
  obtain ⟨t0, t1, t2, t3, t4, t5⟩ := hf
  have ho := fun i f => hone_of hone i f
  obtain ⟨o0, k0⟩ := ho 0 f0 rfl
  obtain ⟨o1, k1⟩ := ho 1 f1 rfl
  obtain ⟨o2, k2⟩ := ho 2 f2 rfl
  obtain ⟨o3, k3⟩ := ho 3 f3 rfl
  obtain ⟨o4, k4⟩ := ho 4 f4 rfl
  obtain ⟨o5, k5⟩ := ho 5 f5 rfl
  have := trod_struct_mk (enc := enc) (w := W) (base := base) (spare := sp) (held := held) (n := 1) (cs := [.string s, .int .i64 a, .int .i64 b, .int .i64 c, .int .i64 e, .int .i64 g])
    (xs := [(.lit (.string s.data.toList), []), (.lit (.int .i64 a), []), (.lit (.int .i64 b), []), (.lit (.int .i64 c), []), (.lit (.int .i64 e), []), (.lit (.int .i64 g), [])]) hs (by rw [hC]; rfl)
    (by rw [t0] at k0; rw [t1] at k1; rw [t2] at k2; rw [t3] at k3; rw [t4] at k4; rw [t5] at k5
        simp [o0, o1, o2, o3, o4, o5, k0, k1, t0, t1, t2, t3, t4, t5, hstr, hint _ w1, hint _ w2, hint _ w3, hint _ w4, hint _ w5])
  exact ⟨_, by simpa [Value.cells] using this⟩

theorem rep_cur {G : Gh} (s : ByteArray) (a b c e g : Int) : Rep G (.agg [.str s.data.toList, .int .i64 a, .int .i64 b, .int .i64 c, .int .i64 e, .int .i64 g]) (.agg #[.string s, .int .i64 a, .int .i64 b, .int .i64 c, .int .i64 e, .int .i64 g]) :=
  .agg (.cons (rep_str _) (.cons (.int _ _) (.cons (.int _ _) (.cons (.int _ _) (.cons (.int _ _) (.cons (.int _ _) .nil))))))

/-- Four numbers. -/
theorem open_lim {r : Reach} {b0 : Nat} {t ti : TypeId} {f0 f1 f2 f3 : Field} {v : Value} {d : DataW H} {p : List MemPlace} (hs : P.underlying t = some (.struct #[f0, f1, f2, f3])) (hone : oneCellFields P #[f0, f1, f2, f3] = true) (hC : P.cellsOf t = 4)
    (hti : P.underlying ti = some (.int .i64)) (hf : f0.type = ti ∧ f1.type = ti ∧ f2.type = ti ∧ f3.type = ti)
    (hv : Value.okWide P W r b0 t v) (h : DataW.Trod enc P W base sp held t v d p) :
    ∃ (a b c e : Int), v = .agg #[.int .i64 a, .int .i64 b, .int .i64 c, .int .i64 e] ∧ d = .agg [.lit (.int .i64 a), .lit (.int .i64 b), .lit (.int .i64 c), .lit (.int .i64 e)] ∧ p = [] ∧
      (Lit.int .i64 a).wf = true ∧ (Lit.int .i64 b).wf = true ∧ (Lit.int .i64 c).wf = true ∧ (Lit.int .i64 e).wf = true := by
  obtain ⟨v0, v1, v2, v3, y0, y1, y2, y3, n, rfl, rfl, rfl, h0, h1, h2, h3⟩ := open_agg4 hs hone hC hv h
  obtain ⟨t0, t1, t2, t3⟩ := hf
  rw [t0] at h0
  rw [t1] at h1
  rw [t2] at h2
  rw [t3] at h3
  obtain ⟨a, e0, rfl, w0⟩ := DataW.trod_int hti h0
  obtain ⟨b, e1, rfl, w1⟩ := DataW.trod_int hti h1
  obtain ⟨c, e2, rfl, w2⟩ := DataW.trod_int hti h2
  obtain ⟨e, e3, rfl, w3⟩ := DataW.trod_int hti h3
  simp at e0 e1 e2 e3
  subst e0 e1 e2 e3
  exact ⟨a, b, c, e, rfl, rfl, rfl, w0, w1, w2, w3⟩

theorem shut_lim {t ti : TypeId} {f0 f1 f2 f3 : Field} (hs : P.underlying t = some (.struct #[f0, f1, f2, f3])) (hone : oneCellFields P #[f0, f1, f2, f3] = true) (hC : P.cellsOf t = 4)
    (hti : P.underlying ti = some (.int .i64)) (hf : f0.type = ti ∧ f1.type = ti ∧ f2.type = ti ∧ f3.type = ti) {a b c e : Int} (w1 : (Lit.int .i64 a).wf = true) (w2 : (Lit.int .i64 b).wf = true) (w3 : (Lit.int .i64 c).wf = true) (w4 : (Lit.int .i64 e).wf = true) :
    DataW.Trod enc P W base sp held t (.agg #[.int .i64 a, .int .i64 b, .int .i64 c, .int .i64 e]) (.agg [.lit (.int .i64 a), .lit (.int .i64 b), .lit (.int .i64 c), .lit (.int .i64 e)]) [] := by
  have hint : ∀ n : Int, (Lit.int .i64 n).wf = true → ∃ m, DataW.trod enc P W base sp held m ti [.int .i64 n] = some (.lit (.int .i64 n), []) := fun n hn => ⟨1, by simp [DataW.trod, hti, hn]⟩
  obtain ⟨t0, t1, t2, t3⟩ := hf
  have := shut_agg4 (enc := enc) (w := W) (base := base) (spare := sp) (held := held) (y0 := (.lit (.int .i64 a), [])) (y1 := (.lit (.int .i64 b), [])) (y2 := (.lit (.int .i64 c), [])) (y3 := (.lit (.int .i64 e), [])) hs hone hC
    (by rw [t0]; exact hint _ w1) (by rw [t1]; exact hint _ w2) (by rw [t2]; exact hint _ w3) (by rw [t3]; exact hint _ w4)
  simpa using this

theorem rep_lim {G : Gh} (a b c e : Int) : Rep G (.agg [.int .i64 a, .int .i64 b, .int .i64 c, .int .i64 e]) (.agg #[.int .i64 a, .int .i64 b, .int .i64 c, .int .i64 e]) :=
  .agg (.cons (.int _ _) (.cons (.int _ _) (.cons (.int _ _) (.cons (.int _ _) .nil))))

end

end Go.Proofs.YtalalolgdekelaaGreatDoor.Br

/- Arguments that are slices whose elements hold no pointer: opened, and shut again. -/
namespace Go.Proofs.YtalalolgdekelaaGreatDoor.Br
open Go Am Go.RowKit Go.WideShapes Go.ChangeShapes Go.ChangeAt Go.Joins Go.Deep Go.WideElems Go.Maps

theorem flatMap_get {X α : Type} {f : X → List α} {sz : Nat} (hsz : 0 < sz) (hf : ∀ x, (f x).length = sz) : ∀ (xs : List X) (j : Nat), (xs.flatMap f)[j]? = (xs[j / sz]?).bind fun x => (f x)[j % sz]?
  | [], j => by simp
  | x :: xs, j => by
    rw [List.flatMap_cons]
    by_cases hj : j < sz
    · rw [List.getElem?_append_left (by rw [hf]; exact hj), Nat.div_eq_of_lt hj, Nat.mod_eq_of_lt hj]; rfl
    · obtain ⟨i, rfl⟩ : ∃ i, j = sz + i := ⟨j - sz, by omega⟩
      rw [List.getElem?_append_right (by rw [hf]; omega), hf, flatMap_get hsz hf xs, show sz + i - sz = i by omega, show (sz + i) / sz = i / sz + 1 by rw [Nat.add_div_left _ hsz], Nat.add_mod_left]
      rfl

section
variable {H : Type} {enc : TypeId × Value → H} {P : Program} {W : World}

/-- What the elements are. -/
structure El (enc : TypeId × Value → H) (P : Program) (e : TypeId) (sz : Nat) (X : Type) where
  av : X → AV
  vals : X → List Value
  dat : X → DataW H
  ok : X → Prop
  pos : 0 < sz
  len : ∀ x, (vals x).length = sz
  cells : ∀ x, (av x).cells.length = sz
  rfl' : ∀ x, AV.rfL (av x).cells = true
  leaf : ∀ x, (av x).cells.all AV.leaf = true
  rep : ∀ (G : Gh) x, RepL G (av x).cells (vals x)
  opened : ∀ {W : World} {n : Nat} {cs : List Value} {d : DataW H} {pl : List MemPlace}, cs.length = sz → DataW.trod enc P W 0 (fun _ => true) true n e cs = some (d, pl) → ∃ x, ok x ∧ cs = vals x ∧ d = dat x ∧ pl = []
  shut : ∀ (W : World) (sp : Nat → Bool) x, ok x → ∃ n, DataW.trod enc P W 0 sp true n e (vals x) = some (dat x, [])

theorem rep_flat {G : Gh} {X : Type} {f : X → AV} {g : X → List Value} (h : ∀ x, RepL G (f x).cells (g x)) : ∀ xs : List X, RepL G (flat (xs.map f)) (xs.flatMap g)
  | [] => .nil
  | x :: xs => by
    rw [List.flatMap_cons]
    show RepL G ((f x).cells ++ flat (xs.map f)) _
    exact RepL.append (h x) (rep_flat h xs)

theorem rfL_flat {X : Type} {f : X → AV} (h : ∀ x, AV.rfL (f x).cells = true) : ∀ xs : List X, AV.rfL (flat (xs.map f)) = true
  | [] => rfl
  | x :: xs => by
    show AV.rfL ((f x).cells ++ flat (xs.map f)) = true
    rw [rfL_append, h x, rfL_flat h xs]; rfl

theorem leaf_flat {X : Type} {f : X → AV} (h : ∀ x, (f x).cells.all AV.leaf = true) : ∀ xs : List X, (flat (xs.map f)).all AV.leaf = true
  | [] => rfl
  | x :: xs => by
    show ((f x).cells ++ flat (xs.map f)).all AV.leaf = true
    rw [List.all_append, h x, leaf_flat h xs]; rfl

theorem add_block (a : Addr) (i : Nat) : (a.add i).block = a.block := by
  unfold Addr.add; split <;> rfl

theorem cells_below {W W' : World} {base : Nat} {a : Addr} {n : Nat} {cs : List Value} (h : W.cells? base a n = some cs) (hn : 0 < n) (hb : Below W.heap.size W W') : W'.cells? base a n = some cs := by
  have hlt := World.cells?_block h hn
  obtain ⟨h1, h2, h3⟩ := World.cells?_some h
  refine World.cells?_of_each h1 h2 fun i hi => ?_
  rw [← h3 i hi]
  unfold World.cell?
  rw [add_block, hb.block _ hlt]

/-- A slice that is an argument: what it is to the machine, and that it reads as before whatever new memory there is. -/
theorem open_row {t e : TypeId} {sz : Nat} {X : Type} [Inhabited X] (E : El enc P e sz X) {r : Reach} {b0 : Nat} {v : Value} {d : DataW H} {p : List MemPlace} (ht : P.underlying t = some (.slice e)) (hC : P.cellsOf e = sz)
    (hv : Value.okWide P W r b0 t v) (h : DataW.Trod enc P W 0 (fun _ => true) true t v d p) :
    ∃ (y : AV) (xs : List X), ((y = .nils ∧ xs = []) ∨ y = .list (xs.map E.av)) ∧ (∀ x ∈ xs, E.ok x) ∧ (∃ rest, (d = .nil ∧ xs = []) ∨ d = .slice (xs.map E.dat) rest) ∧ Rep (Gh.bare fun b o => W.cell? ⟨b, o, none⟩) y v ∧
      ∀ (W' : World) (sp : Nat → Bool), Below W.heap.size W W' → (∀ q ∈ p, sp q.block = true) → DataW.Trod enc P W' 0 sp true t v d p := by
  obtain ⟨a0, len0, cap0, rfl⟩ := okWide_slice ht hv
  obtain ⟨fuel, hf⟩ := h
  have hf : DataW.trod enc P W 0 (fun _ => true) true fuel t [.slice a0 len0 cap0] = some (d, p) := by simpa [Value.cells] using hf
  rcases open_slice ht hf with ⟨hc, hx⟩ | ⟨a, len, cap, m, n, D, Pl, hc, _, hl, hm, hmm, hx, hel⟩
  · simp only [List.cons.injEq, Value.slice.injEq, and_true] at hc
    obtain ⟨rfl, rfl, rfl⟩ := hc
    obtain ⟨rfl, rfl⟩ := Prod.mk.inj hx
    exact ⟨.nils, [], .inl ⟨rfl, rfl⟩, (by simp), ⟨[], .inl ⟨rfl, rfl⟩⟩, .nils, fun W' sp _ _ => ⟨1, by simp [DataW.trod, Value.cells, ht]⟩⟩
  · simp only [List.cons.injEq, Value.slice.injEq, and_true] at hc
    obtain ⟨rfl, rfl, rfl⟩ := hc
    simp only [if_true] at hmm
    subst hmm
    obtain ⟨hd, hp⟩ := Prod.mk.inj hx
    rw [hC] at hel
    have hall : ∀ i, i < m → ∃ x : X, E.ok x ∧ W.cells? 0 (a.add (i * sz)) sz = some (E.vals x) ∧ D i = E.dat x ∧ Pl i = [] := by
      intro i hi
      obtain ⟨cs', h1, h2⟩ := hel i hi
      obtain ⟨_, hln, _⟩ := World.cells?_some h1
      obtain ⟨x, k, rfl, hD, hP⟩ := E.opened hln h2
      exact ⟨x, k, h1, hD, hP⟩
    have hpl : (List.range m).flatMap Pl = [] := by
      rw [List.flatMap_eq_nil_iff]
      intro i hi
      obtain ⟨_, _, _, _, h⟩ := hall i (List.mem_range.1 hi)
      exact h
    obtain ⟨F, hF⟩ := choose_lt hall
    have cellAt : ∀ i k, i < m → k < sz → W.cell? (a.add (i * sz + k)) = (E.vals (F i))[k]? := by
      intro i k hi hk
      obtain ⟨_, _, h3⟩ := World.cells?_some (hF i hi).2.1
      rw [← h3 k hk, add_add]
    have hspot : 0 < m → a.spot = none := by
      intro h0
      have := cellAt 0 0 h0 E.pos
      rw [Nat.zero_mul, show a.add (0 + 0) = a from rfl, List.getElem?_eq_getElem (by rw [E.len]; exact E.pos)] at this
      unfold World.cell? at this
      split at this
      · split at this
        · cases this
        · rename_i h; simpa using h
      · cases this
    have hDF : ∀ i, i < m → D i = E.dat (F i) := fun i hi => (hF i hi).2.2.1
    refine ⟨.list (((List.range len0).map F).map E.av), (List.range len0).map F, .inr rfl, ?_, ⟨(List.range (m - len0)).map fun j => D (len0 + j), .inr ?_⟩, ?_, ?_⟩
    · intro x hx
      obtain ⟨i, hi, rfl⟩ := List.mem_map.1 hx
      exact (hF i (by have := List.mem_range.1 hi; omega)).1
    · rw [hd]
      congr 1
      rw [List.map_map]
      exact List.map_congr_left fun i hi => hDF i (by have := List.mem_range.1 hi; omega)
    · refine .list (rep_flat (E.rep _) _) ?_ (rfL_flat E.rfl' _) (leaf_flat E.leaf _) ?_ (by simp) hl (by omega) (sz := sz)
      · intro x hx
        obtain ⟨z, _, rfl⟩ := List.mem_map.1 hx
        exact E.cells z
      · intro j u hj
        rw [flatMap_get E.pos E.len] at hj
        by_cases hi : j / sz < len0
        · rw [List.getElem?_map, List.getElem?_range hi] at hj
          have hj : (E.vals (F (j / sz)))[j % sz]? = some u := hj
          have hk := cellAt (j / sz) (j % sz) (by omega) (Nat.mod_lt _ E.pos)
          rw [hj, Nat.div_add_mod'] at hk
          have hs := hspot (Nat.lt_of_lt_of_le (Nat.lt_of_le_of_lt (Nat.zero_le _) hi) hl)
          obtain ⟨b, o, s⟩ := a
          subst hs
          refine ⟨b, o, rfl, ?_⟩
          show W.cell? ⟨b, o + j, none⟩ = some u
          rw [← hk]
          unfold Addr.add
          split
          · rename_i h; rw [h]; rfl
          · rfl
        · rw [List.getElem?_eq_none (by simp; omega)] at hj
          cases hj
    · intro W' sp hb hsp
      have each : ∀ i, i < m → ∃ cs n, W'.cells? 0 (a.add (i * P.cellsOf e)) (P.cellsOf e) = some cs ∧ DataW.trod enc P W' 0 sp true n e cs = some (D i, Pl i) := by
        intro i hi
        obtain ⟨h1, h2, h3, h4⟩ := hF i hi
        obtain ⟨n, hn⟩ := E.shut W' sp (F i) h1
        rw [hC]
        exact ⟨_, n, cells_below h2 E.pos hb, by rw [hn, h3, h4]⟩
      rw [hd, hp]
      cases hs : sp a.block with
      | true => exact shut_slice_whole ht (Nat.zero_le _) hl hm hs D Pl each
      | false =>
        have hm0 : m = 0 := by
          rcases Nat.eq_zero_or_pos m with h | h
          · exact h
          · have hmem : MemPlace.cell a.block (a.off + 0) ∈ p := by
              rw [hp, hC]
              exact List.mem_append_left _ (List.mem_map.2 ⟨0, List.mem_range.2 (Nat.mul_pos h E.pos), rfl⟩)
            have := hsp _ hmem
            rw [show (MemPlace.cell a.block (a.off + 0)).block = a.block from rfl, hs] at this
            cases this
        subst hm0
        obtain rfl : len0 = 0 := by omega
        exact shut_slice ht (Nat.zero_le _) hl hm hs D Pl each

/-- A nil slice reads as an empty list. -/
theorem rep_list {X : Type} {f : X → AV} {G : Gh} {y : AV} {xs : List X} {v : Value} (hy : (y = .nils ∧ xs = []) ∨ y = .list (xs.map f)) (h : Rep G y v) : Rep G (.list (xs.map f)) v := by
  rcases hy with ⟨rfl, rfl⟩ | rfl
  · exact h.nn0
  · exact h

/-- Elements that are structs of two numbers. -/
def elTwo {e ti : TypeId} {f0 f1 : Field} (hs : P.underlying e = some (.struct #[f0, f1])) (hone : oneCellFields P #[f0, f1] = true) (hC : P.cellsOf e = 2)
    (hti : P.underlying ti = some (.int .i64)) (hf : f0.type = ti ∧ f1.type = ti) : El enc P e 2 (Int × Int) where
  av o := .agg [.int .i64 o.1, .int .i64 o.2]
  vals o := [.int .i64 o.1, .int .i64 o.2]
  dat o := .agg [.lit (.int .i64 o.1), .lit (.int .i64 o.2)]
  ok o := (Lit.int .i64 o.1).wf = true ∧ (Lit.int .i64 o.2).wf = true
  pos := by decide
  len _ := rfl
  cells _ := rfl
  rfl' _ := rfl
  leaf _ := rfl
  rep _ _ := .cons (.int _ _) (.cons (.int _ _) .nil)
  opened := by
    intro W n cs d pl hlen h
    obtain ⟨xs, n, _, hx, _, hl2, hg⟩ := DataW.trod_struct hs h
    obtain ⟨t0, t1⟩ := hf
    have ho := fun i f => hone_of hone i f
    match cs, hlen, xs, hl2 with
    | [c0, c1], _, [y0, y1], _ =>
      obtain ⟨o0, k0⟩ := ho 0 f0 rfl
      obtain ⟨o1, k1⟩ := ho 1 f1 rfl
      have h0 : DataW.trod enc P W 0 (fun _ => true) true n f0.type [c0] = some y0 := by simpa [o0, k0] using hg 0 f0 rfl
      have h1 : DataW.trod enc P W 0 (fun _ => true) true n f1.type [c1] = some y1 := by simpa [o1, k1] using hg 1 f1 rfl
      rw [t0] at h0
      rw [t1] at h1
      obtain ⟨a, e0, rfl, w0⟩ := DataW.trod_int hti h0
      obtain ⟨b, e1, rfl, w1⟩ := DataW.trod_int hti h1
      simp at e0 e1
      subst e0 e1
      simp only [Prod.mk.injEq] at hx
      exact ⟨(a, b), ⟨w0, w1⟩, rfl, by rw [hx.1]; rfl, by rw [hx.2]; rfl⟩
  shut := by
    intro W sp o ho
    have hint : ∀ n : Int, (Lit.int .i64 n).wf = true → DataW.trod enc P W 0 sp true 1 ti [.int .i64 n] = some (.lit (.int .i64 n), []) := fun n hn => by simp [DataW.trod, hti, hn]
    obtain ⟨t0, t1⟩ := hf
    have hoo := fun i f => hone_of hone i f
    obtain ⟨o0, k0⟩ := hoo 0 f0 rfl
    obtain ⟨o1, k1⟩ := hoo 1 f1 rfl
    have := trod_struct_mk (enc := enc) (w := W) (base := 0) (spare := sp) (held := true) (n := 1) (cs := [.int .i64 o.1, .int .i64 o.2])
      (xs := [(.lit (.int .i64 o.1), []), (.lit (.int .i64 o.2), [])]) hs (by rw [hC]; rfl)
      (by rw [t0] at k0; rw [t1] at k1
          simp [o0, o1, k0, t0, t1, hint _ ho.1, hint _ ho.2])
    exact ⟨_, by simpa using this⟩

end
end Go.Proofs.YtalalolgdekelaaGreatDoor.Br

/- Arguments of types without pointers (numbers, texts, structs, slices of such, as deep as they go): what they are to the machine. -/
namespace Go.Proofs.YtalalolgdekelaaGreatDoor.Br
open Go Am Go.RowKit Go.WideShapes Go.ChangeShapes Go.ChangeAt Go.Joins Go.Deep Go.WideElems Go.Maps

/-- An element, of its cells. -/
def elemV : List AV → AV
  | [x] => x
  | l => .agg l

/-- Fields one behind the other from a cell on. -/
def consec (P : Program) : Nat → List Field → Nat → Bool
  | o, [], n => Nat.beq o n
  | o, f :: fs, n => Nat.beq f.offset o && consec P (o + P.cellsOf f.type) fs n

/-- Types that hold no pointer, and whose parts are of these types again. -/
def plain1 (P : Program) (ts : List TypeId) (t : TypeId) : Bool :=
  match P.underlying t with
  | some (.int _) | some .bool | some .string => P.cellsOf t == 1
  | some (.struct fs) => consec P 0 fs.toList (P.cellsOf t) && fs.toList.all fun f => ts.contains f.type
  | some (.slice e) => P.cellsOf t == 1 && decide (0 < P.cellsOf e) && ts.contains e
  | _ => false
def plainS (P : Program) (ts : List TypeId) : Bool := ts.all (plain1 P ts)

/-- The cells of a value of such a type; its texts have at most M bytes. -/
def Has (P : Program) (M : Nat) : Nat → TypeId → List AV → Prop
  | 0, _, _ => False
  | k + 1, t, cs => match P.underlying t with
    | some (.int ik) => ∃ n, cs = [.int ik n] ∧ (Lit.int ik n).wf = true
    | some .bool => ∃ b, cs = [.bool b]
    | some .string => ∃ s, cs = [.str s] ∧ s.length ≤ M
    | some (.struct fs) => HasL (Has P M k) fs.toList cs
    | some (.slice e) => ∃ l : List (List AV), cs = [.list (l.map elemV)] ∧ l.length ≤ maxLen ∧ ∀ c ∈ l, Has P M k e c
    | _ => False
where
  HasL (h : TypeId → List AV → Prop) : List Field → List AV → Prop
    | [], cs => cs = []
    | f :: fs, cs => ∃ a b, cs = a ++ b ∧ h f.type a ∧ HasL h fs b

theorem elemV_cells {l : List AV} (h : l.all AV.leaf = true) : (elemV l).cells = l := by
  match l, h with
  | [], _ => rfl
  | [x], h => cases x <;> first | rfl | simp [AV.leaf] at h
  | _ :: _ :: _, _ => rfl

theorem repL_flatten {G : Gh} : ∀ {ls : List (List AV)} {cs : List (List Value)}, ls.length = cs.length → (∀ i (h1 : i < ls.length) (h2 : i < cs.length), RepL G ls[i] cs[i]) → RepL G ls.flatten cs.flatten
  | [], [], _, _ => .nil
  | l :: ls, c :: cs, hn, h => by
    rw [List.flatten_cons, List.flatten_cons]
    exact RepL.append (h 0 (by simp) (by simp)) (repL_flatten (by simpa using hn) fun i h1 h2 => h (i + 1) (by simpa using h1) (by simpa using h2))
  | [], _ :: _, hn, _ => by simp at hn
  | _ :: _, [], hn, _ => by simp at hn

section
variable {H : Type} {enc : TypeId × Value → H} {P : Program} {W : World} {M : Nat}

theorem bulk_mem {d : DataW H} : ∀ {l : List (DataW H)}, d ∈ l → Rows.uptoBulk d ≤ Rows.uptoBulkAll l
  | [], h => by cases h
  | x :: l, h => by
    rw [Rows.uptoBulkAll]
    rcases List.mem_cons.1 h with rfl | h
    · omega
    · have := bulk_mem h
      omega

/-- What the reading of some cells gives. -/
def Opn (W : World) (h : List AV → Prop) (n : Nat) (cs : List Value) : Prop :=
  ∃ avs, h avs ∧ RepL (Gh.bare fun b o => W.cell? ⟨b, o, none⟩) avs cs ∧ avs.length = n ∧ AV.rfL avs = true ∧ avs.all AV.leaf = true

theorem open_fields {h : TypeId → List AV → Prop} {cs : List Value} : ∀ (fs : List Field) (o : Nat), consec P o fs cs.length = true → (∀ f ∈ fs, Opn W (h f.type) (P.cellsOf f.type) ((cs.drop f.offset).take (P.cellsOf f.type))) →
    Opn W (Has.HasL h fs) (cs.length - o) (cs.drop o)
  | [], o, hc, _ => by
    have e : o = cs.length := Nat.eq_of_beq_eq_true hc
    refine ⟨[], rfl, ?_, by simp [e], rfl, rfl⟩
    rw [e, List.drop_length]
    exact .nil
  | f :: fs, o, hc, hf => by
    simp only [consec, Bool.and_eq_true] at hc
    have eo : f.offset = o := Nat.eq_of_beq_eq_true hc.1
    obtain ⟨a, a1, a2, a3, a4, a5⟩ := hf f (by simp)
    obtain ⟨b, b1, b2, b3, b4, b5⟩ := open_fields fs _ hc.2 fun g hg => hf g (by simp [hg])
    rw [eo] at a2
    refine ⟨a ++ b, ⟨a, b, rfl, a1, b1⟩, ?_, ?_, by rw [rfL_append, a4, b4] <;> rfl, by rw [List.all_append, a5, b5] <;> rfl⟩
    · have := RepL.append a2 b2
      rwa [← List.drop_drop, List.take_append_drop] at this
    · have hlen : a.length = ((cs.drop o).take (P.cellsOf f.type)).length := (RepL.length a2).symm
      rw [List.length_append, a3, b3]
      rw [a3, List.length_take, List.length_drop] at hlen
      omega

theorem open_deep {ts : List TypeId} (hP : plainS P ts = true) : ∀ (k : Nat) (t : TypeId) (cs : List Value) (d : DataW H) (pl : List MemPlace), ts.contains t = true → DataW.trod enc P W 0 (fun _ => true) true k t cs = some (d, pl) → (M = maxLen ∨ Rows.uptoBulk d ≤ M) →
    Opn W (Has P M k t) (P.cellsOf t) cs
  | 0, _, _, _, _, _, h, _ => by simp [DataW.trod] at h
  | k + 1, t, cs, d, pl, ht, h, hb => by
    have hp := List.all_eq_true.1 hP t (by simpa using ht)
    unfold plain1 at hp
    split at hp
    · rename_i ik hu
      obtain ⟨v, rfl, _, hw⟩ := DataW.trod_int hu h
      refine ⟨[.int ik v], ?_, .cons (.int ik v) .nil, by rw [beq_iff_eq] at hp; simp [hp], rfl, rfl⟩
      simp only [Has, hu]
      exact ⟨v, rfl, hw⟩
    · rename_i hu
      obtain ⟨b, rfl, _⟩ := DataW.trod_bool hu h
      refine ⟨[.bool b], ?_, .cons (.bool b) .nil, by rw [beq_iff_eq] at hp; simp [hp], rfl, rfl⟩
      simp only [Has, hu]
      exact ⟨b, rfl⟩
    · rename_i hu
      obtain ⟨⟨⟨s⟩⟩, rfl, e, hw⟩ := DataW.trod_string hu h
      have hw : s.length ≤ M := by
        rcases hb with rfl | hb
        · exact hw
        · cases e
          rw [Rows.uptoBulk] at hb
          exact Nat.le_trans (Nat.le_succ _) hb
      refine ⟨[.str s], ?_, .cons (.str s) .nil, by rw [beq_iff_eq] at hp; simp [hp], rfl, rfl⟩
      simp only [Has, hu]
      exact ⟨s, rfl, hw⟩
    · rename_i fs hu
      simp only [Bool.and_eq_true, List.all_eq_true] at hp
      obtain ⟨xs, n', hk, e, hlen, hxl, hx⟩ := DataW.trod_struct hu h
      obtain rfl : k = n' := by omega
      have hbx : ∀ x ∈ xs, M = maxLen ∨ Rows.uptoBulk x.1 ≤ M := fun x hx => hb.imp id fun hb => by
        cases e
        rw [Rows.uptoBulk] at hb
        have := bulk_mem (l := xs.map (·.1)) (List.mem_map.2 ⟨x, hx, rfl⟩)
        omega
      have := open_fields (W := W) (h := Has P M k) (cs := cs) fs.toList 0 (by rw [hlen]; exact hp.1) (fun f hf => by
        obtain ⟨i, hi⟩ := List.mem_iff_getElem?.1 hf
        have hi' : fs[i]? = some f := by simpa using hi
        have hlt : i < fs.size := by
          have := List.getElem?_eq_some_iff.1 hi
          simpa using this.1
        have h2 := hx i f hi'
        rw [List.getElem?_eq_getElem (by omega)] at h2
        exact open_deep hP k f.type _ _ _ (hp.2 f hf) h2 (hbx _ (List.getElem_mem _)))
      rw [List.drop_zero, Nat.sub_zero, hlen] at this
      obtain ⟨avs, h1, h2⟩ := this
      refine ⟨avs, ?_, h2⟩
      simp only [Has, hu]
      exact h1
    · rename_i e hu
      simp only [Bool.and_eq_true, decide_eq_true_eq, beq_iff_eq] at hp
      obtain ⟨⟨h1, h0⟩, hpe⟩ := hp
      rcases DataW.trod_slice hu h with ⟨rfl, _⟩ | ⟨a, len, cap, elems, rest, n', hk, rfl, e0, _, hl, hm, hln0, hel, _⟩
      · refine ⟨[.list []], ?_, .cons (.list (cs := []) (sz := 0) .nil (by simp) rfl rfl (by simp) rfl (Nat.zero_le _) (Nat.zero_le _)) .nil, by simp [h1], rfl, rfl⟩
        simp only [Has, hu]
        exact ⟨[], rfl, Nat.zero_le _, by simp⟩
      · obtain rfl : k = n' := by omega
        have hbx : ∀ x ∈ elems, M = maxLen ∨ Rows.uptoBulk x.1 ≤ M := fun x hx => hb.imp id fun hb => by
          cases e0
          rw [Rows.uptoBulk] at hb
          have := bulk_mem (l := elems.map (·.1)) (List.mem_map.2 ⟨x, hx, rfl⟩)
          omega
        haveI : Inhabited ({c : List Value // c.length = P.cellsOf e} × List AV) := ⟨(⟨List.replicate (P.cellsOf e) (.bool false), by simp⟩, [])⟩
        obtain ⟨F, hF⟩ := choose_lt (α := {c : List Value // c.length = P.cellsOf e} × List AV) (n := len) (p := fun i x => W.cells? 0 (a.add (i * P.cellsOf e)) (P.cellsOf e) = some x.1.1 ∧ Has P M k e x.2 ∧ RepL (Gh.bare fun b o => W.cell? ⟨b, o, none⟩) x.2 x.1.1 ∧ x.2.length = P.cellsOf e ∧ AV.rfL x.2 = true ∧ x.2.all AV.leaf = true) (fun i hi => by
          have hb := hel i hi
          rw [List.getElem?_eq_getElem (by omega)] at hb
          obtain ⟨cs', c1, c2⟩ := Option.bind_eq_some_iff.1 hb
          obtain ⟨_, hln, _⟩ := World.cells?_some c1
          obtain ⟨avs, o1, o2, o3, o4, o5⟩ := open_deep hP k e cs' _ _ hpe c2 (hbx _ (List.getElem_mem _))
          exact ⟨(⟨cs', hln⟩, avs), c1, o1, o2, o3, o4, o5⟩)
        have cellAt : ∀ i j, i < len → j < P.cellsOf e → W.cell? (a.add (i * P.cellsOf e + j)) = (F i).1.1[j]? := by
          intro i j hi hj
          obtain ⟨_, _, h3⟩ := World.cells?_some (hF i hi).1
          rw [← h3 j hj, add_add]
        have hspot : 0 < len → a.spot = none := by
          intro hc
          have := cellAt 0 0 hc h0
          rw [Nat.zero_mul, show a.add (0 + 0) = a from rfl, List.getElem?_eq_getElem (by rw [(F 0).1.2]; exact h0)] at this
          unfold World.cell? at this
          split at this
          · split at this
            · cases this
            · rename_i h; simpa using h
          · cases this
        have hel' : ∀ c ∈ (List.range len).map (fun i => (F i).2), ∃ i, i < len ∧ c = (F i).2 := by
          intro c hc
          obtain ⟨i, hi, rfl⟩ := List.mem_map.1 hc
          exact ⟨i, List.mem_range.1 hi, rfl⟩
        have hflat : ∀ L : List (List AV), (∀ c ∈ L, c.all AV.leaf = true) → flat (L.map elemV) = L.flatten := by
          intro L
          induction L with
          | nil => intro _; rfl
          | cons c L ih =>
            intro hh
            show (elemV c).cells ++ flat (L.map elemV) = c ++ L.flatten
            rw [elemV_cells (hh c (by simp)), ih fun x hx => hh x (by simp [hx])]
        have hrf : ∀ L : List (List AV), (∀ c ∈ L, AV.rfL c = true) → AV.rfL L.flatten = true := by
          intro L
          induction L with
          | nil => intro _; rfl
          | cons c L ih =>
            intro hh
            rw [List.flatten_cons, rfL_append, hh c (by simp), ih fun x hx => hh x (by simp [hx])] <;> rfl
        have hlf : ∀ L : List (List AV), (∀ c ∈ L, c.all AV.leaf = true) → L.flatten.all AV.leaf = true := by
          intro L
          induction L with
          | nil => intro _; rfl
          | cons c L ih =>
            intro hh
            rw [List.flatten_cons, List.all_append, hh c (by simp), ih fun x hx => hh x (by simp [hx])] <;> rfl
        have hl1 : ∀ c ∈ (List.range len).map (fun i => (F i).2), c.all AV.leaf = true := fun c hc => by
          obtain ⟨i, hi, rfl⟩ := hel' c hc
          exact (hF i hi).2.2.2.2.2
        have hl2 : ∀ c ∈ (List.range len).map (fun i => (F i).2), AV.rfL c = true := fun c hc => by
          obtain ⟨i, hi, rfl⟩ := hel' c hc
          exact (hF i hi).2.2.2.2.1
        refine ⟨[.list (((List.range len).map fun i => (F i).2).map elemV)], ?_, .cons (.list (cs := ((List.range len).map fun i => (F i).1.1).flatten) (sz := P.cellsOf e) ?_ ?_ ?_ ?_ ?_ (by simp) hl (by omega)) .nil, by simp [h1], rfl, rfl⟩
        · simp only [Has, hu]
          refine ⟨_, rfl, by simp; omega, ?_⟩
          intro c hc
          obtain ⟨i, hi, rfl⟩ := hel' c hc
          exact (hF i hi).2.1
        · rw [hflat _ hl1]
          refine repL_flatten (by simp) fun i g1 g2 => ?_
          simp only [List.length_map, List.length_range] at g1
          simp only [List.getElem_map, List.getElem_range]
          exact (hF i (by omega)).2.2.1
        · intro x hx
          obtain ⟨c, hc, rfl⟩ := List.mem_map.1 hx
          rw [elemV_cells (hl1 c hc)]
          obtain ⟨i, hi, rfl⟩ := hel' c hc
          exact (hF i hi).2.2.2.1
        · rw [hflat _ hl1]; exact hrf _ hl2
        · rw [hflat _ hl1]; exact hlf _ hl1
        · intro j u hj
          rw [← List.flatMap_def, flatMap_get h0 (fun i => (F i).1.2)] at hj
          by_cases hi : j / P.cellsOf e < len
          · rw [List.getElem?_range hi] at hj
            have hj : (F (j / P.cellsOf e)).1.1[j % P.cellsOf e]? = some u := hj
            have hk := cellAt (j / P.cellsOf e) (j % P.cellsOf e) (by omega) (Nat.mod_lt _ h0)
            rw [hj, Nat.div_add_mod'] at hk
            have hs := hspot (Nat.lt_of_le_of_lt (Nat.zero_le _) hi)
            obtain ⟨b, o, s⟩ := a
            subst hs
            refine ⟨b, o, rfl, ?_⟩
            show W.cell? ⟨b, o + j, none⟩ = some u
            rw [← hk]
            unfold Addr.add
            split
            · rename_i h; rw [h]; rfl
            · rfl
          · rw [List.getElem?_eq_none (by simp; omega)] at hj
            cases hj
    · cases hp

/-- An argument reads the same in a later world. -/
theorem deep_stays {t : TypeId} {v : Value} {d : DataW H} {p : List MemPlace} (hl : laidOutB P = true) (hr : P.readableRec t = true) (hrow : t < P.types.size) (h : DataW.Trod enc P W 0 (fun _ => true) true t v d p) :
    ∀ (W' : World) (sp : Nat → Bool), Below W.heap.size W W' → (∀ q ∈ p, sp q.block = true) → DataW.Trod enc P W' 0 sp true t v d p := by
  intro W' sp hb hs
  obtain ⟨n, hn⟩ := h
  exact Trod_stays hl hr hrow ⟨n, hn⟩ (fun x hx => hb.same (DataW.trod_lt n _ _ _ hn x hx)) hs

/-- An argument that is a struct. -/
theorem open_struct {t : TypeId} {fs : Array Field} {ts : List TypeId} {r : Reach} {b0 : Nat} {v : Value} {d : DataW H} {p : List MemPlace} (hP : plainS P ts = true) (ht : ts.contains t = true) (hs : P.underlying t = some (.struct fs)) (hv : Value.okWide P W r b0 t v)
    (h : DataW.Trod enc P W 0 (fun _ => true) true t v d p) (hb : M = maxLen ∨ Rows.uptoBulk d ≤ M) : ∃ k avs, Has P M k t avs ∧ Rep (Gh.bare fun b o => W.cell? ⟨b, o, none⟩) (.agg avs) v := by
  obtain ⟨⟨cs⟩, rfl, _⟩ := okWide_struct hs hv
  obtain ⟨n, hn⟩ := h
  obtain ⟨avs, h1, h2, _⟩ := open_deep hP n t _ _ _ ht hn hb
  exact ⟨n, avs, h1, .agg h2⟩

/-- An argument that is a slice. -/
theorem open_slc {t e : TypeId} {ts : List TypeId} {r : Reach} {b0 : Nat} {v : Value} {d : DataW H} {p : List MemPlace} (hP : plainS P ts = true) (ht : ts.contains t = true) (hs : P.underlying t = some (.slice e)) (hv : Value.okWide P W r b0 t v)
    (h : DataW.Trod enc P W 0 (fun _ => true) true t v d p) (hb : M = maxLen ∨ Rows.uptoBulk d ≤ M) : ∃ (k : Nat) (l : List (List AV)), (∀ c ∈ l, Has P M k e c) ∧ l.length ≤ maxLen ∧ Rep (Gh.bare fun b o => W.cell? ⟨b, o, none⟩) (.list (l.map elemV)) v := by
  obtain ⟨a0, len0, cap0, rfl⟩ := okWide_slice hs hv
  obtain ⟨n, hn⟩ := h
  obtain ⟨avs, h1, h2, _⟩ := open_deep hP n t _ _ _ ht hn hb
  cases n with
  | zero => cases h1
  | succ k =>
  simp only [Has, hs] at h1
  obtain ⟨l, rfl, h3, h4⟩ := h1
  refine ⟨k, l, h4, h3, ?_⟩
  have h2 : RepL (Gh.bare fun b o => W.cell? ⟨b, o, none⟩) [.list (l.map elemV)] [.slice a0 len0 cap0] := h2
  cases h2 with
  | cons h _ => exact h

/-- Cells by what they are. -/
theorem list_of {X : Type} {f : X → List AV} {ok : X → Prop} : ∀ {l : List (List AV)}, (∀ c ∈ l, ∃ x, ok x ∧ c = f x) → ∃ xs : List X, l = xs.map f ∧ ∀ x ∈ xs, ok x
  | [], _ => ⟨[], rfl, by simp⟩
  | c :: l, h => by
    obtain ⟨x, hx, rfl⟩ := h c (by simp)
    obtain ⟨xs, rfl, hxs⟩ := list_of (l := l) fun c hc => h c (by simp [hc])
    exact ⟨x :: xs, rfl, by simpa using ⟨hx, hxs⟩⟩

end

end Go.Proofs.YtalalolgdekelaaGreatDoor.Br

/- Plans as arguments: what their cells are. -/
namespace Go.Proofs.YtalalolgdekelaaGreatDoor.Br
open Go Am

section
variable {P : Program} {M k : Nat} {t : TypeId} {cs : List AV}

theorem has_int {ik : IntKind} (hu : P.underlying t = some (.int ik)) (h : Has P M k t cs) : ∃ n, cs = [.int ik n] ∧ (Lit.int ik n).wf = true := by
  cases k with
  | zero => cases h
  | succ k => simpa only [Has, hu] using h

theorem has_bool (hu : P.underlying t = some .bool) (h : Has P M k t cs) : ∃ b, cs = [.bool b] := by
  cases k with
  | zero => cases h
  | succ k => simpa only [Has, hu] using h

theorem has_str (hu : P.underlying t = some .string) (h : Has P M k t cs) : ∃ s, cs = [.str s] ∧ s.length ≤ M := by
  cases k with
  | zero => cases h
  | succ k => simpa only [Has, hu] using h

theorem has_slice {e : TypeId} (hu : P.underlying t = some (.slice e)) (h : Has P M k t cs) : ∃ (k' : Nat) (l : List (List AV)), cs = [.list (l.map elemV)] ∧ l.length ≤ maxLen ∧ ∀ c ∈ l, Has P M k' e c := by
  cases k with
  | zero => cases h
  | succ k =>
    simp only [Has, hu] at h
    exact ⟨k, h⟩

theorem has_struct {fs : Array Field} (hu : P.underlying t = some (.struct fs)) (h : Has P M k t cs) : ∃ k', Has.HasL (Has P M k') fs.toList cs := by
  cases k with
  | zero => cases h
  | succ k =>
    simp only [Has, hu] at h
    exact ⟨k, h⟩

end

/-- An operation. -/
structure PO where
  num : Int
  name : List UInt8
  alias : List UInt8
  card : Int
  key : Int
  kind : Int
  target : Int
  union : Int

def PO.cells (o : PO) : List AV := [.int .i64 o.num, .str o.name, .str o.alias, .int .i64 o.card, .int .i64 o.key, .int .i64 o.kind, .int .i64 o.target, .int .i64 o.union]

structure PO.ok (M : Nat) (o : PO) : Prop where
  num : (Lit.int .i64 o.num).wf = true
  name : o.name.length ≤ M
  alias : o.alias.length ≤ M
  card : (Lit.int .i64 o.card).wf = true
  key : (Lit.int .i64 o.key).wf = true
  kind : (Lit.int .i64 o.kind).wf = true
  target : (Lit.int .i64 o.target).wf = true
  union : (Lit.int .i64 o.union).wf = true

theorem has_op {M k : Nat} {cs : List AV} (h : Has Tryz.prog M k 62 cs) : ∃ o : PO, o.ok M ∧ cs = o.cells := by
  obtain ⟨k, h⟩ := has_struct Tryz.underlying62 h
  simp only [Has.HasL] at h
  obtain ⟨_, _, rfl, h0, _, _, rfl, h1, _, _, rfl, h2, _, _, rfl, h3, _, _, rfl, h4, _, _, rfl, h5, _, _, rfl, h6, _, _, rfl, h7, rfl⟩ := h
  obtain ⟨a0, rfl, w0⟩ := has_int Tryz.underlying3 h0
  obtain ⟨a1, rfl, w1⟩ := has_str Tryz.underlying9 h1
  obtain ⟨a2, rfl, w2⟩ := has_str Tryz.underlying9 h2
  obtain ⟨a3, rfl, w3⟩ := has_int Tryz.underlying3 h3
  obtain ⟨a4, rfl, w4⟩ := has_int Tryz.underlying3 h4
  obtain ⟨a5, rfl, w5⟩ := has_int Tryz.underlying3 h5
  obtain ⟨a6, rfl, w6⟩ := has_int Tryz.underlying3 h6
  obtain ⟨a7, rfl, w7⟩ := has_int Tryz.underlying3 h7
  exact ⟨⟨a0, a1, a2, a3, a4, a5, a6, a7⟩, ⟨w0, w1, w2, w3, w4, w5, w6, w7⟩, rfl⟩

/-- What is known of a program: its operations. -/
structure PG where
  name : List UInt8
  ops : List PO
  unions : Int

def PG.cells (g : PG) : List AV := [.str g.name, .list (g.ops.map fun o => .agg o.cells), .int .i64 g.unions]

structure PG.ok (M : Nat) (g : PG) : Prop where
  name : g.name.length ≤ M
  len : g.ops.length ≤ maxLen
  ops : ∀ o ∈ g.ops, o.ok M
  unions : (Lit.int .i64 g.unions).wf = true

theorem has_prog {M k : Nat} {cs : List AV} (h : Has Tryz.prog M k 65 cs) : ∃ g : PG, g.ok M ∧ cs = g.cells := by
  obtain ⟨k, h⟩ := has_struct Tryz.underlying65 h
  simp only [Has.HasL] at h
  obtain ⟨_, _, rfl, h0, _, _, rfl, h1, _, _, rfl, h2, rfl⟩ := h
  obtain ⟨a0, rfl, w0⟩ := has_str Tryz.underlying9 h0
  obtain ⟨k', l, rfl, w1, hl⟩ := has_slice Tryz.underlying63 h1
  obtain ⟨a2, rfl, w2⟩ := has_int Tryz.underlying3 h2
  obtain ⟨ops, rfl, hok⟩ := list_of (f := PO.cells) (ok := PO.ok M) fun c hc => has_op (hl c hc)
  refine ⟨⟨a0, ops, a2⟩, ⟨w0, by simpa using w1, hok, w2⟩, ?_⟩
  simp only [PG.cells, List.map_map, List.cons_append, List.nil_append]
  rfl

/-- Numbers that are kept free. -/
structure PS where
  lo : Int
  hi : Int

def PS.cells (x : PS) : List AV := [.int .i64 x.lo, .int .i64 x.hi]
def PS.ok (x : PS) : Prop := (Lit.int .i64 x.lo).wf = true ∧ (Lit.int .i64 x.hi).wf = true

theorem has_span {M k : Nat} {cs : List AV} (h : Has Tryz.prog M k 161 cs) : ∃ x : PS, x.ok ∧ cs = x.cells := by
  obtain ⟨k, h⟩ := has_struct Tryz.underlying161 h
  simp only [Has.HasL] at h
  obtain ⟨_, _, rfl, h0, _, _, rfl, h1, rfl⟩ := h
  obtain ⟨a0, rfl, w0⟩ := has_int Tryz.underlying3 h0
  obtain ⟨a1, rfl, w1⟩ := has_int Tryz.underlying3 h1
  exact ⟨⟨a0, a1⟩, ⟨w0, w1⟩, rfl⟩

/-- A note: its value is left as it is. -/
structure PN where
  name : List UInt8
  val : List AV

def PN.cells (x : PN) : List AV := .str x.name :: x.val
def PN.ok (P : Program) (M : Nat) (t : TypeId) (x : PN) : Prop := x.name.length ≤ M ∧ ∃ k, Has P M k t x.val

theorem has_note {M k : Nat} {cs : List AV} (h : Has Tryz.prog M k 140 cs) : ∃ x : PN, x.ok Tryz.prog M 28 ∧ cs = x.cells := by
  obtain ⟨k, h⟩ := has_struct Tryz.underlying140 h
  simp only [Has.HasL] at h
  obtain ⟨_, _, rfl, h0, a1, _, rfl, h1, rfl⟩ := h
  obtain ⟨a0, rfl, w0⟩ := has_str Tryz.underlying9 h0
  exact ⟨⟨a0, a1⟩, ⟨w0, k, h1⟩, by simp [PN.cells]⟩

structure PI where
  name : List UInt8
  num : Int
  notes : List PN

def PI.cells (x : PI) : List AV := [.str x.name, .int .i64 x.num, .list (x.notes.map fun n => elemV n.cells)]

structure PI.ok (M : Nat) (x : PI) : Prop where
  name : x.name.length ≤ M
  num : (Lit.int .i64 x.num).wf = true
  len : x.notes.length ≤ maxLen
  notes : ∀ n ∈ x.notes, n.ok Tryz.prog M 28

theorem has_item {M k : Nat} {cs : List AV} (h : Has Tryz.prog M k 124 cs) : ∃ x : PI, x.ok M ∧ cs = x.cells := by
  obtain ⟨k, h⟩ := has_struct Tryz.underlying124 h
  simp only [Has.HasL] at h
  obtain ⟨_, _, rfl, h0, _, _, rfl, h1, _, _, rfl, h2, rfl⟩ := h
  obtain ⟨a0, rfl, w0⟩ := has_str Tryz.underlying9 h0
  obtain ⟨a1, rfl, w1⟩ := has_int Tryz.underlying3 h1
  obtain ⟨k', l, rfl, w2, hl⟩ := has_slice Tryz.underlying116 h2
  obtain ⟨ns, rfl, hok⟩ := list_of (f := PN.cells) (ok := PN.ok Tryz.prog M 28) fun c hc => has_note (hl c hc)
  refine ⟨⟨a0, a1, ns⟩, ⟨w0, w1, by simpa using w2, hok⟩, ?_⟩
  simp only [PI.cells, List.map_map, List.cons_append, List.nil_append]
  rfl

structure PE where
  name : List UInt8
  opn : Bool
  items : List PI
  free : List PS
  notes : List PN

def PE.cells (x : PE) : List AV := [.str x.name, .bool x.opn, .list (x.items.map fun n => .agg n.cells), .list (x.free.map fun n => .agg n.cells), .list (x.notes.map fun n => elemV n.cells)]

structure PE.ok (M : Nat) (x : PE) : Prop where
  name : x.name.length ≤ M
  len1 : x.items.length ≤ maxLen
  items : ∀ n ∈ x.items, n.ok M
  len2 : x.free.length ≤ maxLen
  free : ∀ n ∈ x.free, n.ok
  len3 : x.notes.length ≤ maxLen
  notes : ∀ n ∈ x.notes, n.ok Tryz.prog M 28

theorem has_enum {M k : Nat} {cs : List AV} (h : Has Tryz.prog M k 118 cs) : ∃ x : PE, x.ok M ∧ cs = x.cells := by
  obtain ⟨k, h⟩ := has_struct Tryz.underlying118 h
  simp only [Has.HasL] at h
  obtain ⟨_, _, rfl, h0, _, _, rfl, h1, _, _, rfl, h2, _, _, rfl, h3, _, _, rfl, h4, rfl⟩ := h
  obtain ⟨a0, rfl, w0⟩ := has_str Tryz.underlying9 h0
  obtain ⟨a1, rfl⟩ := has_bool Tryz.underlying4 h1
  obtain ⟨k2, l2, rfl, w2, hl2⟩ := has_slice Tryz.underlying114 h2
  obtain ⟨k3, l3, rfl, w3, hl3⟩ := has_slice Tryz.underlying115 h3
  obtain ⟨k4, l4, rfl, w4, hl4⟩ := has_slice Tryz.underlying116 h4
  obtain ⟨x2, rfl, o2⟩ := list_of (f := PI.cells) (ok := PI.ok M) fun c hc => has_item (hl2 c hc)
  obtain ⟨x3, rfl, o3⟩ := list_of (f := PS.cells) (ok := PS.ok) fun c hc => has_span (hl3 c hc)
  obtain ⟨x4, rfl, o4⟩ := list_of (f := PN.cells) (ok := PN.ok Tryz.prog M 28) fun c hc => has_note (hl4 c hc)
  refine ⟨⟨a0, a1, x2, x3, x4⟩, ⟨w0, by simpa using w2, o2, by simpa using w3, o3, by simpa using w4, o4⟩, ?_⟩
  simp only [PE.cells, List.map_map, List.cons_append, List.nil_append]
  rfl

structure PL where
  progs : List PG
  enums : List PE

def PL.av (p : PL) : AV := .agg [.list (p.progs.map fun n => .agg n.cells), .list (p.enums.map fun n => .agg n.cells)]

structure PL.ok (M : Nat) (x : PL) : Prop where
  len1 : x.progs.length ≤ maxLen
  progs : ∀ n ∈ x.progs, n.ok M
  len2 : x.enums.length ≤ maxLen
  enums : ∀ n ∈ x.enums, n.ok M

theorem has_plan {M k : Nat} {cs : List AV} (h : Has Tryz.prog M k 45 cs) : ∃ x : PL, x.ok M ∧ .agg cs = x.av := by
  obtain ⟨k, h⟩ := has_struct Tryz.underlying45 h
  simp only [Has.HasL] at h
  obtain ⟨_, _, rfl, h0, _, _, rfl, h1, rfl⟩ := h
  obtain ⟨k2, l2, rfl, w2, hl2⟩ := has_slice Tryz.underlying42 h0
  obtain ⟨k3, l3, rfl, w3, hl3⟩ := has_slice Tryz.underlying43 h1
  obtain ⟨x2, rfl, o2⟩ := list_of (f := PG.cells) (ok := PG.ok M) fun c hc => has_prog (hl2 c hc)
  obtain ⟨x3, rfl, o3⟩ := list_of (f := PE.cells) (ok := PE.ok M) fun c hc => has_enum (hl3 c hc)
  refine ⟨⟨x2, x3⟩, ⟨by simpa using w2, o2, by simpa using w3, o3⟩, ?_⟩
  simp only [PL.av, List.map_map, List.cons_append, List.nil_append]
  rfl

end Go.Proofs.YtalalolgdekelaaGreatDoor.Br

/- Plain laws of varints: lists of bytes and numbers, no program in sight. -/
namespace Go.Proofs.YtalalolgdekelaaGreatDoor.Vp

/-- The varint of u, of at most k + 1 groups. -/
def vput : Nat → Nat → List UInt8
  | 0, u => [UInt8.ofNat u]
  | k + 1, u => if u < 128 then [UInt8.ofNat u] else UInt8.ofNat (u % 128 + 128) :: vput k (u / 128)

def put (u : Nat) : List UInt8 := vput 9 u

/-- Reading a varint: the i-th byte is next, acc has been read. The number, the length, the error. -/
def vtk : Nat → Nat → List UInt8 → Nat × Nat × Nat
  | _, _, [] => (0, 0, 4)
  | i, acc, c :: t =>
    if i = 9 ∧ 1 < c.toNat then (0, 0, 6)
    else if c.toNat < 128 then (acc + c.toNat * 128 ^ i, i + 1, 0)
    else vtk (i + 1) (acc + (c.toNat - 128) * 128 ^ i) t

def take (s : List UInt8) : Nat × Nat × Nat := vtk 0 0 s

theorem toNat_ofNat (n : Nat) (h : n < 256) : (UInt8.ofNat n).toNat = n := by
  simp [UInt8.toNat_ofNat']; omega

theorem vput_ne (k u : Nat) : vput k u ≠ [] := by
  cases k with
  | zero => simp [vput]
  | succ k => unfold vput; split <;> simp

theorem vput_len (k u : Nat) : 1 ≤ (vput k u).length ∧ (vput k u).length ≤ k + 1 := by
  induction k generalizing u with
  | zero => simp [vput]
  | succ k ih =>
    unfold vput
    split
    · simp
    · have := ih (u / 128); simp; omega

theorem put_len (u : Nat) : 1 ≤ (put u).length ∧ (put u).length ≤ 10 := vput_len 9 u

theorem vput_small (k u : Nat) (h : u < 128) : vput k u = [UInt8.ofNat u] := by
  cases k <;> simp [vput, h]

theorem vput_big (k u : Nat) (h : ¬ u < 128) : vput (k + 1) u = UInt8.ofNat (u % 128 + 128) :: vput k (u / 128) := by
  simp [vput, h]

theorem vput_mono (k u v : Nat) (h : u ≤ v) : (vput k u).length ≤ (vput k v).length := by
  induction k generalizing u v with
  | zero => simp [vput]
  | succ k ih =>
    by_cases hu : u < 128
    · rw [vput_small _ _ hu]; exact (vput_len (k + 1) v).1
    · have hv : ¬ v < 128 := by omega
      rw [vput_big _ _ hu, vput_big _ _ hv]
      have := ih (u / 128) (v / 128) (by omega)
      simp; omega

/-- More groups allowed than needed: the same varint. -/
theorem vput_more (k j u : Nat) (h : u < 128 ^ (k + 1)) (hj : k ≤ j) : vput j u = vput k u := by
  induction k generalizing j u with
  | zero =>
    have hu : u < 128 := by simpa using h
    rw [vput_small _ _ hu, vput_small _ _ hu]
  | succ k ih =>
    obtain ⟨j, rfl⟩ : ∃ i, j = i + 1 := ⟨j - 1, by omega⟩
    by_cases hu : u < 128
    · rw [vput_small _ _ hu, vput_small _ _ hu]
    · rw [vput_big _ _ hu, vput_big _ _ hu, ih j (u / 128) _ (by omega)]
      rw [Nat.pow_succ] at h
      omega

/-- The bound of what the groups from the i-th on can hold. -/
def room (i : Nat) : Nat := 2 ^ (64 - 7 * i)

theorem room_succ (i u : Nat) (hi : i < 9) (h : u < room i) : u / 128 < room (i + 1) := by
  unfold room at *
  have e : 64 - 7 * i = (64 - 7 * (i + 1)) + 7 := by omega
  rw [e, Nat.pow_add] at h
  omega

theorem vtk_put (k i acc u : Nat) (t : List UInt8) (hk : k + i = 9) (hu : u < room i) :
    vtk i acc (vput k u ++ t) = (acc + u * 128 ^ i, i + (vput k u).length, 0) := by
  induction k generalizing i acc u with
  | zero =>
    obtain rfl : i = 9 := by omega
    have hu2 : u < 2 := by simpa [room] using hu
    have hc := toNat_ofNat u (by omega)
    simp only [vput, List.cons_append, List.nil_append, vtk, hc]
    rw [if_neg (by omega), if_pos (by omega)]
    rfl
  | succ k ih =>
    by_cases h : u < 128
    · have hc := toNat_ofNat u (by omega)
      rw [vput_small _ _ h]
      simp only [List.cons_append, List.nil_append, vtk, hc]
      rw [if_neg (by omega), if_pos h]
      rfl
    · have hc := toNat_ofNat (u % 128 + 128) (by omega)
      rw [vput_big _ _ h]
      simp only [List.cons_append, vtk, hc]
      rw [if_neg (by omega), if_neg (by omega), ih (i + 1) _ (u / 128) (by omega) (room_succ i u (by omega) hu)]
      have e : acc + (u % 128 + 128 - 128) * 128 ^ i + u / 128 * 128 ^ (i + 1) = acc + u * 128 ^ i := by
        rw [Nat.pow_succ, Nat.add_sub_cancel, Nat.add_assoc, Nat.mul_comm (128 ^ i) 128, ← Nat.mul_assoc, ← Nat.add_mul]
        congr 2; omega
      rw [e]
      simp only [List.length_cons, Prod.mk.injEq, true_and, and_true]
      omega

theorem take_put (u : Nat) (t : List UInt8) (h : u < 2 ^ 64) : take (put u ++ t) = (u, (put u).length, 0) := by
  have := vtk_put 9 0 0 u t rfl (by simpa [room] using h)
  simpa [take, put] using this

theorem vtk_err (i acc : Nat) (s : List UInt8) : (vtk i acc s).2.2 = 0 ∨ (vtk i acc s).2.2 = 4 ∨ (vtk i acc s).2.2 = 6 := by
  induction s generalizing i acc with
  | nil => simp [vtk]
  | cons c t ih =>
    unfold vtk
    split
    · simp
    · split
      · simp
      · exact ih _ _

theorem vtk_zero (i acc : Nat) (s : List UInt8) (h : (vtk i acc s).2.2 ≠ 0) : (vtk i acc s).1 = 0 ∧ (vtk i acc s).2.1 = 0 := by
  induction s generalizing i acc with
  | nil => simp [vtk]
  | cons c t ih =>
    unfold vtk at h ⊢
    split
    · simp
    · rename_i h1
      rw [if_neg h1] at h
      split
      · rename_i h2; simp [h2] at h
      · rename_i h2
        rw [if_neg h2] at h
        exact ih _ _ h

/-- How far a number reads, and its bounds. -/
theorem vtk_bounds (i acc : Nat) (s : List UInt8) (hi : i ≤ 9) (ha : acc < 128 ^ i) (h : (vtk i acc s).2.2 = 0) :
    i < (vtk i acc s).2.1 ∧ (vtk i acc s).2.1 ≤ i + s.length ∧ (vtk i acc s).2.1 ≤ 10 ∧ (vtk i acc s).1 < 2 ^ 64 := by
  induction s generalizing i acc with
  | nil => simp [vtk] at h
  | cons c t ih =>
    unfold vtk at h ⊢
    split
    · rename_i h1; rw [if_pos h1] at h; simp at h
    · rename_i h1
      rw [if_neg h1] at h
      have hp : 128 ^ i = 2 ^ (7 * i) := by rw [show (128 : Nat) = 2 ^ 7 from rfl, ← Nat.pow_mul]
      split
      · rename_i h2
        refine ⟨Nat.lt_succ_self i, by simp, by show i + 1 ≤ 10; omega, ?_⟩
        show acc + c.toNat * 128 ^ i < 2 ^ 64
        rcases Nat.lt_or_ge i 9 with h9 | h9
        · have : c.toNat * 128 ^ i ≤ 127 * 128 ^ i := Nat.mul_le_mul_right _ (by omega)
          have h3 : acc + c.toNat * 128 ^ i < 128 ^ (i + 1) := by rw [Nat.pow_succ]; omega
          have h4 : 128 ^ (i + 1) ≤ 128 ^ 9 := Nat.pow_le_pow_right (by omega) (by omega)
          omega
        · obtain rfl : i = 9 := by omega
          have : c.toNat ≤ 1 := by omega
          omega
      · rename_i h2
        rw [if_neg h2] at h
        have h9 : i < 9 := by
          rcases Nat.lt_or_ge i 9 with h9 | h9
          · exact h9
          · exact absurd ⟨by omega, by omega⟩ h1
        have hc := c.toNat_lt
        have h3 : acc + (c.toNat - 128) * 128 ^ i < 128 ^ (i + 1) := by
          have : (c.toNat - 128) * 128 ^ i ≤ 127 * 128 ^ i := Nat.mul_le_mul_right _ (by omega)
          rw [Nat.pow_succ]; omega
        obtain ⟨a, b, d, e⟩ := ih (i + 1) _ (by omega) h3 h
        exact ⟨by omega, by simp; omega, d, e⟩

theorem take_bounds (s : List UInt8) (h : (take s).2.2 = 0) : 0 < (take s).2.1 ∧ (take s).2.1 ≤ s.length ∧ (take s).2.1 ≤ 10 ∧ (take s).1 < 2 ^ 64 := by
  have := vtk_bounds 0 0 s (by omega) (by omega) h
  simpa [take] using this

/-- What is read does not depend on what follows the bytes that were read. -/
theorem vtk_append (i acc : Nat) (s t : List UInt8) (h : (vtk i acc s).2.2 ≠ 4) : vtk i acc (s ++ t) = vtk i acc s := by
  induction s generalizing i acc with
  | nil => simp [vtk] at h
  | cons c r ih =>
    simp only [List.cons_append]
    unfold vtk at h ⊢
    split
    · rfl
    · rename_i h1
      rw [if_neg h1] at h
      split
      · rfl
      · rename_i h2
        rw [if_neg h2] at h
        exact ih _ _ h

/-- Ten bytes are enough. -/
theorem vtk_ten (i acc : Nat) (s : List UInt8) (hi : i ≤ 9) (hl : 10 ≤ i + s.length) : (vtk i acc s).2.2 ≠ 4 := by
  induction s generalizing i acc with
  | nil => simp at hl; omega
  | cons c r ih =>
    unfold vtk
    split
    · simp
    · rename_i h1
      split
      · simp
      · rename_i h2
        exact ih _ _ (by omega) (by simp at hl; omega)

theorem take_take (s : List UInt8) : take (s.take 10) = take s := by
  rcases Nat.lt_or_ge s.length 10 with h | h
  · rw [List.take_of_length_le (by omega)]
  · have := vtk_append 0 0 (s.take 10) (s.drop 10) (vtk_ten 0 0 _ (by omega) (by simp; omega))
    rw [List.take_append_drop] at this
    exact this.symm

/-- All bytes read: the number's groups; zero only if the last byte is; the shortest form only if the last byte is not zero (or the only one). -/
theorem vtk_all (i acc : Nat) (s : List UInt8) (k : Nat) (hk : k + i = 9) (h : (vtk i acc s).2.2 = 0) (hn : (vtk i acc s).2.1 = i + s.length) :
    ∃ v, (vtk i acc s).1 = acc + v * 128 ^ i ∧ (v = 0 → s.getLast? = some 0) ∧ (s.length = 1 → s.getLast? = some (UInt8.ofNat v) ∧ v < 128) ∧
      (vput k v = s ↔ (s.length = 1 ∨ s.getLast? ≠ some 0)) := by
  induction s generalizing i acc k with
  | nil => simp [vtk] at h
  | cons c t ih =>
    unfold vtk at h hn ⊢
    split
    · rename_i h1; rw [if_pos h1] at h; simp at h
    · rename_i h1
      rw [if_neg h1] at h hn
      split
      · rename_i h2
        rw [if_pos h2] at hn
        have ht : t = [] := by
          have : t.length = 0 := by
            have hn' : i + 1 = i + (t.length + 1) := hn
            omega
          exact List.eq_nil_of_length_eq_zero this
        subst ht
        have hc : UInt8.ofNat c.toNat = c := by simp
        refine ⟨c.toNat, rfl, fun h0 => by simp; exact UInt8.toNat.inj (by simpa using h0), fun _ => ⟨by simp, h2⟩, ?_⟩
        rw [vput_small _ _ h2, hc]
        simp
      · rename_i h2
        rw [if_neg h2] at h hn
        have h9 : i < 9 := by
          rcases Nat.lt_or_ge i 9 with h9 | h9
          · exact h9
          · exact absurd ⟨by omega, by omega⟩ h1
        obtain ⟨k, rfl⟩ : ∃ j, k = j + 1 := ⟨k - 1, by omega⟩
        obtain ⟨v, e, z, one, sh⟩ := ih (i + 1) _ k (by omega) h (by rw [hn, List.length_cons]; omega)
        have hcl := c.toNat_lt
        have htn : t ≠ [] := by rintro rfl; simp [vtk] at h
        have hlast : (c :: t).getLast? = t.getLast? := by
          cases t with
          | nil => exact absurd rfl htn
          | cons d t => simp
        have hlen : (c :: t).length ≠ 1 := by
          cases t with
          | nil => exact absurd rfl htn
          | cons d t => simp
        refine ⟨(c.toNat - 128) + v * 128, ?_, ?_, fun hl => absurd hl hlen, ?_⟩
        · rw [e, Nat.pow_succ, Nat.add_mul, Nat.mul_comm (128 ^ i) 128, ← Nat.mul_assoc, Nat.add_assoc]
        · intro h0; rw [hlast]; exact z (by omega)
        · rw [hlast]
          simp only [hlen, false_or]
          by_cases hv : v = 0
          · have := z hv
            rw [vput_small _ _ (by omega), this]
            simp
            intro _
            exact htn
          · rw [vput_big _ _ (by omega)]
            have e1 : (c.toNat - 128 + v * 128) % 128 + 128 = c.toNat := by omega
            have e2 : (c.toNat - 128 + v * 128) / 128 = v := by omega
            rw [e1, e2]
            have hc : UInt8.ofNat c.toNat = c := by simp
            rw [hc]
            simp only [List.cons.injEq, true_and]
            rw [sh]
            constructor
            · rintro (h1 | h1)
              · obtain ⟨hl, hv'⟩ := one h1
                rw [hl]
                intro h0
                simp at h0
                have := congrArg UInt8.toNat h0
                rw [toNat_ofNat _ (by omega)] at this
                exact hv this
              · exact h1
            · exact fun h1 => .inr h1

theorem put_take (s : List UInt8) (h : (take s).2.2 = 0) (hn : (take s).2.1 = s.length) : put (take s).1 = s ↔ (s.length = 1 ∨ s.getLast? ≠ some 0) := by
  obtain ⟨v, e, _, _, sh⟩ := vtk_all 0 0 s 9 rfl h (by simpa [take] using hn)
  have : (take s).1 = v := by simpa [take] using e
  rw [this]; exact sh

/-- The shortest form. -/
def short (s : List UInt8) : Bool := (take s).2.2 == 0 && (take s).2.1 == s.length && decide (put (take s).1 = s)

theorem short_put (u : Nat) (h : u < 2 ^ 64) : short (put u) = true := by
  have := take_put u [] h
  rw [List.append_nil] at this
  simp [short, this]

/-- What the law says of any bytes. -/
theorem round_trip (u : Nat) (s : List UInt8) (h : u < 2 ^ 64) (hp : put (take s).1 = put u) : short s = decide (s = put u) := by
  by_cases hs : s = put u
  · subst hs; rw [short_put u h]; simp
  · have : short s = false := by
      cases hsh : short s with
      | false => rfl
      | true =>
        simp [short] at hsh
        exact absurd (hsh.2.symm.trans hp) hs
    rw [this]; simp [hs]

end Go.Proofs.YtalalolgdekelaaGreatDoor.Vp

/- Plain laws of numbers: wrapping, bits of 64-bit numbers. -/
namespace Go.Proofs.YtalalolgdekelaaGreatDoor.Bt
open Go

theorem wu64 (n : Int) : IntKind.u64.wrap n = n % 18446744073709551616 := by simp [IntKind.wrap, IntKind.bits, IntKind.signed]
theorem wu8 (n : Int) : IntKind.u8.wrap n = n % 256 := by simp [IntKind.wrap, IntKind.bits, IntKind.signed]
theorem wi64 (n : Int) : IntKind.i64.wrap n = (n + 9223372036854775808) % 18446744073709551616 - 9223372036854775808 := IntKind.wrap_i64 n

theorem ofInt_nat {n : Nat} (h : n < 18446744073709551616) : (BitVec.ofInt 64 (n : Int)).toNat = n := by
  simp
  omega

theorem xor_u64 (a b : Nat) (ha : a < 18446744073709551616) (hb : b < 18446744073709551616) : bits .xor .u64 (a : Int) (b : Int) = ((a ^^^ b : Nat) : Int) := by
  have hx : a ^^^ b < 2 ^ 64 := Nat.xor_lt_two_pow (by omega) (by omega)
  show IntKind.u64.wrap ((BitVec.ofInt 64 (a : Int) ^^^ BitVec.ofInt 64 (b : Int)).toNat : Int) = _
  rw [BitVec.toNat_xor, ofInt_nat ha, ofInt_nat hb, wu64]
  omega
theorem and_u64 (a b : Nat) (ha : a < 18446744073709551616) (hb : b < 18446744073709551616) : bits .and .u64 (a : Int) (b : Int) = ((a &&& b : Nat) : Int) := by
  have hx : a &&& b < 2 ^ 64 := Nat.and_lt_two_pow _ (by omega)
  show IntKind.u64.wrap ((BitVec.ofInt 64 (a : Int) &&& BitVec.ofInt 64 (b : Int)).toNat : Int) = _
  rw [BitVec.toNat_and, ofInt_nat ha, ofInt_nat hb, wu64]
  omega
theorem or_u64 (a b : Nat) (ha : a < 18446744073709551616) (hb : b < 18446744073709551616) : bits .or .u64 (a : Int) (b : Int) = ((a ||| b : Nat) : Int) := by
  have hx : a ||| b < 2 ^ 64 := Nat.or_lt_two_pow (by omega) (by omega)
  show IntKind.u64.wrap ((BitVec.ofInt 64 (a : Int) ||| BitVec.ofInt 64 (b : Int)).toNat : Int) = _
  rw [BitVec.toNat_or, ofInt_nat ha, ofInt_nat hb, wu64]
  omega

theorem xor_ones_nat (a : Nat) (ha : a < 18446744073709551616) : a ^^^ 18446744073709551615 = 18446744073709551615 - a := by
  have h1 : (BitVec.ofNat 64 a ^^^ BitVec.allOnes 64).toNat = a ^^^ 18446744073709551615 := by
    rw [BitVec.toNat_xor, BitVec.toNat_ofNat, BitVec.toNat_allOnes, Nat.mod_eq_of_lt (by omega)]
  rw [← h1, BitVec.xor_allOnes, BitVec.toNat_not, BitVec.toNat_ofNat, Nat.mod_eq_of_lt (by omega)]

theorem xor_u64_zero (a : Int) (h0 : 0 ≤ a) (h1 : a < 18446744073709551616) : bits .xor .u64 a 0 = a := by
  obtain ⟨n, rfl⟩ := Int.eq_ofNat_of_zero_le h0
  have := xor_u64 n 0 (by omega) (by omega)
  rw [Nat.xor_zero] at this
  exact this
theorem xor_u64_ones (a : Int) (h0 : 0 ≤ a) (h1 : a < 18446744073709551616) : bits .xor .u64 a 18446744073709551615 = 18446744073709551615 - a := by
  obtain ⟨n, rfl⟩ := Int.eq_ofNat_of_zero_le h0
  have := xor_u64 n 18446744073709551615 (by omega) (by omega)
  rw [xor_ones_nat n (by omega)] at this
  rw [show ((18446744073709551615 : Nat) : Int) = 18446744073709551615 from rfl] at this
  rw [this]
  omega
theorem and_u64_one (a : Int) (h0 : 0 ≤ a) (h1 : a < 18446744073709551616) : bits .and .u64 a 1 = a % 2 := by
  obtain ⟨n, rfl⟩ := Int.eq_ofNat_of_zero_le h0
  have := and_u64 n 1 (by omega) (by omega)
  rw [Nat.and_one_is_mod] at this
  rw [show ((1 : Nat) : Int) = 1 from rfl] at this
  rw [this]
  omega
theorem xor_i64_zero (a : Int) (h0 : -9223372036854775808 ≤ a) (h1 : a < 9223372036854775808) : bits .xor .i64 a 0 = a := by
  show IntKind.i64.wrap ((BitVec.ofInt 64 a ^^^ BitVec.ofInt 64 0).toNat : Int) = _
  rw [BitVec.toNat_xor, show (BitVec.ofInt 64 0).toNat = 0 from rfl, Nat.xor_zero, BitVec.toNat_ofInt, wi64]
  omega
theorem xor_i64_ones (a : Int) (h0 : -9223372036854775808 ≤ a) (h1 : a < 9223372036854775808) : bits .xor .i64 a (-1) = -1 - a := by
  show IntKind.i64.wrap ((BitVec.ofInt 64 a ^^^ BitVec.ofInt 64 (-1)).toNat : Int) = _
  rw [BitVec.toNat_xor, show (BitVec.ofInt 64 (-1)).toNat = 18446744073709551615 from rfl, BitVec.toNat_ofInt, xor_ones_nat _ (by omega), wi64]
  omega

end Go.Proofs.YtalalolgdekelaaGreatDoor.Bt
