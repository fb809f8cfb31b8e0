/- Parts of the proof, in order. -/
import Derived.Test.YtkjjfbknppahhaaGreatDoorRows
import Derived.Test.YtkjjfbknppahhaaGreatDoorProg
import Derived.WideKeyArr2
import Derived.Test.YtkjjfbknppahhaaGreatDoorMPlanFinds2

/- Arguments of types without pointers (numbers, texts, structs, slices of such, as deep as they go): what they are to the machine. -/
namespace Go.Proofs.YtkjjfbknppahhaaGreatDoor.Br
open Go Am Go.RowKit Go.WideShapes Go.ChangeShapes Go.ChangeAt Go.Joins Go.Deep Go.WideElems Go.Maps

/-- An element, of its cells. -/
def elemV : List AV → AV
  | [x] => x
  | l => .agg l

/-- Fields one behind the other from a cell on. -/
def consec (P : Program) : Nat → List Field → Nat → Bool
  | o, [], n => Nat.beq o n
  | o, f :: fs, n => Nat.beq f.offset o && consec P (o + P.cellsOf f.type) fs n

/-- Types that hold no pointer, and whose parts are of these types again. -/
def plain1 (P : Program) (ts : List TypeId) (t : TypeId) : Bool :=
  match P.underlying t with
  | some (.int _) | some .bool | some .string => P.cellsOf t == 1
  | some (.struct fs) => consec P 0 fs.toList (P.cellsOf t) && fs.toList.all fun f => ts.contains f.type
  | some (.slice e) => P.cellsOf t == 1 && (decide (0 < P.cellsOf e) && decide (0 < P.bytesOf e)) && ts.contains e
  | _ => false
def plainS (P : Program) (ts : List TypeId) : Bool := ts.all (plain1 P ts)

/-- The cells of a value of such a type; its texts have at most M bytes. -/
def Has (P : Program) (M : Nat) : Nat → TypeId → List AV → Prop
  | 0, _, _ => False
  | k + 1, t, cs => match P.underlying t with
    | some (.int ik) => ∃ n, cs = [.int ik n] ∧ (Lit.int ik n).wf = true
    | some .bool => ∃ b, cs = [.bool b]
    | some .string => ∃ s, cs = [.str s] ∧ s.length ≤ M
    | some (.struct fs) => HasL (Has P M k) fs.toList cs
    | some (.slice e) => ∃ l : List (List AV), cs = [.list (l.map elemV)] ∧ l.length ≤ maxLen ∧ (∀ c ∈ l, Has P M k e c) ∧ l.length ≤ M
    | _ => False
where
  HasL (h : TypeId → List AV → Prop) : List Field → List AV → Prop
    | [], cs => cs = []
    | f :: fs, cs => ∃ a b, cs = a ++ b ∧ h f.type a ∧ HasL h fs b

theorem elemV_cells {l : List AV} (h : l.all AV.leaf = true) : (elemV l).cells = l := by
  match l, h with
  | [], _ => rfl
  | [x], h => cases x <;> first | rfl | simp [AV.leaf] at h
  | _ :: _ :: _, _ => rfl

theorem repL_flatten {G : Gh} : ∀ {ls : List (List AV)} {cs : List (List Value)}, ls.length = cs.length → (∀ i (h1 : i < ls.length) (h2 : i < cs.length), RepL G ls[i] cs[i]) → RepL G ls.flatten cs.flatten
  | [], [], _, _ => .nil
  | l :: ls, c :: cs, hn, h => by
    rw [List.flatten_cons, List.flatten_cons]
    exact RepL.append (h 0 (by simp) (by simp)) (repL_flatten (by simpa using hn) fun i h1 h2 => h (i + 1) (by simpa using h1) (by simpa using h2))
  | [], _ :: _, hn, _ => by simp at hn
  | _ :: _, [], hn, _ => by simp at hn

section
variable {H : Type} {enc : TypeId × Value → H} {P : Program} {W : World} {M : Nat}

theorem bulk_mem {d : DataW H} : ∀ {l : List (DataW H)}, d ∈ l → Rows.uptoBulk d ≤ Rows.uptoBulkAll l
  | [], h => by cases h
  | x :: l, h => by
    rw [Rows.uptoBulkAll]
    rcases List.mem_cons.1 h with rfl | h
    · omega
    · have := bulk_mem h
      omega

/-- What is not too long: as the model has it, by its bulk, or by its parts' weights. -/
def Fit (P : Program) (M : Nat) (t : TypeId) (d : DataW H) : Prop := M = maxLen ∨ Rows.uptoBulk d ≤ M ∨ (d.weights P t).all (· ≤ M) = true

theorem weights_at {t : TypeId} {d : DataW H} : ∀ {ts : List TypeId} {ds : List (DataW H)} (i : Nat), (DataW.weightsEach P ts ds).all (· ≤ M) = true → ts[i]? = some t → ds[i]? = some d → (d.weights P t).all (· ≤ M) = true
  | [], _, _, _, h, _ => by simp at h
  | _ :: _, [], _, _, _, h => by simp at h
  | t' :: ts, d' :: ds, 0, h, h1, h2 => by
    rw [DataW.weightsEach, List.all_append, Bool.and_eq_true] at h
    cases h1; cases h2
    exact h.1
  | t' :: ts, d' :: ds, i + 1, h, h1, h2 => by
    rw [DataW.weightsEach, List.all_append, Bool.and_eq_true] at h
    exact weights_at i h.2 (by simpa using h1) (by simpa using h2)

theorem weightsAll_mem {e : TypeId} {d : DataW H} : ∀ {ds : List (DataW H)}, (DataW.weightsAll P e ds).all (· ≤ M) = true → d ∈ ds → (d.weights P e).all (· ≤ M) = true
  | [], _, h => by cases h
  | d' :: ds, h, hd => by
    rw [DataW.weightsAll, List.all_append, Bool.and_eq_true] at h
    rcases List.mem_cons.1 hd with rfl | hd
    · exact h.1
    · exact weightsAll_mem h.2 hd

/-- What the reading of some cells gives. -/
def Opn (W : World) (h : List AV → Prop) (n : Nat) (cs : List Value) : Prop :=
  ∃ avs, h avs ∧ RepL (Gh.bare fun b o => sv W b o) avs cs ∧ avs.length = n ∧ AV.rfL avs = true ∧ avs.all AV.leaf = true

theorem open_fields {h : TypeId → List AV → Prop} {cs : List Value} : ∀ (fs : List Field) (o : Nat), consec P o fs cs.length = true → (∀ f ∈ fs, Opn W (h f.type) (P.cellsOf f.type) ((cs.drop f.offset).take (P.cellsOf f.type))) →
    Opn W (Has.HasL h fs) (cs.length - o) (cs.drop o)
  | [], o, hc, _ => by
    have e : o = cs.length := Nat.eq_of_beq_eq_true hc
    refine ⟨[], rfl, ?_, by simp [e], rfl, rfl⟩
    rw [e, List.drop_length]
    exact .nil
  | f :: fs, o, hc, hf => by
    simp only [consec, Bool.and_eq_true] at hc
    have eo : f.offset = o := Nat.eq_of_beq_eq_true hc.1
    obtain ⟨a, a1, a2, a3, a4, a5⟩ := hf f (by simp)
    obtain ⟨b, b1, b2, b3, b4, b5⟩ := open_fields fs _ hc.2 fun g hg => hf g (by simp [hg])
    rw [eo] at a2
    refine ⟨a ++ b, ⟨a, b, rfl, a1, b1⟩, ?_, ?_, by rw [rfL_append, a4, b4] <;> rfl, by rw [List.all_append, a5, b5] <;> rfl⟩
    · have := RepL.append a2 b2
      rwa [← List.drop_drop, List.take_append_drop] at this
    · have hlen : a.length = ((cs.drop o).take (P.cellsOf f.type)).length := (RepL.length a2).symm
      rw [List.length_append, a3, b3]
      rw [a3, List.length_take, List.length_drop] at hlen
      omega

theorem open_deep {ts : List TypeId} (hP : plainS P ts = true) : ∀ (k : Nat) (t : TypeId) (cs : List Value) (d : DataW H) (pl : List MemPlace), ts.contains t = true → DataW.trod enc P W 0 (fun _ => true) true k t cs = some (d, pl) → Fit P M t d →
    Opn W (Has P M k t) (P.cellsOf t) cs
  | 0, _, _, _, _, _, h, _ => by simp [DataW.trod] at h
  | k + 1, t, cs, d, pl, ht, h, hb => by
    have hp := List.all_eq_true.1 hP t (by simpa using ht)
    unfold plain1 at hp
    split at hp
    · rename_i ik hu
      obtain ⟨v, rfl, _, hw⟩ := DataW.trod_int hu h
      refine ⟨[.int ik v], ?_, .cons (.int ik v) .nil, by rw [beq_iff_eq] at hp; simp [hp], rfl, rfl⟩
      simp only [Has, hu]
      exact ⟨v, rfl, hw⟩
    · rename_i hu
      obtain ⟨b, rfl, _⟩ := DataW.trod_bool hu h
      refine ⟨[.bool b], ?_, .cons (.bool b) .nil, by rw [beq_iff_eq] at hp; simp [hp], rfl, rfl⟩
      simp only [Has, hu]
      exact ⟨b, rfl⟩
    · rename_i hu
      obtain ⟨⟨⟨s⟩⟩, rfl, e, hw⟩ := DataW.trod_string hu h
      have hw : s.length ≤ M := by
        cases e
        rcases hb with rfl | hb | hb
        · exact hw
        · rw [Rows.uptoBulk] at hb
          exact Nat.le_trans (Nat.le_succ _) hb
        · rw [DataW.weights] at hb
          simpa using hb
      refine ⟨[.str s], ?_, .cons (.str s) .nil, by rw [beq_iff_eq] at hp; simp [hp], rfl, rfl⟩
      simp only [Has, hu]
      exact ⟨s, rfl, hw⟩
    · rename_i fs hu
      simp only [Bool.and_eq_true, List.all_eq_true] at hp
      obtain ⟨xs, n', hk, e, hlen, hxl, hx⟩ := DataW.trod_struct hu h
      obtain rfl : k = n' := by omega
      have hbx : ∀ (i : Nat) x (f : Field), xs[i]? = some x → fs[i]? = some f → Fit P M f.type x.1 := fun i x f hx hf => by
        cases e
        refine hb.imp id fun hb => hb.imp (fun hb => ?_) fun hb => ?_
        · rw [Rows.uptoBulk] at hb
          have := bulk_mem (l := xs.map (·.1)) (List.mem_map.2 ⟨x, List.mem_of_getElem? hx, rfl⟩)
          omega
        · rw [DataW.weights, hu] at hb
          exact weights_at i hb (by simp [hf]) (by simp [hx])
      have := open_fields (W := W) (h := Has P M k) (cs := cs) fs.toList 0 (by rw [hlen]; exact hp.1) (fun f hf => by
        obtain ⟨i, hi⟩ := List.mem_iff_getElem?.1 hf
        have hi' : fs[i]? = some f := by simpa using hi
        have hlt : i < fs.size := by
          have := List.getElem?_eq_some_iff.1 hi
          simpa using this.1
        have h2 := hx i f hi'
        rw [List.getElem?_eq_getElem (by omega)] at h2
        exact open_deep hP k f.type _ _ _ (hp.2 f hf) h2 (hbx i _ f (List.getElem?_eq_getElem (by omega)) hi'))
      rw [List.drop_zero, Nat.sub_zero, hlen] at this
      obtain ⟨avs, h1, h2⟩ := this
      refine ⟨avs, ?_, h2⟩
      simp only [Has, hu]
      exact h1
    · rename_i e hu
      simp only [Bool.and_eq_true, decide_eq_true_eq, beq_iff_eq] at hp
      obtain ⟨⟨h1, h0, hby⟩, hpe⟩ := hp
      rcases DataW.trod_slice hu h with ⟨rfl, _⟩ | ⟨a, len, cap, elems, rest, n', hk, rfl, e0, _, hl, hm, hln0, hel, _⟩
      · refine ⟨[.list []], ?_, .cons (.list (cs := []) (sz := 0) .nil (by simp) rfl rfl (by simp) rfl (Nat.zero_le _) (Nat.zero_le _)) .nil, by simp [h1], rfl, rfl⟩
        simp only [Has, hu]
        exact ⟨[], rfl, Nat.zero_le _, by simp, Nat.zero_le _⟩
      · obtain rfl : k = n' := by omega
        have hbx : ∀ x ∈ elems, Fit P M e x.1 := fun x hx => by
          cases e0
          refine hb.imp id fun hb => hb.imp (fun hb => ?_) fun hb => ?_
          · rw [Rows.uptoBulk] at hb
            have := bulk_mem (l := elems.map (·.1)) (List.mem_map.2 ⟨x, hx, rfl⟩)
            omega
          · rw [DataW.weights, hu, List.all_cons, List.all_append, Bool.and_eq_true, Bool.and_eq_true] at hb
            exact weightsAll_mem hb.2.1 (List.mem_map.2 ⟨x, hx, rfl⟩)
        have hlenM : len ≤ M := by
          cases e0
          rcases hb with rfl | hb | hb
          · omega
          · have key : ∀ l : List (DataW H), l.length ≤ Rows.uptoBulkAll l := by
              intro l
              induction l with
              | nil => simp
              | cons x l ih =>
                have : 1 ≤ Rows.uptoBulk x := by unfold Rows.uptoBulk; split <;> omega
                rw [Rows.uptoBulkAll, List.length_cons]
                omega
            rw [Rows.uptoBulk] at hb
            have := key (elems.map (·.1))
            rw [List.length_map] at this
            omega
          · rw [DataW.weights, hu, List.all_cons, Bool.and_eq_true] at hb
            have h5 := hb.1
            simp only [decide_eq_true_eq, List.length_map] at h5
            have h6 : elems.length * 1 ≤ (elems.length + rest.length) * P.bytesOf e := Nat.mul_le_mul (Nat.le_add_right _ _) hby
            omega
        haveI : Inhabited ({c : List Value // c.length = P.cellsOf e} × List AV) := ⟨(⟨List.replicate (P.cellsOf e) (.bool false), by simp⟩, [])⟩
        obtain ⟨F, hF⟩ := choose_lt (α := {c : List Value // c.length = P.cellsOf e} × List AV) (n := len) (p := fun i x => W.cells? 0 (a.add (i * P.cellsOf e)) (P.cellsOf e) = some x.1.1 ∧ Has P M k e x.2 ∧ RepL (Gh.bare fun b o => sv W b o) x.2 x.1.1 ∧ x.2.length = P.cellsOf e ∧ AV.rfL x.2 = true ∧ x.2.all AV.leaf = true) (fun i hi => by
          have hb := hel i hi
          rw [List.getElem?_eq_getElem (by omega)] at hb
          obtain ⟨cs', c1, c2⟩ := Option.bind_eq_some_iff.1 hb
          obtain ⟨_, hln, _⟩ := World.cells?_some c1
          obtain ⟨avs, o1, o2, o3, o4, o5⟩ := open_deep hP k e cs' _ _ hpe c2 (hbx _ (List.getElem_mem _))
          exact ⟨(⟨cs', hln⟩, avs), c1, o1, o2, o3, o4, o5⟩)
        have cellAt : ∀ i j, i < len → j < P.cellsOf e → W.cell? (a.add (i * P.cellsOf e + j)) = (F i).1.1[j]? := by
          intro i j hi hj
          obtain ⟨_, _, h3⟩ := World.cells?_some (hF i hi).1
          rw [← h3 j hj, add_add]
        have hspot : 0 < len → a.spot = none := by
          intro hc
          have := cellAt 0 0 hc h0
          rw [Nat.zero_mul, show a.add (0 + 0) = a from rfl, List.getElem?_eq_getElem (by rw [(F 0).1.2]; exact h0)] at this
          unfold World.cell? at this
          split at this
          · split at this
            · cases this
            · rename_i h; simpa using h
          · cases this
        have hel' : ∀ c ∈ (List.range len).map (fun i => (F i).2), ∃ i, i < len ∧ c = (F i).2 := by
          intro c hc
          obtain ⟨i, hi, rfl⟩ := List.mem_map.1 hc
          exact ⟨i, List.mem_range.1 hi, rfl⟩
        have hflat : ∀ L : List (List AV), (∀ c ∈ L, c.all AV.leaf = true) → flat (L.map elemV) = L.flatten := by
          intro L
          induction L with
          | nil => intro _; rfl
          | cons c L ih =>
            intro hh
            show (elemV c).cells ++ flat (L.map elemV) = c ++ L.flatten
            rw [elemV_cells (hh c (by simp)), ih fun x hx => hh x (by simp [hx])]
        have hrf : ∀ L : List (List AV), (∀ c ∈ L, AV.rfL c = true) → AV.rfL L.flatten = true := by
          intro L
          induction L with
          | nil => intro _; rfl
          | cons c L ih =>
            intro hh
            rw [List.flatten_cons, rfL_append, hh c (by simp), ih fun x hx => hh x (by simp [hx])] <;> rfl
        have hlf : ∀ L : List (List AV), (∀ c ∈ L, c.all AV.leaf = true) → L.flatten.all AV.leaf = true := by
          intro L
          induction L with
          | nil => intro _; rfl
          | cons c L ih =>
            intro hh
            rw [List.flatten_cons, List.all_append, hh c (by simp), ih fun x hx => hh x (by simp [hx])] <;> rfl
        have hl1 : ∀ c ∈ (List.range len).map (fun i => (F i).2), c.all AV.leaf = true := fun c hc => by
          obtain ⟨i, hi, rfl⟩ := hel' c hc
          exact (hF i hi).2.2.2.2.2
        have hl2 : ∀ c ∈ (List.range len).map (fun i => (F i).2), AV.rfL c = true := fun c hc => by
          obtain ⟨i, hi, rfl⟩ := hel' c hc
          exact (hF i hi).2.2.2.2.1
        refine ⟨[.list (((List.range len).map fun i => (F i).2).map elemV)], ?_, .cons (.list (cs := ((List.range len).map fun i => (F i).1.1).flatten) (sz := P.cellsOf e) ?_ ?_ ?_ ?_ ?_ (by simp) hl (by omega)) .nil, by simp [h1], rfl, rfl⟩
        · simp only [Has, hu]
          refine ⟨_, rfl, by simp; omega, ?_, by simpa using hlenM⟩
          intro c hc
          obtain ⟨i, hi, rfl⟩ := hel' c hc
          exact (hF i hi).2.1
        · rw [hflat _ hl1]
          refine repL_flatten (by simp) fun i g1 g2 => ?_
          simp only [List.length_map, List.length_range] at g1
          simp only [List.getElem_map, List.getElem_range]
          exact (hF i (by omega)).2.2.1
        · intro x hx
          obtain ⟨c, hc, rfl⟩ := List.mem_map.1 hx
          rw [elemV_cells (hl1 c hc)]
          obtain ⟨i, hi, rfl⟩ := hel' c hc
          exact (hF i hi).2.2.2.1
        · rw [hflat _ hl1]; exact hrf _ hl2
        · rw [hflat _ hl1]; exact hlf _ hl1
        · intro j u hj
          rw [← List.flatMap_def, flatMap_get h0 (fun i => (F i).1.2)] at hj
          by_cases hi : j / P.cellsOf e < len
          · rw [List.getElem?_range hi] at hj
            have hj : (F (j / P.cellsOf e)).1.1[j % P.cellsOf e]? = some u := hj
            have hk := cellAt (j / P.cellsOf e) (j % P.cellsOf e) (by omega) (Nat.mod_lt _ h0)
            rw [hj, Nat.div_add_mod'] at hk
            have hs := hspot (Nat.lt_of_le_of_lt (Nat.zero_le _) hi)
            obtain ⟨b, o, s⟩ := a
            subst hs
            refine ⟨b, o, rfl, ?_⟩
            refine sv_cell ?_
            show W.cell? ⟨b, o + j, none⟩ = some u
            rw [← hk]
            unfold Addr.add
            split
            · rename_i h; rw [h]; rfl
            · rfl
          · rw [List.getElem?_eq_none (by simp; omega)] at hj
            cases hj
    · cases hp

/-- An argument reads the same in a later world. -/
theorem deep_stays {t : TypeId} {v : Value} {d : DataW H} {p : List MemPlace} (hl : laidOutB P = true) (hr : P.readableRec t = true) (hrow : t < P.types.size) (h : DataW.Trod enc P W 0 (fun _ => true) true t v d p) :
    ∀ (W' : World) (sp : Nat → Bool), Below W.heap.size W W' → (∀ q ∈ p, sp q.block = true) → DataW.Trod enc P W' 0 sp true t v d p := by
  intro W' sp hb hs
  obtain ⟨n, hn⟩ := h
  exact Trod_stays hl hr hrow ⟨n, hn⟩ (fun x hx => hb.same (DataW.trod_lt n _ _ _ hn x hx)) hs

/-- An argument that is a struct. -/
theorem open_struct {t : TypeId} {fs : Array Field} {ts : List TypeId} {r : Reach} {b0 : Nat} {v : Value} {d : DataW H} {p : List MemPlace} (hP : plainS P ts = true) (ht : ts.contains t = true) (hs : P.underlying t = some (.struct fs)) (hv : Value.okWide P W r b0 t v)
    (h : DataW.Trod enc P W 0 (fun _ => true) true t v d p) (hb : Fit P M t d) : ∃ k avs, Has P M k t avs ∧ Rep (Gh.bare fun b o => sv W b o) (.agg avs) v := by
  obtain ⟨⟨cs⟩, rfl, _⟩ := okWide_struct hs hv
  obtain ⟨n, hn⟩ := h
  obtain ⟨avs, h1, h2, _⟩ := open_deep hP n t _ _ _ ht hn hb
  exact ⟨n, avs, h1, .agg h2⟩

/-- An argument that is a slice. -/
theorem open_slc {t e : TypeId} {ts : List TypeId} {r : Reach} {b0 : Nat} {v : Value} {d : DataW H} {p : List MemPlace} (hP : plainS P ts = true) (ht : ts.contains t = true) (hs : P.underlying t = some (.slice e)) (hv : Value.okWide P W r b0 t v)
    (h : DataW.Trod enc P W 0 (fun _ => true) true t v d p) (hb : Fit P M t d) : ∃ (k : Nat) (l : List (List AV)), (∀ c ∈ l, Has P M k e c) ∧ l.length ≤ maxLen ∧ Rep (Gh.bare fun b o => sv W b o) (.list (l.map elemV)) v := by
  obtain ⟨a0, len0, cap0, rfl⟩ := okWide_slice hs hv
  obtain ⟨n, hn⟩ := h
  obtain ⟨avs, h1, h2, _⟩ := open_deep hP n t _ _ _ ht hn hb
  cases n with
  | zero => cases h1
  | succ k =>
  simp only [Has, hs] at h1
  obtain ⟨l, rfl, h3, h4, _⟩ := h1
  refine ⟨k, l, h4, h3, ?_⟩
  have h2 : RepL (Gh.bare fun b o => sv W b o) [.list (l.map elemV)] [.slice a0 len0 cap0] := h2
  cases h2 with
  | cons h _ => exact h

/-- Cells by what they are. -/
theorem list_of {X : Type} {f : X → List AV} {ok : X → Prop} : ∀ {l : List (List AV)}, (∀ c ∈ l, ∃ x, ok x ∧ c = f x) → ∃ xs : List X, l = xs.map f ∧ ∀ x ∈ xs, ok x
  | [], _ => ⟨[], rfl, by simp⟩
  | c :: l, h => by
    obtain ⟨x, hx, rfl⟩ := h c (by simp)
    obtain ⟨xs, rfl, hxs⟩ := list_of (l := l) fun c hc => h c (by simp [hc])
    exact ⟨x :: xs, rfl, by simpa using ⟨hx, hxs⟩⟩

end

end Go.Proofs.YtkjjfbknppahhaaGreatDoor.Br

/- Plans as arguments: what their cells are. -/
namespace Go.Proofs.YtkjjfbknppahhaaGreatDoor.Br
open Go Am

section
variable {P : Program} {M k : Nat} {t : TypeId} {cs : List AV}

theorem has_int {ik : IntKind} (hu : P.underlying t = some (.int ik)) (h : Has P M k t cs) : ∃ n, cs = [.int ik n] ∧ (Lit.int ik n).wf = true := by
  cases k with
  | zero => cases h
  | succ k => simpa only [Has, hu] using h

theorem has_bool (hu : P.underlying t = some .bool) (h : Has P M k t cs) : ∃ b, cs = [.bool b] := by
  cases k with
  | zero => cases h
  | succ k => simpa only [Has, hu] using h

theorem has_str (hu : P.underlying t = some .string) (h : Has P M k t cs) : ∃ s, cs = [.str s] ∧ s.length ≤ M := by
  cases k with
  | zero => cases h
  | succ k => simpa only [Has, hu] using h

theorem has_slice {e : TypeId} (hu : P.underlying t = some (.slice e)) (h : Has P M k t cs) : ∃ (k' : Nat) (l : List (List AV)), cs = [.list (l.map elemV)] ∧ l.length ≤ maxLen ∧ ∀ c ∈ l, Has P M k' e c := by
  cases k with
  | zero => cases h
  | succ k =>
    simp only [Has, hu] at h
    obtain ⟨l, h1, h2, h3, _⟩ := h
    exact ⟨k, l, h1, h2, h3⟩

/-- .. with the bound. -/
theorem has_sliceM {e : TypeId} (hu : P.underlying t = some (.slice e)) (h : Has P M k t cs) : ∃ (k' : Nat) (l : List (List AV)), cs = [.list (l.map elemV)] ∧ l.length ≤ M ∧ ∀ c ∈ l, Has P M k' e c := by
  cases k with
  | zero => cases h
  | succ k =>
    simp only [Has, hu] at h
    obtain ⟨l, h1, _, h3, h4⟩ := h
    exact ⟨k, l, h1, h4, h3⟩

theorem has_struct {fs : Array Field} (hu : P.underlying t = some (.struct fs)) (h : Has P M k t cs) : ∃ k', Has.HasL (Has P M k') fs.toList cs := by
  cases k with
  | zero => cases h
  | succ k =>
    simp only [Has, hu] at h
    exact ⟨k, h⟩

end

/-- An operation. -/
structure PO where
  num : Int
  name : List UInt8
  alias : List UInt8
  card : Int
  key : Int
  kind : Int
  target : Int
  union : Int

def PO.cells (o : PO) : List AV := [.int .i64 o.num, .str o.name, .str o.alias, .int .i64 o.card, .int .i64 o.key, .int .i64 o.kind, .int .i64 o.target, .int .i64 o.union]

structure PO.ok (M : Nat) (o : PO) : Prop where
  num : (Lit.int .i64 o.num).wf = true
  name : o.name.length ≤ M
  alias : o.alias.length ≤ M
  card : (Lit.int .i64 o.card).wf = true
  key : (Lit.int .i64 o.key).wf = true
  kind : (Lit.int .i64 o.kind).wf = true
  target : (Lit.int .i64 o.target).wf = true
  union : (Lit.int .i64 o.union).wf = true

theorem has_op {M k : Nat} {cs : List AV} (h : Has Tryz.prog M k 23 cs) : ∃ o : PO, o.ok M ∧ cs = o.cells := by
  obtain ⟨k, h⟩ := has_struct Tryz.underlying23 h
  simp only [Has.HasL] at h
  obtain ⟨_, _, rfl, h0, _, _, rfl, h1, _, _, rfl, h2, _, _, rfl, h3, _, _, rfl, h4, _, _, rfl, h5, _, _, rfl, h6, _, _, rfl, h7, rfl⟩ := h
  obtain ⟨a0, rfl, w0⟩ := has_int Tryz.underlying3 h0
  obtain ⟨a1, rfl, w1⟩ := has_str Tryz.underlying9 h1
  obtain ⟨a2, rfl, w2⟩ := has_str Tryz.underlying9 h2
  obtain ⟨a3, rfl, w3⟩ := has_int Tryz.underlying3 h3
  obtain ⟨a4, rfl, w4⟩ := has_int Tryz.underlying3 h4
  obtain ⟨a5, rfl, w5⟩ := has_int Tryz.underlying3 h5
  obtain ⟨a6, rfl, w6⟩ := has_int Tryz.underlying3 h6
  obtain ⟨a7, rfl, w7⟩ := has_int Tryz.underlying3 h7
  exact ⟨⟨a0, a1, a2, a3, a4, a5, a6, a7⟩, ⟨w0, w1, w2, w3, w4, w5, w6, w7⟩, rfl⟩

/-- What is known of a program: its operations. -/
structure PG where
  name : List UInt8
  ops : List PO
  unions : Int

def PG.cells (g : PG) : List AV := [.str g.name, .list (g.ops.map fun o => .agg o.cells), .int .i64 g.unions]

structure PG.ok (M : Nat) (g : PG) : Prop where
  name : g.name.length ≤ M
  len : g.ops.length ≤ maxLen
  ops : ∀ o ∈ g.ops, o.ok M
  unions : (Lit.int .i64 g.unions).wf = true

theorem has_prog {M k : Nat} {cs : List AV} (h : Has Tryz.prog M k 42 cs) : ∃ g : PG, g.ok M ∧ cs = g.cells := by
  obtain ⟨k, h⟩ := has_struct Tryz.underlying42 h
  simp only [Has.HasL] at h
  obtain ⟨_, _, rfl, h0, _, _, rfl, h1, _, _, rfl, h2, rfl⟩ := h
  obtain ⟨a0, rfl, w0⟩ := has_str Tryz.underlying9 h0
  obtain ⟨k', l, rfl, w1, hl⟩ := has_slice Tryz.underlying40 h1
  obtain ⟨a2, rfl, w2⟩ := has_int Tryz.underlying3 h2
  obtain ⟨ops, rfl, hok⟩ := list_of (f := PO.cells) (ok := PO.ok M) fun c hc => has_op (hl c hc)
  refine ⟨⟨a0, ops, a2⟩, ⟨w0, by simpa using w1, hok, w2⟩, ?_⟩
  simp only [PG.cells, List.map_map, List.cons_append, List.nil_append]
  rfl

/-- Numbers that are kept free. -/
structure PS where
  lo : Int
  hi : Int

def PS.cells (x : PS) : List AV := [.int .i64 x.lo, .int .i64 x.hi]
def PS.ok (x : PS) : Prop := (Lit.int .i64 x.lo).wf = true ∧ (Lit.int .i64 x.hi).wf = true

theorem has_span {M k : Nat} {cs : List AV} (h : Has Tryz.prog M k 100 cs) : ∃ x : PS, x.ok ∧ cs = x.cells := by
  obtain ⟨k, h⟩ := has_struct Tryz.underlying100 h
  simp only [Has.HasL] at h
  obtain ⟨_, _, rfl, h0, _, _, rfl, h1, rfl⟩ := h
  obtain ⟨a0, rfl, w0⟩ := has_int Tryz.underlying3 h0
  obtain ⟨a1, rfl, w1⟩ := has_int Tryz.underlying3 h1
  exact ⟨⟨a0, a1⟩, ⟨w0, w1⟩, rfl⟩

/-- A note: its value is left as it is. -/
structure PN where
  name : List UInt8
  val : List AV

def PN.cells (x : PN) : List AV := .str x.name :: x.val
def PN.ok (P : Program) (M : Nat) (t : TypeId) (x : PN) : Prop := x.name.length ≤ M ∧ ∃ k, Has P M k t x.val

theorem has_note {M k : Nat} {cs : List AV} (h : Has Tryz.prog M k 104 cs) : ∃ x : PN, x.ok Tryz.prog M 30 ∧ cs = x.cells := by
  obtain ⟨k, h⟩ := has_struct Tryz.underlying104 h
  simp only [Has.HasL] at h
  obtain ⟨_, _, rfl, h0, a1, _, rfl, h1, rfl⟩ := h
  obtain ⟨a0, rfl, w0⟩ := has_str Tryz.underlying9 h0
  exact ⟨⟨a0, a1⟩, ⟨w0, k, h1⟩, by simp [PN.cells]⟩

structure PI where
  name : List UInt8
  num : Int
  notes : List PN

def PI.cells (x : PI) : List AV := [.str x.name, .int .i64 x.num, .list (x.notes.map fun n => elemV n.cells)]

structure PI.ok (M : Nat) (x : PI) : Prop where
  name : x.name.length ≤ M
  num : (Lit.int .i64 x.num).wf = true
  len : x.notes.length ≤ maxLen
  notes : ∀ n ∈ x.notes, n.ok Tryz.prog M 30

theorem has_item {M k : Nat} {cs : List AV} (h : Has Tryz.prog M k 80 cs) : ∃ x : PI, x.ok M ∧ cs = x.cells := by
  obtain ⟨k, h⟩ := has_struct Tryz.underlying80 h
  simp only [Has.HasL] at h
  obtain ⟨_, _, rfl, h0, _, _, rfl, h1, _, _, rfl, h2, rfl⟩ := h
  obtain ⟨a0, rfl, w0⟩ := has_str Tryz.underlying9 h0
  obtain ⟨a1, rfl, w1⟩ := has_int Tryz.underlying3 h1
  obtain ⟨k', l, rfl, w2, hl⟩ := has_slice Tryz.underlying54 h2
  obtain ⟨ns, rfl, hok⟩ := list_of (f := PN.cells) (ok := PN.ok Tryz.prog M 30) fun c hc => has_note (hl c hc)
  refine ⟨⟨a0, a1, ns⟩, ⟨w0, w1, by simpa using w2, hok⟩, ?_⟩
  simp only [PI.cells, List.map_map, List.cons_append, List.nil_append]
  rfl

structure PE where
  name : List UInt8
  opn : Bool
  items : List PI
  free : List PS
  notes : List PN

def PE.cells (x : PE) : List AV := [.str x.name, .bool x.opn, .list (x.items.map fun n => .agg n.cells), .list (x.free.map fun n => .agg n.cells), .list (x.notes.map fun n => elemV n.cells)]

structure PE.ok (M : Nat) (x : PE) : Prop where
  name : x.name.length ≤ M
  len1 : x.items.length ≤ maxLen
  items : ∀ n ∈ x.items, n.ok M
  len2 : x.free.length ≤ maxLen
  free : ∀ n ∈ x.free, n.ok
  len3 : x.notes.length ≤ maxLen
  notes : ∀ n ∈ x.notes, n.ok Tryz.prog M 30

theorem has_enum {M k : Nat} {cs : List AV} (h : Has Tryz.prog M k 72 cs) : ∃ x : PE, x.ok M ∧ cs = x.cells := by
  obtain ⟨k, h⟩ := has_struct Tryz.underlying72 h
  simp only [Has.HasL] at h
  obtain ⟨_, _, rfl, h0, _, _, rfl, h1, _, _, rfl, h2, _, _, rfl, h3, _, _, rfl, h4, rfl⟩ := h
  obtain ⟨a0, rfl, w0⟩ := has_str Tryz.underlying9 h0
  obtain ⟨a1, rfl⟩ := has_bool Tryz.underlying4 h1
  obtain ⟨k2, l2, rfl, w2, hl2⟩ := has_slice Tryz.underlying70 h2
  obtain ⟨k3, l3, rfl, w3, hl3⟩ := has_slice Tryz.underlying61 h3
  obtain ⟨k4, l4, rfl, w4, hl4⟩ := has_slice Tryz.underlying54 h4
  obtain ⟨x2, rfl, o2⟩ := list_of (f := PI.cells) (ok := PI.ok M) fun c hc => has_item (hl2 c hc)
  obtain ⟨x3, rfl, o3⟩ := list_of (f := PS.cells) (ok := PS.ok) fun c hc => has_span (hl3 c hc)
  obtain ⟨x4, rfl, o4⟩ := list_of (f := PN.cells) (ok := PN.ok Tryz.prog M 30) fun c hc => has_note (hl4 c hc)
  refine ⟨⟨a0, a1, x2, x3, x4⟩, ⟨w0, by simpa using w2, o2, by simpa using w3, o3, by simpa using w4, o4⟩, ?_⟩
  simp only [PE.cells, List.map_map, List.cons_append, List.nil_append]
  rfl

structure PL where
  progs : List PG
  enums : List PE

def PL.av (p : PL) : AV := .agg [.list (p.progs.map fun n => .agg n.cells), .list (p.enums.map fun n => .agg n.cells)]

structure PL.ok (M : Nat) (x : PL) : Prop where
  len1 : x.progs.length ≤ maxLen
  progs : ∀ n ∈ x.progs, n.ok M
  len2 : x.enums.length ≤ maxLen
  enums : ∀ n ∈ x.enums, n.ok M

theorem has_plan {M k : Nat} {cs : List AV} (h : Has Tryz.prog M k 39 cs) : ∃ x : PL, x.ok M ∧ .agg cs = x.av := by
  obtain ⟨k, h⟩ := has_struct Tryz.underlying39 h
  simp only [Has.HasL] at h
  obtain ⟨_, _, rfl, h0, _, _, rfl, h1, rfl⟩ := h
  obtain ⟨k2, l2, rfl, w2, hl2⟩ := has_slice Tryz.underlying36 h0
  obtain ⟨k3, l3, rfl, w3, hl3⟩ := has_slice Tryz.underlying37 h1
  obtain ⟨x2, rfl, o2⟩ := list_of (f := PG.cells) (ok := PG.ok M) fun c hc => has_prog (hl2 c hc)
  obtain ⟨x3, rfl, o3⟩ := list_of (f := PE.cells) (ok := PE.ok M) fun c hc => has_enum (hl3 c hc)
  refine ⟨⟨x2, x3⟩, ⟨by simpa using w2, o2, by simpa using w3, o3⟩, ?_⟩
  simp only [PL.av, List.map_map, List.cons_append, List.nil_append]
  rfl

end Go.Proofs.YtkjjfbknppahhaaGreatDoor.Br

/- The first operation of a program that is such: functions handed over. -/
set_option linter.unusedSimpArgs false
namespace Go.Proofs.YtkjjfbknppahhaaGreatDoor.Va
open Go Am Rc Bt Br

/-- The first place where p holds. -/
def fxi {α : Type} (p : α → Bool) : List α → Nat → Int
  | [], _ => -1
  | x :: l, i => if p x = true then (i : Int) else fxi p l (i + 1)

theorem fxi_spec {α : Type} (p : α → Bool) : ∀ (l : List α) (i : Nat), (fxi p l i = -1 ∧ l.find? p = none) ∨ ∃ k o, fxi p l i = ((i + k : Nat) : Int) ∧ l[k]? = some o ∧ l.find? p = some o
  | [], _ => .inl ⟨rfl, rfl⟩
  | x :: l, i => by
    unfold fxi
    rw [List.find?_cons]
    cases h : p x with
    | true => exact .inr ⟨0, x, by simp, rfl, rfl⟩
    | false =>
      simp only [Bool.false_eq_true, if_false]
      rcases fxi_spec p l (i + 1) with h' | ⟨k, o, h1, h2, h3⟩
      · exact .inl h'
      · exact .inr ⟨k + 1, o, by rw [h1]; congr 1; omega, by simpa using h2, h3⟩

theorem fxi_drop {α : Type} (p : α → Bool) {l : List α} {i : Nat} {x : α} (hx : l[i]? = some x) : fxi p (l.drop i) i = if p x = true then (i : Int) else fxi p (l.drop (i + 1)) (i + 1) := by
  have hlt : i < l.length := (List.getElem?_eq_some_iff.1 hx).1
  rw [List.drop_eq_getElem_cons hlt, show l[i] = x from (List.getElem?_eq_some_iff.1 hx).2]
  rfl

def oav (o : PO) : AV := .agg o.cells
def gav (g : PG) : AV := .agg g.cells
def iav (x : PI) : AV := .agg x.cells
def eav (x : PE) : AV := .agg x.cells

section ops
variable (L : List PO) (hl : L.length ≤ maxLen) (p : PO → Bool) (c : Nat) (cap : AV) (m : Mem)

def IxO (k : Nat) (st : St) : Prop :=
  ∃ f i, st = ⟨f, noObs :: m, []⟩ ∧ k = L.length - i ∧ fxi p L 0 = fxi p (L.drop i) i ∧ f 0 = .list (L.map oav) ∧ f 1 = .fn (.func c) [] [cap.sh] ∧ f 7 = .int .i64 (L.length : Nat) ∧ f 8 = .int .i64 (i : Nat)

include hl in
theorem y42 (hc : ∀ o ∈ L, ACalls Tryz.prog c [oav o, cap.sh] (noObs :: m) fun y m1 => y = .bool (p o) ∧ m1 = noObs :: m) :
    ACalls Tryz.prog 42 [.list (L.map oav), .fn (.func c) [] [cap]] m fun y m1 => y = .int .i64 (fxi p L 0) ∧ m1 = m := by
  refine acalls_of_awp (rc := r42) (rs := o42) Tryz.func42 rfl rfl Tryz.ntmps42 k42 q42 (by simp) ?_
  simp only [g42_0, g42_1, g42_2, g42_3, g42_4, g42_5, g42_6, g42_7, r42, o42, List.length_map, eES, eEX, Nat.reduceBEq, Int.reduceLE, Int.reduceLT, Int.reduceToNat, Int.reduceEq, ↓reduceIte, reduceCtorEq, Nat.reducePow, Nat.reduceAdd, Nat.reduceLeDiff, Nat.reduceLT, Nat.reduceSub, Nat.reduceEqDiff]
  refine awp_loop (IxO L p c cap m) _ ⟨_, 0, rfl, rfl, rfl, (by first | rfl | simp only [eES, eEX, Nat.reduceBEq, Int.reduceLE, Int.reduceLT, Int.reduceToNat, Int.reduceEq, ↓reduceIte, reduceCtorEq, Nat.reducePow, Nat.reduceAdd, Nat.reduceLeDiff, Nat.reduceLT, Nat.reduceSub, Nat.reduceEqDiff]), (by first | rfl | simp only [eES, eEX, Nat.reduceBEq, Int.reduceLE, Int.reduceLT, Int.reduceToNat, Int.reduceEq, ↓reduceIte, reduceCtorEq, Nat.reducePow, Nat.reduceAdd, Nat.reduceLeDiff, Nat.reduceLT, Nat.reduceSub, Nat.reduceEqDiff]), (by first | rfl | simp only [eES, eEX, Nat.reduceBEq, Int.reduceLE, Int.reduceLT, Int.reduceToNat, Int.reduceEq, ↓reduceIte, reduceCtorEq, Nat.reducePow, Nat.reduceAdd, Nat.reduceLeDiff, Nat.reduceLT, Nat.reduceSub, Nat.reduceEqDiff]), (by first | rfl | simp only [eES, eEX, Nat.reduceBEq, Int.reduceLE, Int.reduceLT, Int.reduceToNat, Int.reduceEq, ↓reduceIte, reduceCtorEq, Nat.reducePow, Nat.reduceAdd, Nat.reduceLeDiff, Nat.reduceLT, Nat.reduceSub, Nat.reduceEqDiff])⟩ ?_
  rintro _ st ⟨f, i, rfl, rfl, hx, h0, h1, h7, h8⟩
  simp only [l42_0, g42_0, g42_1, g42_2, g42_3, g42_4, g42_5, g42_6, g42_7, r42, o42, h0, h1, h7, h8, eES, eEX, Nat.reduceBEq, Int.reduceLE, Int.reduceLT, Int.reduceToNat, Int.reduceEq, ↓reduceIte, reduceCtorEq, Nat.reducePow, Nat.reduceAdd, Nat.reduceLeDiff, Nat.reduceLT, Nat.reduceSub, Nat.reduceEqDiff]
  by_cases hlt : i < L.length
  · obtain ⟨x, hi⟩ : ∃ x, L[i]? = some x := ⟨L[i], List.getElem?_eq_getElem hlt⟩
    have hcl := hc x (List.mem_of_getElem? hi)
    have hg : (L.map oav)[i]? = some (oav x) := by simp [hi]
    have e1 := wi64_s i _ hlt hl
    simp only [oav, PO.cells] at hcl
    simp only [lt_t hlt, nneg, Int.toNat_natCast, aiaddr, hg, oav, PO.cells, h0, h1, h7, h8, eES, eEX, Nat.reduceBEq, Int.reduceLE, Int.reduceLT, Int.reduceToNat, Int.reduceEq, ↓reduceIte, reduceCtorEq, Nat.reducePow, Nat.reduceAdd, Nat.reduceLeDiff, Nat.reduceLT, Nat.reduceSub, Nat.reduceEqDiff]
    refine aops_callV (fa := []) (fb := [cap.sh]) (by first | rfl | exact h1 | simp only [h1, eES, eEX, Nat.reduceBEq, Int.reduceLE, Int.reduceLT, Int.reduceToNat, Int.reduceEq, ↓reduceIte, reduceCtorEq, Nat.reducePow, Nat.reduceAdd, Nat.reduceLeDiff, Nat.reduceLT, Nat.reduceSub, Nat.reduceEqDiff]) hcl (by simp only [List.map_cons, List.map_nil, List.nil_append, List.cons_append, h0, h1, h7, h8, eES, eEX, Nat.reduceBEq, Int.reduceLE, Int.reduceLT, Int.reduceToNat, Int.reduceEq, ↓reduceIte, reduceCtorEq, Nat.reducePow, Nat.reduceAdd, Nat.reduceLeDiff, Nat.reduceLT, Nat.reduceSub, Nat.reduceEqDiff]) ?_
    rw [fxi_drop p hi] at hx
    cases hp : p x
    · rw [hp] at hx
      simp only [Bool.false_eq_true, if_false] at hx
      simp only [h0, h1, h7, h8, e1, eES, eEX, Nat.reduceBEq, Int.reduceLE, Int.reduceLT, Int.reduceToNat, Int.reduceEq, ↓reduceIte, reduceCtorEq, Nat.reducePow, Nat.reduceAdd, Nat.reduceLeDiff, Nat.reduceLT, Nat.reduceSub, Nat.reduceEqDiff]
      exact ⟨L.length - (i + 1), by omega, _, i + 1, rfl, rfl, hx, (by first | rfl | exact h0 | simp only [h0, eES, eEX, Nat.reduceBEq, Int.reduceLE, Int.reduceLT, Int.reduceToNat, Int.reduceEq, ↓reduceIte, reduceCtorEq, Nat.reducePow, Nat.reduceAdd, Nat.reduceLeDiff, Nat.reduceLT, Nat.reduceSub, Nat.reduceEqDiff]), (by first | rfl | exact h1 | simp only [h1, eES, eEX, Nat.reduceBEq, Int.reduceLE, Int.reduceLT, Int.reduceToNat, Int.reduceEq, ↓reduceIte, reduceCtorEq, Nat.reducePow, Nat.reduceAdd, Nat.reduceLeDiff, Nat.reduceLT, Nat.reduceSub, Nat.reduceEqDiff]), (by first | rfl | exact h7 | simp only [h7, eES, eEX, Nat.reduceBEq, Int.reduceLE, Int.reduceLT, Int.reduceToNat, Int.reduceEq, ↓reduceIte, reduceCtorEq, Nat.reducePow, Nat.reduceAdd, Nat.reduceLeDiff, Nat.reduceLT, Nat.reduceSub, Nat.reduceEqDiff]), (by first | rfl | simp only [eES, eEX, Nat.reduceBEq, Int.reduceLE, Int.reduceLT, Int.reduceToNat, Int.reduceEq, ↓reduceIte, reduceCtorEq, Nat.reducePow, Nat.reduceAdd, Nat.reduceLeDiff, Nat.reduceLT, Nat.reduceSub, Nat.reduceEqDiff])⟩
    · rw [hp] at hx
      simp only [if_true] at hx
      simp only [h0, h1, h7, h8, hx, eES, eEX, Nat.reduceBEq, Int.reduceLE, Int.reduceLT, Int.reduceToNat, Int.reduceEq, ↓reduceIte, reduceCtorEq, Nat.reducePow, Nat.reduceAdd, Nat.reduceLeDiff, Nat.reduceLT, Nat.reduceSub, Nat.reduceEqDiff]
  · have hx' : fxi p L 0 = -1 := by rw [hx, List.drop_of_length_le (by omega)]; rfl
    simp only [lt_f hlt, h0, h1, h7, h8, hx', eES, eEX, Nat.reduceBEq, Int.reduceLE, Int.reduceLT, Int.reduceToNat, Int.reduceEq, ↓reduceIte, reduceCtorEq, Nat.reducePow, Nat.reduceAdd, Nat.reduceLeDiff, Nat.reduceLT, Nat.reduceSub, Nat.reduceEqDiff]

end ops

/-- No operation. -/
def PO0 : PO := ⟨0, [], [], 0, 0, 0, 0, 0⟩
/-- What a search returns. -/
def opr (p : PO → Bool) (L : List PO) : AV := .tup [oav ((L.find? p).getD PO0), .bool (L.find? p).isSome]

theorem y28 (g : PG) (hl : g.ops.length ≤ maxLen) (p : PO → Bool) (c : Nat) (cap : AV) (m : Mem) (hc : ∀ fr, ∀ o ∈ g.ops, ACalls Tryz.prog c [oav o, cap.sh.sh] (noObs :: fr :: m) fun y m1 => y = .bool (p o) ∧ m1 = noObs :: fr :: m) :
    ACalls Tryz.prog 28 [.agg [.fn (.func c) [] [cap]], gav g] m fun y m1 => y = opr p g.ops ∧ m1 = m := by
  refine acalls_of_awp (rc := r28) (rs := o28) Tryz.func28 rfl rfl Tryz.ntmps28 k28 q28 (by simp) ?_
  simp only [g28_0, g28_1, g28_2, g28_3, g28_4, r28, o28, gav, PG.cells, eES, eEX, Nat.reduceBEq, Int.reduceLE, Int.reduceLT, Int.reduceToNat, Int.reduceEq, ↓reduceIte, reduceCtorEq, Nat.reducePow, Nat.reduceAdd, Nat.reduceLeDiff, Nat.reduceLT, Nat.reduceSub, Nat.reduceEqDiff]
  refine aops_callF (y42 g.ops hl p c cap.sh _ fun o ho => hc _ o ho) (by simp only [List.map_cons, List.map_nil, oav, eES, eEX, Nat.reduceBEq, Int.reduceLE, Int.reduceLT, Int.reduceToNat, Int.reduceEq, ↓reduceIte, reduceCtorEq, Nat.reducePow, Nat.reduceAdd, Nat.reduceLeDiff, Nat.reduceLT, Nat.reduceSub, Nat.reduceEqDiff]; rfl) ?_
  rcases fxi_spec p g.ops 0 with ⟨h1, h2⟩ | ⟨j, o, h1, h2, h3⟩
  · simp only [h1, opr, h2, Option.getD_none, Option.isSome_none, PO0, oav, PO.cells, splice, List.take_zero, List.nil_append, List.drop_succ_cons, List.drop_zero, List.drop_nil, List.append_nil, List.length_cons, List.length_nil, List.all_cons, List.all_nil, AV.leaf, eES, eEX, Nat.reduceBEq, Int.reduceLE, Int.reduceLT, Int.reduceToNat, Int.reduceEq, ↓reduceIte, reduceCtorEq, Nat.reducePow, Nat.reduceAdd, Nat.reduceLeDiff, Nat.reduceLT, Nat.reduceSub, Nat.reduceEqDiff]
  · have hj : (g.ops.map fun o => AV.agg o.cells)[j]? = some (.agg o.cells) := by simp [h2]
    have d : decide ((j : Int) < 0) = false := decide_eq_false (by omega)
    rw [Nat.zero_add] at h1
    simp only [PO.cells] at hj
    simp only [h1, d, nneg, Int.toNat_natCast, aiaddr, Nat.zero_add, hj, opr, h3, Option.getD_some, Option.isSome_some, oav, PO.cells, splice, List.take_zero, List.nil_append, List.drop_succ_cons, List.drop_zero, List.drop_nil, List.append_nil, List.length_cons, List.length_nil, List.all_cons, List.all_nil, AV.leaf, eES, eEX, Nat.reduceBEq, Int.reduceLE, Int.reduceLT, Int.reduceToNat, Int.reduceEq, ↓reduceIte, reduceCtorEq, Nat.reducePow, Nat.reduceAdd, Nat.reduceLeDiff, Nat.reduceLT, Nat.reduceSub, Nat.reduceEqDiff]

section
variable (o : PO) (fr frO : Nat → Ob)

theorem y27 (n : Int) (hf : frO 3 = .cells [.int .i64 n]) : ACalls Tryz.prog 27 [oav o, .ptr 2 3 0] [noObs, fr, frO] fun y m1 => y = .bool (o.num == n) ∧ m1 = [noObs, fr, frO] := by
  refine acalls_of_awp (rc := r27) (rs := o27) Tryz.func27 rfl rfl Tryz.ntmps27 k27 q27 (by simp) ?_
  simp only [g27_0, g27_1, r27, o27, hf, oav, PO.cells, eES, eEX, Nat.reduceBEq, Int.reduceLE, Int.reduceLT, Int.reduceToNat, Int.reduceEq, ↓reduceIte, reduceCtorEq, Nat.reducePow, Nat.reduceAdd, Nat.reduceLeDiff, Nat.reduceLT, Nat.reduceSub, Nat.reduceEqDiff]

theorem y29 (s : List UInt8) (hf : frO 3 = .cells [.str s]) : ACalls Tryz.prog 29 [oav o, .ptr 2 3 0] [noObs, fr, frO] fun y m1 => y = .bool (o.name == s) ∧ m1 = [noObs, fr, frO] := by
  refine acalls_of_awp (rc := r29) (rs := o29) Tryz.func29 rfl rfl Tryz.ntmps29 k29 q29 (by simp) ?_
  simp only [g29_0, g29_1, r29, o29, hf, oav, PO.cells, astr, eES, eEX, Nat.reduceBEq, Int.reduceLE, Int.reduceLT, Int.reduceToNat, Int.reduceEq, ↓reduceIte, reduceCtorEq, Nat.reducePow, Nat.reduceAdd, Nat.reduceLeDiff, Nat.reduceLT, Nat.reduceSub, Nat.reduceEqDiff]

theorem y30 (s : List UInt8) (hf : frO 3 = .cells [.str s]) : ACalls Tryz.prog 30 [oav o, .ptr 2 3 0] [noObs, fr, frO] fun y m1 => y = .bool (o.alias == s && !(s == [])) ∧ m1 = [noObs, fr, frO] := by
  refine acalls_of_awp (rc := r30) (rs := o30) Tryz.func30 rfl rfl Tryz.ntmps30 k30 q30 (by simp) ?_
  simp only [g30_0, g30_1, r30, o30, hf, oav, PO.cells, astr, eES, eEX, Nat.reduceBEq, Int.reduceLE, Int.reduceLT, Int.reduceToNat, Int.reduceEq, ↓reduceIte, reduceCtorEq, Nat.reducePow, Nat.reduceAdd, Nat.reduceLeDiff, Nat.reduceLT, Nat.reduceSub, Nat.reduceEqDiff]
  cases h : (o.alias == s) <;> simp only [h, hf, Bool.true_and, Bool.false_and, astr, eES, eEX, Nat.reduceBEq, Int.reduceLE, Int.reduceLT, Int.reduceToNat, Int.reduceEq, ↓reduceIte, reduceCtorEq, Nat.reducePow, Nat.reduceAdd, Nat.reduceLeDiff, Nat.reduceLT, Nat.reduceSub, Nat.reduceEqDiff]

end

theorem y15 (g : PG) (hl : g.ops.length ≤ maxLen) (n : Int) : Fn1 Tryz.prog 15 [gav g, .int .i64 n] (opr (fun o => o.num == n) g.ops) := by
  refine fn1_of_awp (rc := r15) (rs := o15) Tryz.func15 rfl rfl Tryz.ntmps15 k15 q15 (by simp) ?_
  simp only [g15_0, g15_1, r15, o15, gav, PG.cells, eES, eEX, Nat.reduceBEq, Int.reduceLE, Int.reduceLT, Int.reduceToNat, Int.reduceEq, ↓reduceIte, reduceCtorEq, Nat.reducePow, Nat.reduceAdd, Nat.reduceLeDiff, Nat.reduceLT, Nat.reduceSub, Nat.reduceEqDiff]
  refine aops_callF (y28 g hl (fun o => o.num == n) 27 (.ptr 0 3 0) _ fun fr o _ => y27 o fr _ n (by first | rfl | simp only [eES, eEX, Nat.reduceBEq, Int.reduceLE, Int.reduceLT, Int.reduceToNat, Int.reduceEq, ↓reduceIte, reduceCtorEq, Nat.reducePow, Nat.reduceAdd, Nat.reduceLeDiff, Nat.reduceLT, Nat.reduceSub, Nat.reduceEqDiff])) (by simp only [List.map_cons, List.map_nil, gav, PG.cells, oav, eES, eEX, Nat.reduceBEq, Int.reduceLE, Int.reduceLT, Int.reduceToNat, Int.reduceEq, ↓reduceIte, reduceCtorEq, Nat.reducePow, Nat.reduceAdd, Nat.reduceLeDiff, Nat.reduceLT, Nat.reduceSub, Nat.reduceEqDiff]) ?_
  simp only [opr, oav, PO.cells, splice, List.take_zero, List.nil_append, List.drop_succ_cons, List.drop_zero, List.drop_nil, List.append_nil, List.length_cons, List.length_nil, List.all_cons, List.all_nil, AV.leaf, eES, eEX, Nat.reduceBEq, Int.reduceLE, Int.reduceLT, Int.reduceToNat, Int.reduceEq, ↓reduceIte, reduceCtorEq, Nat.reducePow, Nat.reduceAdd, Nat.reduceLeDiff, Nat.reduceLT, Nat.reduceSub, Nat.reduceEqDiff]

/-- By its name, or else by its alias. -/
def nmr (s : List UInt8) (L : List PO) : AV := if (L.find? fun o => o.name == s).isSome = true then opr (fun o => o.name == s) L else opr (fun o => o.alias == s && !(s == [])) L

theorem y17 (g : PG) (hl : g.ops.length ≤ maxLen) (s : List UInt8) : Fn1 Tryz.prog 17 [gav g, .str s] (nmr s g.ops) := by
  refine fn1_of_awp (rc := r17) (rs := o17) Tryz.func17 rfl rfl Tryz.ntmps17 k17 q17 (by simp) ?_
  simp only [g17_0, g17_1, g17_2, g17_3, g17_4, r17, o17, gav, PG.cells, eES, eEX, Nat.reduceBEq, Int.reduceLE, Int.reduceLT, Int.reduceToNat, Int.reduceEq, ↓reduceIte, reduceCtorEq, Nat.reducePow, Nat.reduceAdd, Nat.reduceLeDiff, Nat.reduceLT, Nat.reduceSub, Nat.reduceEqDiff]
  refine aops_callF (y28 g hl (fun o => o.name == s) 29 (.ptr 0 3 0) _ fun fr o _ => y29 o fr _ s (by first | rfl | simp only [eES, eEX, Nat.reduceBEq, Int.reduceLE, Int.reduceLT, Int.reduceToNat, Int.reduceEq, ↓reduceIte, reduceCtorEq, Nat.reducePow, Nat.reduceAdd, Nat.reduceLeDiff, Nat.reduceLT, Nat.reduceSub, Nat.reduceEqDiff])) (by simp only [List.map_cons, List.map_nil, gav, PG.cells, oav, eES, eEX, Nat.reduceBEq, Int.reduceLE, Int.reduceLT, Int.reduceToNat, Int.reduceEq, ↓reduceIte, reduceCtorEq, Nat.reducePow, Nat.reduceAdd, Nat.reduceLeDiff, Nat.reduceLT, Nat.reduceSub, Nat.reduceEqDiff]) ?_
  unfold nmr
  cases h : (g.ops.find? fun o => o.name == s).isSome
  · simp only [opr, h, Bool.false_eq_true, if_false, oav, PO.cells, splice, List.take_zero, List.nil_append, List.drop_succ_cons, List.drop_zero, List.drop_nil, List.append_nil, List.length_cons, List.length_nil, List.all_cons, List.all_nil, AV.leaf, eES, eEX, Nat.reduceBEq, Int.reduceLE, Int.reduceLT, Int.reduceToNat, Int.reduceEq, ↓reduceIte, reduceCtorEq, Nat.reducePow, Nat.reduceAdd, Nat.reduceLeDiff, Nat.reduceLT, Nat.reduceSub, Nat.reduceEqDiff]
    refine aops_callF (y28 g hl (fun o => o.alias == s && !(s == [])) 30 (.ptr 0 3 0) _ fun fr o _ => y30 o fr _ s (by first | rfl | simp only [eES, eEX, Nat.reduceBEq, Int.reduceLE, Int.reduceLT, Int.reduceToNat, Int.reduceEq, ↓reduceIte, reduceCtorEq, Nat.reducePow, Nat.reduceAdd, Nat.reduceLeDiff, Nat.reduceLT, Nat.reduceSub, Nat.reduceEqDiff])) (by simp only [List.map_cons, List.map_nil, gav, PG.cells, PO.cells, oav, eES, eEX, Nat.reduceBEq, Int.reduceLE, Int.reduceLT, Int.reduceToNat, Int.reduceEq, ↓reduceIte, reduceCtorEq, Nat.reducePow, Nat.reduceAdd, Nat.reduceLeDiff, Nat.reduceLT, Nat.reduceSub, Nat.reduceEqDiff]) ?_
    simp only [opr, oav, PO.cells, splice, List.take_zero, List.nil_append, List.drop_succ_cons, List.drop_zero, List.drop_nil, List.append_nil, List.length_cons, List.length_nil, List.all_cons, List.all_nil, AV.leaf, eES, eEX, Nat.reduceBEq, Int.reduceLE, Int.reduceLT, Int.reduceToNat, Int.reduceEq, ↓reduceIte, reduceCtorEq, Nat.reducePow, Nat.reduceAdd, Nat.reduceLeDiff, Nat.reduceLT, Nat.reduceSub, Nat.reduceEqDiff]
  · simp only [opr, h, if_true, oav, PO.cells, splice, List.take_zero, List.nil_append, List.drop_succ_cons, List.drop_zero, List.drop_nil, List.append_nil, List.length_cons, List.length_nil, List.all_cons, List.all_nil, AV.leaf, eES, eEX, Nat.reduceBEq, Int.reduceLE, Int.reduceLT, Int.reduceToNat, Int.reduceEq, ↓reduceIte, reduceCtorEq, Nat.reducePow, Nat.reduceAdd, Nat.reduceLeDiff, Nat.reduceLT, Nat.reduceSub, Nat.reduceEqDiff]

end Go.Proofs.YtkjjfbknppahhaaGreatDoor.Va

/- The specification's searches. -/
set_option linter.unusedSimpArgs false
namespace Go.Proofs.YtkjjfbknppahhaaGreatDoor.Va
open Go Am Rc Bt Br

theorem find_drop {α : Type} (p : α → Bool) {l : List α} {i : Nat} {x : α} (hx : l[i]? = some x) : (l.drop i).find? p = if p x = true then some x else (l.drop (i + 1)).find? p := by
  have hlt : i < l.length := (List.getElem?_eq_some_iff.1 hx).1
  rw [List.drop_eq_getElem_cons hlt, show l[i] = x from (List.getElem?_eq_some_iff.1 hx).2, List.find?_cons]
  cases p x <;> rfl

def zc : List AV := [.int .i64 0, .str [], .str [], .int .i64 0, .int .i64 0, .int .i64 0, .int .i64 0, .int .i64 0]

def OpI (g : PG) (n : Int) (k : Nat) (st : St) : Prop :=
  ∃ f fr i, st = ⟨f, [fr], []⟩ ∧ k = g.ops.length - i ∧ g.ops.find? (fun o => o.num == n) = (g.ops.drop i).find? (fun o => o.num == n) ∧ f 1 = .int .i64 n ∧ f 2 = .ptr 0 2 0 ∧ f 4 = .ptr 0 4 0 ∧ f 6 = .int .i64 (i : Nat) ∧ fr 2 = .cells g.cells ∧ fr 4 = .cells zc

theorem y16 (g : PG) (hl : g.ops.length ≤ maxLen) (n : Int) : Fn1 Tryz.prog 16 [gav g, .int .i64 n] (opr (fun o => o.num == n) g.ops) := by
  refine fn1_of_awp (rc := r16) (rs := o16) Tryz.func16 rfl rfl Tryz.ntmps16 k16 q16 (by simp) ?_
  simp only [g16_0, g16_1, g16_2, g16_4, g16_5, g16_3, g16_6, r16, o16, gav, PG.cells, eES, eEX, Nat.reduceBEq, Int.reduceLE, Int.reduceLT, Int.reduceToNat, Int.reduceEq, ↓reduceIte, reduceCtorEq, Nat.reducePow, Nat.reduceAdd, Nat.reduceLeDiff, Nat.reduceLT, Nat.reduceSub, Nat.reduceEqDiff]
  refine awp_loop (OpI g n) _ ⟨_, _, 0, rfl, rfl, rfl, (by first | rfl | simp only [eES, eEX, Nat.reduceBEq, Int.reduceLE, Int.reduceLT, Int.reduceToNat, Int.reduceEq, ↓reduceIte, reduceCtorEq, Nat.reducePow, Nat.reduceAdd, Nat.reduceLeDiff, Nat.reduceLT, Nat.reduceSub, Nat.reduceEqDiff]), (by first | rfl | simp only [eES, eEX, Nat.reduceBEq, Int.reduceLE, Int.reduceLT, Int.reduceToNat, Int.reduceEq, ↓reduceIte, reduceCtorEq, Nat.reducePow, Nat.reduceAdd, Nat.reduceLeDiff, Nat.reduceLT, Nat.reduceSub, Nat.reduceEqDiff]), (by first | rfl | simp only [eES, eEX, Nat.reduceBEq, Int.reduceLE, Int.reduceLT, Int.reduceToNat, Int.reduceEq, ↓reduceIte, reduceCtorEq, Nat.reducePow, Nat.reduceAdd, Nat.reduceLeDiff, Nat.reduceLT, Nat.reduceSub, Nat.reduceEqDiff]), (by first | rfl | simp only [eES, eEX, Nat.reduceBEq, Int.reduceLE, Int.reduceLT, Int.reduceToNat, Int.reduceEq, ↓reduceIte, reduceCtorEq, Nat.reducePow, Nat.reduceAdd, Nat.reduceLeDiff, Nat.reduceLT, Nat.reduceSub, Nat.reduceEqDiff]), (by first | rfl | simp only [eES, eEX, Nat.reduceBEq, Int.reduceLE, Int.reduceLT, Int.reduceToNat, Int.reduceEq, ↓reduceIte, reduceCtorEq, Nat.reducePow, Nat.reduceAdd, Nat.reduceLeDiff, Nat.reduceLT, Nat.reduceSub, Nat.reduceEqDiff]), (by first | rfl | simp only [eES, eEX, Nat.reduceBEq, Int.reduceLE, Int.reduceLT, Int.reduceToNat, Int.reduceEq, ↓reduceIte, reduceCtorEq, Nat.reducePow, Nat.reduceAdd, Nat.reduceLeDiff, Nat.reduceLT, Nat.reduceSub, Nat.reduceEqDiff])⟩ ?_
  rintro _ st ⟨f, fr, i, rfl, rfl, hx, h1, h2, h4, h6, m2, m4⟩
  simp only [PG.cells, zc] at m2 m4
  simp only [l16_0, g16_0, g16_1, g16_2, g16_4, g16_5, g16_3, g16_6, r16, o16, List.length_map, h1, h2, h4, h6, m2, m4, eES, eEX, Nat.reduceBEq, Int.reduceLE, Int.reduceLT, Int.reduceToNat, Int.reduceEq, ↓reduceIte, reduceCtorEq, Nat.reducePow, Nat.reduceAdd, Nat.reduceLeDiff, Nat.reduceLT, Nat.reduceSub, Nat.reduceEqDiff]
  by_cases hlt : i < g.ops.length
  · obtain ⟨x, hi⟩ : ∃ x, g.ops[i]? = some x := ⟨g.ops[i], List.getElem?_eq_getElem hlt⟩
    have hg : (g.ops.map fun o => AV.agg o.cells)[i]? = some (.agg x.cells) := by simp [hi]
    have e1 := wi64_s i _ hlt hl
    rw [find_drop _ hi] at hx
    simp only [PO.cells] at hg m2
    simp only [lt_t hlt, nneg, Int.toNat_natCast, aiaddr, hg, PO.cells, h1, h2, h4, h6, m2, m4, eES, eEX, Nat.reduceBEq, Int.reduceLE, Int.reduceLT, Int.reduceToNat, Int.reduceEq, ↓reduceIte, reduceCtorEq, Nat.reducePow, Nat.reduceAdd, Nat.reduceLeDiff, Nat.reduceLT, Nat.reduceSub, Nat.reduceEqDiff]
    cases hp : (x.num == n)
    · rw [hp] at hx
      simp only [Bool.false_eq_true, if_false] at hx
      simp only [h1, h2, h4, h6, m2, m4, e1, eES, eEX, Nat.reduceBEq, Int.reduceLE, Int.reduceLT, Int.reduceToNat, Int.reduceEq, ↓reduceIte, reduceCtorEq, Nat.reducePow, Nat.reduceAdd, Nat.reduceLeDiff, Nat.reduceLT, Nat.reduceSub, Nat.reduceEqDiff]
      exact ⟨g.ops.length - (i + 1), by omega, _, _, i + 1, rfl, rfl, hx, (by first | rfl | exact h1 | simp only [h1, eES, eEX, Nat.reduceBEq, Int.reduceLE, Int.reduceLT, Int.reduceToNat, Int.reduceEq, ↓reduceIte, reduceCtorEq, Nat.reducePow, Nat.reduceAdd, Nat.reduceLeDiff, Nat.reduceLT, Nat.reduceSub, Nat.reduceEqDiff]), (by first | rfl | exact h2 | simp only [h2, eES, eEX, Nat.reduceBEq, Int.reduceLE, Int.reduceLT, Int.reduceToNat, Int.reduceEq, ↓reduceIte, reduceCtorEq, Nat.reducePow, Nat.reduceAdd, Nat.reduceLeDiff, Nat.reduceLT, Nat.reduceSub, Nat.reduceEqDiff]), (by first | rfl | exact h4 | simp only [h4, eES, eEX, Nat.reduceBEq, Int.reduceLE, Int.reduceLT, Int.reduceToNat, Int.reduceEq, ↓reduceIte, reduceCtorEq, Nat.reducePow, Nat.reduceAdd, Nat.reduceLeDiff, Nat.reduceLT, Nat.reduceSub, Nat.reduceEqDiff]), (by first | rfl | simp only [eES, eEX, Nat.reduceBEq, Int.reduceLE, Int.reduceLT, Int.reduceToNat, Int.reduceEq, ↓reduceIte, reduceCtorEq, Nat.reducePow, Nat.reduceAdd, Nat.reduceLeDiff, Nat.reduceLT, Nat.reduceSub, Nat.reduceEqDiff]), m2, m4⟩
    · rw [hp] at hx
      simp only [if_true] at hx
      simp only [nneg, Int.toNat_natCast, aiaddr, hg, opr, hx, Option.getD_some, Option.isSome_some, oav, PO.cells, h1, h2, h4, h6, m2, m4, splice, List.take_zero, List.nil_append, List.drop_succ_cons, List.drop_zero, List.drop_nil, List.append_nil, List.length_cons, List.length_nil, List.all_cons, List.all_nil, AV.leaf, eES, eEX, Nat.reduceBEq, Int.reduceLE, Int.reduceLT, Int.reduceToNat, Int.reduceEq, ↓reduceIte, reduceCtorEq, Nat.reducePow, Nat.reduceAdd, Nat.reduceLeDiff, Nat.reduceLT, Nat.reduceSub, Nat.reduceEqDiff]
  · have hx' : g.ops.find? (fun o => o.num == n) = none := by rw [hx, List.drop_of_length_le (by omega)]; rfl
    simp only [lt_f hlt, h1, h2, h4, h6, m2, m4, opr, hx', Option.getD_none, Option.isSome_none, PO0, oav, PO.cells, splice, List.take_zero, List.nil_append, List.drop_succ_cons, List.drop_zero, List.drop_nil, List.append_nil, List.length_cons, List.length_nil, List.all_cons, List.all_nil, AV.leaf, eES, eEX, Nat.reduceBEq, Int.reduceLE, Int.reduceLT, Int.reduceToNat, Int.reduceEq, ↓reduceIte, reduceCtorEq, Nat.reducePow, Nat.reduceAdd, Nat.reduceLeDiff, Nat.reduceLT, Nat.reduceSub, Nat.reduceEqDiff]

def NmI (g : PG) (s : List UInt8) (k : Nat) (st : St) : Prop :=
  ∃ f fr i, st = ⟨f, [fr], []⟩ ∧ k = g.ops.length - i ∧ g.ops.find? (fun o => o.name == s) = (g.ops.drop i).find? (fun o => o.name == s) ∧ f 1 = .str s ∧ f 2 = .ptr 0 2 0 ∧ f 4 = .ptr 0 4 0 ∧ f 6 = .int .i64 (i : Nat) ∧ fr 2 = .cells g.cells ∧ fr 4 = .cells zc

def AlI (g : PG) (s : List UInt8) (k : Nat) (st : St) : Prop :=
  ∃ f fr i, st = ⟨f, [fr], []⟩ ∧ k = g.ops.length - i ∧ g.ops.find? (fun o => o.alias == s && !(s == [])) = (g.ops.drop i).find? (fun o => o.alias == s && !(s == [])) ∧ f 1 = .str s ∧ f 2 = .ptr 0 2 0 ∧ f 4 = .ptr 0 4 0 ∧ f 7 = .int .i64 (i : Nat) ∧ fr 2 = .cells g.cells ∧ fr 4 = .cells zc

theorem y18 (g : PG) (hl : g.ops.length ≤ maxLen) (s : List UInt8) : Fn1 Tryz.prog 18 [gav g, .str s] (nmr s g.ops) := by
  refine fn1_of_awp (rc := r18) (rs := o18) Tryz.func18 rfl rfl Tryz.ntmps18 k18 q18 (by simp) ?_
  simp only [g18_0, g18_1, g18_2, g18_4, g18_5, g18_3, g18_6, g18_7, g18_9, g18_10, g18_8, g18_11, r18, o18, gav, PG.cells, eES, eEX, Nat.reduceBEq, Int.reduceLE, Int.reduceLT, Int.reduceToNat, Int.reduceEq, ↓reduceIte, reduceCtorEq, Nat.reducePow, Nat.reduceAdd, Nat.reduceLeDiff, Nat.reduceLT, Nat.reduceSub, Nat.reduceEqDiff]
  refine awp_loop (NmI g s) _ ⟨_, _, 0, rfl, rfl, rfl, (by first | rfl | simp only [eES, eEX, Nat.reduceBEq, Int.reduceLE, Int.reduceLT, Int.reduceToNat, Int.reduceEq, ↓reduceIte, reduceCtorEq, Nat.reducePow, Nat.reduceAdd, Nat.reduceLeDiff, Nat.reduceLT, Nat.reduceSub, Nat.reduceEqDiff]), (by first | rfl | simp only [eES, eEX, Nat.reduceBEq, Int.reduceLE, Int.reduceLT, Int.reduceToNat, Int.reduceEq, ↓reduceIte, reduceCtorEq, Nat.reducePow, Nat.reduceAdd, Nat.reduceLeDiff, Nat.reduceLT, Nat.reduceSub, Nat.reduceEqDiff]), (by first | rfl | simp only [eES, eEX, Nat.reduceBEq, Int.reduceLE, Int.reduceLT, Int.reduceToNat, Int.reduceEq, ↓reduceIte, reduceCtorEq, Nat.reducePow, Nat.reduceAdd, Nat.reduceLeDiff, Nat.reduceLT, Nat.reduceSub, Nat.reduceEqDiff]), (by first | rfl | simp only [eES, eEX, Nat.reduceBEq, Int.reduceLE, Int.reduceLT, Int.reduceToNat, Int.reduceEq, ↓reduceIte, reduceCtorEq, Nat.reducePow, Nat.reduceAdd, Nat.reduceLeDiff, Nat.reduceLT, Nat.reduceSub, Nat.reduceEqDiff]), (by first | rfl | simp only [eES, eEX, Nat.reduceBEq, Int.reduceLE, Int.reduceLT, Int.reduceToNat, Int.reduceEq, ↓reduceIte, reduceCtorEq, Nat.reducePow, Nat.reduceAdd, Nat.reduceLeDiff, Nat.reduceLT, Nat.reduceSub, Nat.reduceEqDiff]), (by first | rfl | simp only [eES, eEX, Nat.reduceBEq, Int.reduceLE, Int.reduceLT, Int.reduceToNat, Int.reduceEq, ↓reduceIte, reduceCtorEq, Nat.reducePow, Nat.reduceAdd, Nat.reduceLeDiff, Nat.reduceLT, Nat.reduceSub, Nat.reduceEqDiff])⟩ ?_
  rintro _ st ⟨f, fr, i, rfl, rfl, hx, h1, h2, h4, h6, m2, m4⟩
  simp only [PG.cells, zc] at m2 m4
  simp only [l18_0, l18_1, g18_0, g18_1, g18_2, g18_4, g18_5, g18_3, g18_6, g18_7, g18_9, g18_10, g18_8, g18_11, r18, o18, List.length_map, h1, h2, h4, h6, m2, m4, eES, eEX, Nat.reduceBEq, Int.reduceLE, Int.reduceLT, Int.reduceToNat, Int.reduceEq, ↓reduceIte, reduceCtorEq, Nat.reducePow, Nat.reduceAdd, Nat.reduceLeDiff, Nat.reduceLT, Nat.reduceSub, Nat.reduceEqDiff]
  by_cases hlt : i < g.ops.length
  · obtain ⟨x, hi⟩ : ∃ x, g.ops[i]? = some x := ⟨g.ops[i], List.getElem?_eq_getElem hlt⟩
    have hg : (g.ops.map fun o => AV.agg o.cells)[i]? = some (.agg x.cells) := by simp [hi]
    have e1 := wi64_s i _ hlt hl
    rw [find_drop _ hi] at hx
    simp only [PO.cells] at hg m2
    simp only [lt_t hlt, nneg, Int.toNat_natCast, aiaddr, hg, PO.cells, h1, h2, h4, h6, m2, m4, astr, eES, eEX, Nat.reduceBEq, Int.reduceLE, Int.reduceLT, Int.reduceToNat, Int.reduceEq, ↓reduceIte, reduceCtorEq, Nat.reducePow, Nat.reduceAdd, Nat.reduceLeDiff, Nat.reduceLT, Nat.reduceSub, Nat.reduceEqDiff]
    cases hp : (x.name == s)
    · rw [hp] at hx
      simp only [Bool.false_eq_true, if_false] at hx
      simp only [h1, h2, h4, h6, m2, m4, e1, eES, eEX, Nat.reduceBEq, Int.reduceLE, Int.reduceLT, Int.reduceToNat, Int.reduceEq, ↓reduceIte, reduceCtorEq, Nat.reducePow, Nat.reduceAdd, Nat.reduceLeDiff, Nat.reduceLT, Nat.reduceSub, Nat.reduceEqDiff]
      exact ⟨g.ops.length - (i + 1), by omega, _, _, i + 1, rfl, rfl, hx, (by first | rfl | exact h1 | simp only [h1, eES, eEX, Nat.reduceBEq, Int.reduceLE, Int.reduceLT, Int.reduceToNat, Int.reduceEq, ↓reduceIte, reduceCtorEq, Nat.reducePow, Nat.reduceAdd, Nat.reduceLeDiff, Nat.reduceLT, Nat.reduceSub, Nat.reduceEqDiff]), (by first | rfl | exact h2 | simp only [h2, eES, eEX, Nat.reduceBEq, Int.reduceLE, Int.reduceLT, Int.reduceToNat, Int.reduceEq, ↓reduceIte, reduceCtorEq, Nat.reducePow, Nat.reduceAdd, Nat.reduceLeDiff, Nat.reduceLT, Nat.reduceSub, Nat.reduceEqDiff]), (by first | rfl | exact h4 | simp only [h4, eES, eEX, Nat.reduceBEq, Int.reduceLE, Int.reduceLT, Int.reduceToNat, Int.reduceEq, ↓reduceIte, reduceCtorEq, Nat.reducePow, Nat.reduceAdd, Nat.reduceLeDiff, Nat.reduceLT, Nat.reduceSub, Nat.reduceEqDiff]), (by first | rfl | simp only [eES, eEX, Nat.reduceBEq, Int.reduceLE, Int.reduceLT, Int.reduceToNat, Int.reduceEq, ↓reduceIte, reduceCtorEq, Nat.reducePow, Nat.reduceAdd, Nat.reduceLeDiff, Nat.reduceLT, Nat.reduceSub, Nat.reduceEqDiff]), m2, m4⟩
    · rw [hp] at hx
      simp only [if_true] at hx
      simp only [nneg, Int.toNat_natCast, aiaddr, hg, nmr, opr, hx, if_true, Option.getD_some, Option.isSome_some, oav, PO.cells, h1, h2, h4, h6, m2, m4, splice, List.take_zero, List.nil_append, List.drop_succ_cons, List.drop_zero, List.drop_nil, List.append_nil, List.length_cons, List.length_nil, List.all_cons, List.all_nil, AV.leaf, eES, eEX, Nat.reduceBEq, Int.reduceLE, Int.reduceLT, Int.reduceToNat, Int.reduceEq, ↓reduceIte, reduceCtorEq, Nat.reducePow, Nat.reduceAdd, Nat.reduceLeDiff, Nat.reduceLT, Nat.reduceSub, Nat.reduceEqDiff]
  · have hx' : g.ops.find? (fun o => o.name == s) = none := by rw [hx, List.drop_of_length_le (by omega)]; rfl
    have hn : nmr s g.ops = opr (fun o => o.alias == s && !(s == [])) g.ops := by unfold nmr; rw [hx']; rfl
    simp only [lt_f hlt, hn, h1, h2, h4, h6, m2, m4, eES, eEX, Nat.reduceBEq, Int.reduceLE, Int.reduceLT, Int.reduceToNat, Int.reduceEq, ↓reduceIte, reduceCtorEq, Nat.reducePow, Nat.reduceAdd, Nat.reduceLeDiff, Nat.reduceLT, Nat.reduceSub, Nat.reduceEqDiff]
    refine awp_loop (AlI g s) _ ⟨_, _, 0, rfl, rfl, rfl, (by first | rfl | exact h1 | simp only [h1, eES, eEX, Nat.reduceBEq, Int.reduceLE, Int.reduceLT, Int.reduceToNat, Int.reduceEq, ↓reduceIte, reduceCtorEq, Nat.reducePow, Nat.reduceAdd, Nat.reduceLeDiff, Nat.reduceLT, Nat.reduceSub, Nat.reduceEqDiff]), (by first | rfl | exact h2 | simp only [h2, eES, eEX, Nat.reduceBEq, Int.reduceLE, Int.reduceLT, Int.reduceToNat, Int.reduceEq, ↓reduceIte, reduceCtorEq, Nat.reducePow, Nat.reduceAdd, Nat.reduceLeDiff, Nat.reduceLT, Nat.reduceSub, Nat.reduceEqDiff]), (by first | rfl | exact h4 | simp only [h4, eES, eEX, Nat.reduceBEq, Int.reduceLE, Int.reduceLT, Int.reduceToNat, Int.reduceEq, ↓reduceIte, reduceCtorEq, Nat.reducePow, Nat.reduceAdd, Nat.reduceLeDiff, Nat.reduceLT, Nat.reduceSub, Nat.reduceEqDiff]), (by first | rfl | simp only [eES, eEX, Nat.reduceBEq, Int.reduceLE, Int.reduceLT, Int.reduceToNat, Int.reduceEq, ↓reduceIte, reduceCtorEq, Nat.reducePow, Nat.reduceAdd, Nat.reduceLeDiff, Nat.reduceLT, Nat.reduceSub, Nat.reduceEqDiff]), m2, m4⟩ ?_
    clear hx hx' hlt h6 h1 h2 h4 m2 m4
    rintro _ st ⟨f, fr, i, rfl, rfl, hx, h1, h2, h4, h7, m2, m4⟩
    simp only [PG.cells, zc] at m2 m4
    simp only [l18_0, l18_1, g18_0, g18_1, g18_2, g18_4, g18_5, g18_3, g18_6, g18_7, g18_9, g18_10, g18_8, g18_11, r18, o18, List.length_map, h1, h2, h4, h7, m2, m4, eES, eEX, Nat.reduceBEq, Int.reduceLE, Int.reduceLT, Int.reduceToNat, Int.reduceEq, ↓reduceIte, reduceCtorEq, Nat.reducePow, Nat.reduceAdd, Nat.reduceLeDiff, Nat.reduceLT, Nat.reduceSub, Nat.reduceEqDiff]
    by_cases hlt : i < g.ops.length
    · obtain ⟨x, hi⟩ : ∃ x, g.ops[i]? = some x := ⟨g.ops[i], List.getElem?_eq_getElem hlt⟩
      have hg : (g.ops.map fun o => AV.agg o.cells)[i]? = some (.agg x.cells) := by simp [hi]
      have e1 := wi64_s i _ hlt hl
      rw [find_drop _ hi] at hx
      simp only [PO.cells] at hg m2
      simp only [lt_t hlt, nneg, Int.toNat_natCast, aiaddr, hg, PO.cells, h1, h2, h4, h7, m2, m4, astr, eES, eEX, Nat.reduceBEq, Int.reduceLE, Int.reduceLT, Int.reduceToNat, Int.reduceEq, ↓reduceIte, reduceCtorEq, Nat.reducePow, Nat.reduceAdd, Nat.reduceLeDiff, Nat.reduceLT, Nat.reduceSub, Nat.reduceEqDiff]
      cases hp : (x.alias == s)
      · rw [hp] at hx
        simp only [Bool.false_and, Bool.false_eq_true, if_false] at hx
        simp only [h1, h2, h4, h7, m2, m4, e1, eES, eEX, Nat.reduceBEq, Int.reduceLE, Int.reduceLT, Int.reduceToNat, Int.reduceEq, ↓reduceIte, reduceCtorEq, Nat.reducePow, Nat.reduceAdd, Nat.reduceLeDiff, Nat.reduceLT, Nat.reduceSub, Nat.reduceEqDiff]
        exact ⟨g.ops.length - (i + 1), by omega, _, _, i + 1, rfl, rfl, hx, (by first | rfl | exact h1 | simp only [h1, eES, eEX, Nat.reduceBEq, Int.reduceLE, Int.reduceLT, Int.reduceToNat, Int.reduceEq, ↓reduceIte, reduceCtorEq, Nat.reducePow, Nat.reduceAdd, Nat.reduceLeDiff, Nat.reduceLT, Nat.reduceSub, Nat.reduceEqDiff]), (by first | rfl | exact h2 | simp only [h2, eES, eEX, Nat.reduceBEq, Int.reduceLE, Int.reduceLT, Int.reduceToNat, Int.reduceEq, ↓reduceIte, reduceCtorEq, Nat.reducePow, Nat.reduceAdd, Nat.reduceLeDiff, Nat.reduceLT, Nat.reduceSub, Nat.reduceEqDiff]), (by first | rfl | exact h4 | simp only [h4, eES, eEX, Nat.reduceBEq, Int.reduceLE, Int.reduceLT, Int.reduceToNat, Int.reduceEq, ↓reduceIte, reduceCtorEq, Nat.reducePow, Nat.reduceAdd, Nat.reduceLeDiff, Nat.reduceLT, Nat.reduceSub, Nat.reduceEqDiff]), (by first | rfl | simp only [eES, eEX, Nat.reduceBEq, Int.reduceLE, Int.reduceLT, Int.reduceToNat, Int.reduceEq, ↓reduceIte, reduceCtorEq, Nat.reducePow, Nat.reduceAdd, Nat.reduceLeDiff, Nat.reduceLT, Nat.reduceSub, Nat.reduceEqDiff]), m2, m4⟩
      · cases hs : (s == [])
        · simp only [hp, hs, Bool.not_false, Bool.and_true, if_true] at hx
          simp only [nneg, Int.toNat_natCast, aiaddr, hg, hs, opr, hx, Bool.not_false, Bool.and_true, Option.getD_some, Option.isSome_some, oav, PO.cells, h1, h2, h4, h7, m2, m4, astr, splice, List.take_zero, List.nil_append, List.drop_succ_cons, List.drop_zero, List.drop_nil, List.append_nil, List.length_cons, List.length_nil, List.all_cons, List.all_nil, AV.leaf, eES, eEX, Nat.reduceBEq, Int.reduceLE, Int.reduceLT, Int.reduceToNat, Int.reduceEq, ↓reduceIte, reduceCtorEq, Nat.reducePow, Nat.reduceAdd, Nat.reduceLeDiff, Nat.reduceLT, Nat.reduceSub, Nat.reduceEqDiff]
        · rw [hp, hs] at hx
          simp only [Bool.not_true, Bool.and_false, Bool.false_eq_true, if_false] at hx
          simp only [hs, Bool.not_true, Bool.and_false, h1, h2, h4, h7, m2, m4, e1, astr, eES, eEX, Nat.reduceBEq, Int.reduceLE, Int.reduceLT, Int.reduceToNat, Int.reduceEq, ↓reduceIte, reduceCtorEq, Nat.reducePow, Nat.reduceAdd, Nat.reduceLeDiff, Nat.reduceLT, Nat.reduceSub, Nat.reduceEqDiff]
          exact ⟨g.ops.length - (i + 1), by omega, _, _, i + 1, rfl, rfl, by simpa only [hs, Bool.not_true, Bool.and_false] using hx, (by first | rfl | exact h1 | simp only [h1, eES, eEX, Nat.reduceBEq, Int.reduceLE, Int.reduceLT, Int.reduceToNat, Int.reduceEq, ↓reduceIte, reduceCtorEq, Nat.reducePow, Nat.reduceAdd, Nat.reduceLeDiff, Nat.reduceLT, Nat.reduceSub, Nat.reduceEqDiff]), (by first | rfl | exact h2 | simp only [h2, eES, eEX, Nat.reduceBEq, Int.reduceLE, Int.reduceLT, Int.reduceToNat, Int.reduceEq, ↓reduceIte, reduceCtorEq, Nat.reducePow, Nat.reduceAdd, Nat.reduceLeDiff, Nat.reduceLT, Nat.reduceSub, Nat.reduceEqDiff]), (by first | rfl | exact h4 | simp only [h4, eES, eEX, Nat.reduceBEq, Int.reduceLE, Int.reduceLT, Int.reduceToNat, Int.reduceEq, ↓reduceIte, reduceCtorEq, Nat.reducePow, Nat.reduceAdd, Nat.reduceLeDiff, Nat.reduceLT, Nat.reduceSub, Nat.reduceEqDiff]), (by first | rfl | simp only [eES, eEX, Nat.reduceBEq, Int.reduceLE, Int.reduceLT, Int.reduceToNat, Int.reduceEq, ↓reduceIte, reduceCtorEq, Nat.reducePow, Nat.reduceAdd, Nat.reduceLeDiff, Nat.reduceLT, Nat.reduceSub, Nat.reduceEqDiff]), m2, m4⟩
    · have hx' : g.ops.find? (fun o => o.alias == s && !(s == [])) = none := by rw [hx, List.drop_of_length_le (by omega)]; rfl
      simp only [lt_f hlt, h1, h2, h4, h7, m2, m4, opr, hx', Option.getD_none, Option.isSome_none, PO0, oav, PO.cells, splice, List.take_zero, List.nil_append, List.drop_succ_cons, List.drop_zero, List.drop_nil, List.append_nil, List.length_cons, List.length_nil, List.all_cons, List.all_nil, AV.leaf, eES, eEX, Nat.reduceBEq, Int.reduceLE, Int.reduceLT, Int.reduceToNat, Int.reduceEq, ↓reduceIte, reduceCtorEq, Nat.reducePow, Nat.reduceAdd, Nat.reduceLeDiff, Nat.reduceLT, Nat.reduceSub, Nat.reduceEqDiff]

end Go.Proofs.YtkjjfbknppahhaaGreatDoor.Va

/- Programs by name; what an enum accepts. -/
set_option linter.unusedSimpArgs false
namespace Go.Proofs.YtkjjfbknppahhaaGreatDoor.Va
open Go Am Rc Bt Br

section progs
variable (L : List PG) (hl : L.length ≤ maxLen) (p : PG → Bool) (c : Nat) (cap : AV) (m : Mem)

def IxG (k : Nat) (st : St) : Prop :=
  ∃ f i, st = ⟨f, noObs :: m, []⟩ ∧ k = L.length - i ∧ fxi p L 0 = fxi p (L.drop i) i ∧ f 0 = .list (L.map gav) ∧ f 1 = .fn (.func c) [] [cap.sh] ∧ f 7 = .int .i64 (L.length : Nat) ∧ f 8 = .int .i64 (i : Nat)

include hl in
theorem y25 (hc : ∀ o ∈ L, ACalls Tryz.prog c [gav o, cap.sh] (noObs :: m) fun y m1 => y = .bool (p o) ∧ m1 = noObs :: m) :
    ACalls Tryz.prog 25 [.list (L.map gav), .fn (.func c) [] [cap]] m fun y m1 => y = .int .i64 (fxi p L 0) ∧ m1 = m := by
  refine acalls_of_awp (rc := r25) (rs := o25) Tryz.func25 rfl rfl Tryz.ntmps25 k25 q25 (by simp) ?_
  simp only [g25_0, g25_1, g25_2, g25_3, g25_4, g25_5, g25_6, g25_7, r25, o25, List.length_map, eES, eEX, Nat.reduceBEq, Int.reduceLE, Int.reduceLT, Int.reduceToNat, Int.reduceEq, ↓reduceIte, reduceCtorEq, Nat.reducePow, Nat.reduceAdd, Nat.reduceLeDiff, Nat.reduceLT, Nat.reduceSub, Nat.reduceEqDiff]
  refine awp_loop (IxG L p c cap m) _ ⟨_, 0, rfl, rfl, rfl, (by first | rfl | simp only [eES, eEX, Nat.reduceBEq, Int.reduceLE, Int.reduceLT, Int.reduceToNat, Int.reduceEq, ↓reduceIte, reduceCtorEq, Nat.reducePow, Nat.reduceAdd, Nat.reduceLeDiff, Nat.reduceLT, Nat.reduceSub, Nat.reduceEqDiff]), (by first | rfl | simp only [eES, eEX, Nat.reduceBEq, Int.reduceLE, Int.reduceLT, Int.reduceToNat, Int.reduceEq, ↓reduceIte, reduceCtorEq, Nat.reducePow, Nat.reduceAdd, Nat.reduceLeDiff, Nat.reduceLT, Nat.reduceSub, Nat.reduceEqDiff]), (by first | rfl | simp only [eES, eEX, Nat.reduceBEq, Int.reduceLE, Int.reduceLT, Int.reduceToNat, Int.reduceEq, ↓reduceIte, reduceCtorEq, Nat.reducePow, Nat.reduceAdd, Nat.reduceLeDiff, Nat.reduceLT, Nat.reduceSub, Nat.reduceEqDiff]), (by first | rfl | simp only [eES, eEX, Nat.reduceBEq, Int.reduceLE, Int.reduceLT, Int.reduceToNat, Int.reduceEq, ↓reduceIte, reduceCtorEq, Nat.reducePow, Nat.reduceAdd, Nat.reduceLeDiff, Nat.reduceLT, Nat.reduceSub, Nat.reduceEqDiff])⟩ ?_
  rintro _ st ⟨f, i, rfl, rfl, hx, h0, h1, h7, h8⟩
  simp only [l25_0, g25_0, g25_1, g25_2, g25_3, g25_4, g25_5, g25_6, g25_7, r25, o25, h0, h1, h7, h8, eES, eEX, Nat.reduceBEq, Int.reduceLE, Int.reduceLT, Int.reduceToNat, Int.reduceEq, ↓reduceIte, reduceCtorEq, Nat.reducePow, Nat.reduceAdd, Nat.reduceLeDiff, Nat.reduceLT, Nat.reduceSub, Nat.reduceEqDiff]
  by_cases hlt : i < L.length
  · obtain ⟨x, hi⟩ : ∃ x, L[i]? = some x := ⟨L[i], List.getElem?_eq_getElem hlt⟩
    have hcl := hc x (List.mem_of_getElem? hi)
    have hg : (L.map gav)[i]? = some (gav x) := by simp [hi]
    have e1 := wi64_s i _ hlt hl
    simp only [gav, PG.cells] at hcl
    simp only [lt_t hlt, nneg, Int.toNat_natCast, aiaddr, hg, gav, PG.cells, h0, h1, h7, h8, eES, eEX, Nat.reduceBEq, Int.reduceLE, Int.reduceLT, Int.reduceToNat, Int.reduceEq, ↓reduceIte, reduceCtorEq, Nat.reducePow, Nat.reduceAdd, Nat.reduceLeDiff, Nat.reduceLT, Nat.reduceSub, Nat.reduceEqDiff]
    refine aops_callV (fa := []) (fb := [cap.sh]) (by first | rfl | exact h1 | simp only [h1, eES, eEX, Nat.reduceBEq, Int.reduceLE, Int.reduceLT, Int.reduceToNat, Int.reduceEq, ↓reduceIte, reduceCtorEq, Nat.reducePow, Nat.reduceAdd, Nat.reduceLeDiff, Nat.reduceLT, Nat.reduceSub, Nat.reduceEqDiff]) hcl (by simp only [List.map_cons, List.map_nil, List.nil_append, List.cons_append, h0, h1, h7, h8, eES, eEX, Nat.reduceBEq, Int.reduceLE, Int.reduceLT, Int.reduceToNat, Int.reduceEq, ↓reduceIte, reduceCtorEq, Nat.reducePow, Nat.reduceAdd, Nat.reduceLeDiff, Nat.reduceLT, Nat.reduceSub, Nat.reduceEqDiff]) ?_
    rw [fxi_drop p hi] at hx
    cases hp : p x
    · rw [hp] at hx
      simp only [Bool.false_eq_true, if_false] at hx
      simp only [h0, h1, h7, h8, e1, eES, eEX, Nat.reduceBEq, Int.reduceLE, Int.reduceLT, Int.reduceToNat, Int.reduceEq, ↓reduceIte, reduceCtorEq, Nat.reducePow, Nat.reduceAdd, Nat.reduceLeDiff, Nat.reduceLT, Nat.reduceSub, Nat.reduceEqDiff]
      exact ⟨L.length - (i + 1), by omega, _, i + 1, rfl, rfl, hx, (by first | rfl | exact h0 | simp only [h0, eES, eEX, Nat.reduceBEq, Int.reduceLE, Int.reduceLT, Int.reduceToNat, Int.reduceEq, ↓reduceIte, reduceCtorEq, Nat.reducePow, Nat.reduceAdd, Nat.reduceLeDiff, Nat.reduceLT, Nat.reduceSub, Nat.reduceEqDiff]), (by first | rfl | exact h1 | simp only [h1, eES, eEX, Nat.reduceBEq, Int.reduceLE, Int.reduceLT, Int.reduceToNat, Int.reduceEq, ↓reduceIte, reduceCtorEq, Nat.reducePow, Nat.reduceAdd, Nat.reduceLeDiff, Nat.reduceLT, Nat.reduceSub, Nat.reduceEqDiff]), (by first | rfl | exact h7 | simp only [h7, eES, eEX, Nat.reduceBEq, Int.reduceLE, Int.reduceLT, Int.reduceToNat, Int.reduceEq, ↓reduceIte, reduceCtorEq, Nat.reducePow, Nat.reduceAdd, Nat.reduceLeDiff, Nat.reduceLT, Nat.reduceSub, Nat.reduceEqDiff]), (by first | rfl | simp only [eES, eEX, Nat.reduceBEq, Int.reduceLE, Int.reduceLT, Int.reduceToNat, Int.reduceEq, ↓reduceIte, reduceCtorEq, Nat.reducePow, Nat.reduceAdd, Nat.reduceLeDiff, Nat.reduceLT, Nat.reduceSub, Nat.reduceEqDiff])⟩
    · rw [hp] at hx
      simp only [if_true] at hx
      simp only [h0, h1, h7, h8, hx, eES, eEX, Nat.reduceBEq, Int.reduceLE, Int.reduceLT, Int.reduceToNat, Int.reduceEq, ↓reduceIte, reduceCtorEq, Nat.reducePow, Nat.reduceAdd, Nat.reduceLeDiff, Nat.reduceLT, Nat.reduceSub, Nat.reduceEqDiff]
  · have hx' : fxi p L 0 = -1 := by rw [hx, List.drop_of_length_le (by omega)]; rfl
    simp only [lt_f hlt, h0, h1, h7, h8, hx', eES, eEX, Nat.reduceBEq, Int.reduceLE, Int.reduceLT, Int.reduceToNat, Int.reduceEq, ↓reduceIte, reduceCtorEq, Nat.reducePow, Nat.reduceAdd, Nat.reduceLeDiff, Nat.reduceLT, Nat.reduceSub, Nat.reduceEqDiff]

end progs

section items
variable (L : List PI) (hl : L.length ≤ maxLen) (p : PI → Bool) (c : Nat) (cap : AV) (m : Mem)

def IxI (k : Nat) (st : St) : Prop :=
  ∃ f i, st = ⟨f, noObs :: m, []⟩ ∧ k = L.length - i ∧ fxi p L 0 = fxi p (L.drop i) i ∧ f 0 = .list (L.map iav) ∧ f 1 = .fn (.func c) [] [cap.sh] ∧ f 7 = .int .i64 (L.length : Nat) ∧ f 8 = .int .i64 (i : Nat)

include hl in
theorem y43 (hc : ∀ o ∈ L, ACalls Tryz.prog c [iav o, cap.sh] (noObs :: m) fun y m1 => y = .bool (p o) ∧ m1 = noObs :: m) :
    ACalls Tryz.prog 43 [.list (L.map iav), .fn (.func c) [] [cap]] m fun y m1 => y = .int .i64 (fxi p L 0) ∧ m1 = m := by
  refine acalls_of_awp (rc := r43) (rs := o43) Tryz.func43 rfl rfl Tryz.ntmps43 k43 q43 (by simp) ?_
  simp only [g43_0, g43_1, g43_2, g43_3, g43_4, g43_5, g43_6, g43_7, r43, o43, List.length_map, eES, eEX, Nat.reduceBEq, Int.reduceLE, Int.reduceLT, Int.reduceToNat, Int.reduceEq, ↓reduceIte, reduceCtorEq, Nat.reducePow, Nat.reduceAdd, Nat.reduceLeDiff, Nat.reduceLT, Nat.reduceSub, Nat.reduceEqDiff]
  refine awp_loop (IxI L p c cap m) _ ⟨_, 0, rfl, rfl, rfl, (by first | rfl | simp only [eES, eEX, Nat.reduceBEq, Int.reduceLE, Int.reduceLT, Int.reduceToNat, Int.reduceEq, ↓reduceIte, reduceCtorEq, Nat.reducePow, Nat.reduceAdd, Nat.reduceLeDiff, Nat.reduceLT, Nat.reduceSub, Nat.reduceEqDiff]), (by first | rfl | simp only [eES, eEX, Nat.reduceBEq, Int.reduceLE, Int.reduceLT, Int.reduceToNat, Int.reduceEq, ↓reduceIte, reduceCtorEq, Nat.reducePow, Nat.reduceAdd, Nat.reduceLeDiff, Nat.reduceLT, Nat.reduceSub, Nat.reduceEqDiff]), (by first | rfl | simp only [eES, eEX, Nat.reduceBEq, Int.reduceLE, Int.reduceLT, Int.reduceToNat, Int.reduceEq, ↓reduceIte, reduceCtorEq, Nat.reducePow, Nat.reduceAdd, Nat.reduceLeDiff, Nat.reduceLT, Nat.reduceSub, Nat.reduceEqDiff]), (by first | rfl | simp only [eES, eEX, Nat.reduceBEq, Int.reduceLE, Int.reduceLT, Int.reduceToNat, Int.reduceEq, ↓reduceIte, reduceCtorEq, Nat.reducePow, Nat.reduceAdd, Nat.reduceLeDiff, Nat.reduceLT, Nat.reduceSub, Nat.reduceEqDiff])⟩ ?_
  rintro _ st ⟨f, i, rfl, rfl, hx, h0, h1, h7, h8⟩
  simp only [l43_0, g43_0, g43_1, g43_2, g43_3, g43_4, g43_5, g43_6, g43_7, r43, o43, h0, h1, h7, h8, eES, eEX, Nat.reduceBEq, Int.reduceLE, Int.reduceLT, Int.reduceToNat, Int.reduceEq, ↓reduceIte, reduceCtorEq, Nat.reducePow, Nat.reduceAdd, Nat.reduceLeDiff, Nat.reduceLT, Nat.reduceSub, Nat.reduceEqDiff]
  by_cases hlt : i < L.length
  · obtain ⟨x, hi⟩ : ∃ x, L[i]? = some x := ⟨L[i], List.getElem?_eq_getElem hlt⟩
    have hcl := hc x (List.mem_of_getElem? hi)
    have hg : (L.map iav)[i]? = some (iav x) := by simp [hi]
    have e1 := wi64_s i _ hlt hl
    simp only [iav, PI.cells] at hcl
    simp only [lt_t hlt, nneg, Int.toNat_natCast, aiaddr, hg, iav, PI.cells, h0, h1, h7, h8, eES, eEX, Nat.reduceBEq, Int.reduceLE, Int.reduceLT, Int.reduceToNat, Int.reduceEq, ↓reduceIte, reduceCtorEq, Nat.reducePow, Nat.reduceAdd, Nat.reduceLeDiff, Nat.reduceLT, Nat.reduceSub, Nat.reduceEqDiff]
    refine aops_callV (fa := []) (fb := [cap.sh]) (by first | rfl | exact h1 | simp only [h1, eES, eEX, Nat.reduceBEq, Int.reduceLE, Int.reduceLT, Int.reduceToNat, Int.reduceEq, ↓reduceIte, reduceCtorEq, Nat.reducePow, Nat.reduceAdd, Nat.reduceLeDiff, Nat.reduceLT, Nat.reduceSub, Nat.reduceEqDiff]) hcl (by simp only [List.map_cons, List.map_nil, List.nil_append, List.cons_append, h0, h1, h7, h8, eES, eEX, Nat.reduceBEq, Int.reduceLE, Int.reduceLT, Int.reduceToNat, Int.reduceEq, ↓reduceIte, reduceCtorEq, Nat.reducePow, Nat.reduceAdd, Nat.reduceLeDiff, Nat.reduceLT, Nat.reduceSub, Nat.reduceEqDiff]) ?_
    rw [fxi_drop p hi] at hx
    cases hp : p x
    · rw [hp] at hx
      simp only [Bool.false_eq_true, if_false] at hx
      simp only [h0, h1, h7, h8, e1, eES, eEX, Nat.reduceBEq, Int.reduceLE, Int.reduceLT, Int.reduceToNat, Int.reduceEq, ↓reduceIte, reduceCtorEq, Nat.reducePow, Nat.reduceAdd, Nat.reduceLeDiff, Nat.reduceLT, Nat.reduceSub, Nat.reduceEqDiff]
      exact ⟨L.length - (i + 1), by omega, _, i + 1, rfl, rfl, hx, (by first | rfl | exact h0 | simp only [h0, eES, eEX, Nat.reduceBEq, Int.reduceLE, Int.reduceLT, Int.reduceToNat, Int.reduceEq, ↓reduceIte, reduceCtorEq, Nat.reducePow, Nat.reduceAdd, Nat.reduceLeDiff, Nat.reduceLT, Nat.reduceSub, Nat.reduceEqDiff]), (by first | rfl | exact h1 | simp only [h1, eES, eEX, Nat.reduceBEq, Int.reduceLE, Int.reduceLT, Int.reduceToNat, Int.reduceEq, ↓reduceIte, reduceCtorEq, Nat.reducePow, Nat.reduceAdd, Nat.reduceLeDiff, Nat.reduceLT, Nat.reduceSub, Nat.reduceEqDiff]), (by first | rfl | exact h7 | simp only [h7, eES, eEX, Nat.reduceBEq, Int.reduceLE, Int.reduceLT, Int.reduceToNat, Int.reduceEq, ↓reduceIte, reduceCtorEq, Nat.reducePow, Nat.reduceAdd, Nat.reduceLeDiff, Nat.reduceLT, Nat.reduceSub, Nat.reduceEqDiff]), (by first | rfl | simp only [eES, eEX, Nat.reduceBEq, Int.reduceLE, Int.reduceLT, Int.reduceToNat, Int.reduceEq, ↓reduceIte, reduceCtorEq, Nat.reducePow, Nat.reduceAdd, Nat.reduceLeDiff, Nat.reduceLT, Nat.reduceSub, Nat.reduceEqDiff])⟩
    · rw [hp] at hx
      simp only [if_true] at hx
      simp only [h0, h1, h7, h8, hx, eES, eEX, Nat.reduceBEq, Int.reduceLE, Int.reduceLT, Int.reduceToNat, Int.reduceEq, ↓reduceIte, reduceCtorEq, Nat.reducePow, Nat.reduceAdd, Nat.reduceLeDiff, Nat.reduceLT, Nat.reduceSub, Nat.reduceEqDiff]
  · have hx' : fxi p L 0 = -1 := by rw [hx, List.drop_of_length_le (by omega)]; rfl
    simp only [lt_f hlt, h0, h1, h7, h8, hx', eES, eEX, Nat.reduceBEq, Int.reduceLE, Int.reduceLT, Int.reduceToNat, Int.reduceEq, ↓reduceIte, reduceCtorEq, Nat.reducePow, Nat.reduceAdd, Nat.reduceLeDiff, Nat.reduceLT, Nat.reduceSub, Nat.reduceEqDiff]

theorem fxi_any {α : Type} (p : α → Bool) (l : List α) : decide (fxi p l 0 ≥ 0) = l.any p := by
  rcases fxi_spec p l 0 with ⟨h1, h2⟩ | ⟨k, o, h1, _, h3⟩
  · rw [h1]
    have : l.any p = false := by
      rw [List.any_eq_false]
      intro x hx
      exact fun h => by have := List.find?_eq_none.1 h2 x hx; exact this h
    rw [this]; rfl
  · rw [h1]
    have : l.any p = true := List.any_eq_true.2 ⟨o, List.mem_of_find?_eq_some h3, List.find?_some h3⟩
    rw [this]
    exact decide_eq_true (by omega)

include hl in
theorem y31 (hc : ∀ o ∈ L, ACalls Tryz.prog c [iav o, cap.sh.sh] (noObs :: noObs :: m) fun y m1 => y = .bool (p o) ∧ m1 = noObs :: noObs :: m) :
    ACalls Tryz.prog 31 [.list (L.map iav), .fn (.func c) [] [cap]] m fun y m1 => y = .bool (L.any p) ∧ m1 = m := by
  refine acalls_of_awp (rc := r31) (rs := o31) Tryz.func31 rfl rfl Tryz.ntmps31 k31 q31 (by simp) ?_
  simp only [g31_0, g31_1, r31, o31, eES, eEX, Nat.reduceBEq, Int.reduceLE, Int.reduceLT, Int.reduceToNat, Int.reduceEq, ↓reduceIte, reduceCtorEq, Nat.reducePow, Nat.reduceAdd, Nat.reduceLeDiff, Nat.reduceLT, Nat.reduceSub, Nat.reduceEqDiff]
  refine aops_callF (y43 L hl p c cap.sh _ hc) (by simp only [List.map_cons, List.map_nil, eES, eEX, Nat.reduceBEq, Int.reduceLE, Int.reduceLT, Int.reduceToNat, Int.reduceEq, ↓reduceIte, reduceCtorEq, Nat.reducePow, Nat.reduceAdd, Nat.reduceLeDiff, Nat.reduceLT, Nat.reduceSub, Nat.reduceEqDiff]) ?_
  simp only [fxi_any, eES, eEX, Nat.reduceBEq, Int.reduceLE, Int.reduceLT, Int.reduceToNat, Int.reduceEq, ↓reduceIte, reduceCtorEq, Nat.reducePow, Nat.reduceAdd, Nat.reduceLeDiff, Nat.reduceLT, Nat.reduceSub, Nat.reduceEqDiff]

end items

/-- A number as it is compared. -/
def pmi (b : Nat) (x : PI) : Bool := IntKind.u64.wrap x.num == (b : Int)
def pri (b : Nat) (x : PI) : Bool := x.num == IntKind.i64.wrap (b : Int)

theorem pmi_pri {b : Nat} {x : PI} (hb : b ≤ 2147483647) (hx : (Lit.int .i64 x.num).wf = true) : pri b x = pmi b x := by
  have h1 := i64_lo hx
  have h2 := i64_hi hx
  unfold pri pmi
  rw [Bool.eq_iff_iff, beq_iff_eq, beq_iff_eq, wi64, wu64]
  omega

theorem y26 (g : PG) (frO : Nat → Ob) (s : List UInt8) (hf : frO 3 = .cells [.str s]) : ACalls Tryz.prog 26 [gav g, .ptr 1 3 0] [noObs, frO] fun y m1 => y = .bool (g.name == s) ∧ m1 = [noObs, frO] := by
  refine acalls_of_awp (rc := r26) (rs := o26) Tryz.func26 rfl rfl Tryz.ntmps26 k26 q26 (by simp) ?_
  simp only [g26_0, g26_1, r26, o26, hf, gav, PG.cells, astr, eES, eEX, Nat.reduceBEq, Int.reduceLE, Int.reduceLT, Int.reduceToNat, Int.reduceEq, ↓reduceIte, reduceCtorEq, Nat.reducePow, Nat.reduceAdd, Nat.reduceLeDiff, Nat.reduceLT, Nat.reduceSub, Nat.reduceEqDiff]

theorem y32 (x : PI) (b : Nat) (frO : Nat → Ob) (hf : frO 5 = .cells [.int .u64 (b : Nat)]) : ACalls Tryz.prog 32 [iav x, .ptr 2 5 0] [noObs, noObs, frO] fun y m1 => y = .bool (pmi b x) ∧ m1 = [noObs, noObs, frO] := by
  refine acalls_of_awp (rc := r32) (rs := o32) Tryz.func32 rfl rfl Tryz.ntmps32 k32 q32 (by simp) ?_
  simp only [g32_0, g32_1, r32, o32, hf, iav, PI.cells, pmi, eES, eEX, Nat.reduceBEq, Int.reduceLE, Int.reduceLT, Int.reduceToNat, Int.reduceEq, ↓reduceIte, reduceCtorEq, Nat.reducePow, Nat.reduceAdd, Nat.reduceLeDiff, Nat.reduceLT, Nat.reduceSub, Nat.reduceEqDiff]

/-- What a search for a program returns. -/
def pfr (s : List UInt8) (L : List PG) : AV := .tup [.int .i64 (if fxi (fun g : PG => g.name == s) L 0 < 0 then 0 else fxi (fun g : PG => g.name == s) L 0), .bool (decide (fxi (fun g : PG => g.name == s) L 0 ≥ 0))]

theorem y13 (P : PL) (hl : P.progs.length ≤ maxLen) (s : List UInt8) : Fn1 Tryz.prog 13 [P.av, .str s] (pfr s P.progs) := by
  refine fn1_of_awp (rc := r13) (rs := o13) Tryz.func13 rfl rfl Tryz.ntmps13 k13 q13 (by simp) ?_
  simp only [g13_0, g13_1, g13_2, r13, o13, PL.av, eES, eEX, Nat.reduceBEq, Int.reduceLE, Int.reduceLT, Int.reduceToNat, Int.reduceEq, ↓reduceIte, reduceCtorEq, Nat.reducePow, Nat.reduceAdd, Nat.reduceLeDiff, Nat.reduceLT, Nat.reduceSub, Nat.reduceEqDiff]
  refine aops_callF (y25 P.progs hl (fun g => g.name == s) 26 (.ptr 0 3 0) _ fun g _ => y26 g _ s (by first | rfl | simp only [eES, eEX, Nat.reduceBEq, Int.reduceLE, Int.reduceLT, Int.reduceToNat, Int.reduceEq, ↓reduceIte, reduceCtorEq, Nat.reducePow, Nat.reduceAdd, Nat.reduceLeDiff, Nat.reduceLT, Nat.reduceSub, Nat.reduceEqDiff])) (by simp only [List.map_cons, List.map_nil, gav, eES, eEX, Nat.reduceBEq, Int.reduceLE, Int.reduceLT, Int.reduceToNat, Int.reduceEq, ↓reduceIte, reduceCtorEq, Nat.reducePow, Nat.reduceAdd, Nat.reduceLeDiff, Nat.reduceLT, Nat.reduceSub, Nat.reduceEqDiff] <;> rfl) ?_
  unfold pfr
  by_cases h : fxi (fun g : PG => g.name == s) P.progs 0 < 0
  · have d : decide (fxi (fun g : PG => g.name == s) P.progs 0 < 0) = true := decide_eq_true h
    simp only [d, if_pos h, eES, eEX, Nat.reduceBEq, Int.reduceLE, Int.reduceLT, Int.reduceToNat, Int.reduceEq, ↓reduceIte, reduceCtorEq, Nat.reducePow, Nat.reduceAdd, Nat.reduceLeDiff, Nat.reduceLT, Nat.reduceSub, Nat.reduceEqDiff]
  · have d : decide (fxi (fun g : PG => g.name == s) P.progs 0 < 0) = false := decide_eq_false h
    simp only [d, if_neg h, eES, eEX, Nat.reduceBEq, Int.reduceLE, Int.reduceLT, Int.reduceToNat, Int.reduceEq, ↓reduceIte, reduceCtorEq, Nat.reducePow, Nat.reduceAdd, Nat.reduceLeDiff, Nat.reduceLT, Nat.reduceSub, Nat.reduceEqDiff]

def FdI (P : PL) (s : List UInt8) (k : Nat) (st : St) : Prop :=
  ∃ f fr i, st = ⟨f, [fr], []⟩ ∧ k = P.progs.length - i ∧ fxi (fun g : PG => g.name == s) P.progs 0 = fxi (fun g : PG => g.name == s) (P.progs.drop i) i ∧ f 1 = .str s ∧ f 2 = .ptr 0 2 0 ∧ f 6 = .int .i64 (i : Nat) ∧ fr 2 = .cells [.list (P.progs.map gav), .list (P.enums.map eav)]

theorem y14 (P : PL) (hl : P.progs.length ≤ maxLen) (s : List UInt8) : Fn1 Tryz.prog 14 [P.av, .str s] (pfr s P.progs) := by
  have e0 : P.av = .agg [.list (P.progs.map gav), .list (P.enums.map eav)] := rfl
  refine fn1_of_awp (rc := r14) (rs := o14) Tryz.func14 rfl rfl Tryz.ntmps14 k14 q14 (by simp) ?_
  simp only [g14_0, g14_1, g14_2, g14_4, g14_5, g14_3, g14_6, r14, o14, e0, eES, eEX, Nat.reduceBEq, Int.reduceLE, Int.reduceLT, Int.reduceToNat, Int.reduceEq, ↓reduceIte, reduceCtorEq, Nat.reducePow, Nat.reduceAdd, Nat.reduceLeDiff, Nat.reduceLT, Nat.reduceSub, Nat.reduceEqDiff]
  refine awp_loop (FdI P s) _ ⟨_, _, 0, rfl, rfl, rfl, (by first | rfl | simp only [eES, eEX, Nat.reduceBEq, Int.reduceLE, Int.reduceLT, Int.reduceToNat, Int.reduceEq, ↓reduceIte, reduceCtorEq, Nat.reducePow, Nat.reduceAdd, Nat.reduceLeDiff, Nat.reduceLT, Nat.reduceSub, Nat.reduceEqDiff]), (by first | rfl | simp only [eES, eEX, Nat.reduceBEq, Int.reduceLE, Int.reduceLT, Int.reduceToNat, Int.reduceEq, ↓reduceIte, reduceCtorEq, Nat.reducePow, Nat.reduceAdd, Nat.reduceLeDiff, Nat.reduceLT, Nat.reduceSub, Nat.reduceEqDiff]), (by first | rfl | simp only [eES, eEX, Nat.reduceBEq, Int.reduceLE, Int.reduceLT, Int.reduceToNat, Int.reduceEq, ↓reduceIte, reduceCtorEq, Nat.reducePow, Nat.reduceAdd, Nat.reduceLeDiff, Nat.reduceLT, Nat.reduceSub, Nat.reduceEqDiff]), (by first | rfl | simp only [eES, eEX, Nat.reduceBEq, Int.reduceLE, Int.reduceLT, Int.reduceToNat, Int.reduceEq, ↓reduceIte, reduceCtorEq, Nat.reducePow, Nat.reduceAdd, Nat.reduceLeDiff, Nat.reduceLT, Nat.reduceSub, Nat.reduceEqDiff])⟩ ?_
  rintro _ st ⟨f, fr, i, rfl, rfl, hx, h1, h2, h6, m2⟩
  simp only [l14_0, g14_0, g14_1, g14_2, g14_4, g14_5, g14_3, g14_6, r14, o14, List.length_map, h1, h2, h6, m2, eES, eEX, Nat.reduceBEq, Int.reduceLE, Int.reduceLT, Int.reduceToNat, Int.reduceEq, ↓reduceIte, reduceCtorEq, Nat.reducePow, Nat.reduceAdd, Nat.reduceLeDiff, Nat.reduceLT, Nat.reduceSub, Nat.reduceEqDiff]
  by_cases hlt : i < P.progs.length
  · obtain ⟨x, hi⟩ : ∃ x, P.progs[i]? = some x := ⟨P.progs[i], List.getElem?_eq_getElem hlt⟩
    have hg : (P.progs.map gav)[i]? = some (.agg x.cells) := by simp [hi, gav]
    have e1 := wi64_s i _ hlt hl
    simp only [PG.cells] at hg
    rw [fxi_drop _ hi] at hx
    simp only [lt_t hlt, nneg, Int.toNat_natCast, aiaddr, hg, h1, h2, h6, m2, astr, eES, eEX, Nat.reduceBEq, Int.reduceLE, Int.reduceLT, Int.reduceToNat, Int.reduceEq, ↓reduceIte, reduceCtorEq, Nat.reducePow, Nat.reduceAdd, Nat.reduceLeDiff, Nat.reduceLT, Nat.reduceSub, Nat.reduceEqDiff]
    cases hp : (x.name == s)
    · rw [hp] at hx
      simp only [Bool.false_eq_true, if_false] at hx
      simp only [h1, h2, h6, m2, e1, eES, eEX, Nat.reduceBEq, Int.reduceLE, Int.reduceLT, Int.reduceToNat, Int.reduceEq, ↓reduceIte, reduceCtorEq, Nat.reducePow, Nat.reduceAdd, Nat.reduceLeDiff, Nat.reduceLT, Nat.reduceSub, Nat.reduceEqDiff]
      exact ⟨P.progs.length - (i + 1), by omega, _, _, i + 1, rfl, rfl, hx, (by first | rfl | exact h1 | simp only [h1, eES, eEX, Nat.reduceBEq, Int.reduceLE, Int.reduceLT, Int.reduceToNat, Int.reduceEq, ↓reduceIte, reduceCtorEq, Nat.reducePow, Nat.reduceAdd, Nat.reduceLeDiff, Nat.reduceLT, Nat.reduceSub, Nat.reduceEqDiff]), (by first | rfl | exact h2 | simp only [h2, eES, eEX, Nat.reduceBEq, Int.reduceLE, Int.reduceLT, Int.reduceToNat, Int.reduceEq, ↓reduceIte, reduceCtorEq, Nat.reducePow, Nat.reduceAdd, Nat.reduceLeDiff, Nat.reduceLT, Nat.reduceSub, Nat.reduceEqDiff]), (by first | rfl | simp only [eES, eEX, Nat.reduceBEq, Int.reduceLE, Int.reduceLT, Int.reduceToNat, Int.reduceEq, ↓reduceIte, reduceCtorEq, Nat.reducePow, Nat.reduceAdd, Nat.reduceLeDiff, Nat.reduceLT, Nat.reduceSub, Nat.reduceEqDiff]), m2⟩
    · rw [hp] at hx
      simp only [if_true] at hx
      have d1 : ¬ ((i : Int) < 0) := by omega
      have d2 : decide ((i : Int) ≥ 0) = true := decide_eq_true (by omega)
      simp only [pfr, hx, if_neg d1, d2, h1, h2, h6, m2, eES, eEX, Nat.reduceBEq, Int.reduceLE, Int.reduceLT, Int.reduceToNat, Int.reduceEq, ↓reduceIte, reduceCtorEq, Nat.reducePow, Nat.reduceAdd, Nat.reduceLeDiff, Nat.reduceLT, Nat.reduceSub, Nat.reduceEqDiff]
  · have hx' : fxi (fun g : PG => g.name == s) P.progs 0 = -1 := by rw [hx, List.drop_of_length_le (by omega)]; rfl
    have d1 : ((-1 : Int) < 0) := by omega
    have d2 : decide ((-1 : Int) ≥ 0) = false := decide_eq_false (by omega)
    simp only [lt_f hlt, pfr, hx', if_pos d1, d2, h1, h2, h6, m2, eES, eEX, Nat.reduceBEq, Int.reduceLE, Int.reduceLT, Int.reduceToNat, Int.reduceEq, ↓reduceIte, reduceCtorEq, Nat.reducePow, Nat.reduceAdd, Nat.reduceLeDiff, Nat.reduceLT, Nat.reduceSub, Nat.reduceEqDiff]

/-- An enum accepts a number. -/
def acp (E : List PE) (t : Int) (b : Nat) : Bool :=
  if 0 ≤ t ∧ t < E.length ∧ b ≤ 2147483647 then
    match E[t.toNat]? with
    | some x => x.opn || x.items.any (pmi b)
    | none => false
  else false

theorem y19 {M : Nat} (P : PL) (hP : P.ok M) (t : Int) (b : Nat) : Fn1 Tryz.prog 19 [P.av, .int .i64 t, .int .u64 (b : Nat)] (.bool (acp P.enums t b)) := by
  have e0 : P.av = .agg [.list (P.progs.map gav), .list (P.enums.map eav)] := rfl
  refine fn1_of_awp (rc := r19) (rs := o19) Tryz.func19 rfl rfl Tryz.ntmps19 k19 q19 (by simp) ?_
  simp only [g19_0, g19_1, g19_2, g19_3, g19_4, r19, o19, e0, List.length_map, eES, eEX, Nat.reduceBEq, Int.reduceLE, Int.reduceLT, Int.reduceToNat, Int.reduceEq, ↓reduceIte, reduceCtorEq, Nat.reducePow, Nat.reduceAdd, Nat.reduceLeDiff, Nat.reduceLT, Nat.reduceSub, Nat.reduceEqDiff]
  by_cases h1 : 0 ≤ t
  · have d1 : decide (t < 0) = false := decide_eq_false (by omega)
    by_cases h2 : t < P.enums.length
    · have d2 : decide (t ≥ (P.enums.length : Int)) = false := decide_eq_false (by omega)
      by_cases h3 : b ≤ 2147483647
      · have d3 : decide ((b : Int) > 2147483647) = false := decide_eq_false (by omega)
        obtain ⟨n, rfl⟩ := Int.eq_ofNat_of_zero_le h1
        have hn : n < P.enums.length := by omega
        obtain ⟨x, hi⟩ : ∃ x, P.enums[n]? = some x := ⟨P.enums[n], List.getElem?_eq_getElem hn⟩
        have hx := hP.enums x (List.mem_of_getElem? hi)
        have hg : (P.enums.map eav)[n]? = some (.agg x.cells) := by simp [hi, eav]
        simp only [PE.cells] at hg
        have ha : acp P.enums (n : Int) b = (x.opn || x.items.any (pmi b)) := by
          unfold acp
          rw [if_pos ⟨h1, h2, h3⟩, Int.toNat_natCast, hi]
        simp only [d1, d2, List.length_map, d3, nneg, Int.toNat_natCast, aiaddr, hg, ha, eES, eEX, Nat.reduceBEq, Int.reduceLE, Int.reduceLT, Int.reduceToNat, Int.reduceEq, ↓reduceIte, reduceCtorEq, Nat.reducePow, Nat.reduceAdd, Nat.reduceLeDiff, Nat.reduceLT, Nat.reduceSub, Nat.reduceEqDiff]
        cases ho : x.opn
        · simp only [Bool.false_or, eES, eEX, Nat.reduceBEq, Int.reduceLE, Int.reduceLT, Int.reduceToNat, Int.reduceEq, ↓reduceIte, reduceCtorEq, Nat.reducePow, Nat.reduceAdd, Nat.reduceLeDiff, Nat.reduceLT, Nat.reduceSub, Nat.reduceEqDiff]
          refine aops_callF (y31 x.items hx.len1 (pmi b) 32 (.ptr 0 5 0) _ fun y _ => y32 y b _ (by first | rfl | simp only [eES, eEX, Nat.reduceBEq, Int.reduceLE, Int.reduceLT, Int.reduceToNat, Int.reduceEq, ↓reduceIte, reduceCtorEq, Nat.reducePow, Nat.reduceAdd, Nat.reduceLeDiff, Nat.reduceLT, Nat.reduceSub, Nat.reduceEqDiff])) (by simp only [List.map_cons, List.map_nil, iav, eES, eEX, Nat.reduceBEq, Int.reduceLE, Int.reduceLT, Int.reduceToNat, Int.reduceEq, ↓reduceIte, reduceCtorEq, Nat.reducePow, Nat.reduceAdd, Nat.reduceLeDiff, Nat.reduceLT, Nat.reduceSub, Nat.reduceEqDiff] <;> rfl) ?_
          simp only [eES, eEX, Nat.reduceBEq, Int.reduceLE, Int.reduceLT, Int.reduceToNat, Int.reduceEq, ↓reduceIte, reduceCtorEq, Nat.reducePow, Nat.reduceAdd, Nat.reduceLeDiff, Nat.reduceLT, Nat.reduceSub, Nat.reduceEqDiff]
        · simp only [Bool.true_or, eES, eEX, Nat.reduceBEq, Int.reduceLE, Int.reduceLT, Int.reduceToNat, Int.reduceEq, ↓reduceIte, reduceCtorEq, Nat.reducePow, Nat.reduceAdd, Nat.reduceLeDiff, Nat.reduceLT, Nat.reduceSub, Nat.reduceEqDiff]
      · have d3 : decide ((b : Int) > 2147483647) = true := decide_eq_true (by omega)
        have ha : acp P.enums t b = false := by
          unfold acp
          rw [if_neg (by omega)]
        simp only [d1, d2, List.length_map, d3, ha, eES, eEX, Nat.reduceBEq, Int.reduceLE, Int.reduceLT, Int.reduceToNat, Int.reduceEq, ↓reduceIte, reduceCtorEq, Nat.reducePow, Nat.reduceAdd, Nat.reduceLeDiff, Nat.reduceLT, Nat.reduceSub, Nat.reduceEqDiff]
    · have d2 : decide (t ≥ (P.enums.length : Int)) = true := decide_eq_true (by omega)
      have ha : acp P.enums t b = false := by
        unfold acp
        rw [if_neg (by omega)]
      simp only [d1, d2, List.length_map, ha, eES, eEX, Nat.reduceBEq, Int.reduceLE, Int.reduceLT, Int.reduceToNat, Int.reduceEq, ↓reduceIte, reduceCtorEq, Nat.reducePow, Nat.reduceAdd, Nat.reduceLeDiff, Nat.reduceLT, Nat.reduceSub, Nat.reduceEqDiff]
  · have d1 : decide (t < 0) = true := decide_eq_true (by omega)
    have ha : acp P.enums t b = false := by
      unfold acp
      rw [if_neg (by omega)]
    simp only [d1, ha, eES, eEX, Nat.reduceBEq, Int.reduceLE, Int.reduceLT, Int.reduceToNat, Int.reduceEq, ↓reduceIte, reduceCtorEq, Nat.reducePow, Nat.reduceAdd, Nat.reduceLeDiff, Nat.reduceLT, Nat.reduceSub, Nat.reduceEqDiff]

def AcI (P : PL) (L : List PI) (eo : Bool) (n b : Nat) (k : Nat) (st : St) : Prop :=
  ∃ f fr i, st = ⟨f, [fr], []⟩ ∧ k = L.length - i ∧ f 1 = .int .i64 (n : Nat) ∧ f 2 = .int .u64 (b : Nat) ∧ f 3 = .ptr 0 3 0 ∧ fr 3 = .cells [.list (P.progs.map gav), .list (P.enums.map eav)] ∧ f 7 = .bool (eo || (L.take i).any (pri b)) ∧ f 8 = .int .i64 (i : Nat)

theorem y20 {M : Nat} (P : PL) (hP : P.ok M) (t : Int) (b : Nat) : Fn1 Tryz.prog 20 [P.av, .int .i64 t, .int .u64 (b : Nat)] (.bool (acp P.enums t b)) := by
  have e0 : P.av = .agg [.list (P.progs.map gav), .list (P.enums.map eav)] := rfl
  refine fn1_of_awp (rc := r20) (rs := o20) Tryz.func20 rfl rfl Tryz.ntmps20 k20 q20 (by simp) ?_
  simp only [g20_0, g20_1, g20_2, g20_3, g20_4, g20_5, g20_7, g20_6, g20_8, r20, o20, e0, List.length_map, eES, eEX, Nat.reduceBEq, Int.reduceLE, Int.reduceLT, Int.reduceToNat, Int.reduceEq, ↓reduceIte, reduceCtorEq, Nat.reducePow, Nat.reduceAdd, Nat.reduceLeDiff, Nat.reduceLT, Nat.reduceSub, Nat.reduceEqDiff]
  by_cases h1 : 0 ≤ t
  · have d1 : decide (t < 0) = false := decide_eq_false (by omega)
    by_cases h2 : t < P.enums.length
    · have d2 : decide (t ≥ (P.enums.length : Int)) = false := decide_eq_false (by omega)
      by_cases h3 : b ≤ 2147483647
      · have d3 : decide ((b : Int) > 2147483647) = false := decide_eq_false (by omega)
        obtain ⟨n, rfl⟩ := Int.eq_ofNat_of_zero_le h1
        have hn : n < P.enums.length := by omega
        obtain ⟨x, hi⟩ : ∃ x, P.enums[n]? = some x := ⟨P.enums[n], List.getElem?_eq_getElem hn⟩
        have hx := hP.enums x (List.mem_of_getElem? hi)
        have hg : (P.enums.map eav)[n]? = some (.agg x.cells) := by simp [hi, eav]
        simp only [PE.cells] at hg
        have ha : acp P.enums (n : Int) b = (x.opn || x.items.any (pri b)) := by
          unfold acp
          rw [if_pos ⟨h1, h2, h3⟩, Int.toNat_natCast, hi]
          show (x.opn || x.items.any (pmi b)) = _
          congr 1
          rw [Bool.eq_iff_iff, List.any_eq_true, List.any_eq_true]
          constructor
          · rintro ⟨y, hy, hp⟩
            exact ⟨y, hy, by rw [pmi_pri h3 (hx.items y hy).num]; exact hp⟩
          · rintro ⟨y, hy, hp⟩
            exact ⟨y, hy, by rw [← pmi_pri h3 (hx.items y hy).num]; exact hp⟩
        simp only [d1, d2, List.length_map, d3, nneg, Int.toNat_natCast, aiaddr, hg, eES, eEX, Nat.reduceBEq, Int.reduceLE, Int.reduceLT, Int.reduceToNat, Int.reduceEq, ↓reduceIte, reduceCtorEq, Nat.reducePow, Nat.reduceAdd, Nat.reduceLeDiff, Nat.reduceLT, Nat.reduceSub, Nat.reduceEqDiff]
        refine awp_loop (AcI P x.items x.opn n b) _ ⟨_, _, 0, rfl, rfl, (by first | rfl | simp only [eES, eEX, Nat.reduceBEq, Int.reduceLE, Int.reduceLT, Int.reduceToNat, Int.reduceEq, ↓reduceIte, reduceCtorEq, Nat.reducePow, Nat.reduceAdd, Nat.reduceLeDiff, Nat.reduceLT, Nat.reduceSub, Nat.reduceEqDiff]), (by first | rfl | simp only [eES, eEX, Nat.reduceBEq, Int.reduceLE, Int.reduceLT, Int.reduceToNat, Int.reduceEq, ↓reduceIte, reduceCtorEq, Nat.reducePow, Nat.reduceAdd, Nat.reduceLeDiff, Nat.reduceLT, Nat.reduceSub, Nat.reduceEqDiff]), (by first | rfl | simp only [eES, eEX, Nat.reduceBEq, Int.reduceLE, Int.reduceLT, Int.reduceToNat, Int.reduceEq, ↓reduceIte, reduceCtorEq, Nat.reducePow, Nat.reduceAdd, Nat.reduceLeDiff, Nat.reduceLT, Nat.reduceSub, Nat.reduceEqDiff]), (by first | rfl | simp only [eES, eEX, Nat.reduceBEq, Int.reduceLE, Int.reduceLT, Int.reduceToNat, Int.reduceEq, ↓reduceIte, reduceCtorEq, Nat.reducePow, Nat.reduceAdd, Nat.reduceLeDiff, Nat.reduceLT, Nat.reduceSub, Nat.reduceEqDiff]), by simp only [List.take_zero, List.any_nil, Bool.or_false] <;> first | rfl | simp only [eES, eEX, Nat.reduceBEq, Int.reduceLE, Int.reduceLT, Int.reduceToNat, Int.reduceEq, ↓reduceIte, reduceCtorEq, Nat.reducePow, Nat.reduceAdd, Nat.reduceLeDiff, Nat.reduceLT, Nat.reduceSub, Nat.reduceEqDiff], (by first | rfl | simp only [eES, eEX, Nat.reduceBEq, Int.reduceLE, Int.reduceLT, Int.reduceToNat, Int.reduceEq, ↓reduceIte, reduceCtorEq, Nat.reducePow, Nat.reduceAdd, Nat.reduceLeDiff, Nat.reduceLT, Nat.reduceSub, Nat.reduceEqDiff])⟩ ?_
        rintro _ st ⟨f, fr, i, rfl, rfl, g1, g2, g3, m3, g7, g8⟩
        simp only [l20_0, g20_0, g20_1, g20_2, g20_3, g20_4, g20_5, g20_7, g20_6, g20_8, r20, o20, List.length_map, nneg, Int.toNat_natCast, aiaddr, hg, g1, g2, g3, m3, g7, g8, eES, eEX, Nat.reduceBEq, Int.reduceLE, Int.reduceLT, Int.reduceToNat, Int.reduceEq, ↓reduceIte, reduceCtorEq, Nat.reducePow, Nat.reduceAdd, Nat.reduceLeDiff, Nat.reduceLT, Nat.reduceSub, Nat.reduceEqDiff]
        by_cases hlt : i < x.items.length
        · obtain ⟨y, hd⟩ : ∃ y, x.items[i]? = some y := ⟨x.items[i], List.getElem?_eq_getElem hlt⟩
          have hdm : (x.items.map fun n => AV.agg n.cells)[i]? = some (.agg y.cells) := by simp [hd]
          simp only [PI.cells] at hdm
          have e1 := wi64_s i _ hlt hx.len1
          have ht : (x.opn || (x.items.take (i + 1)).any (pri b)) = ((x.opn || (x.items.take i).any (pri b)) || pri b y) := by
            rw [List.take_add_one, hd]
            simp [Bool.or_assoc]
          have hp : pri b y = (y.num == IntKind.i64.wrap (b : Int)) := rfl
          rw [hp] at ht
          simp only [PI.cells] at hg
          cases hq : (x.opn || (x.items.take i).any (pri b))
          · rw [hq, Bool.false_or] at ht
            simp only [lt_t hlt, nneg, Int.toNat_natCast, aiaddr, hg, hdm, hq, PI.cells, g1, g2, g3, m3, g7, g8, e1, eES, eEX, Nat.reduceBEq, Int.reduceLE, Int.reduceLT, Int.reduceToNat, Int.reduceEq, ↓reduceIte, reduceCtorEq, Nat.reducePow, Nat.reduceAdd, Nat.reduceLeDiff, Nat.reduceLT, Nat.reduceSub, Nat.reduceEqDiff]
            exact ⟨x.items.length - (i + 1), by omega, _, _, i + 1, rfl, rfl, (by first | rfl | exact g1 | simp only [g1, eES, eEX, Nat.reduceBEq, Int.reduceLE, Int.reduceLT, Int.reduceToNat, Int.reduceEq, ↓reduceIte, reduceCtorEq, Nat.reducePow, Nat.reduceAdd, Nat.reduceLeDiff, Nat.reduceLT, Nat.reduceSub, Nat.reduceEqDiff]), (by first | rfl | exact g2 | simp only [g2, eES, eEX, Nat.reduceBEq, Int.reduceLE, Int.reduceLT, Int.reduceToNat, Int.reduceEq, ↓reduceIte, reduceCtorEq, Nat.reducePow, Nat.reduceAdd, Nat.reduceLeDiff, Nat.reduceLT, Nat.reduceSub, Nat.reduceEqDiff]), (by first | rfl | exact g3 | simp only [g3, eES, eEX, Nat.reduceBEq, Int.reduceLE, Int.reduceLT, Int.reduceToNat, Int.reduceEq, ↓reduceIte, reduceCtorEq, Nat.reducePow, Nat.reduceAdd, Nat.reduceLeDiff, Nat.reduceLT, Nat.reduceSub, Nat.reduceEqDiff]), (by first | rfl | exact m3 | simp only [m3, eES, eEX, Nat.reduceBEq, Int.reduceLE, Int.reduceLT, Int.reduceToNat, Int.reduceEq, ↓reduceIte, reduceCtorEq, Nat.reducePow, Nat.reduceAdd, Nat.reduceLeDiff, Nat.reduceLT, Nat.reduceSub, Nat.reduceEqDiff]), by rw [ht] <;> first | rfl | simp only [eES, eEX, Nat.reduceBEq, Int.reduceLE, Int.reduceLT, Int.reduceToNat, Int.reduceEq, ↓reduceIte, reduceCtorEq, Nat.reducePow, Nat.reduceAdd, Nat.reduceLeDiff, Nat.reduceLT, Nat.reduceSub, Nat.reduceEqDiff], (by first | rfl | simp only [eES, eEX, Nat.reduceBEq, Int.reduceLE, Int.reduceLT, Int.reduceToNat, Int.reduceEq, ↓reduceIte, reduceCtorEq, Nat.reducePow, Nat.reduceAdd, Nat.reduceLeDiff, Nat.reduceLT, Nat.reduceSub, Nat.reduceEqDiff])⟩
          · rw [hq, Bool.true_or] at ht
            simp only [lt_t hlt, nneg, Int.toNat_natCast, aiaddr, hg, hdm, hq, PI.cells, g1, g2, g3, m3, g7, g8, e1, eES, eEX, Nat.reduceBEq, Int.reduceLE, Int.reduceLT, Int.reduceToNat, Int.reduceEq, ↓reduceIte, reduceCtorEq, Nat.reducePow, Nat.reduceAdd, Nat.reduceLeDiff, Nat.reduceLT, Nat.reduceSub, Nat.reduceEqDiff]
            exact ⟨x.items.length - (i + 1), by omega, _, _, i + 1, rfl, rfl, (by first | rfl | exact g1 | simp only [g1, eES, eEX, Nat.reduceBEq, Int.reduceLE, Int.reduceLT, Int.reduceToNat, Int.reduceEq, ↓reduceIte, reduceCtorEq, Nat.reducePow, Nat.reduceAdd, Nat.reduceLeDiff, Nat.reduceLT, Nat.reduceSub, Nat.reduceEqDiff]), (by first | rfl | exact g2 | simp only [g2, eES, eEX, Nat.reduceBEq, Int.reduceLE, Int.reduceLT, Int.reduceToNat, Int.reduceEq, ↓reduceIte, reduceCtorEq, Nat.reducePow, Nat.reduceAdd, Nat.reduceLeDiff, Nat.reduceLT, Nat.reduceSub, Nat.reduceEqDiff]), (by first | rfl | exact g3 | simp only [g3, eES, eEX, Nat.reduceBEq, Int.reduceLE, Int.reduceLT, Int.reduceToNat, Int.reduceEq, ↓reduceIte, reduceCtorEq, Nat.reducePow, Nat.reduceAdd, Nat.reduceLeDiff, Nat.reduceLT, Nat.reduceSub, Nat.reduceEqDiff]), (by first | rfl | exact m3 | simp only [m3, eES, eEX, Nat.reduceBEq, Int.reduceLE, Int.reduceLT, Int.reduceToNat, Int.reduceEq, ↓reduceIte, reduceCtorEq, Nat.reducePow, Nat.reduceAdd, Nat.reduceLeDiff, Nat.reduceLT, Nat.reduceSub, Nat.reduceEqDiff]), by rw [ht] <;> first | rfl | simp only [eES, eEX, Nat.reduceBEq, Int.reduceLE, Int.reduceLT, Int.reduceToNat, Int.reduceEq, ↓reduceIte, reduceCtorEq, Nat.reducePow, Nat.reduceAdd, Nat.reduceLeDiff, Nat.reduceLT, Nat.reduceSub, Nat.reduceEqDiff], (by first | rfl | simp only [eES, eEX, Nat.reduceBEq, Int.reduceLE, Int.reduceLT, Int.reduceToNat, Int.reduceEq, ↓reduceIte, reduceCtorEq, Nat.reducePow, Nat.reduceAdd, Nat.reduceLeDiff, Nat.reduceLT, Nat.reduceSub, Nat.reduceEqDiff])⟩
        · rw [List.take_of_length_le (by omega)] at g7
          simp only [lt_f hlt, g1, g2, g3, m3, g7, g8, ha, eES, eEX, Nat.reduceBEq, Int.reduceLE, Int.reduceLT, Int.reduceToNat, Int.reduceEq, ↓reduceIte, reduceCtorEq, Nat.reducePow, Nat.reduceAdd, Nat.reduceLeDiff, Nat.reduceLT, Nat.reduceSub, Nat.reduceEqDiff]
      · have d3 : decide ((b : Int) > 2147483647) = true := decide_eq_true (by omega)
        have ha : acp P.enums t b = false := by
          unfold acp
          rw [if_neg (by omega)]
        simp only [d1, d2, List.length_map, d3, ha, eES, eEX, Nat.reduceBEq, Int.reduceLE, Int.reduceLT, Int.reduceToNat, Int.reduceEq, ↓reduceIte, reduceCtorEq, Nat.reducePow, Nat.reduceAdd, Nat.reduceLeDiff, Nat.reduceLT, Nat.reduceSub, Nat.reduceEqDiff]
    · have d2 : decide (t ≥ (P.enums.length : Int)) = true := decide_eq_true (by omega)
      have ha : acp P.enums t b = false := by
        unfold acp
        rw [if_neg (by omega)]
      simp only [d1, d2, List.length_map, ha, eES, eEX, Nat.reduceBEq, Int.reduceLE, Int.reduceLT, Int.reduceToNat, Int.reduceEq, ↓reduceIte, reduceCtorEq, Nat.reducePow, Nat.reduceAdd, Nat.reduceLeDiff, Nat.reduceLT, Nat.reduceSub, Nat.reduceEqDiff]
  · have d1 : decide (t < 0) = true := decide_eq_true (by omega)
    have ha : acp P.enums t b = false := by
      unfold acp
      rw [if_neg (by omega)]
    simp only [d1, ha, eES, eEX, Nat.reduceBEq, Int.reduceLE, Int.reduceLT, Int.reduceToNat, Int.reduceEq, ↓reduceIte, reduceCtorEq, Nat.reducePow, Nat.reduceAdd, Nat.reduceLeDiff, Nat.reduceLT, Nat.reduceSub, Nat.reduceEqDiff]

end Go.Proofs.YtkjjfbknppahhaaGreatDoor.Va

/- The table of the functions that are run. -/
namespace Go.Proofs.YtkjjfbknppahhaaGreatDoor.Ev
open Go Am Rc

def tab : Tab := fun k => match k with
  | 5 => some (r5, o5, 27)
  | 7 => some (r7, o7, 21)
  | 11 => some (r11, o11, 40)
  | 23 => some (r23, o23, 45)
  | 24 => some (r24, o24, 32)
  | 37 => some (r37, o37, 7)
  | 38 => some (r38, o38, 68)
  | 40 => some (r40, o40, 77)
  | 45 => some (r45, o45, 99)
  | 46 => some (r46, o46, 12)
  | 47 => some (r47, o47, 19)
  | 48 => some (r48, o48, 9)
  | 49 => some (r49, o49, 19)
  | 51 => some (r51, o51, 18)
  | 52 => some (r52, o52, 74)
  | 54 => some (r54, o54, 9)
  | 58 => some (r58, o58, 56)
  | 59 => some (r59, o59, 27)
  | 60 => some (r60, o60, 20)
  | 61 => some (r61, o61, 19)
  | 62 => some (r62, o62, 42)
  | 63 => some (r63, o63, 79)
  | 66 => some (r66, o66, 19)
  | 70 => some (r70, o70, 8)
  | 73 => some (r73, o73, 19)
  | 75 => some (r75, o75, 9)
  | 77 => some (r77, o77, 19)
  | 78 => some (r78, o78, 30)
  | 80 => some (r80, o80, 11)
  | 81 => some (r81, o81, 112)
  | 82 => some (r82, o82, 52)
  | 84 => some (r84, o84, 15)
  | 85 => some (r85, o85, 11)
  | 86 => some (r86, o86, 10)
  | 89 => some (r89, o89, 8)
  | 90 => some (r90, o90, 19)
  | 94 => some (r94, o94, 19)
  | 95 => some (r95, o95, 8)
  | 96 => some (r96, o96, 19)
  | 97 => some (r97, o97, 8)
  | 98 => some (r98, o98, 27)
  | 99 => some (r99, o99, 12)
  | 101 => some (r101, o101, 19)
  | 102 => some (r102, o102, 57)
  | 103 => some (r103, o103, 50)
  | 104 => some (r104, o104, 59)
  | 106 => some (r106, o106, 31)
  | 108 => some (r108, o108, 36)
  | 110 => some (r110, o110, 9)
  | 116 => some (r116, o116, 66)
  | 117 => some (r117, o117, 9)
  | 122 => some (r122, o122, 34)
  | 128 => some (r128, o128, 27)
  | 129 => some (r129, o129, 19)
  | 133 => some (r133, o133, 34)
  | 135 => some (r135, o135, 19)
  | 15 => some (r15, o15, 12)
  | 27 => some (r27, o27, 8)
  | 28 => some (r28, o28, 20)
  | 42 => some (r42, o42, 19)
  | 13 => some (r13, o13, 15)
  | 26 => some (r26, o26, 8)
  | 25 => some (r25, o25, 19)
  | 17 => some (r17, o17, 23)
  | 29 => some (r29, o29, 8)
  | 30 => some (r30, o30, 12)
  | 19 => some (r19, o19, 34)
  | 32 => some (r32, o32, 9)
  | 31 => some (r31, o31, 9)
  | 43 => some (r43, o43, 19)
  | 9 => some (r9, o9, 27)
  | 21 => some (r21, o21, 20)
  | 33 => some (r33, o33, 9)
  | 34 => some (r34, o34, 28)
  | 44 => some (r44, o44, 9)
  | 6 => some (r6, o6, 25)
  | 8 => some (r8, o8, 21)
  | 10 => some (r10, o10, 19)
  | 22 => some (r22, o22, 20)
  | 35 => some (r35, o35, 9)
  | 36 => some (r36, o36, 25)
  | 12 => some (r12, o12, 63)
  | 14 => some (r14, o14, 23)
  | 16 => some (r16, o16, 28)
  | 18 => some (r18, o18, 53)
  | 20 => some (r20, o20, 56)
  | 3 => some (r3, o3, 27)
  | 4 => some (r4, o4, 116)
  | _ => none

theorem tab_ok : TabOk Tryz.prog tab := by
  intro k c rs N h
  unfold tab at h
  split at h
  · cases h; exact ⟨Tryz.f5, _, Tryz.func5, rfl, rfl, Tryz.ntmps5, k5, q5⟩
  · cases h; exact ⟨Tryz.f7, _, Tryz.func7, rfl, rfl, Tryz.ntmps7, k7, q7⟩
  · cases h; exact ⟨Tryz.f11, _, Tryz.func11, rfl, rfl, Tryz.ntmps11, k11, q11⟩
  · cases h; exact ⟨Tryz.f23, _, Tryz.func23, rfl, rfl, Tryz.ntmps23, k23, q23⟩
  · cases h; exact ⟨Tryz.f24, _, Tryz.func24, rfl, rfl, Tryz.ntmps24, k24, q24⟩
  · cases h; exact ⟨Tryz.f37, _, Tryz.func37, rfl, rfl, Tryz.ntmps37, k37, q37⟩
  · cases h; exact ⟨Tryz.f38, _, Tryz.func38, rfl, rfl, Tryz.ntmps38, k38, q38⟩
  · cases h; exact ⟨Tryz.f40, _, Tryz.func40, rfl, rfl, Tryz.ntmps40, k40, q40⟩
  · cases h; exact ⟨Tryz.f45, _, Tryz.func45, rfl, rfl, Tryz.ntmps45, k45, q45⟩
  · cases h; exact ⟨Tryz.f46, _, Tryz.func46, rfl, rfl, Tryz.ntmps46, k46, q46⟩
  · cases h; exact ⟨Tryz.f47, _, Tryz.func47, rfl, rfl, Tryz.ntmps47, k47, q47⟩
  · cases h; exact ⟨Tryz.f48, _, Tryz.func48, rfl, rfl, Tryz.ntmps48, k48, q48⟩
  · cases h; exact ⟨Tryz.f49, _, Tryz.func49, rfl, rfl, Tryz.ntmps49, k49, q49⟩
  · cases h; exact ⟨Tryz.f51, _, Tryz.func51, rfl, rfl, Tryz.ntmps51, k51, q51⟩
  · cases h; exact ⟨Tryz.f52, _, Tryz.func52, rfl, rfl, Tryz.ntmps52, k52, q52⟩
  · cases h; exact ⟨Tryz.f54, _, Tryz.func54, rfl, rfl, Tryz.ntmps54, k54, q54⟩
  · cases h; exact ⟨Tryz.f58, _, Tryz.func58, rfl, rfl, Tryz.ntmps58, k58, q58⟩
  · cases h; exact ⟨Tryz.f59, _, Tryz.func59, rfl, rfl, Tryz.ntmps59, k59, q59⟩
  · cases h; exact ⟨Tryz.f60, _, Tryz.func60, rfl, rfl, Tryz.ntmps60, k60, q60⟩
  · cases h; exact ⟨Tryz.f61, _, Tryz.func61, rfl, rfl, Tryz.ntmps61, k61, q61⟩
  · cases h; exact ⟨Tryz.f62, _, Tryz.func62, rfl, rfl, Tryz.ntmps62, k62, q62⟩
  · cases h; exact ⟨Tryz.f63, _, Tryz.func63, rfl, rfl, Tryz.ntmps63, k63, q63⟩
  · cases h; exact ⟨Tryz.f66, _, Tryz.func66, rfl, rfl, Tryz.ntmps66, k66, q66⟩
  · cases h; exact ⟨Tryz.f70, _, Tryz.func70, rfl, rfl, Tryz.ntmps70, k70, q70⟩
  · cases h; exact ⟨Tryz.f73, _, Tryz.func73, rfl, rfl, Tryz.ntmps73, k73, q73⟩
  · cases h; exact ⟨Tryz.f75, _, Tryz.func75, rfl, rfl, Tryz.ntmps75, k75, q75⟩
  · cases h; exact ⟨Tryz.f77, _, Tryz.func77, rfl, rfl, Tryz.ntmps77, k77, q77⟩
  · cases h; exact ⟨Tryz.f78, _, Tryz.func78, rfl, rfl, Tryz.ntmps78, k78, q78⟩
  · cases h; exact ⟨Tryz.f80, _, Tryz.func80, rfl, rfl, Tryz.ntmps80, k80, q80⟩
  · cases h; exact ⟨Tryz.f81, _, Tryz.func81, rfl, rfl, Tryz.ntmps81, k81, q81⟩
  · cases h; exact ⟨Tryz.f82, _, Tryz.func82, rfl, rfl, Tryz.ntmps82, k82, q82⟩
  · cases h; exact ⟨Tryz.f84, _, Tryz.func84, rfl, rfl, Tryz.ntmps84, k84, q84⟩
  · cases h; exact ⟨Tryz.f85, _, Tryz.func85, rfl, rfl, Tryz.ntmps85, k85, q85⟩
  · cases h; exact ⟨Tryz.f86, _, Tryz.func86, rfl, rfl, Tryz.ntmps86, k86, q86⟩
  · cases h; exact ⟨Tryz.f89, _, Tryz.func89, rfl, rfl, Tryz.ntmps89, k89, q89⟩
  · cases h; exact ⟨Tryz.f90, _, Tryz.func90, rfl, rfl, Tryz.ntmps90, k90, q90⟩
  · cases h; exact ⟨Tryz.f94, _, Tryz.func94, rfl, rfl, Tryz.ntmps94, k94, q94⟩
  · cases h; exact ⟨Tryz.f95, _, Tryz.func95, rfl, rfl, Tryz.ntmps95, k95, q95⟩
  · cases h; exact ⟨Tryz.f96, _, Tryz.func96, rfl, rfl, Tryz.ntmps96, k96, q96⟩
  · cases h; exact ⟨Tryz.f97, _, Tryz.func97, rfl, rfl, Tryz.ntmps97, k97, q97⟩
  · cases h; exact ⟨Tryz.f98, _, Tryz.func98, rfl, rfl, Tryz.ntmps98, k98, q98⟩
  · cases h; exact ⟨Tryz.f99, _, Tryz.func99, rfl, rfl, Tryz.ntmps99, k99, q99⟩
  · cases h; exact ⟨Tryz.f101, _, Tryz.func101, rfl, rfl, Tryz.ntmps101, k101, q101⟩
  · cases h; exact ⟨Tryz.f102, _, Tryz.func102, rfl, rfl, Tryz.ntmps102, k102, q102⟩
  · cases h; exact ⟨Tryz.f103, _, Tryz.func103, rfl, rfl, Tryz.ntmps103, k103, q103⟩
  · cases h; exact ⟨Tryz.f104, _, Tryz.func104, rfl, rfl, Tryz.ntmps104, k104, q104⟩
  · cases h; exact ⟨Tryz.f106, _, Tryz.func106, rfl, rfl, Tryz.ntmps106, k106, q106⟩
  · cases h; exact ⟨Tryz.f108, _, Tryz.func108, rfl, rfl, Tryz.ntmps108, k108, q108⟩
  · cases h; exact ⟨Tryz.f110, _, Tryz.func110, rfl, rfl, Tryz.ntmps110, k110, q110⟩
  · cases h; exact ⟨Tryz.f116, _, Tryz.func116, rfl, rfl, Tryz.ntmps116, k116, q116⟩
  · cases h; exact ⟨Tryz.f117, _, Tryz.func117, rfl, rfl, Tryz.ntmps117, k117, q117⟩
  · cases h; exact ⟨Tryz.f122, _, Tryz.func122, rfl, rfl, Tryz.ntmps122, k122, q122⟩
  · cases h; exact ⟨Tryz.f128, _, Tryz.func128, rfl, rfl, Tryz.ntmps128, k128, q128⟩
  · cases h; exact ⟨Tryz.f129, _, Tryz.func129, rfl, rfl, Tryz.ntmps129, k129, q129⟩
  · cases h; exact ⟨Tryz.f133, _, Tryz.func133, rfl, rfl, Tryz.ntmps133, k133, q133⟩
  · cases h; exact ⟨Tryz.f135, _, Tryz.func135, rfl, rfl, Tryz.ntmps135, k135, q135⟩
  · cases h; exact ⟨Tryz.f15, _, Tryz.func15, rfl, rfl, Tryz.ntmps15, k15, q15⟩
  · cases h; exact ⟨Tryz.f27, _, Tryz.func27, rfl, rfl, Tryz.ntmps27, k27, q27⟩
  · cases h; exact ⟨Tryz.f28, _, Tryz.func28, rfl, rfl, Tryz.ntmps28, k28, q28⟩
  · cases h; exact ⟨Tryz.f42, _, Tryz.func42, rfl, rfl, Tryz.ntmps42, k42, q42⟩
  · cases h; exact ⟨Tryz.f13, _, Tryz.func13, rfl, rfl, Tryz.ntmps13, k13, q13⟩
  · cases h; exact ⟨Tryz.f26, _, Tryz.func26, rfl, rfl, Tryz.ntmps26, k26, q26⟩
  · cases h; exact ⟨Tryz.f25, _, Tryz.func25, rfl, rfl, Tryz.ntmps25, k25, q25⟩
  · cases h; exact ⟨Tryz.f17, _, Tryz.func17, rfl, rfl, Tryz.ntmps17, k17, q17⟩
  · cases h; exact ⟨Tryz.f29, _, Tryz.func29, rfl, rfl, Tryz.ntmps29, k29, q29⟩
  · cases h; exact ⟨Tryz.f30, _, Tryz.func30, rfl, rfl, Tryz.ntmps30, k30, q30⟩
  · cases h; exact ⟨Tryz.f19, _, Tryz.func19, rfl, rfl, Tryz.ntmps19, k19, q19⟩
  · cases h; exact ⟨Tryz.f32, _, Tryz.func32, rfl, rfl, Tryz.ntmps32, k32, q32⟩
  · cases h; exact ⟨Tryz.f31, _, Tryz.func31, rfl, rfl, Tryz.ntmps31, k31, q31⟩
  · cases h; exact ⟨Tryz.f43, _, Tryz.func43, rfl, rfl, Tryz.ntmps43, k43, q43⟩
  · cases h; exact ⟨Tryz.f9, _, Tryz.func9, rfl, rfl, Tryz.ntmps9, k9, q9⟩
  · cases h; exact ⟨Tryz.f21, _, Tryz.func21, rfl, rfl, Tryz.ntmps21, k21, q21⟩
  · cases h; exact ⟨Tryz.f33, _, Tryz.func33, rfl, rfl, Tryz.ntmps33, k33, q33⟩
  · cases h; exact ⟨Tryz.f34, _, Tryz.func34, rfl, rfl, Tryz.ntmps34, k34, q34⟩
  · cases h; exact ⟨Tryz.f44, _, Tryz.func44, rfl, rfl, Tryz.ntmps44, k44, q44⟩
  · cases h; exact ⟨Tryz.f6, _, Tryz.func6, rfl, rfl, Tryz.ntmps6, k6, q6⟩
  · cases h; exact ⟨Tryz.f8, _, Tryz.func8, rfl, rfl, Tryz.ntmps8, k8, q8⟩
  · cases h; exact ⟨Tryz.f10, _, Tryz.func10, rfl, rfl, Tryz.ntmps10, k10, q10⟩
  · cases h; exact ⟨Tryz.f22, _, Tryz.func22, rfl, rfl, Tryz.ntmps22, k22, q22⟩
  · cases h; exact ⟨Tryz.f35, _, Tryz.func35, rfl, rfl, Tryz.ntmps35, k35, q35⟩
  · cases h; exact ⟨Tryz.f36, _, Tryz.func36, rfl, rfl, Tryz.ntmps36, k36, q36⟩
  · cases h; exact ⟨Tryz.f12, _, Tryz.func12, rfl, rfl, Tryz.ntmps12, k12, q12⟩
  · cases h; exact ⟨Tryz.f14, _, Tryz.func14, rfl, rfl, Tryz.ntmps14, k14, q14⟩
  · cases h; exact ⟨Tryz.f16, _, Tryz.func16, rfl, rfl, Tryz.ntmps16, k16, q16⟩
  · cases h; exact ⟨Tryz.f18, _, Tryz.func18, rfl, rfl, Tryz.ntmps18, k18, q18⟩
  · cases h; exact ⟨Tryz.f20, _, Tryz.func20, rfl, rfl, Tryz.ntmps20, k20, q20⟩
  · cases h; exact ⟨Tryz.f3, _, Tryz.func3, rfl, rfl, Tryz.ntmps3, k3, q3⟩
  · cases h; exact ⟨Tryz.f4, _, Tryz.func4, rfl, rfl, Tryz.ntmps4, k4, q4⟩
  · cases h

end Go.Proofs.YtkjjfbknppahhaaGreatDoor.Ev

/- What the run takes as done: nothing. -/
namespace Go.Proofs.YtkjjfbknppahhaaGreatDoor.Ev
open Go Am Rc

def nat : Cal := fun _ _ _ => none

theorem nat_ok : CalOk Tryz.prog nat := by
  intro k args m v m' h
  cases h

end Go.Proofs.YtkjjfbknppahhaaGreatDoor.Ev

/- awake: by running it. -/
namespace Go.Proofs.YtkjjfbknppahhaaGreatDoor.Ev
open Go Am Rc

theorem awake_run : evT nat tab 3000 11 [] = true := by decide +kernel

theorem awake_ok : Fn1 Tryz.prog 11 [] (.bool true) := fn1_of_evT nat_ok tab_ok awake_run

end Go.Proofs.YtkjjfbknppahhaaGreatDoor.Ev

/- The law of searches. -/
set_option linter.unusedSimpArgs false
namespace Go.Proofs.YtkjjfbknppahhaaGreatDoor.Va
open Go Am Rc Bt Br

/-- A loop over a list of the plan that is box 1: i in slot c, the answer so far in slot 3. -/
def SmI (P : PL) (n c : Nat) (k : Nat) (st : St) : Prop :=
  ∃ f fr i b, st = ⟨f, [fr], []⟩ ∧ k = n - i ∧ f 1 = .ptr 0 1 0 ∧ fr 1 = .cells [.list (P.progs.map gav), .list (P.enums.map eav)] ∧ f 3 = .bool b ∧ f c = .int .i64 (i : Nat)

theorem small_loop {M : Nat} (P : PL) (hP : P.ok M) (f : Fr) (fr : Nat → Ob) (b : Bool) (h1 : f 1 = .ptr 0 1 0) (m1 : fr 1 = .cells [.list (P.progs.map gav), .list (P.enums.map eav)]) (h3 : f 3 = .bool b) (h5 : f 5 = .int .i64 0) (Q : Exit → St → Prop)
    (hx : ∀ f b, f 3 = .bool b → Q (.exit 2) (⟨f, [fr], []⟩ : St)) : awp Tryz.prog (.loop l12_1) ⟨f, [fr], []⟩ Q := by
  let I : Nat → St → Prop := fun k st => ∃ f i b, st = ⟨f, [fr], []⟩ ∧ k = P.enums.length - i ∧ f 1 = .ptr 0 1 0 ∧ f 3 = .bool b ∧ f 5 = .int .i64 (i : Nat)
  refine awp_loop I _ ⟨_, 0, b, rfl, rfl, h1, h3, h5⟩ ?_
  clear h1 h3 h5
  rintro _ st ⟨f, i, b, rfl, rfl, h1, h3, h5⟩
  simp only [l12_1, g12_0, g12_1, g12_2, g12_3, g12_5, g12_4, g12_6, g12_7, g12_9, g12_8, g12_10, r12, o12, List.length_map, h1, m1, h3, h5, eES, eEX, Nat.reduceBEq, Int.reduceLE, Int.reduceLT, Int.reduceToNat, Int.reduceEq, ↓reduceIte, reduceCtorEq, Nat.reducePow, Nat.reduceAdd, Nat.reduceLeDiff, Nat.reduceLT, Nat.reduceSub, Nat.reduceEqDiff]
  by_cases hlt : i < P.enums.length
  · obtain ⟨x, hi⟩ : ∃ x, P.enums[i]? = some x := ⟨P.enums[i], List.getElem?_eq_getElem hlt⟩
    have hg : (P.enums.map eav)[i]? = some (.agg x.cells) := by simp [hi, eav]
    simp only [PE.cells] at hg
    have e1 := wi64_s i _ hlt hP.len2
    cases b <;> simp only [lt_t hlt, nneg, Int.toNat_natCast, aiaddr, List.length_map, hg, h1, m1, h3, h5, e1, eES, eEX, Nat.reduceBEq, Int.reduceLE, Int.reduceLT, Int.reduceToNat, Int.reduceEq, ↓reduceIte, reduceCtorEq, Nat.reducePow, Nat.reduceAdd, Nat.reduceLeDiff, Nat.reduceLT, Nat.reduceSub, Nat.reduceEqDiff]
    · exact hx _ _ (by first | rfl | exact h3 | simp only [h3, eES, eEX, Nat.reduceBEq, Int.reduceLE, Int.reduceLT, Int.reduceToNat, Int.reduceEq, ↓reduceIte, reduceCtorEq, Nat.reducePow, Nat.reduceAdd, Nat.reduceLeDiff, Nat.reduceLT, Nat.reduceSub, Nat.reduceEqDiff])
    · repeat' (first | (refine csel_of (fun h => ?_) (fun h => ?_) <;> simp only [h, lt_t hlt, nneg, Int.toNat_natCast, aiaddr, List.length_map, hg, h1, m1, h3, h5, e1, eES, eEX, Nat.reduceBEq, Int.reduceLE, Int.reduceLT, Int.reduceToNat, Int.reduceEq, ↓reduceIte, reduceCtorEq, Nat.reducePow, Nat.reduceAdd, Nat.reduceLeDiff, Nat.reduceLT, Nat.reduceSub, Nat.reduceEqDiff]) | (refine gsel_t (fun h => ?_) (fun h => ?_) <;> simp only [h, updO, lt_t hlt, nneg, Int.toNat_natCast, aiaddr, List.length_map, hg, h1, m1, h3, h5, e1, eES, eEX, Nat.reduceBEq, Int.reduceLE, Int.reduceLT, Int.reduceToNat, Int.reduceEq, ↓reduceIte, reduceCtorEq, Nat.reducePow, Nat.reduceAdd, Nat.reduceLeDiff, Nat.reduceLT, Nat.reduceSub, Nat.reduceEqDiff]) | (refine gsel_f (fun h => ?_) (fun h => ?_) <;> simp only [h, updO, lt_t hlt, nneg, Int.toNat_natCast, aiaddr, List.length_map, hg, h1, m1, h3, h5, e1, eES, eEX, Nat.reduceBEq, Int.reduceLE, Int.reduceLT, Int.reduceToNat, Int.reduceEq, ↓reduceIte, reduceCtorEq, Nat.reducePow, Nat.reduceAdd, Nat.reduceLeDiff, Nat.reduceLT, Nat.reduceSub, Nat.reduceEqDiff]))
      all_goals exact ⟨P.enums.length - (i + 1), by omega, _, i + 1, _, rfl, rfl, (by first | rfl | exact h1 | simp only [h1, eES, eEX, Nat.reduceBEq, Int.reduceLE, Int.reduceLT, Int.reduceToNat, Int.reduceEq, ↓reduceIte, reduceCtorEq, Nat.reducePow, Nat.reduceAdd, Nat.reduceLeDiff, Nat.reduceLT, Nat.reduceSub, Nat.reduceEqDiff]), (by first | rfl | simp only [eES, eEX, Nat.reduceBEq, Int.reduceLE, Int.reduceLT, Int.reduceToNat, Int.reduceEq, ↓reduceIte, reduceCtorEq, Nat.reducePow, Nat.reduceAdd, Nat.reduceLeDiff, Nat.reduceLT, Nat.reduceSub, Nat.reduceEqDiff]), (by first | rfl | simp only [eES, eEX, Nat.reduceBEq, Int.reduceLE, Int.reduceLT, Int.reduceToNat, Int.reduceEq, ↓reduceIte, reduceCtorEq, Nat.reducePow, Nat.reduceAdd, Nat.reduceLeDiff, Nat.reduceLT, Nat.reduceSub, Nat.reduceEqDiff])⟩
  · cases b <;> simp only [lt_f hlt, List.length_map, h1, m1, h3, h5, eES, eEX, Nat.reduceBEq, Int.reduceLE, Int.reduceLT, Int.reduceToNat, Int.reduceEq, ↓reduceIte, reduceCtorEq, Nat.reducePow, Nat.reduceAdd, Nat.reduceLeDiff, Nat.reduceLT, Nat.reduceSub, Nat.reduceEqDiff] <;> exact hx _ _ (by first | rfl | exact h3 | simp only [h3, eES, eEX, Nat.reduceBEq, Int.reduceLE, Int.reduceLT, Int.reduceToNat, Int.reduceEq, ↓reduceIte, reduceCtorEq, Nat.reducePow, Nat.reduceAdd, Nat.reduceLeDiff, Nat.reduceLT, Nat.reduceSub, Nat.reduceEqDiff])

theorem c12 {M : Nat} (P : PL) (hP : P.ok M) : Fn? Tryz.prog 12 [P.av] RB := by
  have e0 : P.av = .agg [.list (P.progs.map gav), .list (P.enums.map eav)] := rfl
  refine fnR_of_awp (rc := r12) (rs := o12) Tryz.func12 rfl rfl Tryz.ntmps12 k12 q12 (by simp) ?_
  simp only [g12_0, g12_1, g12_2, g12_3, g12_5, g12_4, g12_6, g12_7, g12_9, g12_8, g12_10, r12, o12, e0, eES, eEX, Nat.reduceBEq, Int.reduceLE, Int.reduceLT, Int.reduceToNat, Int.reduceEq, ↓reduceIte, reduceCtorEq, Nat.reducePow, Nat.reduceAdd, Nat.reduceLeDiff, Nat.reduceLT, Nat.reduceSub, Nat.reduceEqDiff]
  repeat' (first | (refine csel_of (fun h => ?_) (fun h => ?_) <;> simp only [h, rb, eES, eEX, Nat.reduceBEq, Int.reduceLE, Int.reduceLT, Int.reduceToNat, Int.reduceEq, ↓reduceIte, reduceCtorEq, Nat.reducePow, Nat.reduceAdd, Nat.reduceLeDiff, Nat.reduceLT, Nat.reduceSub, Nat.reduceEqDiff]) | (refine gsel_t (fun h => ?_) (fun h => ?_) <;> simp only [h, updO, rb, eES, eEX, Nat.reduceBEq, Int.reduceLE, Int.reduceLT, Int.reduceToNat, Int.reduceEq, ↓reduceIte, reduceCtorEq, Nat.reducePow, Nat.reduceAdd, Nat.reduceLeDiff, Nat.reduceLT, Nat.reduceSub, Nat.reduceEqDiff]) | (refine gsel_f (fun h => ?_) (fun h => ?_) <;> simp only [h, updO, rb, eES, eEX, Nat.reduceBEq, Int.reduceLE, Int.reduceLT, Int.reduceToNat, Int.reduceEq, ↓reduceIte, reduceCtorEq, Nat.reducePow, Nat.reduceAdd, Nat.reduceLeDiff, Nat.reduceLT, Nat.reduceSub, Nat.reduceEqDiff]))
  all_goals
    refine awp_loop (SmI P P.progs.length 4) _ ⟨_, _, 0, _, rfl, rfl, (by first | rfl | simp only [eES, eEX, Nat.reduceBEq, Int.reduceLE, Int.reduceLT, Int.reduceToNat, Int.reduceEq, ↓reduceIte, reduceCtorEq, Nat.reducePow, Nat.reduceAdd, Nat.reduceLeDiff, Nat.reduceLT, Nat.reduceSub, Nat.reduceEqDiff]), (by first | rfl | simp only [eES, eEX, Nat.reduceBEq, Int.reduceLE, Int.reduceLT, Int.reduceToNat, Int.reduceEq, ↓reduceIte, reduceCtorEq, Nat.reducePow, Nat.reduceAdd, Nat.reduceLeDiff, Nat.reduceLT, Nat.reduceSub, Nat.reduceEqDiff]), (by first | rfl | simp only [eES, eEX, Nat.reduceBEq, Int.reduceLE, Int.reduceLT, Int.reduceToNat, Int.reduceEq, ↓reduceIte, reduceCtorEq, Nat.reducePow, Nat.reduceAdd, Nat.reduceLeDiff, Nat.reduceLT, Nat.reduceSub, Nat.reduceEqDiff]), (by first | rfl | simp only [eES, eEX, Nat.reduceBEq, Int.reduceLE, Int.reduceLT, Int.reduceToNat, Int.reduceEq, ↓reduceIte, reduceCtorEq, Nat.reducePow, Nat.reduceAdd, Nat.reduceLeDiff, Nat.reduceLT, Nat.reduceSub, Nat.reduceEqDiff])⟩ ?_
    rintro _ st ⟨f, fr, i, b, rfl, rfl, h1, m1, h3, h4⟩
    simp only [l12_0, g12_0, g12_1, g12_2, g12_3, g12_5, g12_4, g12_6, g12_7, g12_9, g12_8, g12_10, r12, o12, List.length_map, h1, m1, h3, h4, eES, eEX, Nat.reduceBEq, Int.reduceLE, Int.reduceLT, Int.reduceToNat, Int.reduceEq, ↓reduceIte, reduceCtorEq, Nat.reducePow, Nat.reduceAdd, Nat.reduceLeDiff, Nat.reduceLT, Nat.reduceSub, Nat.reduceEqDiff]
    by_cases hlt : i < P.progs.length
    · obtain ⟨x, hi⟩ : ∃ x, P.progs[i]? = some x := ⟨P.progs[i], List.getElem?_eq_getElem hlt⟩
      have hg : (P.progs.map gav)[i]? = some (.agg x.cells) := by simp [hi, gav]
      simp only [PG.cells] at hg
      have e1 := wi64_s i _ hlt hP.len1
      cases b <;> simp only [lt_t hlt, nneg, Int.toNat_natCast, aiaddr, List.length_map, hg, h1, m1, h3, h4, e1, rb, eES, eEX, Nat.reduceBEq, Int.reduceLE, Int.reduceLT, Int.reduceToNat, Int.reduceEq, ↓reduceIte, reduceCtorEq, Nat.reducePow, Nat.reduceAdd, Nat.reduceLeDiff, Nat.reduceLT, Nat.reduceSub, Nat.reduceEqDiff]
      · refine small_loop P hP _ _ _ (by first | rfl | exact h1 | simp only [h1, eES, eEX, Nat.reduceBEq, Int.reduceLE, Int.reduceLT, Int.reduceToNat, Int.reduceEq, ↓reduceIte, reduceCtorEq, Nat.reducePow, Nat.reduceAdd, Nat.reduceLeDiff, Nat.reduceLT, Nat.reduceSub, Nat.reduceEqDiff]) m1 (by first | rfl | exact h3 | simp only [h3, eES, eEX, Nat.reduceBEq, Int.reduceLE, Int.reduceLT, Int.reduceToNat, Int.reduceEq, ↓reduceIte, reduceCtorEq, Nat.reducePow, Nat.reduceAdd, Nat.reduceLeDiff, Nat.reduceLT, Nat.reduceSub, Nat.reduceEqDiff]) (by first | rfl | simp only [eES, eEX, Nat.reduceBEq, Int.reduceLE, Int.reduceLT, Int.reduceToNat, Int.reduceEq, ↓reduceIte, reduceCtorEq, Nat.reducePow, Nat.reduceAdd, Nat.reduceLeDiff, Nat.reduceLT, Nat.reduceSub, Nat.reduceEqDiff]) _ (fun f b h3 => ?_)
        simp only [h3, rb, eES, eEX, Nat.reduceBEq, Int.reduceLE, Int.reduceLT, Int.reduceToNat, Int.reduceEq, ↓reduceIte, reduceCtorEq, Nat.reducePow, Nat.reduceAdd, Nat.reduceLeDiff, Nat.reduceLT, Nat.reduceSub, Nat.reduceEqDiff]
      · exact ⟨P.progs.length - (i + 1), by omega, _, _, i + 1, _, rfl, rfl, (by first | rfl | exact h1 | simp only [h1, eES, eEX, Nat.reduceBEq, Int.reduceLE, Int.reduceLT, Int.reduceToNat, Int.reduceEq, ↓reduceIte, reduceCtorEq, Nat.reducePow, Nat.reduceAdd, Nat.reduceLeDiff, Nat.reduceLT, Nat.reduceSub, Nat.reduceEqDiff]), (by first | rfl | exact m1 | simp only [m1, eES, eEX, Nat.reduceBEq, Int.reduceLE, Int.reduceLT, Int.reduceToNat, Int.reduceEq, ↓reduceIte, reduceCtorEq, Nat.reducePow, Nat.reduceAdd, Nat.reduceLeDiff, Nat.reduceLT, Nat.reduceSub, Nat.reduceEqDiff]), (by first | rfl | simp only [eES, eEX, Nat.reduceBEq, Int.reduceLE, Int.reduceLT, Int.reduceToNat, Int.reduceEq, ↓reduceIte, reduceCtorEq, Nat.reducePow, Nat.reduceAdd, Nat.reduceLeDiff, Nat.reduceLT, Nat.reduceSub, Nat.reduceEqDiff]), (by first | rfl | simp only [eES, eEX, Nat.reduceBEq, Int.reduceLE, Int.reduceLT, Int.reduceToNat, Int.reduceEq, ↓reduceIte, reduceCtorEq, Nat.reducePow, Nat.reduceAdd, Nat.reduceLeDiff, Nat.reduceLT, Nat.reduceSub, Nat.reduceEqDiff])⟩
    · cases b <;> simp only [lt_f hlt, List.length_map, h1, m1, h3, h4, rb, eES, eEX, Nat.reduceBEq, Int.reduceLE, Int.reduceLT, Int.reduceToNat, Int.reduceEq, ↓reduceIte, reduceCtorEq, Nat.reducePow, Nat.reduceAdd, Nat.reduceLeDiff, Nat.reduceLT, Nat.reduceSub, Nat.reduceEqDiff]
      all_goals
        refine small_loop P hP _ _ _ (by first | rfl | exact h1 | simp only [h1, eES, eEX, Nat.reduceBEq, Int.reduceLE, Int.reduceLT, Int.reduceToNat, Int.reduceEq, ↓reduceIte, reduceCtorEq, Nat.reducePow, Nat.reduceAdd, Nat.reduceLeDiff, Nat.reduceLT, Nat.reduceSub, Nat.reduceEqDiff]) m1 (by first | rfl | exact h3 | simp only [h3, eES, eEX, Nat.reduceBEq, Int.reduceLE, Int.reduceLT, Int.reduceToNat, Int.reduceEq, ↓reduceIte, reduceCtorEq, Nat.reducePow, Nat.reduceAdd, Nat.reduceLeDiff, Nat.reduceLT, Nat.reduceSub, Nat.reduceEqDiff]) (by first | rfl | simp only [eES, eEX, Nat.reduceBEq, Int.reduceLE, Int.reduceLT, Int.reduceToNat, Int.reduceEq, ↓reduceIte, reduceCtorEq, Nat.reducePow, Nat.reduceAdd, Nat.reduceLeDiff, Nat.reduceLT, Nat.reduceSub, Nat.reduceEqDiff]) _ (fun f b h3 => ?_)
        simp only [h3, rb, eES, eEX, Nat.reduceBEq, Int.reduceLE, Int.reduceLT, Int.reduceToNat, Int.reduceEq, ↓reduceIte, reduceCtorEq, Nat.reducePow, Nat.reduceAdd, Nat.reduceLeDiff, Nat.reduceLT, Nat.reduceSub, Nat.reduceEqDiff]

/-- A number of an array as a word. -/
theorem u64_nat (n : Int) : ∃ b : Nat, IntKind.u64.wrap n = (b : Int) := by
  obtain ⟨b, h⟩ := Int.eq_ofNat_of_zero_le (a := IntKind.u64.wrap n) (by rw [wu64]; omega)
  exact ⟨b, h⟩

theorem nmr_form (s : List UInt8) (L : List PO) : ∃ o b, nmr s L = .tup [oav o, .bool b] := by
  unfold nmr opr
  split <;> exact ⟨_, _, rfl⟩

theorem c4 {M : Nat} (P : PL) (hP : P.ok M) (g : PG) (hg : g.ok M) (s : List UInt8) (a b : Int) : Fn1 Tryz.prog 4 [P.av, .agg g.cells, .str s, .agg [.int .i64 a, .int .i64 b]] (.bool true) := by
  have hS := c12 P hP
  have ct1 := y13 P hP.len1 s
  have ct2 := y14 P hP.len1 s
  have ct3 := y15 g hg.len a
  have ct4 := y16 g hg.len a
  have ct5 := y17 g hg.len s
  have ct6 := y18 g hg.len s
  obtain ⟨w, hw⟩ := u64_nat b
  have ct7 := y19 P hP a w
  have ct8 := y20 P hP a w
  have e0 : P.av = .agg [.list (P.progs.map gav), .list (P.enums.map eav)] := rfl
  have z0 : (0 ≤ (0 : Int)) = True := by simp
  have z1 : Int.toNat 0 = 0 := rfl
  have o0 : (0 ≤ (1 : Int)) = True := by simp
  have o1 : Int.toNat 1 = 1 := rfl
  obtain ⟨x, xb, hx⟩ : ∃ o b, opr (fun o => o.num == a) g.ops = .tup [oav o, .bool b] := ⟨_, _, rfl⟩
  obtain ⟨y, yb, hy⟩ := nmr_form s g.ops
  obtain ⟨i, ib, hi⟩ : ∃ i b, pfr s P.progs = .tup [.int .i64 i, .bool b] := ⟨_, _, rfl⟩
  obtain ⟨c0, hc0⟩ : ∃ c, acp P.enums a w = c := ⟨_, rfl⟩
  rw [hx] at ct3 ct4
  rw [hy] at ct5 ct6
  rw [hi] at ct1 ct2
  rw [hc0] at ct7 ct8
  simp only [e0, gav, PG.cells, oav, PO.cells] at hS ct1 ct2 ct3 ct4 ct5 ct6 ct7 ct8
  refine fn1_of_awp (rc := r4) (rs := o4) Tryz.func4 rfl rfl Tryz.ntmps4 k4 q4 (by simp) ?_
  simp only [g4_0, g4_1, g4_2, g4_3, g4_4, g4_5, g4_6, g4_7, g4_8, g4_9, r4, o4, e0, PG.cells, eES, eEX, Nat.reduceBEq, Int.reduceLE, Int.reduceLT, Int.reduceToNat, Int.reduceEq, ↓reduceIte, reduceCtorEq, Nat.reducePow, Nat.reduceAdd, Nat.reduceLeDiff, Nat.reduceLT, Nat.reduceSub, Nat.reduceEqDiff]
  repeat' (first | (refine csel_of (fun h => ?_) (fun h => ?_) <;> simp only [h, eES, eEX, Nat.reduceBEq, Int.reduceLE, Int.reduceLT, Int.reduceToNat, Int.reduceEq, ↓reduceIte, reduceCtorEq, Nat.reducePow, Nat.reduceAdd, Nat.reduceLeDiff, Nat.reduceLT, Nat.reduceSub, Nat.reduceEqDiff]) | (refine gsel_t (fun h => ?_) (fun h => ?_) <;> simp only [h, updO, eES, eEX, Nat.reduceBEq, Int.reduceLE, Int.reduceLT, Int.reduceToNat, Int.reduceEq, ↓reduceIte, reduceCtorEq, Nat.reducePow, Nat.reduceAdd, Nat.reduceLeDiff, Nat.reduceLT, Nat.reduceSub, Nat.reduceEqDiff]) | (refine gsel_f (fun h => ?_) (fun h => ?_) <;> simp only [h, updO, eES, eEX, Nat.reduceBEq, Int.reduceLE, Int.reduceLT, Int.reduceToNat, Int.reduceEq, ↓reduceIte, reduceCtorEq, Nat.reducePow, Nat.reduceAdd, Nat.reduceLeDiff, Nat.reduceLT, Nat.reduceSub, Nat.reduceEqDiff]) | ((with_reducible apply aops_callR (k := 12) (R := RB)); (case h2 => exact fun _ h => h.rf); (case hy => rfl); (case h1 => rfl); (case hk => exact hS); rintro _ ⟨b, rfl⟩; cases b <;> simp only [eES, eEX, Nat.reduceBEq, Int.reduceLE, Int.reduceLT, Int.reduceToNat, Int.reduceEq, ↓reduceIte, reduceCtorEq, Nat.reducePow, Nat.reduceAdd, Nat.reduceLeDiff, Nat.reduceLT, Nat.reduceSub, Nat.reduceEqDiff]))
  all_goals
    have sp : ∀ a0 a1 a2 a3 a4 a5 a6 a7 b0 b1 b2 b3 b4 b5 b6 b7 : AV, splice [a0, a1, a2, a3, a4, a5, a6, a7] 0 [b0, b1, b2, b3, b4, b5, b6, b7] = [b0, b1, b2, b3, b4, b5, b6, b7] := fun _ _ _ _ _ _ _ _ _ _ _ _ _ _ _ _ => rfl
    have iz : ∀ (m : Mem) (l s o sz : Nat), aiaddr m sz (some 2) (.ptr l s o) 0 = some (.ptr l s o) := fun m l s o sz => by simp [aiaddr]
    have io : ∀ (m : Mem) (l s o : Nat), aiaddr m 1 (some 2) (.ptr l s o) 1 = some (.ptr l s (o + 1)) := fun m l s o => by simp [aiaddr]
    refine aops_call ct1 rfl rfl rfl (.inl rfl) ?_
    simp only [eES, eEX, Nat.reduceBEq, Int.reduceLE, Int.reduceLT, Int.reduceToNat, Int.reduceEq, ↓reduceIte, reduceCtorEq, Nat.reducePow, Nat.reduceAdd, Nat.reduceLeDiff, Nat.reduceLT, Nat.reduceSub, Nat.reduceEqDiff]
    refine aops_call ct2 rfl rfl rfl (.inl rfl) ?_
    simp only [iz, io, eES, eEX, Nat.reduceBEq, Int.reduceLE, Int.reduceLT, Int.reduceToNat, Int.reduceEq, ↓reduceIte, reduceCtorEq, Nat.reducePow, Nat.reduceAdd, Nat.reduceLeDiff, Nat.reduceLT, Nat.reduceSub, Nat.reduceEqDiff]
    refine aops_call ct3 rfl rfl rfl (.inl rfl) ?_
    simp only [sp, iz, io, eES, eEX, Nat.reduceBEq, Int.reduceLE, Int.reduceLT, Int.reduceToNat, Int.reduceEq, ↓reduceIte, reduceCtorEq, Nat.reducePow, Nat.reduceAdd, Nat.reduceLeDiff, Nat.reduceLT, Nat.reduceSub, Nat.reduceEqDiff]
    refine aops_call ct4 rfl rfl rfl (.inl rfl) ?_
    simp only [sp, iz, io, eES, eEX, Nat.reduceBEq, Int.reduceLE, Int.reduceLT, Int.reduceToNat, Int.reduceEq, ↓reduceIte, reduceCtorEq, Nat.reducePow, Nat.reduceAdd, Nat.reduceLeDiff, Nat.reduceLT, Nat.reduceSub, Nat.reduceEqDiff]
    refine aops_call ct5 rfl rfl rfl (.inl rfl) ?_
    simp only [sp, iz, io, eES, eEX, Nat.reduceBEq, Int.reduceLE, Int.reduceLT, Int.reduceToNat, Int.reduceEq, ↓reduceIte, reduceCtorEq, Nat.reducePow, Nat.reduceAdd, Nat.reduceLeDiff, Nat.reduceLT, Nat.reduceSub, Nat.reduceEqDiff]
    refine aops_call ct6 rfl rfl rfl (.inl rfl) ?_
    simp only [sp, iz, io, beq_self_eq_true, hw, eES, eEX, Nat.reduceBEq, Int.reduceLE, Int.reduceLT, Int.reduceToNat, Int.reduceEq, ↓reduceIte, reduceCtorEq, Nat.reducePow, Nat.reduceAdd, Nat.reduceLeDiff, Nat.reduceLT, Nat.reduceSub, Nat.reduceEqDiff]
    refine aops_call ct7 rfl rfl rfl (.inl rfl) ?_
    simp only [iz, io, hw, eES, eEX, Nat.reduceBEq, Int.reduceLE, Int.reduceLT, Int.reduceToNat, Int.reduceEq, ↓reduceIte, reduceCtorEq, Nat.reducePow, Nat.reduceAdd, Nat.reduceLeDiff, Nat.reduceLT, Nat.reduceSub, Nat.reduceEqDiff]
    refine aops_call ct8 rfl rfl rfl (.inl rfl) ?_
    simp only [beq_self_eq_true, eES, eEX, Nat.reduceBEq, Int.reduceLE, Int.reduceLT, Int.reduceToNat, Int.reduceEq, ↓reduceIte, reduceCtorEq, Nat.reducePow, Nat.reduceAdd, Nat.reduceLeDiff, Nat.reduceLT, Nat.reduceSub, Nat.reduceEqDiff]
    refine aops_call Ev.awake_ok rfl rfl rfl (.inl rfl) ?_
    simp only [eES, eEX, Nat.reduceBEq, Int.reduceLE, Int.reduceLT, Int.reduceToNat, Int.reduceEq, ↓reduceIte, reduceCtorEq, Nat.reducePow, Nat.reduceAdd, Nat.reduceLeDiff, Nat.reduceLT, Nat.reduceSub, Nat.reduceEqDiff]

end Go.Proofs.YtkjjfbknppahhaaGreatDoor.Va

/- An argument that is an array of two numbers: opened and shut. -/
namespace Go.Proofs.YtkjjfbknppahhaaGreatDoor.Br
open Go Am Go.RowKit Go.WideShapes Go.ChangeShapes Go.ChangeAt

section
variable {H : Type} {enc : TypeId × Value → H} {P : Program} {W : World} {base : Nat} {sp : Nat → Bool} {held : Bool}

theorem open_pair {t e : TypeId} {k : IntKind} {r : Reach} {b0 : Nat} {v : Value} {d : DataW H} {ps : List MemPlace} (ht : P.underlying t = some (.array 2 e)) (he : P.underlying e = some (.int k)) (hc : P.cellsOf e = 1) (hct : P.cellsOf t = 2)
    (hval : Value.okWide P W r b0 t v) (hd : DataW.Trod enc P W base sp held t v d ps) :
    ∃ a b : Int, v = .agg #[.int k a, .int k b] ∧ d = .agg [.lit (.int k a), .lit (.int k b)] ∧ ps = [] ∧ (Lit.int k a).wf = true ∧ (Lit.int k b).wf = true := by
  simp only [Value.okWide, ht] at hval
  obtain ⟨cs, rfl, h2, _⟩ := hval
  obtain ⟨fuel, hf⟩ := hd
  cases fuel with
  | zero => simp [DataW.trod] at hf
  | succ m =>
    rw [DataW.trod_step] at hf
    unfold DataW.trodStep at hf
    simp only [ht, Value.cells, hc] at hf
    rw [hct] at h2
    obtain ⟨l⟩ := cs
    obtain ⟨x, y, rfl⟩ : ∃ x y, l = [x, y] := by
      match l, h2 with
      | [x, y], _ => exact ⟨x, y, rfl⟩
    rw [if_pos (by rw [hct]; rfl)] at hf
    simp only [Option.map_eq_some_iff] at hf
    obtain ⟨ys, hy, e1⟩ := hf
    rw [show List.range 2 = [0, 1] from rfl] at hy
    simp only [List.mapM_cons, List.mapM_nil, bind, pure, Option.bind_eq_some_iff, Option.some.injEq] at hy
    obtain ⟨z0, hz0, z1, ⟨z2, hz2, z3, h3, rfl⟩, rfl⟩ := hy
    subst h3
    obtain ⟨a, ea, rfl, wa⟩ := DataW.trod_int he hz0
    obtain ⟨b, eb, rfl, wb⟩ := DataW.trod_int he hz2
    simp only [Prod.mk.injEq] at e1
    simp at ea eb
    subst ea eb
    exact ⟨a, b, rfl, by rw [← e1.1]; rfl, by rw [← e1.2]; rfl, wa, wb⟩

theorem shut_pair {t e : TypeId} {k : IntKind} {a b : Int} (ht : P.underlying t = some (.array 2 e)) (he : P.underlying e = some (.int k)) (hc : P.cellsOf e = 1) (hct : P.cellsOf t = 2)
    (wa : (Lit.int k a).wf = true) (wb : (Lit.int k b).wf = true) : DataW.Trod enc P W base sp held t (.agg #[.int k a, .int k b]) (.agg [.lit (.int k a), .lit (.int k b)]) [] := by
  have h : ∀ n : Int, (Lit.int k n).wf = true → DataW.trod enc P W base sp held 1 e [.int k n] = some (.lit (.int k n), []) := fun n hn => by simp [DataW.trod, he, hn]
  refine ⟨2, ?_⟩
  rw [DataW.trod_step]
  unfold DataW.trodStep
  simp only [ht, Value.cells, hc]
  rw [if_pos (by rw [hct]; rfl), show List.range 2 = [0, 1] from rfl]
  simp [h a wa, h b wb]

theorem okWide_pair_rep {G : Gh} {k : IntKind} {a b : Int} : Rep G (.agg [.int k a, .int k b]) (.agg #[.int k a, .int k b]) := .agg (.cons (.int _ _) (.cons (.int _ _) .nil))

end

end Go.Proofs.YtkjjfbknppahhaaGreatDoor.Br

/- Plain laws of varints: lists of bytes and numbers, no program in sight. -/
namespace Go.Proofs.YtkjjfbknppahhaaGreatDoor.Vp

/-- The varint of u, of at most k + 1 groups. -/
def vput : Nat → Nat → List UInt8
  | 0, u => [UInt8.ofNat u]
  | k + 1, u => if u < 128 then [UInt8.ofNat u] else UInt8.ofNat (u % 128 + 128) :: vput k (u / 128)

def put (u : Nat) : List UInt8 := vput 9 u

/-- Reading a varint: the i-th byte is next, acc has been read. The number, the length, the error. -/
def vtk : Nat → Nat → List UInt8 → Nat × Nat × Nat
  | _, _, [] => (0, 0, 4)
  | i, acc, c :: t =>
    if i = 9 ∧ 1 < c.toNat then (0, 0, 6)
    else if c.toNat < 128 then (acc + c.toNat * 128 ^ i, i + 1, 0)
    else vtk (i + 1) (acc + (c.toNat - 128) * 128 ^ i) t

def take (s : List UInt8) : Nat × Nat × Nat := vtk 0 0 s

theorem toNat_ofNat (n : Nat) (h : n < 256) : (UInt8.ofNat n).toNat = n := by
  simp [UInt8.toNat_ofNat']; omega

theorem vput_ne (k u : Nat) : vput k u ≠ [] := by
  cases k with
  | zero => simp [vput]
  | succ k => unfold vput; split <;> simp

theorem vput_len (k u : Nat) : 1 ≤ (vput k u).length ∧ (vput k u).length ≤ k + 1 := by
  induction k generalizing u with
  | zero => simp [vput]
  | succ k ih =>
    unfold vput
    split
    · simp
    · have := ih (u / 128); simp; omega

theorem put_len (u : Nat) : 1 ≤ (put u).length ∧ (put u).length ≤ 10 := vput_len 9 u

theorem vput_small (k u : Nat) (h : u < 128) : vput k u = [UInt8.ofNat u] := by
  cases k <;> simp [vput, h]

theorem vput_big (k u : Nat) (h : ¬ u < 128) : vput (k + 1) u = UInt8.ofNat (u % 128 + 128) :: vput k (u / 128) := by
  simp [vput, h]

theorem vput_mono (k u v : Nat) (h : u ≤ v) : (vput k u).length ≤ (vput k v).length := by
  induction k generalizing u v with
  | zero => simp [vput]
  | succ k ih =>
    by_cases hu : u < 128
    · rw [vput_small _ _ hu]; exact (vput_len (k + 1) v).1
    · have hv : ¬ v < 128 := by omega
      rw [vput_big _ _ hu, vput_big _ _ hv]
      have := ih (u / 128) (v / 128) (by omega)
      simp; omega

/-- More groups allowed than needed: the same varint. -/
theorem vput_more (k j u : Nat) (h : u < 128 ^ (k + 1)) (hj : k ≤ j) : vput j u = vput k u := by
  induction k generalizing j u with
  | zero =>
    have hu : u < 128 := by simpa using h
    rw [vput_small _ _ hu, vput_small _ _ hu]
  | succ k ih =>
    obtain ⟨j, rfl⟩ : ∃ i, j = i + 1 := ⟨j - 1, by omega⟩
    by_cases hu : u < 128
    · rw [vput_small _ _ hu, vput_small _ _ hu]
    · rw [vput_big _ _ hu, vput_big _ _ hu, ih j (u / 128) _ (by omega)]
      rw [Nat.pow_succ] at h
      omega

/-- The bound of what the groups from the i-th on can hold. -/
def room (i : Nat) : Nat := 2 ^ (64 - 7 * i)

theorem room_succ (i u : Nat) (hi : i < 9) (h : u < room i) : u / 128 < room (i + 1) := by
  unfold room at *
  have e : 64 - 7 * i = (64 - 7 * (i + 1)) + 7 := by omega
  rw [e, Nat.pow_add] at h
  omega

theorem vtk_put (k i acc u : Nat) (t : List UInt8) (hk : k + i = 9) (hu : u < room i) :
    vtk i acc (vput k u ++ t) = (acc + u * 128 ^ i, i + (vput k u).length, 0) := by
  induction k generalizing i acc u with
  | zero =>
    obtain rfl : i = 9 := by omega
    have hu2 : u < 2 := by simpa [room] using hu
    have hc := toNat_ofNat u (by omega)
    simp only [vput, List.cons_append, List.nil_append, vtk, hc]
    rw [if_neg (by omega), if_pos (by omega)]
    rfl
  | succ k ih =>
    by_cases h : u < 128
    · have hc := toNat_ofNat u (by omega)
      rw [vput_small _ _ h]
      simp only [List.cons_append, List.nil_append, vtk, hc]
      rw [if_neg (by omega), if_pos h]
      rfl
    · have hc := toNat_ofNat (u % 128 + 128) (by omega)
      rw [vput_big _ _ h]
      simp only [List.cons_append, vtk, hc]
      rw [if_neg (by omega), if_neg (by omega), ih (i + 1) _ (u / 128) (by omega) (room_succ i u (by omega) hu)]
      have e : acc + (u % 128 + 128 - 128) * 128 ^ i + u / 128 * 128 ^ (i + 1) = acc + u * 128 ^ i := by
        rw [Nat.pow_succ, Nat.add_sub_cancel, Nat.add_assoc, Nat.mul_comm (128 ^ i) 128, ← Nat.mul_assoc, ← Nat.add_mul]
        congr 2; omega
      rw [e]
      simp only [List.length_cons, Prod.mk.injEq, true_and, and_true]
      omega

theorem take_put (u : Nat) (t : List UInt8) (h : u < 2 ^ 64) : take (put u ++ t) = (u, (put u).length, 0) := by
  have := vtk_put 9 0 0 u t rfl (by simpa [room] using h)
  simpa [take, put] using this

theorem vtk_err (i acc : Nat) (s : List UInt8) : (vtk i acc s).2.2 = 0 ∨ (vtk i acc s).2.2 = 4 ∨ (vtk i acc s).2.2 = 6 := by
  induction s generalizing i acc with
  | nil => simp [vtk]
  | cons c t ih =>
    unfold vtk
    split
    · simp
    · split
      · simp
      · exact ih _ _

theorem vtk_zero (i acc : Nat) (s : List UInt8) (h : (vtk i acc s).2.2 ≠ 0) : (vtk i acc s).1 = 0 ∧ (vtk i acc s).2.1 = 0 := by
  induction s generalizing i acc with
  | nil => simp [vtk]
  | cons c t ih =>
    unfold vtk at h ⊢
    split
    · simp
    · rename_i h1
      rw [if_neg h1] at h
      split
      · rename_i h2; simp [h2] at h
      · rename_i h2
        rw [if_neg h2] at h
        exact ih _ _ h

/-- How far a number reads, and its bounds. -/
theorem vtk_bounds (i acc : Nat) (s : List UInt8) (hi : i ≤ 9) (ha : acc < 128 ^ i) (h : (vtk i acc s).2.2 = 0) :
    i < (vtk i acc s).2.1 ∧ (vtk i acc s).2.1 ≤ i + s.length ∧ (vtk i acc s).2.1 ≤ 10 ∧ (vtk i acc s).1 < 2 ^ 64 := by
  induction s generalizing i acc with
  | nil => simp [vtk] at h
  | cons c t ih =>
    unfold vtk at h ⊢
    split
    · rename_i h1; rw [if_pos h1] at h; simp at h
    · rename_i h1
      rw [if_neg h1] at h
      have hp : 128 ^ i = 2 ^ (7 * i) := by rw [show (128 : Nat) = 2 ^ 7 from rfl, ← Nat.pow_mul]
      split
      · rename_i h2
        refine ⟨Nat.lt_succ_self i, by simp, by show i + 1 ≤ 10; omega, ?_⟩
        show acc + c.toNat * 128 ^ i < 2 ^ 64
        rcases Nat.lt_or_ge i 9 with h9 | h9
        · have : c.toNat * 128 ^ i ≤ 127 * 128 ^ i := Nat.mul_le_mul_right _ (by omega)
          have h3 : acc + c.toNat * 128 ^ i < 128 ^ (i + 1) := by rw [Nat.pow_succ]; omega
          have h4 : 128 ^ (i + 1) ≤ 128 ^ 9 := Nat.pow_le_pow_right (by omega) (by omega)
          omega
        · obtain rfl : i = 9 := by omega
          have : c.toNat ≤ 1 := by omega
          omega
      · rename_i h2
        rw [if_neg h2] at h
        have h9 : i < 9 := by
          rcases Nat.lt_or_ge i 9 with h9 | h9
          · exact h9
          · exact absurd ⟨by omega, by omega⟩ h1
        have hc := c.toNat_lt
        have h3 : acc + (c.toNat - 128) * 128 ^ i < 128 ^ (i + 1) := by
          have : (c.toNat - 128) * 128 ^ i ≤ 127 * 128 ^ i := Nat.mul_le_mul_right _ (by omega)
          rw [Nat.pow_succ]; omega
        obtain ⟨a, b, d, e⟩ := ih (i + 1) _ (by omega) h3 h
        exact ⟨by omega, by simp; omega, d, e⟩

theorem take_bounds (s : List UInt8) (h : (take s).2.2 = 0) : 0 < (take s).2.1 ∧ (take s).2.1 ≤ s.length ∧ (take s).2.1 ≤ 10 ∧ (take s).1 < 2 ^ 64 := by
  have := vtk_bounds 0 0 s (by omega) (by omega) h
  simpa [take] using this

/-- What is read does not depend on what follows the bytes that were read. -/
theorem vtk_append (i acc : Nat) (s t : List UInt8) (h : (vtk i acc s).2.2 ≠ 4) : vtk i acc (s ++ t) = vtk i acc s := by
  induction s generalizing i acc with
  | nil => simp [vtk] at h
  | cons c r ih =>
    simp only [List.cons_append]
    unfold vtk at h ⊢
    split
    · rfl
    · rename_i h1
      rw [if_neg h1] at h
      split
      · rfl
      · rename_i h2
        rw [if_neg h2] at h
        exact ih _ _ h

/-- Ten bytes are enough. -/
theorem vtk_ten (i acc : Nat) (s : List UInt8) (hi : i ≤ 9) (hl : 10 ≤ i + s.length) : (vtk i acc s).2.2 ≠ 4 := by
  induction s generalizing i acc with
  | nil => simp at hl; omega
  | cons c r ih =>
    unfold vtk
    split
    · simp
    · rename_i h1
      split
      · simp
      · rename_i h2
        exact ih _ _ (by omega) (by simp at hl; omega)

theorem take_take (s : List UInt8) : take (s.take 10) = take s := by
  rcases Nat.lt_or_ge s.length 10 with h | h
  · rw [List.take_of_length_le (by omega)]
  · have := vtk_append 0 0 (s.take 10) (s.drop 10) (vtk_ten 0 0 _ (by omega) (by simp; omega))
    rw [List.take_append_drop] at this
    exact this.symm

/-- All bytes read: the number's groups; zero only if the last byte is; the shortest form only if the last byte is not zero (or the only one). -/
theorem vtk_all (i acc : Nat) (s : List UInt8) (k : Nat) (hk : k + i = 9) (h : (vtk i acc s).2.2 = 0) (hn : (vtk i acc s).2.1 = i + s.length) :
    ∃ v, (vtk i acc s).1 = acc + v * 128 ^ i ∧ (v = 0 → s.getLast? = some 0) ∧ (s.length = 1 → s.getLast? = some (UInt8.ofNat v) ∧ v < 128) ∧
      (vput k v = s ↔ (s.length = 1 ∨ s.getLast? ≠ some 0)) := by
  induction s generalizing i acc k with
  | nil => simp [vtk] at h
  | cons c t ih =>
    unfold vtk at h hn ⊢
    split
    · rename_i h1; rw [if_pos h1] at h; simp at h
    · rename_i h1
      rw [if_neg h1] at h hn
      split
      · rename_i h2
        rw [if_pos h2] at hn
        have ht : t = [] := by
          have : t.length = 0 := by
            have hn' : i + 1 = i + (t.length + 1) := hn
            omega
          exact List.eq_nil_of_length_eq_zero this
        subst ht
        have hc : UInt8.ofNat c.toNat = c := by simp
        refine ⟨c.toNat, rfl, fun h0 => by simp; exact UInt8.toNat.inj (by simpa using h0), fun _ => ⟨by simp, h2⟩, ?_⟩
        rw [vput_small _ _ h2, hc]
        simp
      · rename_i h2
        rw [if_neg h2] at h hn
        have h9 : i < 9 := by
          rcases Nat.lt_or_ge i 9 with h9 | h9
          · exact h9
          · exact absurd ⟨by omega, by omega⟩ h1
        obtain ⟨k, rfl⟩ : ∃ j, k = j + 1 := ⟨k - 1, by omega⟩
        obtain ⟨v, e, z, one, sh⟩ := ih (i + 1) _ k (by omega) h (by rw [hn, List.length_cons]; omega)
        have hcl := c.toNat_lt
        have htn : t ≠ [] := by rintro rfl; simp [vtk] at h
        have hlast : (c :: t).getLast? = t.getLast? := by
          cases t with
          | nil => exact absurd rfl htn
          | cons d t => simp
        have hlen : (c :: t).length ≠ 1 := by
          cases t with
          | nil => exact absurd rfl htn
          | cons d t => simp
        refine ⟨(c.toNat - 128) + v * 128, ?_, ?_, fun hl => absurd hl hlen, ?_⟩
        · rw [e, Nat.pow_succ, Nat.add_mul, Nat.mul_comm (128 ^ i) 128, ← Nat.mul_assoc, Nat.add_assoc]
        · intro h0; rw [hlast]; exact z (by omega)
        · rw [hlast]
          simp only [hlen, false_or]
          by_cases hv : v = 0
          · have := z hv
            rw [vput_small _ _ (by omega), this]
            simp
            intro _
            exact htn
          · rw [vput_big _ _ (by omega)]
            have e1 : (c.toNat - 128 + v * 128) % 128 + 128 = c.toNat := by omega
            have e2 : (c.toNat - 128 + v * 128) / 128 = v := by omega
            rw [e1, e2]
            have hc : UInt8.ofNat c.toNat = c := by simp
            rw [hc]
            simp only [List.cons.injEq, true_and]
            rw [sh]
            constructor
            · rintro (h1 | h1)
              · obtain ⟨hl, hv'⟩ := one h1
                rw [hl]
                intro h0
                simp at h0
                have := congrArg UInt8.toNat h0
                rw [toNat_ofNat _ (by omega)] at this
                exact hv this
              · exact h1
            · exact fun h1 => .inr h1

theorem put_take (s : List UInt8) (h : (take s).2.2 = 0) (hn : (take s).2.1 = s.length) : put (take s).1 = s ↔ (s.length = 1 ∨ s.getLast? ≠ some 0) := by
  obtain ⟨v, e, _, _, sh⟩ := vtk_all 0 0 s 9 rfl h (by simpa [take] using hn)
  have : (take s).1 = v := by simpa [take] using e
  rw [this]; exact sh

/-- The shortest form. -/
def short (s : List UInt8) : Bool := (take s).2.2 == 0 && (take s).2.1 == s.length && decide (put (take s).1 = s)

theorem short_put (u : Nat) (h : u < 2 ^ 64) : short (put u) = true := by
  have := take_put u [] h
  rw [List.append_nil] at this
  simp [short, this]

/-- What the law says of any bytes. -/
theorem round_trip (u : Nat) (s : List UInt8) (h : u < 2 ^ 64) (hp : put (take s).1 = put u) : short s = decide (s = put u) := by
  by_cases hs : s = put u
  · subst hs; rw [short_put u h]; simp
  · have : short s = false := by
      cases hsh : short s with
      | false => rfl
      | true =>
        simp [short] at hsh
        exact absurd (hsh.2.symm.trans hp) hs
    rw [this]; simp [hs]

end Go.Proofs.YtkjjfbknppahhaaGreatDoor.Vp

/- Cursors, as plain data: what each function of the package computes. -/
namespace Go.Proofs.YtkjjfbknppahhaaGreatDoor.Cp
open Go Am Bt Vp

/-- A cursor. -/
structure C where
  d : List UInt8
  a : Int
  e : Int
  dp : Int
  nd : Int
  tx : Int

def C.av (c : C) : AV := .agg [.str c.d, .int .i64 c.a, .int .i64 c.e, .int .i64 c.dp, .int .i64 c.nd, .int .i64 c.tx]
def zc : C := ⟨[], 0, 0, 0, 0, 0⟩

/-- Limits. -/
structure L where
  b : Int
  dp : Int
  nd : Int
  tx : Int
def L.av (l : L) : AV := .agg [.int .i64 l.b, .int .i64 l.dp, .int .i64 l.nd, .int .i64 l.tx]

def C.sound (c : C) : Bool := decide (0 ≤ c.a) && decide (c.a ≤ c.e) && decide (c.e ≤ (c.d.length : Int))
def C.rest (c : C) : List UInt8 := bif c.sound then (c.d.drop c.a.toNat).take (c.e.toNat - c.a.toNat) else []
def C.left (c : C) : Int := (c.rest.length : Int)
def C.ahead (c : C) (n : Int) : C := { c with a := IntKind.i64.wrap (c.a + n) }

def opn (s : List UInt8) (l : L) : C × Nat :=
  if l.b < 0 ∨ l.dp < 0 ∨ l.nd < 0 ∨ l.tx < 0 then (zc, 1) else if l.b < (s.length : Int) then (zc, 3) else (⟨s, 0, s.length, l.dp, l.nd, l.tx⟩, 0)

/-- A number read at a cursor. -/
def C.varint (c : C) : Nat × C × Nat :=
  let r := Vp.take c.rest
  if r.2.2 = 0 then (r.1, c.ahead r.2.1, 0) else (0, c, r.2.2)

def fix8 (s : List UInt8) : Nat := (s.take 8).foldr (fun b u => 256 * u + b.toNat) 0

def C.fixed (c : C) : Nat × C × Nat :=
  if c.rest.length < 8 then (0, c, 4) else (fix8 c.rest, c.ahead 8, 0)

def C.spend (c : C) (n : Int) : C × Nat :=
  if n < 0 then (c, 1) else if c.nd < n then (c, 3) else ({ c with nd := IntKind.i64.wrap (c.nd - n) }, 0)

def ncav (r : Nat × C × Nat) : AV := .tup [.int .u64 (r.1 : Nat), r.2.1.av, .int .i64 (r.2.2 : Nat)]
def cav (r : C × Nat) : AV := .tup [r.1.av, .int .i64 (r.2 : Nat)]

theorem C.sound_iff (c : C) : c.sound = true ↔ 0 ≤ c.a ∧ c.a ≤ c.e ∧ c.e ≤ (c.d.length : Int) := by
  simp [C.sound, and_assoc]

theorem C.rest_len (c : C) : c.left = if c.sound = true then c.e - c.a else 0 := by
  unfold C.left C.rest
  split
  · rename_i h
    rw [h]
    have := (C.sound_iff c).1 h
    simp
    omega
  · rename_i h
    have h : c.sound = false := by simpa using h
    rw [h]; rfl

theorem C.rest_of {c : C} (h : c.sound = true) : c.rest = (c.d.drop c.a.toNat).take (c.e.toNat - c.a.toNat) := by
  unfold C.rest; rw [h]; rfl

theorem C.rest_no {c : C} (h : c.sound = false) : c.rest = [] := by
  unfold C.rest; rw [h]; rfl

/-- The first bytes that are left. -/
theorem C.head_of {c : C} (h : c.sound = true) (n : Nat) (k : Int) (hk : k = if c.a + n < c.e then c.a + n else c.e) : c.rest.take n = (c.d.drop c.a.toNat).take (k.toNat - c.a.toNat) := by
  have hs := (C.sound_iff c).1 h
  rw [C.rest_of h, List.take_take]
  congr 1
  split at hk <;> omega

end Go.Proofs.YtkjjfbknppahhaaGreatDoor.Cp

/- Raw fields, as plain data: what each function of the package computes. -/
namespace Go.Proofs.YtkjjfbknppahhaaGreatDoor.Up
open Go Am Bt Vp Cp

/-- A raw field. -/
structure R where
  num : Int
  wire : Int
  bits : Nat
  data : List UInt8
  deriving DecidableEq

def R.av (f : R) : AV := .agg [.int .i64 f.num, .int .i64 f.wire, .int .u64 (f.bits : Nat), .str f.data]
def zr : R := ⟨0, 0, 0, []⟩

def tag (num wire : Int) : List UInt8 × Nat :=
  if num < 1 ∨ 65535 < num ∨ wire < 0 ∨ 6 < wire then ([], 6) else (Vp.put (num * 8 + wire).toNat, 0)
def tagv (r : List UInt8 × Nat) : AV := .tup [.str r.1, .int .i64 (r.2 : Nat)]

def takeTag (c : C) : Int × Int × C × Nat :=
  let r := c.varint
  if r.2.2 = 0 then
    if r.1 % 8 = 7 then (0, 0, c, 5) else if r.1 / 8 < 1 ∨ 65535 < r.1 / 8 then (0, 0, c, 6) else ((r.1 / 8 : Nat), (r.1 % 8 : Nat), r.2.1, 0)
  else (0, 0, c, r.2.2)
def ttv (r : Int × Int × C × Nat) : AV := .tup [.int .i64 r.1, .int .i64 r.2.1, r.2.2.1.av, .int .i64 (r.2.2.2 : Nat)]

def number (wire : Int) : Bool := wire == 0 || wire == 1 || wire == 2

/-- A length and as many bytes. -/
def dat (c : C) (wire : Int) : List UInt8 × C × Nat :=
  let r := c.varint
  if r.2.2 = 0 then
    if r.2.1.left < (r.1 : Int) then ([], c, 4)
    else if (if wire = 3 then c.tx else 65536) < (r.1 : Int) then ([], c, 3)
    else ((r.2.1.d.drop r.2.1.a.toNat).take r.1, r.2.1.ahead r.1, 0)
  else ([], c, r.2.2)
def datv (r : List UInt8 × C × Nat) : AV := .tup [.str r.1, r.2.1.av, .int .i64 (r.2.2 : Nat)]

/-- The contents of a field. -/
def cont (c : C) (f : R) : R × C × Nat :=
  if f.wire = 2 then ({ f with bits := c.fixed.1 }, c.fixed.2.1, c.fixed.2.2)
  else if f.wire = 0 ∨ f.wire = 1 then ({ f with bits := c.varint.1 }, c.varint.2.1, c.varint.2.2)
  else ({ f with data := (dat c f.wire).1 }, (dat c f.wire).2.1, (dat c f.wire).2.2)

/-- A raw field read at a cursor. -/
def nxt (c : C) : R × C × Nat :=
  let t := takeTag c
  if t.2.2.2 = 0 then
    let s := t.2.2.1.spend 1
    if s.2 = 0 then
      let k := cont s.1 { num := t.1, wire := t.2.1, bits := 0, data := [] }
      if k.2.2 = 0 then k else (zr, c, k.2.2)
    else (zr, c, s.2)
  else (zr, c, t.2.2.2)
def nxtv (r : R × C × Nat) : AV := .tup [r.1.av, r.2.1.av, .int .i64 (r.2.2 : Nat)]

theorem rest_snd {c : C} (h : c.rest ≠ []) : c.sound = true := by
  cases hs : c.sound with
  | true => rfl
  | false => exact absurd (C.rest_no hs) h

/-- Behind a number that was read the cursor is sound. -/
theorem varint_next {c : C} (hl : c.d.length ≤ 9223372036854775807) (h : c.varint.2.2 = 0) : ∃ n : Nat, 0 < n ∧ n ≤ 10 ∧ (n : Int) ≤ c.left ∧ c.varint.2.1 = { c with a := c.a + n } ∧ c.sound = true ∧ c.varint.2.1.sound = true ∧ c.varint.1 < 2 ^ 64 := by
  unfold C.varint at h ⊢
  have hb := take_bounds c.rest
  generalize Vp.take c.rest = r at h hb ⊢
  obtain ⟨u, n, e⟩ := r
  simp only at h hb ⊢
  split at h
  · rename_i he
    subst he
    obtain ⟨h1, h2, h3, h4⟩ := hb rfl
    have hne : c.rest ≠ [] := by intro e; rw [e] at h2; simp at h2; omega
    have hs := rest_snd hne
    have hs' := (C.sound_iff c).1 hs
    have hle := c.rest_len
    rw [if_pos hs] at hle
    have hw : IntKind.i64.wrap (c.a + (n : Int)) = c.a + n := by
      have : (n : Int) ≤ c.left := by unfold C.left; omega
      rw [wi64]; omega
    have hnl : (n : Int) ≤ c.left := by unfold C.left; omega
    refine ⟨n, h1, h3, hnl, ?_, hs, ?_, ?_⟩
    · rw [if_pos rfl]; simp only [C.ahead, hw]
    · rw [if_pos rfl]
      rw [C.sound_iff]
      simp only [C.ahead, hw]
      omega
    · rw [if_pos rfl]; exact h4
  · rename_i he; exact absurd h he

end Go.Proofs.YtkjjfbknppahhaaGreatDoor.Up

/- Raw fields as arguments. -/
namespace Go.Proofs.YtkjjfbknppahhaaGreatDoor.Br
open Go Am Up

theorem has_raw {M k : Nat} {cs : List AV} (h : Has Tryz.prog M k 111 cs) : ∃ f : R, ((Lit.int .i64 f.num).wf = true ∧ (Lit.int .i64 f.wire).wf = true ∧ (Lit.int .u64 (f.bits : Int)).wf = true ∧ f.data.length ≤ M) ∧ .agg cs = f.av := by
  obtain ⟨k, h⟩ := has_struct Tryz.underlying111 h
  simp only [Has.HasL] at h
  obtain ⟨_, _, rfl, h0, _, _, rfl, h1, _, _, rfl, h2, _, _, rfl, h3, rfl⟩ := h
  obtain ⟨a0, rfl, w0⟩ := has_int Tryz.underlying3 h0
  obtain ⟨a1, rfl, w1⟩ := has_int Tryz.underlying3 h1
  obtain ⟨a2, rfl, w2⟩ := has_int Tryz.underlying24 h2
  obtain ⟨a3, rfl, w3⟩ := has_str Tryz.underlying9 h3
  have hn : 0 ≤ a2 := u64_lo w2
  obtain ⟨n, rfl⟩ := Int.eq_ofNat_of_zero_le hn
  exact ⟨⟨a0, a1, n, a3⟩, ⟨w0, w1, w2, w3⟩, rfl⟩

end Go.Proofs.YtkjjfbknppahhaaGreatDoor.Br

/- Values as arguments: what their cells are. -/
set_option linter.unusedSimpArgs false
namespace Go.Proofs.YtkjjfbknppahhaaGreatDoor.Br
open Go Am Up

/-- The cells of a value. -/
def vcs (k b : Int) (t : List UInt8) (l p s : List AV) (r : List R) : List AV := [.int .i64 k, .int .u64 b, .str t, .list l, .list p, .list s, .list (r.map R.av)]

structure rok (f : R) : Prop where
  num : (Lit.int .i64 f.num).wf = true
  wire : (Lit.int .i64 f.wire).wf = true
  bits : (Lit.int .u64 (f.bits : Int)).wf = true
  data : f.data.length ≤ maxLen

/-- Cells of a value, as deep as it goes. -/
def IsV : Nat → List AV → Prop
  | 0, _ => False
  | n + 1, cs => ∃ (k b : Int) (t : List UInt8) (ls : List (List AV)) (ps : List (List AV × List AV)) (ss : List (Int × List AV)) (rs : List R), cs = vcs k b t (ls.map .agg) (ps.map fun p => .agg (p.1 ++ p.2)) (ss.map fun s => .agg (.int .i64 s.1 :: s.2)) rs ∧
      (Lit.int .i64 k).wf = true ∧ (Lit.int .u64 b).wf = true ∧ t.length ≤ maxLen ∧ ls.length ≤ maxLen ∧ ps.length ≤ maxLen ∧ ss.length ≤ maxLen ∧ rs.length ≤ maxLen ∧
      (∀ c ∈ ls, IsV n c) ∧ (∀ p ∈ ps, IsV n p.1 ∧ IsV n p.2) ∧ (∀ s ∈ ss, (Lit.int .i64 s.1).wf = true ∧ IsV n s.2) ∧ ∀ r ∈ rs, rok r

theorem isV_mono : ∀ {n m : Nat} {cs : List AV}, n ≤ m → IsV n cs → IsV m cs
  | 0, _, _, _, h => h.elim
  | n + 1, 0, _, h, _ => by omega
  | n + 1, m + 1, cs, hnm, h => by
    obtain ⟨k, b, t, ls, ps, ss, rs, e, h1, h2, h3, h4, h5, h6, h7, h8, h9, h10, h11⟩ := h
    have hl : n ≤ m := by omega
    exact ⟨k, b, t, ls, ps, ss, rs, e, h1, h2, h3, h4, h5, h6, h7, fun c hc => isV_mono hl (h8 c hc), fun p hp => ⟨isV_mono hl (h9 p hp).1, isV_mono hl (h9 p hp).2⟩, fun s hs => ⟨(h10 s hs).1, isV_mono hl (h10 s hs).2⟩, h11⟩

theorem isV_len {n : Nat} {cs : List AV} (h : IsV n cs) : cs.length = 7 := by
  cases n with
  | zero => exact h.elim
  | succ n =>
    obtain ⟨k, b, t, ls, ps, ss, rs, rfl, _⟩ := h
    rfl

/-- The same bound for all of a list. -/
theorem isV_bound {l : List (List AV)} (h : ∀ c ∈ l, ∃ n, IsV n c) : ∃ n, ∀ c ∈ l, IsV n c := by
  induction l with
  | nil => exact ⟨0, by simp⟩
  | cons c l ih =>
    obtain ⟨n, hn⟩ := ih fun x hx => h x (by simp [hx])
    obtain ⟨m, hm⟩ := h c (by simp)
    refine ⟨max n m, fun x hx => ?_⟩
    rcases List.mem_cons.1 hx with rfl | hx
    · exact isV_mono (Nat.le_max_right ..) hm
    · exact isV_mono (Nat.le_max_left ..) (hn x hx)

theorem elemV_two {c : List AV} (h : 2 ≤ c.length) : elemV c = .agg c := by
  match c, h with
  | _ :: _ :: _, _ => rfl

theorem has_value {M : Nat} (hM : M ≤ maxLen) : ∀ {k : Nat} {cs : List AV}, Has Tryz.prog M k 30 cs → ∃ n, IsV n cs := by
  intro k
  induction k using Nat.strongRecOn with
  | ind k ih =>
  intro cs h
  cases k with
  | zero => cases h
  | succ k =>
  simp only [Has, Tryz.underlying30, Has.HasL] at h
  obtain ⟨_, _, rfl, h0, _, _, rfl, h1, _, _, rfl, h2, _, _, rfl, h3, _, _, rfl, h4, _, _, rfl, h5, _, _, rfl, h6, rfl⟩ := h
  obtain ⟨a0, rfl, w0⟩ := has_int Tryz.underlying3 h0
  obtain ⟨a1, rfl, w1⟩ := has_int Tryz.underlying24 h1
  obtain ⟨a2, rfl, w2'⟩ := has_str Tryz.underlying9 h2
  have w2 := Nat.le_trans w2' hM
  have sl : ∀ {k0 : Nat} {t e : TypeId} {cs : List AV}, k0 ≤ k → Tryz.prog.underlying t = some (.slice e) → Has Tryz.prog M k0 t cs → ∃ (k' : Nat) (l : List (List AV)), k' < k ∧ cs = [.list (l.map elemV)] ∧ l.length ≤ maxLen ∧ ∀ c ∈ l, Has Tryz.prog M k' e c := by
    intro k0 t e cs hk hu h
    cases k0 with
    | zero => cases h
    | succ k0 =>
      simp only [Has, hu] at h
      obtain ⟨l, h1, h2, h3, _⟩ := h
      exact ⟨k0, l, by omega, h1, h2, h3⟩
  obtain ⟨k3, l3, b3, rfl, w3, hl3⟩ := sl (Nat.le_refl _) Tryz.underlying25 h3
  obtain ⟨k4, l4, b4, rfl, w4, hl4⟩ := sl (Nat.le_refl _) Tryz.underlying26 h4
  obtain ⟨k5, l5, b5, rfl, w5, hl5⟩ := sl (Nat.le_refl _) Tryz.underlying27 h5
  obtain ⟨k6, l6, b6, rfl, w6, hl6⟩ := sl (Nat.le_refl _) Tryz.underlying28 h6
  obtain ⟨n3, o3⟩ := isV_bound fun c hc => ih k3 (by omega) (hl3 c hc)
  have p4 : ∃ ps : List (List AV × List AV), l4 = ps.map (fun p => p.1 ++ p.2) ∧ ∀ p ∈ ps, (∃ n, IsV n p.1) ∧ ∃ n, IsV n p.2 :=
    list_of (f := fun p : List AV × List AV => p.1 ++ p.2) (ok := fun p => (∃ n, IsV n p.1) ∧ ∃ n, IsV n p.2) fun c hc => by
      have h := hl4 c hc
      cases k4 with
      | zero => cases h
      | succ k4 =>
      simp only [Has, Tryz.underlying139, Has.HasL] at h
      obtain ⟨a, _, rfl, h0, b, _, rfl, h1, rfl⟩ := h
      exact ⟨(a, b), ⟨ih k4 (by omega) h0, ih k4 (by omega) h1⟩, by simp⟩
  obtain ⟨ps, rfl, hps⟩ := p4
  have p5 : ∃ ss : List (Int × List AV), l5 = ss.map (fun s => .int .i64 s.1 :: s.2) ∧ ∀ s ∈ ss, (Lit.int .i64 s.1).wf = true ∧ ∃ n, IsV n s.2 :=
    list_of (f := fun s : Int × List AV => .int .i64 s.1 :: s.2) (ok := fun s => (Lit.int .i64 s.1).wf = true ∧ ∃ n, IsV n s.2) fun c hc => by
      have h := hl5 c hc
      cases k5 with
      | zero => cases h
      | succ k5 =>
      simp only [Has, Tryz.underlying108, Has.HasL] at h
      obtain ⟨_, _, rfl, h0, b, _, rfl, h1, rfl⟩ := h
      obtain ⟨a0, rfl, w0⟩ := has_int Tryz.underlying3 h0
      exact ⟨(a0, b), ⟨w0, ih k5 (by omega) h1⟩, by simp⟩
  obtain ⟨ss, rfl, hss⟩ := p5
  have p6 : ∃ rs : List R, l6 = rs.map (fun r => r.av.cells) ∧ ∀ r ∈ rs, rok r :=
    list_of (f := fun r : R => r.av.cells) (ok := rok) fun c hc => by
      obtain ⟨f, ⟨g1, g2, g3, g4⟩, e⟩ := has_raw (hl6 c hc)
      refine ⟨f, ⟨g1, g2, g3, Nat.le_trans g4 hM⟩, ?_⟩
      rw [← e]
      rfl
  obtain ⟨rs, rfl, hrs⟩ := p6
  obtain ⟨n4, o4⟩ := isV_bound (l := ps.map (·.1)) fun c hc => by
    obtain ⟨p, hp, rfl⟩ := List.mem_map.1 hc
    exact (hps p hp).1
  obtain ⟨n5, o5⟩ := isV_bound (l := ps.map (·.2)) fun c hc => by
    obtain ⟨p, hp, rfl⟩ := List.mem_map.1 hc
    exact (hps p hp).2
  obtain ⟨n6, o6⟩ := isV_bound (l := ss.map (·.2)) fun c hc => by
    obtain ⟨p, hp, rfl⟩ := List.mem_map.1 hc
    exact (hss p hp).2
  have m4 : ∀ p ∈ ps, IsV n4 p.1 := fun p hp => o4 _ (List.mem_map.2 ⟨p, hp, rfl⟩)
  have m5 : ∀ p ∈ ps, IsV n5 p.2 := fun p hp => o5 _ (List.mem_map.2 ⟨p, hp, rfl⟩)
  have m6 : ∀ p ∈ ss, IsV n6 p.2 := fun p hp => o6 _ (List.mem_map.2 ⟨p, hp, rfl⟩)
  refine ⟨(n3 + n4 + n5 + n6) + 1, a0, a1, a2, l3, ps, ss, rs, ?_, w0, w1, w2, w3, by simpa using w4, by simpa using w5, by simpa using w6,
    fun c hc => isV_mono (by omega) (o3 c hc), fun p hp => ⟨isV_mono (by omega) (m4 p hp), isV_mono (by omega) (m5 p hp)⟩, fun s hs => ⟨(hss s hs).1, isV_mono (by omega) (m6 s hs)⟩, hrs⟩
  have e3 : l3.map elemV = l3.map .agg := List.map_congr_left fun c hc => elemV_two (by rw [isV_len (o3 c hc)]; omega)
  have e4 : (ps.map (fun p => p.1 ++ p.2)).map elemV = ps.map fun p => .agg (p.1 ++ p.2) := by
    rw [List.map_map]
    exact List.map_congr_left fun p hp => elemV_two (by rw [List.length_append, isV_len (m4 p hp)]; omega)
  have e5 : (ss.map (fun s => AV.int .i64 s.1 :: s.2)).map elemV = ss.map fun s => .agg (.int .i64 s.1 :: s.2) := by
    rw [List.map_map]
    exact List.map_congr_left fun p hp => elemV_two (by rw [List.length_cons, isV_len (m6 p hp)]; omega)
  have e6 : (rs.map (fun r => r.av.cells)).map elemV = rs.map R.av := by
    rw [List.map_map]
    exact List.map_congr_left fun r _ => rfl
  rw [e3, e4, e5, e6]
  rfl

/-- The outermost cells, with the bounds on their lists. -/
theorem value_lens {M k : Nat} {cs : List AV} (h : Has Tryz.prog M k 30 cs) : ∃ (kd b : Int) (t : List UInt8) (l3 l4 l5 l6 : List AV), cs = [.int .i64 kd, .int .u64 b, .str t, .list l3, .list l4, .list l5, .list l6] ∧
    (Lit.int .u64 b).wf = true ∧ t.length ≤ M ∧ l3.length ≤ M ∧ l4.length ≤ M ∧ l5.length ≤ M ∧ l6.length ≤ M := by
  obtain ⟨k, h⟩ := has_struct Tryz.underlying30 h
  simp only [Has.HasL] at h
  obtain ⟨_, _, rfl, h0, _, _, rfl, h1, _, _, rfl, h2, _, _, rfl, h3, _, _, rfl, h4, _, _, rfl, h5, _, _, rfl, h6, rfl⟩ := h
  obtain ⟨a0, rfl, w0⟩ := has_int Tryz.underlying3 h0
  obtain ⟨a1, rfl, w1⟩ := has_int Tryz.underlying24 h1
  obtain ⟨a2, rfl, w2⟩ := has_str Tryz.underlying9 h2
  obtain ⟨_, l3, rfl, w3, _⟩ := has_sliceM Tryz.underlying25 h3
  obtain ⟨_, l4, rfl, w4, _⟩ := has_sliceM Tryz.underlying26 h4
  obtain ⟨_, l5, rfl, w5, _⟩ := has_sliceM Tryz.underlying27 h5
  obtain ⟨_, l6, rfl, w6, _⟩ := has_sliceM Tryz.underlying28 h6
  exact ⟨a0, a1, a2, _, _, _, _, rfl, w1, w2, by simpa using w3, by simpa using w4, by simpa using w5, by simpa using w6⟩

end Go.Proofs.YtkjjfbknppahhaaGreatDoor.Br
