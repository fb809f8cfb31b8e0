/- Operations in a row, and the rules for them. -/
import Derived.Test.YtcmdlmcmefbkeaaAmk
namespace Go.Proofs.Ytcmdlmcmefbkeaa.Am
open Go

inductive RO where
  | val (v : VO)
  | allocN (site : Nat) (z : List AV)
  | boxN (site : Nat) (x : RA)
  | store (n : Nat) (p x : RA)
  | storev (l s n : Nat) (p x : RA)
  | app (sz bytes e : Nat) (s x : RA)
  | appS (e : Nat) (s x : RA)
  | mk (site e sz bytes : Nat) (z : List AV) (l c : RA)
  | s2b (site e : Nat) (x : RA)
  | usd (x : RA)
  | ustr (e : Nat) (p n : RA)
  | bsl (sz len : Nat) (z : List AV) (ps : List (Nat × Nat × RA))
  | call (f : RA) (args : List RA)
  | callF (f : RA) (args : List RA)
  | dfr (f : RA) (args : List RA)

structure Item where
  dst : Option Nat
  op : RO
  g : Option (Nat × Bool)

def chkSlots (sz : Nat) : List (Nat × Operand) → List (Nat × Nat × RA) → Bool
  | [], [] => true
  | (i, x) :: xs, (o, n, r) :: rs => o == i * sz && n == sz && chkA x r && chkSlots sz xs rs
  | _, _ => false

def chkRO (P : Program) (op : Op) (ro : RO) : Bool :=
  match ro with
  | .val v => chkV P op v
  | .allocN s z => match op with
    | .alloc e => match P.info? e with
      | some i => match i.zero with
        | some zv => isCL zv.cells.toList z && tyOk s e
        | none => false
      | none => false
    | _ => false
  | .boxN s r => match op with
    | .box e x => chkA x r && tyOk s e
    | _ => false
  | .store n p r => match op with
    | .store t q x => (P.info? t).any (fun i => i.size == n) && chkA q p && chkA x r
    | _ => false
  | .storev _ _ n p r => match op with
    | .store t q x => (P.info? t).any (fun i => i.size == n) && chkA q p && chkA x r
    | _ => false
  | .app sz bytes el s r => match op with
    | .call { callee := .builtin .append, args := ⟨[x, y]⟩, argTypes := ⟨[t, t']⟩ } => t == t' && (match P.underlying t with
      | some (.slice e) => (P.info? e).any (fun i => i.size == sz && i.bytes == bytes && (match i.zero with | some zv => zv.cells.size == sz | none => false)) && sz != 0 && e == el
      | _ => false) && chkA x s && chkA y r
    | _ => false
  | .appS el s r => match op with
    | .call { callee := .builtin .append, args := ⟨[x, y]⟩, argTypes := ⟨[t, t']⟩ } => isStr P t' && (match P.underlying t with
      | some (.slice e) => (P.info? e).any (fun i => i.size == 1 && i.bytes == 1 && (match i.zero with | some zv => zv.cells.size == 1 | none => false)) && e == el
      | _ => false) && chkA x s && chkA y r
    | _ => false
  | .mk site el sz bytes z l c => match op with
    | .makeSlice t x y => (match P.underlying t with
      | some (.slice e) => (P.info? e).any (fun i => i.size == sz && i.bytes == bytes && (match i.zero with | some zv => isCL zv.cells.toList z && z.length == sz | none => false)) && sz != 0 && e == el && tyOk site e && AV.rfL z && z.all AV.leaf
      | _ => false) && chkA x l && chkA y c
    | _ => false
  | .s2b site el r => match op with
    | .convert src dst x => isStr P src && (match P.underlying dst with
      | some (.slice e) => isInt P e .u8 && e == el && tyOk site e
      | _ => false) && chkA x r
    | _ => false
  | .usd r => match op with
    | .call { callee := .builtin .unsafeSliceData, args := ⟨[x]⟩, argTypes := _ } => chkA x r
    | _ => false
  | .ustr el p n => match op with
    | .call { callee := .builtin .unsafeString, args := ⟨[x, y]⟩, argTypes := ⟨[pt, _]⟩ } => (match P.underlying pt with
      | some (.pointer e) => e == el && P.cellsOf e == 1
      | _ => false) && chkA x p && chkA y n
    | _ => false
  | .bsl sz len z ps => match op with
    | .buildSlice t n parts => n == len && len * sz ≤ 16777216 && sz != 0 && len != 0 && (match P.underlying t with
      | some (.slice e) => (P.info? e).any (fun i => i.size == sz && (match i.zero with | some zv => isCL zv.cells.toList z && z.length == sz | none => false))
      | _ => false) && chkSlots sz parts.toList ps
    | _ => false
  | .call f rs => match op with
    | .call { callee := .value x, args, argTypes := _ } => chkA x f && chkAs args.toList rs
    | _ => false
  | .callF f rs => match op with
    | .call { callee := .value x, args, argTypes := _ } => chkA x f && chkAs args.toList rs
    | _ => false
  | .dfr f rs => match op with
    | .defer { callee := .value x, args, argTypes := _ } => chkA x f && chkAs args.toList rs
    | _ => false

def chkT (P : Program) (t : TypeId) (ro : RO) : Bool :=
  match ro with
  | .usd _ => match P.underlying t with
    | some (.pointer _) => true
    | _ => false
  | _ => true

def chkOT (P : Program) (o : Oper) (ro : RO) : Bool := chkRO P o.op ro && chkT P o.type ro

def chkI (P : Program) (N : Nat) (ops : Array Oper) (o : Oper) (it : Item) : Bool :=
  o.dst == it.dst && (match o.dst with | some d => decide (d < N) | none => true) && (match o.guard, it.g with
    | none, none => true
    | some (j, want), some (dj, want') => (ops[j]?).bind (·.dst) == some dj && want == want'
    | _, _ => false) && chkOT P o it.op

def chkIs (P : Program) (N : Nat) (ops : Array Oper) : List Oper → List Item → Bool
  | [], [] => true
  | o :: os, it :: its => chkI P N ops o it && chkIs P N ops os its
  | _, _ => false

/-- These operations, run from st, end in a state of which Q holds. -/
def AOps (P : Program) (N : Nat) (its : List Item) (st : St) (Q : St → Prop) : Prop :=
  ∀ (ops : Array Oper) (l : List Oper), chkIs P N ops l its = true → ∀ (G : Gh) (B : Nat) (a : Act) (w : World), Rel G B N st a w →
    ∀ (QQ : Exit → Act → World → Prop), (∀ G' st' a' w', Q st' → Rel G' B N st' a' w' → Ext 1 G w G' w' → QQ .normal a' w') → wpList P ops QQ l a w

section
variable {P : Program} {N : Nat} {st : St} {Q : St → Prop}

theorem AOps.nil (h : Q st) : AOps P N [] st Q := by
  intro ops l hc G B a w hr QQ hq
  cases l with
  | nil => exact hq G st a w h hr (Ext.refl 1 G w)
  | cons o l => simp [chkIs] at hc

/-- One operation that is not guarded: what it leaves, then the rest. -/
theorem AOps.stepT {it : Item} {its : List Item} (hg : it.g = none)
    (h : ∀ (G : Gh) (B : Nat) (a : Act) (w : World) (o : Oper), Rel G B N st a w → o.dst = it.dst → (∀ d, it.dst = some d → d < N) → chkRO P o.op it.op = true → chkT P o.type it.op = true →
      ∀ (K : Act → World → Prop) (QQ : Exit → Act → World → Prop), (∀ G' st' a' w', AOps P N its st' Q → Rel G' B N st' a' w' → Ext 1 G w G' w' → K a' w') → o.wp P a w K QQ) : AOps P N (it :: its) st Q := by
  intro ops l hc G B a w hr QQ hq
  cases l with
  | nil => simp [chkIs] at hc
  | cons o l =>
    simp only [chkIs, chkI, Bool.and_eq_true, beq_iff_eq] at hc
    obtain ⟨⟨⟨⟨h1, h2⟩, h3⟩, h4⟩, h5⟩ := hc
    have h4 : (chkRO P o.op it.op && chkT P o.type it.op) = true := h4
    rw [Bool.and_eq_true] at h4
    have hgd : o.guard = none := by
      rw [hg] at h3
      cases hog : o.guard with
      | none => rfl
      | some p => rw [hog] at h3; simp at h3
    refine wpList_plain hgd fun K hK => ?_
    refine h G B a w o hr h1 (fun d e => ?_) h4.1 h4.2 K QQ fun G' st' a' w' ha hr' he => hK _ _ ?_
    · rw [h1, e] at h2
      simpa using h2
    · exact ha ops l h5 G' B a' w' hr' QQ fun G2 st2 a2 w2 hq2 hr2 he2 => hq G2 st2 a2 w2 hq2 hr2 (he.trans he2)

theorem AOps.step {it : Item} {its : List Item} (hg : it.g = none)
    (h : ∀ (G : Gh) (B : Nat) (a : Act) (w : World) (o : Oper), Rel G B N st a w → o.dst = it.dst → (∀ d, it.dst = some d → d < N) → chkRO P o.op it.op = true →
      ∀ (K : Act → World → Prop) (QQ : Exit → Act → World → Prop), (∀ G' st' a' w', AOps P N its st' Q → Rel G' B N st' a' w' → Ext 1 G w G' w' → K a' w') → o.wp P a w K QQ) : AOps P N (it :: its) st Q :=
  AOps.stepT hg fun G B a w o hr hd hdN hc _ => h G B a w o hr hd hdN hc

/-- Operations that stand for the same one. -/
theorem AOps.same {d : Option Nat} {ro ro' : RO} {g : Option (Nat × Bool)} {its : List Item} (h : ∀ o, chkOT P o ro' = chkOT P o ro) (k : AOps P N (⟨d, ro, g⟩ :: its) st Q) : AOps P N (⟨d, ro', g⟩ :: its) st Q := by
  intro ops l hc
  refine k ops l ?_
  cases l with
  | nil => exact hc
  | cons o l => simpa only [chkIs, chkI, h] using hc

theorem AOps.val {d : Option Nat} {vo : VO} {its : List Item} {x : AV} (hx : vop st.f st.m vo = some x) (h : AOps P N its { st with f := updO st.f d x } Q) : AOps P N (⟨d, .val vo, none⟩ :: its) st Q := by
  refine AOps.step rfl fun G B a w o hr hd hdN hc K QQ hK => ?_
  obtain ⟨v, hrun, hv⟩ := vop_ok (P := P) hr hx (o := o) hc
  unfold Oper.wp
  rw [hrun]
  have hd' : o.dst = d := hd
  show K (a.put o.dst v) w
  rw [hd']
  exact hK G _ _ w h (hr.put hdN hv) (Ext.refl 1 G w)

/-- A guarded operation whose guard says yes. -/
theorem AOps.yes {d : Option Nat} {ro : RO} {j : Nat} {want : Bool} {its : List Item} (hj : st.f j = .bool want) (h : AOps P N (⟨d, ro, none⟩ :: its) st Q) : AOps P N (⟨d, ro, some (j, want)⟩ :: its) st Q := by
  intro ops l hc G B a w hr QQ hq
  cases l with
  | nil => simp [chkIs] at hc
  | cons o l =>
    simp only [chkIs, chkI, Bool.and_eq_true, beq_iff_eq] at hc
    obtain ⟨⟨⟨⟨h1, h2⟩, h3⟩, h4⟩, h5⟩ := hc
    -- the same operation without its guard
    have hno := h ops ({ o with guard := none } :: l) (by simp only [chkIs, chkI, Bool.and_eq_true, beq_iff_eq]; exact ⟨⟨⟨⟨h1, h2⟩, trivial⟩, h4⟩, h5⟩) G B a w hr QQ hq
    have hw : Region.wanted o (yielded ops a.tmps) = true := by
      cases hog : o.guard with
      | none => simp [Region.wanted, hog]
      | some p =>
        obtain ⟨i, wt⟩ := p
        rw [hog] at h3
        simp only [Bool.and_eq_true, beq_iff_eq] at h3
        obtain ⟨h6, rfl⟩ := h3
        have hs := hr.slots j
        rw [hj] at hs
        have hv : a.tmps[j]? = some (.bool wt) := by
          have hs' : a.tmps.getD j undef = .bool wt := by
            revert hs
            generalize a.tmps.getD j undef = v
            intro hs; cases hs; rfl
          simp only [Array.getD_eq_getD_getElem?] at hs'
          cases hjj : a.tmps[j]? with
          | none => rw [hjj] at hs'; simp [undef] at hs'
          | some v => rw [hjj] at hs'; simp at hs'; rw [hs']
        simp only [Region.wanted, hog, yielded, h6, Option.bind_some, hv, beq_self_eq_true]
    unfold wpList at hno ⊢
    rw [if_pos hw]
    rw [if_pos (by simp [Region.wanted])] at hno
    have hexec : execOp a.eval { o with guard := none } = execOp a.eval o := by
      unfold execOp; rfl
    rcases hno with hno | ⟨hno, ho⟩
    · left
      unfold Oper.wp at hno ⊢
      rw [hexec] at hno
      exact hno
    · right
      refine ⟨?_, ho⟩
      unfold Oper.asks at hno ⊢
      rw [hexec] at hno
      exact hno

/-- A guarded operation whose guard says no, or was passed over itself. -/
theorem AOps.no {d : Option Nat} {ro : RO} {j : Nat} {want : Bool} {its : List Item} (hj : st.f j = .bool (!want) ∨ st.f j = .tup []) (h : AOps P N its { st with f := updO st.f d (.tup []) } Q) : AOps P N (⟨d, ro, some (j, want)⟩ :: its) st Q := by
  intro ops l hc G B a w hr QQ hq
  cases l with
  | nil => simp [chkIs] at hc
  | cons o l =>
    simp only [chkIs, chkI, Bool.and_eq_true, beq_iff_eq] at hc
    obtain ⟨⟨⟨⟨h1, h2⟩, h3⟩, h4⟩, h5⟩ := hc
    have hw : Region.wanted o (yielded ops a.tmps) = false := by
      cases hog : o.guard with
      | none => rw [hog] at h3; simp at h3
      | some p =>
        obtain ⟨i, wt⟩ := p
        rw [hog] at h3
        simp only [Bool.and_eq_true, beq_iff_eq] at h3
        obtain ⟨h6, rfl⟩ := h3
        have hs := hr.slots j
        have hv : a.tmps[j]? = some (.bool (!wt)) ∨ a.tmps[j]? = none ∨ a.tmps[j]? = some (.tuple #[]) := by
          simp only [Array.getD_eq_getD_getElem?] at hs
          cases hjj : a.tmps[j]? with
          | none => exact .inr (.inl rfl)
          | some v =>
            rw [hjj] at hs
            simp only [Option.getD_some] at hs
            rcases hj with hj | hj <;> rw [hj] at hs
            · cases hs; exact .inl rfl
            · cases hs with
              | tup hs => cases hs; exact .inr (.inr rfl)
        simp only [Region.wanted, hog, yielded, h6, Option.bind_some]
        rcases hv with hv | hv | hv <;> rw [hv] <;> cases wt <;> rfl
    unfold wpList
    rw [if_neg (by rw [hw]; simp)]
    have hd' : o.dst = d := h1
    rw [hd']
    have hdN : ∀ k, d = some k → k < N := fun k e => by
      rw [h1, e] at h2
      simpa using h2
    have := h ops l h5 G B _ w (hr.put hdN (v := undef) (.tup .nil)) QQ hq
    exact this

end

end Go.Proofs.Ytcmdlmcmefbkeaa.Am
