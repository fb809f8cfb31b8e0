/- Operations that may change places: what an operation looks at, what it turns. -/
import Derived.Test.YtcmdlmcmefbkeaaAmo
namespace Go.Proofs.Ytcmdlmcmefbkeaa.Am
open Go

def RA.sl : RA → List Nat
  | .t n => [n]
  | _ => []
def slO : Option RA → List Nat
  | some r => r.sl
  | none => []
def VO.sl : VO → List Nat
  | .mov x => x.sl
  | .pick c a b => c.sl ++ (a.sl ++ b.sl)
  | .build _ ps => ps.flatMap fun p => p.2.2.sl
  | .load _ x => x.sl
  | .loadv _ _ _ x => x.sl
  | .nilck x => x.sl
  | .un _ x => x.sl
  | .cvi _ x => x.sl
  | .b2s x => x.sl
  | .faddr _ x => x.sl
  | .fld _ _ x => x.sl
  | .ext x _ => x.sl
  | .len _ x => x.sl
  | .bin _ _ x y => x.sl ++ y.sl
  | .eqs _ _ x y => x.sl ++ y.sl
  | .iaddr _ _ x y => x.sl ++ y.sl
  | .idx x y => x.sl ++ y.sl
  | .mnx _ x y => x.sl ++ y.sl
  | .slc _ x lo hi mx => x.sl ++ (slO lo ++ (slO hi ++ slO mx))
  | .mkfn _ a b => a.flatMap RA.sl ++ b.flatMap RA.sl
  | .toU x => x.sl
  | .ofU _ _ x => x.sl
  | .same x => x.sl
def RO.sl : RO → List Nat
  | .val v => v.sl
  | .allocN _ _ => []
  | .boxN _ r => r.sl
  | .store _ p r => p.sl ++ r.sl
  | .storev _ _ _ p r => p.sl ++ r.sl
  | .app _ _ _ s r => s.sl ++ r.sl
  | .appS _ s r => s.sl ++ r.sl
  | .mk _ _ _ _ _ l c => l.sl ++ c.sl
  | .s2b _ _ r => r.sl
  | .usd r => r.sl
  | .ustr _ p r => p.sl ++ r.sl
  | .bsl _ _ _ ps => ps.flatMap fun p => p.2.2.sl
  | .call f rs => f.sl ++ rs.flatMap RA.sl
  | .callF f rs => f.sl ++ rs.flatMap RA.sl
  | .dfr f rs => f.sl ++ rs.flatMap RA.sl
def Item.sl (it : Item) : List Nat := it.op.sl ++ (match it.g with | some (j, _) => [j] | none => [])

/-- The same there. -/
def Same (l : List Nat) (f f' : Fr) : Prop := ∀ t, t ∈ l → f t = f' t
theorem Same.left {a b : List Nat} {f f' : Fr} (h : Same (a ++ b) f f') : Same a f f' := fun t ht => h t (List.mem_append_left _ ht)
theorem Same.right {a b : List Nat} {f f' : Fr} (h : Same (a ++ b) f f') : Same b f f' := fun t ht => h t (List.mem_append_right _ ht)

theorem RA.ev_same {r : RA} {f f' : Fr} (h : Same r.sl f f') : r.ev f = r.ev f' := by
  cases r with
  | t n => exact h n (by simp [RA.sl])
  | c x => rfl
  | f k => rfl

theorem evs_same : ∀ {rs : List RA} {f f' : Fr}, Same (rs.flatMap RA.sl) f f' → rs.map (RA.ev f) = rs.map (RA.ev f')
  | [], _, _, _ => rfl
  | r :: rs, f, f', h => by
    rw [List.flatMap_cons] at h
    rw [List.map_cons, List.map_cons, RA.ev_same h.left, evs_same h.right]

theorem fill_same {f f' : Fr} : ∀ {ps : List (Nat × Nat × RA)} {z : List AV}, Same (ps.flatMap fun p => p.2.2.sl) f f' → fill f ps z = fill f' ps z
  | [], _, _ => rfl
  | (o, n, r) :: ps, z, h => by
    rw [List.flatMap_cons] at h
    simp only [fill, RA.ev_same h.left, fill_same h.right]

theorem bnd_same {f f' : Fr} {d : Nat} {r : Option RA} (h : Same (slO r) f f') : bnd f d r = bnd f' d r := by
  cases r with
  | none => rfl
  | some r => simp only [bnd, RA.ev_same (r := r) h]

theorem vop_same {f f' : Fr} {m : Mem} {vo : VO} (h : Same vo.sl f f') : vop f m vo = vop f' m vo := by
  cases vo with
  | mov x => simp only [vop, RA.ev_same (r := x) h]
  | pick c a b => simp only [vop, RA.ev_same (r := c) h.left, RA.ev_same (r := a) h.right.left, RA.ev_same (r := b) h.right.right]
  | build z ps => simp only [vop, fill_same (ps := ps) h]
  | load k x => simp only [vop, RA.ev_same (r := x) h]
  | loadv l s k x => simp only [vop, RA.ev_same (r := x) h]
  | nilck x => simp only [vop, RA.ev_same (r := x) h]
  | un o x => simp only [vop, RA.ev_same (r := x) h]
  | cvi k x => simp only [vop, RA.ev_same (r := x) h]
  | b2s x => simp only [vop, RA.ev_same (r := x) h]
  | faddr o x => simp only [vop, RA.ev_same (r := x) h]
  | fld o k x => simp only [vop, RA.ev_same (r := x) h]
  | ext x i => simp only [vop, RA.ev_same (r := x) h]
  | toU x => simp only [vop, RA.ev_same (r := x) h]
  | ofU t n x => simp only [vop, RA.ev_same (r := x) h]
  | same x => simp only [vop, RA.ev_same (r := x) h]
  | len k x => simp only [vop, RA.ev_same (r := x) h]
  | bin t o x y => simp only [vop, RA.ev_same (r := x) h.left, RA.ev_same (r := y) h.right]
  | eqs n ks x y => simp only [vop, RA.ev_same (r := x) h.left, RA.ev_same (r := y) h.right]
  | iaddr sz len x y => simp only [vop, RA.ev_same (r := x) h.left, RA.ev_same (r := y) h.right]
  | idx x y => simp only [vop, RA.ev_same (r := x) h.left, RA.ev_same (r := y) h.right]
  | mnx b x y => simp only [vop, RA.ev_same (r := x) h.left, RA.ev_same (r := y) h.right]
  | slc sz x lo hi mx =>
    have h1 := h.right.left
    have h2 := h.right.right.left
    have h3 := h.right.right.right
    simp only [vop, RA.ev_same (r := x) h.left, bnd_same (r := lo) h1, bnd_same (r := hi) h2]
    cases mx with
    | none => rfl
    | some r => simp only [bnd_same (r := some r) h3]
  | mkfn fn a b => simp only [vop, evs_same (rs := a) h.left, evs_same (rs := b) h.right]

/-- What of the memory is looked at. -/
inductive MC where
  | no
  | shape
  | rows
  | cell (l s : Nat)
  | all
  deriving DecidableEq

def VO.mc : VO → MC
  | .load _ _ => .all
  | .loadv l s _ _ => .cell l s
  | .b2s _ => .rows
  | .nilck _ => .shape
  | .faddr _ _ => .shape
  | .len _ _ => .shape
  | .slc .. => .shape
  | .iaddr .. => .shape
  | .toU _ => .all
  | .ofU .. => .all
  | _ => .no

def Ob.sh : Ob → Option (Nat × Nat)
  | .vec g z _ => some (g, z)
  | _ => Option.none
def Ob.row : Ob → Option (Nat × Nat × List AV)
  | .vec g z xs => some (g, z, xs)
  | _ => Option.none

def Agree : MC → Mem → Mem → Prop
  | .no, _, _ => True
  | .shape, m, m' => ∀ l s, (look m l s).sh = (look m' l s).sh
  | .rows, m, m' => ∀ l s, (look m l s).row = (look m' l s).row
  | .cell l s, m, m' => look m l s = look m' l s
  | .all, m, m' => m = m'

theorem Agree.refl (c : MC) (m : Mem) : Agree c m m := by
  cases c <;> simp [Agree]

theorem gen_shape {m m' : Mem} {l s : Nat} (h : (look m l s).sh = (look m' l s).sh) : gen? m l s = gen? m' l s := by
  unfold gen?
  cases h1 : look m l s <;> cases h2 : look m' l s <;> rw [h1, h2] at h <;> simp_all [Ob.sh]

theorem elems_rows {m m' : Mem} (h : Agree .rows m m') (x : AV) : elemsOf m x = elemsOf m' x := by
  cases x with
  | vec l s g o n q =>
    have h := h l s
    simp only [elemsOf]
    cases h1 : look m l s <;> cases h2 : look m' l s <;> rw [h1, h2] at h <;> simp_all [Ob.row]
  | _ => rfl

theorem aslice_shape {m m' : Mem} (h : Agree .shape m m') (sz : Option Nat) (x : AV) (lo hi : Nat) (mx : Option Nat) : aslice m sz x lo hi mx = aslice m' sz x lo hi mx := by
  cases sz with
  | none => rfl
  | some z =>
    cases x with
    | vec l s g o n q =>
      have h := h l s
      simp only [aslice]
      cases h1 : look m l s <;> cases h2 : look m' l s <;> rw [h1, h2] at h <;> simp_all [Ob.sh]
    | _ => rfl

theorem aiaddr_shape {m m' : Mem} (h : Agree .shape m m') (sz : Nat) (len : Option Nat) (x : AV) (i : Int) : aiaddr m sz len x i = aiaddr m' sz len x i := by
  unfold aiaddr
  cases len with
  | none =>
    cases x with
    | vec l s g o n q =>
      have h := h l s
      simp only
      cases h1 : look m l s <;> cases h2 : look m' l s <;> rw [h1, h2] at h <;> simp_all [Ob.sh]
    | _ => rfl
  | some k => rfl

theorem vop_mem {f : Fr} {m m' : Mem} {vo : VO} (h : Agree vo.mc m m') : vop f m vo = vop f m' vo := by
  cases vo <;> simp only [VO.mc] at h <;> try rfl
  case load k x => have h : m = m' := h; subst h; rfl
  case toU x => have h : m = m' := h; subst h; rfl
  case ofU t n x => have h : m = m' := h; subst h; rfl
  case loadv l s k x =>
    have h : look m l s = look m' l s := h
    simp only [vop]
    split
    · split
      · rename_i hh
        obtain ⟨rfl, rfl⟩ := hh
        simp only [aload, h]
      · rfl
    · rfl
  case b2s x => simp only [vop, elems_rows h]
  case nilck x => simp only [vop, fun l s => gen_shape (h l s)]
  case faddr o x => simp only [vop, fun l s => gen_shape (h l s)]
  case len k x => simp only [vop, fun l s => gen_shape (h l s)]
  case slc sz x lo hi mx => simp only [vop, aslice_shape h]
  case iaddr sz len x i => simp only [vop, aiaddr_shape h]

mutual
theorem still_rows {m m' : Mem} (h : Agree .rows m m') : ∀ x : AV, x.still false m = x.still false m'
  | .vec l s g o n q => by
      have h := h l s
      simp only [AV.still]
      cases h1 : look m l s <;> cases h2 : look m' l s <;> rw [h1, h2] at h <;> simp_all [Ob.row]
  | .agg l => by simp only [AV.still, stillL_rows h l]
  | .tup l => by simp only [AV.still, stillL_rows h l]
  | .iface t x => by simp only [AV.still, still_rows h x]
  | .top | .int .. | .bool _ | .str _ | .nils | .nilp | .nilf | .nili | .nilm | .anyp | .list _ | .fn .. | .ptr .. | .vptr .. | .rptr _ => rfl
theorem stillL_rows {m m' : Mem} (h : Agree .rows m m') : ∀ l : List AV, AV.stillL false m l = AV.stillL false m' l
  | [] => rfl
  | x :: l => by simp only [AV.stillL, still_rows h x, stillL_rows h l]
end

/-- Operations that turn no object. -/
def RO.pure : RO → Bool
  | .val _ => true
  | .call _ _ => true
  | .usd _ => true
  | _ => false

def RO.mc : RO → MC
  | .val v => v.mc
  | .call _ _ => .rows
  | .usd _ => .rows
  | _ => .all

section
variable {P : Program}

/-- A pure operation gives x. -/
def pgood (P : Program) (op : RO) (st : St) (x : AV) : Prop :=
  match op with
  | .val vo => vop st.f st.m vo = some x
  | .call f args => ∃ k fa fb ys, f.ev st.f = .fn (.func k) fa fb ∧ AV.stillL false st.m (fa ++ args.map (RA.ev st.f) ++ fb) = some ys ∧ AV.rfL ys = true ∧ Fn1 P k ys x ∧ x.rf = true ∧ (AV.rfL (fa ++ args.map (RA.ev st.f) ++ fb) = true ∨ x.nl = true)
  | _ => False

/-- An operation gives x and leaves the objects m. -/
def mgood (P : Program) (op : RO) (st : St) (x : AV) (m : Mem) : Prop :=
  match op with
  | .val vo => vop st.f st.m vo = some x ∧ m = st.m
  | .call f args => pgood P (.call f args) st x ∧ m = st.m
  | .allocN s z => noOb st.m s = true ∧ x = .ptr 0 s 0 ∧ m = Am.put st.m 0 s (.cells z)
  | .boxN s r => noOb st.m s = true ∧ (r.ev st.f).cells.all AV.leaf = true ∧ x = .ptr 0 s 0 ∧ m = Am.put st.m 0 s (.cells (r.ev st.f).cells)
  | .store n p r => (r.ev st.f).cells.length = n ∧ (r.ev st.f).cells.all AV.leaf = true ∧ astore st.m (p.ev st.f) (r.ev st.f).cells = some m ∧ x = .tup []
  | .storev l s n p r => (∃ o, p.ev st.f = .ptr l s o) ∧ (r.ev st.f).cells.length = n ∧ (r.ev st.f).cells.all AV.leaf = true ∧ astore st.m (p.ev st.f) (r.ev st.f).cells = some m ∧ x = .tup []
  | .app sz bytes el s r => ∃ l site g n xs ys, s.ev st.f = .vec l site g 0 n false ∧ look st.m l site = .vec g sz xs ∧ tyOk site el = true ∧ n ≤ xs.length ∧ elemsOf st.m (r.ev st.f) = some ys ∧ ys.all (fun e => e.cells.length == sz) = true ∧ n + ys.length ≤ maxLen ∧ (n + ys.length) * bytes ≤ 140737488355328 ∧
      x = .vec l site (g + 1) 0 (n + ys.length) false ∧ m = Am.put st.m l site (.vec (g + 1) sz (xs.take n ++ ys))
  | .callF f args => ∃ k fa fb, f.ev st.f = .fn (.func k) fa fb ∧ ACalls P k (fa ++ args.map (RA.ev st.f) ++ fb) st.m (fun y m' => y = x ∧ m' = m)
  | .usd r => (∃ l s g n sz xs, r.ev st.f = .vec l s g 0 n false ∧ look st.m l s = .vec g sz xs ∧ x = (if n = 0 then .anyp else .vptr l s g 0 0)) ∧ m = st.m
  | .ustr el p r => (p.ev st.f = .anyp ∧ r.ev st.f = .int .i64 0 ∧ x = .str [] ∧ m = st.m) ∨
      ∃ l g n xs s, p.ev st.f = .vptr l (el + 2000) g 0 0 ∧ r.ev st.f = .int .i64 ((n : Nat) : Int) ∧ look st.m l (el + 2000) = .vec g 1 xs ∧ n ≤ xs.length ∧ n ≠ 0 ∧ xs.take n = bytesAV s ∧ x = .str s ∧ m = Am.put st.m l (el + 2000) (.vec (g + 1) 1 [])
  | _ => False

/-- Operations that forget nothing. -/
def RO.keeps : RO → Bool
  | .appS .. => false
  | .mk .. => false
  | .s2b .. => false
  | .bsl .. => false
  | .dfr .. => false
  | _ => true

theorem aop_good {d : Option Nat} {op : RO} {st : St} {K : St → Prop} (hk : op.keeps = true) : aop P d op st K ↔ ∃ x m, mgood P op st x m ∧ K { st with m := m, f := updO st.f d x } := by
  cases op <;> simp only [RO.keeps, Bool.false_eq_true] at hk <;> simp only [aop, mgood, pgood]
  case val => exact ⟨fun ⟨x, h, k⟩ => ⟨x, _, ⟨h, rfl⟩, k⟩, fun ⟨x, m, ⟨h, e⟩, k⟩ => by subst e; exact ⟨x, h, k⟩⟩
  case allocN => exact ⟨fun ⟨h, k⟩ => ⟨_, _, ⟨h, rfl, rfl⟩, k⟩, fun ⟨x, m, ⟨h, e, e'⟩, k⟩ => by subst e e'; exact ⟨h, k⟩⟩
  case boxN => exact ⟨fun ⟨h, h', k⟩ => ⟨_, _, ⟨h, h', rfl, rfl⟩, k⟩, fun ⟨x, m, ⟨h, h', e, e'⟩, k⟩ => by subst e e'; exact ⟨h, h', k⟩⟩
  case store => exact ⟨fun ⟨h1, h2, m', h3, k⟩ => ⟨_, m', ⟨h1, h2, h3, rfl⟩, k⟩, fun ⟨x, m, ⟨h1, h2, h3, e⟩, k⟩ => by subst e; exact ⟨h1, h2, m, h3, k⟩⟩
  case storev => exact ⟨fun ⟨h0, h1, h2, m', h3, k⟩ => ⟨_, m', ⟨h0, h1, h2, h3, rfl⟩, k⟩, fun ⟨x, m, ⟨h0, h1, h2, h3, e⟩, k⟩ => by subst e; exact ⟨h0, h1, h2, m, h3, k⟩⟩
  case app => exact ⟨fun ⟨l, site, g, n, xs, ys, h1, h2, ht, h3, h4, h5, h6, h7, k⟩ => ⟨_, _, ⟨l, site, g, n, xs, ys, h1, h2, ht, h3, h4, h5, h6, h7, rfl, rfl⟩, k⟩, fun ⟨x, m, ⟨l, site, g, n, xs, ys, h1, h2, ht, h3, h4, h5, h6, h7, e, e'⟩, k⟩ => by subst e e'; exact ⟨l, site, g, n, xs, ys, h1, h2, ht, h3, h4, h5, h6, h7, k⟩⟩
  case call => exact ⟨fun ⟨k, fa, fb, ys, v, h1, h2, h3, h4, h5, h6, kk⟩ => ⟨v, _, ⟨⟨k, fa, fb, ys, h1, h2, h3, h4, h5, h6⟩, rfl⟩, kk⟩, fun ⟨x, m, ⟨⟨k, fa, fb, ys, h1, h2, h3, h4, h5, h6⟩, e⟩, kk⟩ => by subst e; exact ⟨k, fa, fb, ys, x, h1, h2, h3, h4, h5, h6, kk⟩⟩
  case usd => exact ⟨fun ⟨l, s, g, n, sz, xs, h1, h2, k⟩ => ⟨_, _, ⟨⟨l, s, g, n, sz, xs, h1, h2, rfl⟩, rfl⟩, k⟩, fun ⟨x, m, ⟨⟨l, s, g, n, sz, xs, h1, h2, e⟩, e'⟩, k⟩ => by subst e e'; exact ⟨l, s, g, n, sz, xs, h1, h2, k⟩⟩
  case ustr =>
    constructor
    · rintro (⟨h1, h2, k⟩ | ⟨l, g, n, xs, s, h1, h2, h3, h4, h5, h6, k⟩)
      · exact ⟨_, _, .inl ⟨h1, h2, rfl, rfl⟩, k⟩
      · exact ⟨_, _, .inr ⟨l, g, n, xs, s, h1, h2, h3, h4, h5, h6, rfl, rfl⟩, k⟩
    · rintro ⟨x, m, ⟨h1, h2, e, e'⟩ | ⟨l, g, n, xs, s, h1, h2, h3, h4, h5, h6, e, e'⟩, k⟩
      · subst e e'; exact .inl ⟨h1, h2, k⟩
      · subst e e'; exact .inr ⟨l, g, n, xs, s, h1, h2, h3, h4, h5, h6, k⟩
  case callF => exact ⟨fun ⟨k, fa, fb, v, m', h1, h2, kk⟩ => ⟨v, m', ⟨k, fa, fb, h1, h2⟩, kk⟩, fun ⟨x, m, ⟨k, fa, fb, h1, h2⟩, kk⟩ => ⟨k, fa, fb, x, m, h1, h2, kk⟩⟩

/-- One operation, guard and all. -/
def sgood (P : Program) (it : Item) (st : St) (x : AV) (m : Mem) : Prop :=
  match it.g with
  | none => mgood P it.op st x m
  | some (j, want) => match st.f j with
    | .bool b => (b = want ∧ mgood P it.op st x m) ∨ (b = (!want) ∧ x = .tup [] ∧ m = st.m)
    | .tup l => l = [] ∧ x = .tup [] ∧ m = st.m
    | _ => False

theorem astep_good {it : Item} {st : St} {K : St → Prop} (hk : it.op.keeps = true) : astep P it st K ↔ ∃ x m, sgood P it st x m ∧ K { st with m := m, f := updO st.f it.dst x } := by
  obtain ⟨d, op, g⟩ := it
  cases g with
  | none => exact aop_good hk
  | some p =>
    obtain ⟨j, want⟩ := p
    simp only [astep, sgood]
    cases hj : st.f j with
    | bool b =>
      simp only
      rw [aop_good hk]
      constructor
      · intro ⟨h1, h2⟩
        by_cases hb : b = want
        · obtain ⟨x, m, h, k⟩ := h1 hb; exact ⟨x, m, .inl ⟨hb, h⟩, k⟩
        · have hb' : b = !want := by cases b <;> cases want <;> first | rfl | exact absurd rfl hb
          exact ⟨_, _, .inr ⟨hb', rfl, rfl⟩, h2 hb'⟩
      · rintro ⟨x, m, ⟨hb, h⟩ | ⟨hb, rfl, rfl⟩, k⟩
        · exact ⟨fun _ => ⟨x, m, h, k⟩, fun e => by rw [hb] at e; cases want <;> cases e⟩
        · exact ⟨fun e => (by rw [hb] at e; cases want <;> cases e), fun _ => k⟩
    | tup l =>
      constructor
      · rintro ⟨h, k⟩
        exact ⟨_, _, ⟨h, rfl, rfl⟩, k⟩
      · rintro ⟨x, m, ⟨h, rfl, rfl⟩, k⟩
        exact ⟨h, k⟩
    | _ => exact ⟨fun h => h.elim, fun ⟨_, _, h, _⟩ => h.elim⟩

theorem mgood_same {op : RO} {f f' : Fr} {m m' : Mem} {ds ds' : List DF} {x : AV} (h : Same op.sl f f') (k : mgood P op ⟨f, m, ds⟩ x m') : mgood P op ⟨f', m, ds'⟩ x m' := by
  cases op with
  | val vo => simp only [mgood, vop_same (vo := vo) h] at k ⊢; exact k
  | call g args => simp only [mgood, pgood, RA.ev_same (r := g) h.left, evs_same (rs := args) h.right] at k ⊢; exact k
  | callF g args => simp only [mgood, RA.ev_same (r := g) h.left, evs_same (rs := args) h.right] at k ⊢; exact k
  | allocN s z => exact k
  | boxN s r => simp only [mgood, RA.ev_same (r := r) h] at k ⊢; exact k
  | store n p r => simp only [mgood, RA.ev_same (r := p) h.left, RA.ev_same (r := r) h.right] at k ⊢; exact k
  | storev l s n p r => simp only [mgood, RA.ev_same (r := p) h.left, RA.ev_same (r := r) h.right] at k ⊢; exact k
  | usd r => simp only [mgood, RA.ev_same (r := r) h] at k ⊢; exact k
  | ustr el p r => simp only [mgood, RA.ev_same (r := p) h.left, RA.ev_same (r := r) h.right] at k ⊢; exact k
  | app sz bytes el s r => simp only [mgood, RA.ev_same (r := s) h.left, RA.ev_same (r := r) h.right] at k ⊢; exact k
  | _ => exact k.elim

theorem sgood_same {it : Item} {f f' : Fr} {m m' : Mem} {ds ds' : List DF} {x : AV} (h : Same it.sl f f') (k : sgood P it ⟨f, m, ds⟩ x m') : sgood P it ⟨f', m, ds'⟩ x m' := by
  obtain ⟨d, op, g⟩ := it
  cases g with
  | none => exact mgood_same (Same.left h) k
  | some p =>
    obtain ⟨j, want⟩ := p
    have hj : f j = f' j := (Same.right h) j (by simp)
    simp only [sgood] at k ⊢
    rw [← hj]
    cases he : f j with
    | bool b => rw [he] at k; exact k.imp (fun h1 => ⟨h1.1, mgood_same (Same.left h) h1.2⟩) id
    | tup l => rw [he] at k; exact k
    | _ => rw [he] at k; exact k

/-- A pure operation over another memory. -/
theorem pure_mem {op : RO} (hp : op.pure = true) {f : Fr} {m m' m1 : Mem} {ds ds' : List DF} {x : AV} (h : Agree op.mc m m') (k : mgood P op ⟨f, m, ds⟩ x m1) : m1 = m ∧ mgood P op ⟨f, m', ds'⟩ x m' := by
  cases op with
  | val vo => obtain ⟨k, e⟩ := k; exact ⟨e, by rw [← vop_mem (f := f) h]; exact k, rfl⟩
  | call g args =>
    obtain ⟨⟨k, fa, fb, ys, h1, h2, h3, h4, h5, h6⟩, e⟩ := k
    refine ⟨e, ⟨k, fa, fb, ys, h1, ?_, h3, h4, h5, h6⟩, rfl⟩
    rw [← stillL_rows h]; exact h2
  | usd r =>
    obtain ⟨⟨l, s, g, n, sz, xs, h1, h2, h3⟩, e⟩ := k
    refine ⟨e, ⟨l, s, g, n, sz, xs, h1, ?_, h3⟩, rfl⟩
    have h4 : (look m l s).row = (look m' l s).row := h l s
    have h2 : look m l s = .vec g sz xs := h2
    show look m' l s = .vec g sz xs
    rw [h2] at h4
    cases hl : look m' l s with
    | vec g' sz' xs' => rw [hl] at h4; simp only [Ob.row, Option.some.injEq, Prod.mk.injEq] at h4; obtain ⟨rfl, rfl, rfl⟩ := h4; rfl
    | none => rw [hl] at h4; cases h4
    | cells _ => rw [hl] at h4; cases h4
  | _ => cases hp

theorem pure_smem {it : Item} (hp : it.op.pure = true) {f : Fr} {m m' m1 : Mem} {ds ds' : List DF} {x : AV} (h : Agree it.op.mc m m') (k : sgood P it ⟨f, m, ds⟩ x m1) : m1 = m ∧ sgood P it ⟨f, m', ds'⟩ x m' := by
  obtain ⟨d, op, g⟩ := it
  cases g with
  | none => exact pure_mem hp h k
  | some p =>
    obtain ⟨j, want⟩ := p
    simp only [sgood] at k ⊢
    cases he : f j with
    | bool b =>
      rw [he] at k
      rcases k with ⟨h1, k⟩ | ⟨h1, h2, h3⟩
      · obtain ⟨a, b⟩ := pure_mem hp h k
        exact ⟨a, .inl ⟨h1, b⟩⟩
      · exact ⟨h3, .inr ⟨h1, h2, trivial⟩⟩
    | tup l => rw [he] at k; exact ⟨k.2.2, k.1, k.2.1, trivial⟩
    | _ => rw [he] at k; exact k.elim

/-- What an operation turns leaves that part of the memory as it was. -/
def RO.lets (op : RO) (c : MC) : Bool :=
  match op with
  | .val _ => true
  | .call _ _ => true
  | .store .. => c == .no || c == .shape
  | .storev l s _ _ _ => match c with
    | .cell l' s' => l' != l || s' != s
    | .all => false
    | _ => true
  | .allocN s _ => match c with
    | .cell l' s' => l' != 0 || s' != s
    | .all => false
    | _ => true
  | .boxN s _ => match c with
    | .cell l' s' => l' != 0 || s' != s
    | .all => false
    | _ => true
  | .app .. => c == .no
  | .callF .. => c == .no
  | .usd _ => true
  | .ustr .. => c == .no
  | _ => false

theorem agree_cells {m : Mem} {l s : Nat} {o o' : Ob} (hl : look m l s = o) (ho : o.row = none) (ho' : o'.row = none) (hlt : l < m.length) {c : MC} (hc : match c with
    | .cell l' s' => (l' != l || s' != s) = true
    | .all => False
    | _ => True) : Agree c m (Am.put m l s o') := by
  have key : ∀ l' s', (l' = l ∧ s' = s) ∨ look (Am.put m l s o') l' s' = look m l' s' := by
    intro l' s'
    by_cases hh : l' = l ∧ s' = s
    · exact .inl hh
    · exact .inr (look_put_ne (by omega))
  have hsh : ∀ {x : Ob}, x.row = none → x.sh = none := by intro x; cases x <;> simp [Ob.row, Ob.sh]
  cases c with
  | no => trivial
  | shape =>
    intro l' s'
    rcases key l' s' with ⟨rfl, rfl⟩ | e
    · rw [look_put_same hlt, hl, hsh ho, hsh ho']
    · rw [e]
  | rows =>
    intro l' s'
    rcases key l' s' with ⟨rfl, rfl⟩ | e
    · rw [look_put_same hlt, hl, ho, ho']
    · rw [e]
  | cell l' s' =>
    show look m l' s' = look _ l' s'
    rcases key l' s' with ⟨rfl, rfl⟩ | e
    · simp at hc
    · rw [e]
  | all => exact hc.elim

theorem noOb_look {m : Mem} {s : Nat} (h : noOb m s = true) : look m 0 s = .none := by
  unfold noOb at h
  split at h
  · assumption
  · cases h

end

end Go.Proofs.Ytcmdlmcmefbkeaa.Am
