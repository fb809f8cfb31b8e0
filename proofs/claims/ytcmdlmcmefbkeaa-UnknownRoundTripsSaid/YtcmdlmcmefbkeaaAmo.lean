/- Code of the abstract machine, and what it comes to: a predicate that is worked out by rewriting; it is sound for the model. -/
import Derived.Test.YtcmdlmcmefbkeaaAmnc
import Derived.Deep.LoopGhost
import Derived.Scope
namespace Go.Proofs.Ytcmdlmcmefbkeaa.Am
open Go

/-- A contract of a function that is handed no object of ours: its value. -/
def Fn1 (P : Program) (k : FuncId) (args : List AV) (v : AV) : Prop := Fn? P k args (· = v)

/-- What one operation comes to. -/
def aop (P : Program) (d : Option Nat) (op : RO) (st : St) (K : St → Prop) : Prop :=
  match op with
  | .val vo => ∃ x, vop st.f st.m vo = some x ∧ K { st with f := updO st.f d x }
  | .allocN s z => noOb st.m s = true ∧ K { st with m := Am.put st.m 0 s (.cells z), f := updO st.f d (.ptr 0 s 0) }
  | .boxN s r => noOb st.m s = true ∧ (r.ev st.f).cells.all AV.leaf = true ∧ K { st with m := Am.put st.m 0 s (.cells (r.ev st.f).cells), f := updO st.f d (.ptr 0 s 0) }
  | .store n p r => (r.ev st.f).cells.length = n ∧ (r.ev st.f).cells.all AV.leaf = true ∧ ∃ m', astore st.m (p.ev st.f) (r.ev st.f).cells = some m' ∧ K { st with m := m', f := updO st.f d (.tup []) }
  | .app sz bytes el s r => ∃ l site g n xs ys, s.ev st.f = .vec l site g 0 n false ∧ look st.m l site = .vec g sz xs ∧ tyOk site el = true ∧ n ≤ xs.length ∧ elemsOf st.m (r.ev st.f) = some ys ∧ ys.all (fun e => e.cells.length == sz) = true ∧ n + ys.length ≤ maxLen ∧ (n + ys.length) * bytes ≤ 140737488355328 ∧
      K { st with m := Am.put st.m l site (.vec (g + 1) sz (xs.take n ++ ys)), f := updO st.f d (.vec l site (g + 1) 0 (n + ys.length) false) }
  | .storev l s n p r => (∃ o, p.ev st.f = .ptr l s o) ∧ (r.ev st.f).cells.length = n ∧ (r.ev st.f).cells.all AV.leaf = true ∧ ∃ m', astore st.m (p.ev st.f) (r.ev st.f).cells = some m' ∧ K { st with m := m', f := updO st.f d (.tup []) }
  | .call f args => ∃ k fa fb ys v, f.ev st.f = .fn (.func k) fa fb ∧ AV.stillL false st.m (fa ++ args.map (RA.ev st.f) ++ fb) = some ys ∧ AV.rfL ys = true ∧ Fn1 P k ys v ∧ v.rf = true ∧ (AV.rfL (fa ++ args.map (RA.ev st.f) ++ fb) = true ∨ v.nl = true) ∧ K { st with f := updO st.f d v }
  | .callF f args => ∃ k fa fb v m', f.ev st.f = .fn (.func k) fa fb ∧ ACalls P k (fa ++ args.map (RA.ev st.f) ++ fb) st.m (fun x m => x = v ∧ m = m') ∧ K { st with m := m', f := updO st.f d v }
  | .bsl sz len z ps => ∃ y, fill st.f ps (zeros z sz len) = some y ∧ AV.rfL y = true ∧ y.all AV.leaf = true ∧ K { st with f := updO st.f d (.list (chunk sz len y)) }
  | .appS el s r => ∃ l site g n xs t, s.ev st.f = .vec l site g 0 n false ∧ look st.m l site = .vec g 1 xs ∧ tyOk site el = true ∧ n ≤ xs.length ∧ r.ev st.f = .str t ∧ n + t.length ≤ 140737488355328 ∧
      K { st with m := Am.put st.m l site (.vec (g + 1) 1 (xs.take n ++ bytesAV t)), f := updO st.f d (.vec l site (g + 1) 0 (n + t.length) false) }
  | .mk site _ sz bytes z l c => ∃ (kl kc : IntKind) (n k : Nat), l.ev st.f = .int kl (n : Int) ∧ c.ev st.f = .int kc (k : Int) ∧ n ≤ k ∧ k ≤ 9223372036854775807 ∧ bytes * k ≤ 281474976710656 ∧ rowOrNone (look st.m 0 site) = true ∧
      K { st with m := Am.put st.m 0 site (.vec (newGen st.m 0 site) sz (List.replicate n (zeroE sz z))), f := updO st.f d (.vec 0 site (newGen st.m 0 site) 0 n false) }
  | .s2b site _ r => ∃ s, r.ev st.f = .str s ∧ s.length ≤ 9223372036854775807 ∧ rowOrNone (look st.m 0 site) = true ∧
      K { st with m := Am.put st.m 0 site (.vec (newGen st.m 0 site) 1 (bytesAV s)), f := updO st.f d (.vec 0 site (newGen st.m 0 site) 0 s.length false) }
  | .usd r => ∃ l s g n sz xs, r.ev st.f = .vec l s g 0 n false ∧ look st.m l s = .vec g sz xs ∧ K { st with f := updO st.f d (if n = 0 then .anyp else .vptr l s g 0 0) }
  | .ustr el p r => (p.ev st.f = .anyp ∧ r.ev st.f = .int .i64 0 ∧ K { st with f := updO st.f d (.str []) }) ∨
      ∃ l g n xs s, p.ev st.f = .vptr l (el + 2000) g 0 0 ∧ r.ev st.f = .int .i64 ((n : Nat) : Int) ∧ look st.m l (el + 2000) = .vec g 1 xs ∧ n ≤ xs.length ∧ n ≠ 0 ∧ xs.take n = bytesAV s ∧ K { st with m := Am.put st.m l (el + 2000) (.vec (g + 1) 1 []), f := updO st.f d (.str s) }
  | .dfr f args => ∃ fn fa fb, f.ev st.f = .fn fn fa fb ∧ K { st with ds := ⟨fn, fb, fa ++ args.map (RA.ev st.f)⟩ :: st.ds, f := updO st.f d (.tup []) }

def astep (P : Program) (it : Item) (st : St) (K : St → Prop) : Prop :=
  match it.g with
  | none => aop P it.dst it.op st K
  | some (j, want) => match st.f j with
    | .bool b => (b = want → aop P it.dst it.op st K) ∧ (b = (!want) → K { st with f := updO st.f it.dst (.tup []) })
    | .tup l => l = [] ∧ K { st with f := updO st.f it.dst (.tup []) }
    | _ => False

def aops (P : Program) : List Item → St → (St → Prop) → Prop
  | [], st, K => K st
  | it :: its, st, K => astep P it st fun st' => aops P its st' K

section
variable {P : Program} {N : Nat}

theorem aop_ok {d : Option Nat} {op : RO} {its : List Item} {st : St} {Q : St → Prop} (h : aop P d op st fun st' => AOps P N its st' Q) : AOps P N (⟨d, op, none⟩ :: its) st Q := by
  cases op with
  | val vo => obtain ⟨x, hx, h⟩ := h; exact .val hx h
  | allocN s z => exact .allocN h.1 h.2
  | boxN s r => exact .boxN h.1 h.2.1 h.2.2
  | store n p r => obtain ⟨h1, h2, m', h3, h⟩ := h; exact .store h1 h2 h3 h
  | app sz bytes el s r => obtain ⟨l, site, g, n, xs, ys, h1, h2, ht, h3, h4, h5, h6, h7, h⟩ := h; exact .app h1 h2 ht h3 h4 h5 h6 h7 h
  | appS el s r => obtain ⟨l, site, g, n, xs, t, h1, h2, ht, h3, h4, h5, h⟩ := h; exact .appS h1 h2 ht h3 h4 h5 h
  | mk site el sz bytes z l c => obtain ⟨kl, kc, n, k, h1, h2, h3, h4, h5, h6, h⟩ := h; exact .mk h1 h2 h3 h4 h5 h6 h
  | s2b site el r => obtain ⟨s, h1, h2, h3, h⟩ := h; exact .s2b h1 h2 h3 h
  | usd r => obtain ⟨l, s, g, n, sz, xs, h1, h2, h⟩ := h; exact .usd h1 h2 h
  | ustr el p r =>
    rcases h with ⟨h1, h2, h⟩ | ⟨l, g, n, xs, s, h1, h2, h3, h4, h5, h6, h⟩
    · exact .ustr0 h1 h2 h
    · exact .ustr h1 h2 h3 h4 h5 h6 h
  | storev l s n p r => obtain ⟨_, h1, h2, m', h3, h⟩ := h; exact .same (ro := .store n p r) (fun _ => rfl) (.store h1 h2 h3 h)
  | call f args =>
    obtain ⟨k, fa, fb, ys, v, hf, h1, h2, h3, h4, h5, h⟩ := h
    exact .callPure hf h1 h2 h3 (fun x hx => by subst hx; exact ⟨h4, h5⟩) fun x hx => by subst hx; exact h
  | callF f args =>
    obtain ⟨k, fa, fb, v, m', hf, h1, h⟩ := h
    exact .same (ro := .call f args) (fun _ => rfl) (.callFull hf h1 fun x m hx _ => by obtain ⟨rfl, rfl⟩ := hx; exact h)
  | bsl sz len z ps => obtain ⟨y, h1, h2, h3, h⟩ := h; exact .bsl h1 h2 h3 h
  | dfr f args => obtain ⟨fn, fa, fb, h1, h⟩ := h; exact .dfr h1 h

theorem astep_ok {it : Item} {its : List Item} {st : St} {Q : St → Prop} (h : astep P it st fun st' => AOps P N its st' Q) : AOps P N (it :: its) st Q := by
  obtain ⟨d, op, g⟩ := it
  cases g with
  | none => exact aop_ok h
  | some p =>
    obtain ⟨j, want⟩ := p
    simp only [astep] at h
    split at h
    · rename_i b hj
      by_cases hb : b = want
      · subst hb; exact .yes hj (aop_ok (h.1 rfl))
      · have hb' : b = !want := by cases b <;> cases want <;> first | rfl | exact absurd rfl hb
        subst hb'
        exact .no (.inl hj) (h.2 rfl)
    · rename_i l hj
      obtain ⟨rfl, h⟩ := h
      exact .no (.inr hj) h
    · exact h.elim

theorem aop_mono {d : Option Nat} {op : RO} {st : St} {K K' : St → Prop} (hk : ∀ s, K s → K' s) (h : aop P d op st K) : aop P d op st K' := by
  cases op <;> simp only [aop] at h ⊢
  case val => obtain ⟨x, a, b⟩ := h; exact ⟨x, a, hk _ b⟩
  case allocN => exact ⟨h.1, hk _ h.2⟩
  case boxN => exact ⟨h.1, h.2.1, hk _ h.2.2⟩
  case store => obtain ⟨h1, h2, m', h3, h⟩ := h; exact ⟨h1, h2, m', h3, hk _ h⟩
  case app => obtain ⟨l, site, g, n, xs, ys, h1, h2, ht, h3, h4, h5, h6, h7, h⟩ := h; exact ⟨l, site, g, n, xs, ys, h1, h2, ht, h3, h4, h5, h6, h7, hk _ h⟩
  case appS => obtain ⟨l, site, g, n, xs, t, h1, h2, ht, h3, h4, h5, h⟩ := h; exact ⟨l, site, g, n, xs, t, h1, h2, ht, h3, h4, h5, hk _ h⟩
  case mk => obtain ⟨kl, kc, n, k, h1, h2, h3, h4, h5, h6, h⟩ := h; exact ⟨kl, kc, n, k, h1, h2, h3, h4, h5, h6, hk _ h⟩
  case s2b => obtain ⟨s, h1, h2, h3, h⟩ := h; exact ⟨s, h1, h2, h3, hk _ h⟩
  case usd => obtain ⟨l, s, g, n, sz, xs, h1, h2, h⟩ := h; exact ⟨l, s, g, n, sz, xs, h1, h2, hk _ h⟩
  case ustr =>
    rcases h with ⟨h1, h2, h⟩ | ⟨l, g, n, xs, s, h1, h2, h3, h4, h5, h6, h⟩
    · exact .inl ⟨h1, h2, hk _ h⟩
    · exact .inr ⟨l, g, n, xs, s, h1, h2, h3, h4, h5, h6, hk _ h⟩
  case dfr => obtain ⟨fn, fa, fb, h1, h⟩ := h; exact ⟨fn, fa, fb, h1, hk _ h⟩
  case bsl => obtain ⟨y, h1, h2, h3, h⟩ := h; exact ⟨y, h1, h2, h3, hk _ h⟩
  case storev => obtain ⟨h0, h1, h2, m', h3, h⟩ := h; exact ⟨h0, h1, h2, m', h3, hk _ h⟩
  case call => obtain ⟨k, fa, fb, ys, v, hf, h1, h2, h3, h4, h5, h⟩ := h; exact ⟨k, fa, fb, ys, v, hf, h1, h2, h3, h4, h5, hk _ h⟩
  case callF => obtain ⟨k, fa, fb, v, m', hf, h1, h⟩ := h; exact ⟨k, fa, fb, v, m', hf, h1, hk _ h⟩

theorem astep_mono {it : Item} {st : St} {K K' : St → Prop} (hk : ∀ s, K s → K' s) (h : astep P it st K) : astep P it st K' := by
  unfold astep at h ⊢
  split at h
  · exact aop_mono hk h
  · split at h
    · exact ⟨fun e => aop_mono hk (h.1 e), fun e => hk _ (h.2 e)⟩
    · exact ⟨h.1, hk _ h.2⟩
    · exact h.elim

theorem aops_mono : ∀ {its : List Item} {st : St} {Q Q' : St → Prop}, (∀ s, Q s → Q' s) → aops P its st Q → aops P its st Q'
  | [], _, _, _, hk, h => hk _ h
  | _ :: _, _, _, _, hk, h => astep_mono (fun _ hs => aops_mono hk hs) h

theorem aops_ok : ∀ {its : List Item} {st : St} {Q : St → Prop}, aops P its st Q → AOps P N its st Q
  | [], _, _, h => .nil h
  | _ :: _, _, _, h => astep_ok (astep_mono (fun _ hs => aops_ok hs) h)

end

/-- A turn of the reading alone. -/
inductive GO where
  | vec (slot site sz : Nat)
  | drop (s : Nat)
  | vecc (s idx site sz : Nat)

def gstep (g : GO) (st : St) : Option St :=
  match g with
  | .vec slot site sz => match st.f slot with
    | .nils => bif rowOrNone (look st.m 0 site) then some { st with m := Am.put st.m 0 site (.vec (newGen st.m 0 site) sz []), f := upd st.f slot (.vec 0 site (newGen st.m 0 site) 0 0 false) } else none
    | _ => none
  | .drop s => bif noRow st.m s then some (st.drop s) else none
  | .vecc s idx site sz => match look st.m 0 s with
    | .cells xs => match xs[idx]? with
      | some .nils => bif rowOrNone (look st.m 0 site) && !(Nat.beq site s) then some { st with m := Am.put (Am.put st.m 0 site (.vec (newGen st.m 0 site) sz [])) 0 s (.cells (xs.set idx (.vec 0 site (newGen st.m 0 site) 0 0 false))) } else none
      | _ => none
    | _ => none

inductive RC where
  | skip
  | reg (its : List Item)
  | draw (its : List Item)
  | seq (a b : RC)
  | cond (c : RA) (a b : RC)
  | block (id : Nat) (a : RC)
  | loop (a : RC)
  | exit (id : Nat)
  | scope (a : RC)
  | lab
  | ret
  | gho (g : GO) (a : RC)
  | no

def Ks (f : St → Prop) (Q : Exit → St → Prop) : Exit → St → Prop
  | .normal, st => f st
  | e, st => Q e st
def Kb (id : Nat) (Q : Exit → St → Prop) : Exit → St → Prop
  | .exit i, st => if i = id then Q .normal st else Q (.exit i) st
  | e, st => Q e st
def Kg (Q : Exit → St → Prop) : Exit → St → Prop
  | .goto _, _ => False
  | e, st => Q e st

/-- What code comes to. -/
def awp (P : Program) : RC → St → (Exit → St → Prop) → Prop
  | .skip, st, Q => Q .normal st
  | .reg its, st, Q => aops P its st (Q .normal)
  | .draw its, st, Q => aops P its st (Q .normal)
  | .seq a b, st, Q => awp P a st (Ks (fun st' => awp P b st' Q) Q)
  | .cond c a b, st, Q => ∃ t, c.ev st.f = .bool t ∧ (t = true → awp P a st Q) ∧ (t = false → awp P b st Q)
  | .block id a, st, Q => awp P a st (Kb id Q)
  | .loop a, st, Q => ∃ (I : Nat → St → Prop) (n : Nat), I n st ∧ ∀ n st', I n st' → awp P a st' (Ks (fun s => ∃ k, k < n ∧ I k s) Q)
  | .exit id, st, Q => Q (.exit id) st
  | .scope a, st, Q => awp P a st (Kg Q)
  | .lab, st, Q => Q .normal st
  | .ret, st, Q => Q .ret st
  | .gho g a, st, Q => ∃ st', gstep g st = some st' ∧ awp P a st' Q
  | .no, _, _ => False

theorem slots_upd {G : Gh} {f : Fr} {a : Act} (hs : ∀ i, Rep G (f i) (a.tmps.getD i undef)) {d : Nat} {x : AV} (hx : Rep G x (a.tmps.getD d undef)) : ∀ i, Rep G (upd f d x i) (a.tmps.getD i undef) := by
  intro i
  by_cases hi : i = d
  · subst hi; rw [upd_same]; exact hx
  · rw [upd_ne _ _ hi]; exact hs i

theorem gstep_ok {G : Gh} {B N : Nat} {st st' : St} {a : Act} {w : World} (h : Rel G B N st a w) {g : GO} (hg : gstep g st = some st') : ∃ G', Rel G' B N st' a w ∧ Ext 1 G w G' w := by
  cases g with
  | vec slot site sz =>
    simp only [gstep] at hg
    split at hg
    · rename_i hn
      cases hro : rowOrNone (look st.m 0 site) with
      | false => rw [hro] at hg; cases hg
      | true =>
        rw [hro] at hg
        simp only [cond_true, Option.some.injEq] at hg
        subst hg
        have hl : 0 < st.m.length := List.length_pos_iff.2 h.ne
        obtain ⟨h1, h2⟩ := h.vecput (w' := w) (sz := sz) (cap := 0) (b := none) (ys := []) hl hro (newGen_lt h.mr hro) rfl rfl rfl (Nat.le_refl _) (fun _ _ _ => rfl) (fun k e => by cases e) ⟨by simp, rfl, rfl⟩ (.inl ⟨rfl, rfl⟩)
        refine ⟨_, ⟨h1.mr, h1.size, slots_upd h1.slots ?_, h1.ds, h1.base, h1.top, h1.ne⟩, h2⟩
        have hs := h.slots slot
        rw [hn] at hs
        generalize a.tmps.getD slot undef = v at hs
        cases hs
        exact .vec rfl (Nat.le_of_eq (by simp [Gh.row])) fun _ => .inl ⟨by simp [Gh.row], rfl, rfl, rfl⟩
    · cases hg
  | drop s =>
    simp only [gstep] at hg
    cases hro : noRow st.m s with
    | false => rw [hro] at hg; cases hg
    | true =>
      rw [hro] at hg
      simp only [cond_true, Option.some.injEq] at hg
      subst hg
      exact ⟨_, h.drop s hro⟩
  | vecc s idx site sz =>
    simp only [gstep] at hg
    split at hg
    · rename_i xs hlk
      split at hg
      · rename_i hn
        cases hro : (rowOrNone (look st.m 0 site) && !(Nat.beq site s)) with
        | false => rw [hro] at hg; cases hg
        | true =>
          rw [hro] at hg
          simp only [cond_true, Option.some.injEq] at hg
          subst hg
          rw [Bool.and_eq_true] at hro
          have hne : s ≠ site := fun e => by
            have h2 := hro.2
            rw [e] at h2
            simp at h2
          have hl : 0 < st.m.length := List.length_pos_iff.2 h.ne
          obtain ⟨h1, h2⟩ := h.vecput (w' := w) (sz := sz) (cap := 0) (b := none) (ys := []) hl hro.1 (newGen_lt h.mr hro.1) rfl rfl rfl (Nat.le_refl _) (fun _ _ _ => rfl) (fun k e => by cases e) ⟨by simp, rfl, rfl⟩ (.inl ⟨rfl, rfl⟩)
          have hlk' : look (Am.put st.m 0 site (.vec (newGen st.m 0 site) sz [])) 0 s = .cells xs := by
            rw [look_put_ne (.inr hne)]; exact hlk
          obtain ⟨b, cs, hb, hsoft, hrep⟩ := h1.mr.cells 0 s xs hlk'
          obtain ⟨v, hv, hr⟩ := hrep.at_ hn
          have hvn : v = .slice none 0 0 := by cases hr; rfl
          subst hvn
          have hset : cs.toList.set idx (.slice none 0 0) = cs.toList := by
            obtain ⟨hi, he⟩ := List.getElem?_eq_some_iff.1 hv
            rw [← he, List.set_getElem_self]
          have hrep' := hrep.set idx (x := .vec 0 site (newGen st.m 0 site) 0 0 false) (v := .slice none 0 0) (.vec rfl (Nat.le_of_eq (by simp [Gh.row, Gh.dn])) fun _ => .inl ⟨by simp [Gh.row, Gh.dn], rfl, rfl, rfl⟩)
          rw [hset] at hrep'
          exact ⟨_, ⟨h1.mr.stored hlk' hb (Turned.refl b w) hsoft hrep', h1.size, h1.slots, h1.ds, h1.base, h1.top, put_ne h1.ne⟩, h2⟩
      · cases hg
    · cases hg

end Go.Proofs.Ytcmdlmcmefbkeaa.Am
