/- How code of the abstract machine is worked out: one equation for each kind of operation. -/
import Derived.Test.YtbalffclojdmhaaAmr
namespace Go.Proofs.Ytbalffclojdmhaa.Am
open Go

section
variable {P : Program} {f : Fr} {m : Mem} {ds : List DF} {K : St → Prop} {Q : Exit → St → Prop} {its : List Item} {d : Nat}

/-- What follows. -/
def Kc (P : Program) (b : RC) (Q : Exit → St → Prop) : Exit → St → Prop := Ks (fun st' => awp P b st' Q) Q
def Kl (I : Nat → St → Prop) (n : Nat) (Q : Exit → St → Prop) : Exit → St → Prop := Ks (fun s => ∃ k, k < n ∧ I k s) Q

theorem e_skip {st : St} : awp P .skip st Q = Q .normal st := id rfl
theorem e_lab {st : St} : awp P .lab st Q = Q .normal st := id rfl
theorem e_ret {st : St} : awp P .ret st Q = Q .ret st := id rfl
theorem e_exit {st : St} {i : Nat} : awp P (.exit i) st Q = Q (.exit i) st := id rfl
theorem e_reg {st : St} : awp P (.reg its) st Q = aops P its st (Q .normal) := id rfl
theorem e_draw {st : St} : awp P (.draw its) st Q = aops P its st (Q .normal) := id rfl
theorem e_seq {st : St} {a b : RC} : awp P (.seq a b) st Q = awp P a st (Kc P b Q) := id rfl
theorem e_block {st : St} {i : Nat} {a : RC} : awp P (.block i a) st Q = awp P a st (Kb i Q) := id rfl
theorem e_scope {st : St} {a : RC} : awp P (.scope a) st Q = awp P a st (Kg Q) := id rfl
def bget : AV → Bool
  | .bool b => b
  | _ => false
def isB : AV → Prop
  | .bool _ => True
  | _ => False
theorem e_bget (b : Bool) : bget (.bool b) = b := id rfl
theorem e_isB (b : Bool) : isB (.bool b) = True := id rfl
/-- A choice. -/
def csel (P : Program) (v : AV) (a b : RC) (st : St) (Q : Exit → St → Prop) : Prop := isB v ∧ (bget v = true → awp P a st Q) ∧ (bget v = false → awp P b st Q)
theorem e_csel_t {a b : RC} {st : St} : csel P (.bool true) a b st Q = awp P a st Q := by simp [csel, isB, bget]
theorem e_csel_f {a b : RC} {st : St} : csel P (.bool false) a b st Q = awp P b st Q := by simp [csel, isB, bget]
theorem csel_of {t : Bool} {a b : RC} {st : St} (h1 : t = true → awp P a st Q) (h2 : t = false → awp P b st Q) : csel P (.bool t) a b st Q := ⟨trivial, h1, h2⟩
theorem e_cond {c : RA} {a b : RC} : awp P (.cond c a b) ⟨f, m, ds⟩ Q = csel P (c.ev f) a b ⟨f, m, ds⟩ Q := by
  simp only [awp, csel]
  generalize c.ev f = v
  cases v <;> simp [bget, isB]

theorem e_kc_n {b : RC} {st : St} : Kc P b Q .normal st = awp P b st Q := id rfl
theorem e_kc_x {b : RC} {st : St} {i : Nat} : Kc P b Q (.exit i) st = Q (.exit i) st := id rfl
theorem e_kc_r {b : RC} {st : St} : Kc P b Q .ret st = Q .ret st := id rfl
theorem e_kb_n {st : St} {i : Nat} : Kb i Q .normal st = Q .normal st := id rfl
theorem e_kb_x {st : St} {i j : Nat} : Kb i Q (.exit j) st = if j = i then Q .normal st else Q (.exit j) st := id rfl
theorem e_kb_r {st : St} {i : Nat} : Kb i Q .ret st = Q .ret st := id rfl
theorem e_kg_n {st : St} : Kg Q .normal st = Q .normal st := id rfl
theorem e_kg_x {st : St} {j : Nat} : Kg Q (.exit j) st = Q (.exit j) st := id rfl
theorem e_kg_r {st : St} : Kg Q .ret st = Q .ret st := id rfl
theorem e_kl_n {I : Nat → St → Prop} {n : Nat} {st : St} : Kl I n Q .normal st = ∃ k, k < n ∧ I k st := id rfl
theorem e_kl_x {I : Nat → St → Prop} {n : Nat} {st : St} {j : Nat} : Kl I n Q (.exit j) st = Q (.exit j) st := id rfl
theorem e_kl_r {I : Nat → St → Prop} {n : Nat} {st : St} : Kl I n Q .ret st = Q .ret st := id rfl

theorem awp_loop {a : RC} {st : St} (I : Nat → St → Prop) (n : Nat) (h0 : I n st) (h : ∀ n st', I n st' → awp P a st' (Kl I n Q)) : awp P (.loop a) st Q := ⟨I, n, h0, h⟩

theorem e_nil {st : St} : aops P [] st K = K st := id rfl
def vget (x : Option AV) : AV := x.getD .top
def isV (x : Option AV) : Prop := x.isSome = true
theorem e_vget (x : AV) : vget (some x) = x := id rfl
theorem e_isV (x : AV) : isV (some x) = True := by simp [isV]
theorem e_val {vo : VO} : aops P (⟨some d, .val vo, none⟩ :: its) ⟨f, m, ds⟩ K = (isV (vop f m vo) ∧ aops P its ⟨upd f d (vget (vop f m vo)), m, ds⟩ K) := by
  simp only [aops, astep, aop, updO]
  generalize vop f m vo = v
  cases v <;> simp [vget, isV]

def mget (x : Option Mem) : Mem := x.getD []
def isM (x : Option Mem) : Prop := x.isSome = true
theorem e_mget (x : Mem) : mget (some x) = x := id rfl
theorem e_isM (x : Mem) : isM (some x) = True := by simp [isM]
theorem e_store {n : Nat} {p r : RA} : aops P (⟨none, .store n p r, none⟩ :: its) ⟨f, m, ds⟩ K = ((r.ev f).cells.length = n ∧ (r.ev f).cells.all AV.leaf = true ∧ isM (astore m (p.ev f) (r.ev f).cells) ∧ aops P its ⟨f, mget (astore m (p.ev f) (r.ev f).cells), ds⟩ K) := by
  simp only [aops, astep, aop, updO]
  generalize astore m (p.ev f) (r.ev f).cells = v
  cases v <;> simp [mget, isM]
theorem e_allocN {s : Nat} {z : List AV} : aops P (⟨some d, .allocN s z, none⟩ :: its) ⟨f, m, ds⟩ K = (noOb m s = true ∧ aops P its ⟨upd f d (.ptr 0 s 0), Am.put m 0 s (.cells z), ds⟩ K) := id rfl
theorem e_boxN {s : Nat} {r : RA} : aops P (⟨some d, .boxN s r, none⟩ :: its) ⟨f, m, ds⟩ K = (noOb m s = true ∧ (r.ev f).cells.all AV.leaf = true ∧ aops P its ⟨upd f d (.ptr 0 s 0), Am.put m 0 s (.cells (r.ev f).cells), ds⟩ K) := id rfl

theorem e_bsl {sz len : Nat} {z : List AV} {ps : List (Nat × Nat × RA)} {y : List AV} (hy : fill f ps (zeros z sz len) = some y) (h1 : AV.rfL y = true) (h2 : y.all AV.leaf = true) : aops P (⟨some d, .bsl sz len z ps, none⟩ :: its) ⟨f, m, ds⟩ K = aops P its ⟨upd f d (.list (chunk sz len y)), m, ds⟩ K := by
  apply propext
  constructor
  · rintro ⟨y', h, _, _, k⟩
    have h : fill f ps (zeros z sz len) = some y' := h
    rw [hy] at h; cases h
    exact k
  · intro k
    exact ⟨y, hy, h1, h2, k⟩
/-- A row of one element of one cell. -/
theorem e_bsl1 {z : AV} {r : RA} {k : IntKind} {n : Int} (hr : r.ev f = .int k n) : aops P (⟨some d, .bsl 1 1 [z] [(0, 1, r)], none⟩ :: its) ⟨f, m, ds⟩ K = aops P its ⟨upd f d (.list [.int k n]), m, ds⟩ K := by
  refine e_bsl (y := [.int k n]) ?_ rfl rfl
  simp [fill, hr, AV.cells, AV.leaf, zeros, List.range_succ, splice]

theorem aops_bsl1 {z : AV} {r : RA} {k : IntKind} {n : Int} (hr : r.ev f = .int k n) (h : aops P its ⟨upd f d (.list [.int k n]), m, ds⟩ K) : aops P (⟨some d, .bsl 1 1 [z] [(0, 1, r)], none⟩ :: its) ⟨f, m, ds⟩ K := by
  rw [e_bsl1 hr]; exact h

/-- A nil slice becomes a row of the frame's own. -/
theorem awp_vec {slot site sz : Nat} {a : RC} {fr : Nat → Ob} (h1 : f slot = .nils) (h2 : fr site = .none) (h : awp P a ⟨upd f slot (.vec 0 site 1 0 0 false), upd fr site (.vec 1 sz []) :: m, ds⟩ Q) : awp P (.gho (.vec slot site sz) a) ⟨f, fr :: m, ds⟩ Q := by
  refine ⟨_, ?_, h⟩
  have e : look (fr :: m) 0 site = .none := h2
  simp [gstep, h1, e, rowOrNone, newGen, Am.put]

theorem elems_own {fr : Nat → Ob} {site g sz n : Nat} {q : Bool} {xs : List AV} (hl : fr site = .vec g sz xs) (hn : n = xs.length) : elemsOf (fr :: m) (.vec 0 site g 0 n q) = some xs := by
  subst hn
  simp [elemsOf, Am.look, hl]

/-- append to a row of the frame's own. -/
theorem aops_app {sz bytes : Nat} {s r : RA} {site g n : Nat} {fr : Nat → Ob} {xs ys : List AV} (hs : s.ev f = .vec 0 site g 0 n false) (hl : fr site = .vec g sz xs) (hn : n = xs.length) (hr : r.ev f = .list ys) (hz : ys.all (fun e => e.cells.length == sz) = true) (hm : n + ys.length ≤ maxLen) (hb : (n + ys.length) * bytes ≤ 140737488355328)
    (h : aops P its ⟨upd f d (.vec 0 site (g + 1) 0 (n + ys.length) false), upd fr site (.vec (g + 1) sz (xs ++ ys)) :: m, ds⟩ K) : aops P (⟨some d, .app sz bytes s r, none⟩ :: its) ⟨f, fr :: m, ds⟩ K := by
  refine ⟨0, site, g, n, xs, ys, hs, hl, by omega, ?_, hz, hm, hb, ?_⟩
  · show elemsOf (fr :: m) (r.ev f) = some ys
    rw [hr]; rfl
  · subst hn
    rw [List.take_length]
    exact h

/-- A call of a function that is handed no object of ours. -/
theorem aops_call {k : Nat} {args : List RA} {ys : List AV} {v : AV} (hk : Fn1 P k ys v) (hy : AV.stillL false m (args.map (RA.ev f)) = some ys) (h1 : AV.rfL ys = true) (h2 : v.rf = true) (h3 : AV.rfL (args.map (RA.ev f)) = true ∨ v.nl = true) (h : aops P its ⟨upd f d v, m, ds⟩ K) :
    aops P (⟨some d, .call (.f k) args, none⟩ :: its) ⟨f, m, ds⟩ K := by
  refine ⟨k, [], [], ys, v, rfl, ?_, h1, hk, h2, ?_, h⟩
  · simpa using hy
  · simpa using h3

/-- A guard. -/
def gsel (P : Program) (v : AV) (w : Bool) (d : Option Nat) (ro : RO) (its : List Item) (st : St) (K : St → Prop) : Prop :=
  match v with
  | .bool b => (b = w → aops P (⟨d, ro, none⟩ :: its) st K) ∧ (b = (!w) → aops P its { st with f := updO st.f d (.tup []) } K)
  | .tup l => l = [] ∧ aops P its { st with f := updO st.f d (.tup []) } K
  | _ => False
theorem gsel_of {b w : Bool} {d : Option Nat} {ro : RO} {st : St} (h1 : b = w → aops P (⟨d, ro, none⟩ :: its) st K) (h2 : b = (!w) → aops P its { st with f := updO st.f d (.tup []) } K) : gsel P (.bool b) w d ro its st K := ⟨h1, h2⟩
theorem e_gsel_t {d : Option Nat} {ro : RO} {st : St} : gsel P (.bool true) true d ro its st K = aops P (⟨d, ro, none⟩ :: its) st K := by simp [gsel]
theorem e_gsel_f {d : Option Nat} {ro : RO} {st : St} : gsel P (.bool false) false d ro its st K = aops P (⟨d, ro, none⟩ :: its) st K := by simp [gsel]
theorem e_gsel_tf {ro : RO} : gsel P (.bool true) false (some d) ro its ⟨f, m, ds⟩ K = aops P its ⟨upd f d (.tup []), m, ds⟩ K := by simp [gsel, updO]
theorem e_gsel_ft {ro : RO} : gsel P (.bool false) true (some d) ro its ⟨f, m, ds⟩ K = aops P its ⟨upd f d (.tup []), m, ds⟩ K := by simp [gsel, updO]
theorem e_gsel_n {ro : RO} {w : Bool} : gsel P (.tup []) w (some d) ro its ⟨f, m, ds⟩ K = aops P its ⟨upd f d (.tup []), m, ds⟩ K := by simp [gsel, updO]
theorem e_gsel_tf0 {ro : RO} {st : St} : gsel P (.bool true) false none ro its st K = aops P its st K := by simp [gsel, updO]
theorem e_gsel_ft0 {ro : RO} {st : St} : gsel P (.bool false) true none ro its st K = aops P its st K := by simp [gsel, updO]
theorem e_gsel_n0 {ro : RO} {w : Bool} {st : St} : gsel P (.tup []) w none ro its st K = aops P its st K := by simp [gsel, updO]
theorem e_g {ro : RO} {j : Nat} {w : Bool} {d : Option Nat} : aops P (⟨d, ro, some (j, w)⟩ :: its) ⟨f, m, ds⟩ K = gsel P (f j) w d ro its ⟨f, m, ds⟩ K := by
  simp only [aops, astep, gsel]
  generalize f j = v
  cases v <;> rfl

theorem e_ends_r {rs : List RR} {n : Nat} {R : AV → Mem → Prop} {fr : Nat → Ob} : AEnds rs n R .ret ⟨f, fr :: m, ds⟩ = (ds = [] ∧ isV (resV ⟨f, fr :: m, ds⟩ rs) ∧ isV (leave (fr :: m) (vget (resV ⟨f, fr :: m, ds⟩ rs))) ∧ m.length = n ∧ R (vget (leave (fr :: m) (vget (resV ⟨f, fr :: m, ds⟩ rs)))) m) := by
  apply propext
  constructor
  · rintro ⟨_, h1, x, y, fr', m', h2, h3, h4, h5, h6⟩
    cases h4
    have h1 : ds = [] := h1
    rw [h2, e_vget, h3]
    exact ⟨h1, rfl, rfl, h5, h6⟩
  · rintro ⟨h1, h2, h3, h4, h5⟩
    generalize hv : resV ⟨f, fr :: m, ds⟩ rs = v at h2 h3 h5
    cases v with
    | none => cases h2
    | some x =>
      rw [e_vget] at h3 h5
      cases hl : leave (fr :: m) x with
      | none => rw [hl] at h3; cases h3
      | some y =>
        rw [hl] at h5
        exact ⟨.inr rfl, h1, x, y, fr, m, hv, hl, rfl, h4, h5⟩
theorem e_ends_n {rs : List RR} {n : Nat} {R : AV → Mem → Prop} {st : St} : AEnds rs n R .normal st = AEnds rs n R .ret st := by
  simp [AEnds]

theorem e_upd {α : Type} (f : Nat → α) (d : Nat) (x : α) (i : Nat) : upd f d x i = bif Nat.beq i d then x else f i := id rfl
theorem e_t (n : Nat) : (RA.t n).ev f = f n := id rfl
theorem e_c (x : AV) : (RA.c x).ev f = x := id rfl
theorem e_f (k : Nat) : (RA.f k).ev f = .fn (.func k) [] [] := id rfl

end

end Go.Proofs.Ytbalffclojdmhaa.Am
