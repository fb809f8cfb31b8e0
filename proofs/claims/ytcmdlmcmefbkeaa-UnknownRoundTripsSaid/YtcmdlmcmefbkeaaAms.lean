/- How code of the abstract machine is worked out: one equation for each kind of operation. -/
import Derived.Test.YtcmdlmcmefbkeaaAmr
namespace Go.Proofs.Ytcmdlmcmefbkeaa.Am
open Go

section
variable {P : Program} {f : Fr} {m : Mem} {ds : List DF} {K : St → Prop} {Q : Exit → St → Prop} {its : List Item} {d : Nat}

/-- What follows. -/
def Kc (P : Program) (b : RC) (Q : Exit → St → Prop) : Exit → St → Prop := Ks (fun st' => awp P b st' Q) Q
def Kl (I : Nat → St → Prop) (n : Nat) (Q : Exit → St → Prop) : Exit → St → Prop := Ks (fun s => ∃ k, k < n ∧ I k s) Q

theorem e_skip {st : St} : awp P .skip st Q = Q .normal st := id rfl
theorem e_no {st : St} : awp P .no st Q = False := id rfl
theorem e_lab {st : St} : awp P .lab st Q = Q .normal st := id rfl
theorem e_ret {st : St} : awp P .ret st Q = Q .ret st := id rfl
theorem e_exit {st : St} {i : Nat} : awp P (.exit i) st Q = Q (.exit i) st := id rfl
theorem e_reg {st : St} : awp P (.reg its) st Q = aops P its st (Q .normal) := id rfl
theorem e_draw {st : St} : awp P (.draw its) st Q = aops P its st (Q .normal) := id rfl
theorem e_seq {st : St} {a b : RC} : awp P (.seq a b) st Q = awp P a st (Kc P b Q) := id rfl
theorem e_block {st : St} {i : Nat} {a : RC} : awp P (.block i a) st Q = awp P a st (Kb i Q) := id rfl
theorem e_scope {st : St} {a : RC} : awp P (.scope a) st Q = awp P a st (Kg Q) := id rfl
def bget : AV → Bool
  | .bool b => b
  | _ => false
def isB : AV → Prop
  | .bool _ => True
  | _ => False
theorem e_bget (b : Bool) : bget (.bool b) = b := id rfl
theorem e_isB (b : Bool) : isB (.bool b) = True := id rfl
/-- A choice. -/
def csel (P : Program) (v : AV) (a b : RC) (st : St) (Q : Exit → St → Prop) : Prop := isB v ∧ (bget v = true → awp P a st Q) ∧ (bget v = false → awp P b st Q)
theorem e_csel_t {a b : RC} {st : St} : csel P (.bool true) a b st Q = awp P a st Q := by simp [csel, isB, bget]
theorem e_csel_f {a b : RC} {st : St} : csel P (.bool false) a b st Q = awp P b st Q := by simp [csel, isB, bget]
theorem csel_of {t : Bool} {a b : RC} {st : St} (h1 : t = true → awp P a st Q) (h2 : t = false → awp P b st Q) : csel P (.bool t) a b st Q := ⟨trivial, h1, h2⟩
theorem e_cond {c : RA} {a b : RC} : awp P (.cond c a b) ⟨f, m, ds⟩ Q = csel P (c.ev f) a b ⟨f, m, ds⟩ Q := by
  simp only [awp, csel]
  generalize c.ev f = v
  cases v <;> simp [bget, isB]

theorem e_kc_n {b : RC} {st : St} : Kc P b Q .normal st = awp P b st Q := id rfl
theorem e_kc_x {b : RC} {st : St} {i : Nat} : Kc P b Q (.exit i) st = Q (.exit i) st := id rfl
theorem e_kc_r {b : RC} {st : St} : Kc P b Q .ret st = Q .ret st := id rfl
theorem e_kb_n {st : St} {i : Nat} : Kb i Q .normal st = Q .normal st := id rfl
theorem e_kb_x {st : St} {i j : Nat} : Kb i Q (.exit j) st = if j = i then Q .normal st else Q (.exit j) st := id rfl
theorem e_kb_r {st : St} {i : Nat} : Kb i Q .ret st = Q .ret st := id rfl
theorem e_kg_n {st : St} : Kg Q .normal st = Q .normal st := id rfl
theorem e_kg_x {st : St} {j : Nat} : Kg Q (.exit j) st = Q (.exit j) st := id rfl
theorem e_kg_r {st : St} : Kg Q .ret st = Q .ret st := id rfl
theorem e_kl_n {I : Nat → St → Prop} {n : Nat} {st : St} : Kl I n Q .normal st = ∃ k, k < n ∧ I k st := id rfl
theorem e_kl_x {I : Nat → St → Prop} {n : Nat} {st : St} {j : Nat} : Kl I n Q (.exit j) st = Q (.exit j) st := id rfl
theorem e_kl_r {I : Nat → St → Prop} {n : Nat} {st : St} : Kl I n Q .ret st = Q .ret st := id rfl

theorem awp_loop {a : RC} {st : St} (I : Nat → St → Prop) (n : Nat) (h0 : I n st) (h : ∀ n st', I n st' → awp P a st' (Kl I n Q)) : awp P (.loop a) st Q := ⟨I, n, h0, h⟩

theorem e_nil {st : St} : aops P [] st K = K st := id rfl
def vget (x : Option AV) : AV := x.getD .top
def isV (x : Option AV) : Prop := x.isSome = true
theorem e_vget (x : AV) : vget (some x) = x := id rfl
theorem e_isV (x : AV) : isV (some x) = True := by simp [isV]
theorem e_val {vo : VO} : aops P (⟨some d, .val vo, none⟩ :: its) ⟨f, m, ds⟩ K = (isV (vop f m vo) ∧ aops P its ⟨upd f d (vget (vop f m vo)), m, ds⟩ K) := by
  simp only [aops, astep, aop, updO]
  generalize vop f m vo = v
  cases v <;> simp [vget, isV]

def mget (x : Option Mem) : Mem := x.getD []
def isM (x : Option Mem) : Prop := x.isSome = true
theorem e_mget (x : Mem) : mget (some x) = x := id rfl
theorem e_isM (x : Mem) : isM (some x) = True := by simp [isM]
theorem e_store {n : Nat} {p r : RA} : aops P (⟨none, .store n p r, none⟩ :: its) ⟨f, m, ds⟩ K = ((r.ev f).cells.length = n ∧ (r.ev f).cells.all AV.leaf = true ∧ isM (astore m (p.ev f) (r.ev f).cells) ∧ aops P its ⟨f, mget (astore m (p.ev f) (r.ev f).cells), ds⟩ K) := by
  simp only [aops, astep, aop, updO]
  generalize astore m (p.ev f) (r.ev f).cells = v
  cases v <;> simp [mget, isM]
def isPv (l s : Nat) (v : AV) : Prop := ∃ o, v = .ptr l s o
theorem e_isPv (l s o : Nat) : isPv l s (.ptr l s o) = True := eq_true ⟨o, rfl⟩
theorem e_storev {l s n : Nat} {p r : RA} : aops P (⟨none, .storev l s n p r, none⟩ :: its) ⟨f, m, ds⟩ K = (isPv l s (p.ev f) ∧ (r.ev f).cells.length = n ∧ (r.ev f).cells.all AV.leaf = true ∧ isM (astore m (p.ev f) (r.ev f).cells) ∧ aops P its ⟨f, mget (astore m (p.ev f) (r.ev f).cells), ds⟩ K) := by
  simp only [aops, astep, aop, updO, isPv]
  generalize astore m (p.ev f) (r.ev f).cells = v
  cases v <;> simp [mget, isM]
theorem e_allocN {s : Nat} {z : List AV} : aops P (⟨some d, .allocN s z, none⟩ :: its) ⟨f, m, ds⟩ K = (noOb m s = true ∧ aops P its ⟨upd f d (.ptr 0 s 0), Am.put m 0 s (.cells z), ds⟩ K) := id rfl
theorem e_boxN {s : Nat} {r : RA} : aops P (⟨some d, .boxN s r, none⟩ :: its) ⟨f, m, ds⟩ K = (noOb m s = true ∧ (r.ev f).cells.all AV.leaf = true ∧ aops P its ⟨upd f d (.ptr 0 s 0), Am.put m 0 s (.cells (r.ev f).cells), ds⟩ K) := id rfl

theorem e_bsl {sz len : Nat} {z : List AV} {ps : List (Nat × Nat × RA)} {y : List AV} (hy : fill f ps (zeros z sz len) = some y) (h1 : AV.rfL y = true) (h2 : y.all AV.leaf = true) : aops P (⟨some d, .bsl sz len z ps, none⟩ :: its) ⟨f, m, ds⟩ K = aops P its ⟨upd f d (.list (chunk sz len y)), m, ds⟩ K := by
  apply propext
  constructor
  · rintro ⟨y', h, _, _, k⟩
    have h : fill f ps (zeros z sz len) = some y' := h
    rw [hy] at h; cases h
    exact k
  · intro k
    exact ⟨y, hy, h1, h2, k⟩
/-- A row of one element of one cell. -/
theorem e_bsl1 {z : AV} {r : RA} {k : IntKind} {n : Int} (hr : r.ev f = .int k n) : aops P (⟨some d, .bsl 1 1 [z] [(0, 1, r)], none⟩ :: its) ⟨f, m, ds⟩ K = aops P its ⟨upd f d (.list [.int k n]), m, ds⟩ K := by
  refine e_bsl (y := [.int k n]) ?_ rfl rfl
  simp [fill, hr, AV.cells, AV.leaf, zeros, List.range_succ, splice]

theorem aops_bsl1 {z : AV} {r : RA} {k : IntKind} {n : Int} (hr : r.ev f = .int k n) (h : aops P its ⟨upd f d (.list [.int k n]), m, ds⟩ K) : aops P (⟨some d, .bsl 1 1 [z] [(0, 1, r)], none⟩ :: its) ⟨f, m, ds⟩ K := by
  rw [e_bsl1 hr]; exact h

/-- A row of one element of many cells. -/
theorem aops_bslA {sz : Nat} {z l : List AV} {r : RA} (hr : r.ev f = .agg l) (hl : l.length = sz) (h1 : sz ≠ 1) (hf : AV.rfL l = true) (hlf : l.all AV.leaf = true) (h : aops P its ⟨upd f d (.list [.agg l]), m, ds⟩ K) :
    aops P (⟨some d, .bsl sz 1 z [(0, sz, r)], none⟩ :: its) ⟨f, m, ds⟩ K := by
  have hz : (zeros z sz 1).length = sz := by simp [zeros]
  have hy : fill f [(0, sz, r)] (zeros z sz 1) = some l := by
    simp only [fill, hr, AV.cells, hl, hlf, Nat.zero_add, hz, Nat.le_refl, and_self, if_true, splice, List.take_zero, List.nil_append]
    rw [List.drop_of_length_le (by omega), List.append_nil]
  rw [e_bsl hy hf hlf]
  have hc : chunk sz 1 l = [.agg l] := by
    simp only [chunk, if_neg h1]
    rw [List.take_of_length_le (by omega)]
  rw [hc]
  exact h

/-- A deferred call. -/
theorem aops_dfr {r : RA} {args : List RA} {fn : Fn} {fa fb : List AV} (hr : r.ev f = .fn fn fa fb) (h : aops P its ⟨f, m, ⟨fn, fb, fa ++ args.map (RA.ev f)⟩ :: ds⟩ K) : aops P (⟨none, .dfr r args, none⟩ :: its) ⟨f, m, ds⟩ K :=
  ⟨fn, fa, fb, hr, h⟩

theorem ACallsD.mono {k : FuncId} {args : List AV} {m : Mem} {R R' : AV → Mem → Prop} (h : ACallsD P k args m R) (hr : ∀ x m', R x m' → R' x m') : ACallsD P k args m R' :=
  ⟨h.1, fun G w vs h1 h2 u c cs hu => by
    obtain ⟨e, u', w', fr, ⟨h3, G', x, v, m', h4, h5, h6⟩, h7⟩ := h.2 G w vs h1 h2 u c cs hu
    exact ⟨e, u', w', fr, ⟨h3, G', x, v, m', h4, hr _ _ h5, h6⟩, h7⟩⟩

theorem leaves_nil {rs : List RR} {n : Nat} {R : AV → Mem → Prop} (h : AEnds rs n R .ret ⟨f, m, []⟩) : ALeaves P rs n R f [] m := by
  obtain ⟨_, _, x, y, fr, m', h1, h2, h3, h4, h5⟩ := h
  exact ⟨x, y, fr, m', h1, h2, h3, h4, h5⟩

theorem leaves_cons {rs : List RR} {n : Nat} {R : AV → Mem → Prop} {k : FuncId} {cap args : List AV} {dss : List DF} {m1 : Mem} (h : ACallsD P k (args ++ cap) m fun _ m' => m' = m1) (hk : ALeaves P rs n R f dss m1) : ALeaves P rs n R f (⟨.func k, cap, args⟩ :: dss) m :=
  ⟨k, rfl, h.mono fun _ _ e => by rw [e]; exact hk⟩

/-- A nil slice becomes a row of the frame's own. -/
theorem awp_vec {slot site sz : Nat} {a : RC} {fr : Nat → Ob} (h1 : f slot = .nils) (h2 : fr site = .none) (h : awp P a ⟨upd f slot (.vec 0 site 1 0 0 false), upd fr site (.vec 1 sz []) :: m, ds⟩ Q) : awp P (.gho (.vec slot site sz) a) ⟨f, fr :: m, ds⟩ Q := by
  refine ⟨_, ?_, h⟩
  have e : look (fr :: m) 0 site = .none := h2
  simp [gstep, h1, e, rowOrNone, newGen, Am.put]

theorem elems_own {fr : Nat → Ob} {site g sz n : Nat} {q : Bool} {xs : List AV} (hl : fr site = .vec g sz xs) (hn : n = xs.length) : elemsOf (fr :: m) (.vec 0 site g 0 n q) = some xs := by
  subst hn
  simp [elemsOf, Am.look, hl]

/-- append to a row of the frame's own. -/
theorem aops_app {sz bytes el : Nat} {s r : RA} {site g n : Nat} {fr : Nat → Ob} {xs ys : List AV} (hs : s.ev f = .vec 0 site g 0 n false) (hl : fr site = .vec g sz xs) (ht : tyOk site el = true) (hn : n = xs.length) (hr : r.ev f = .list ys) (hz : ys.all (fun e => e.cells.length == sz) = true) (hm : n + ys.length ≤ maxLen) (hb : (n + ys.length) * bytes ≤ 140737488355328)
    (h : aops P its ⟨upd f d (.vec 0 site (g + 1) 0 (n + ys.length) false), upd fr site (.vec (g + 1) sz (xs ++ ys)) :: m, ds⟩ K) : aops P (⟨some d, .app sz bytes el s r, none⟩ :: its) ⟨f, fr :: m, ds⟩ K := by
  refine ⟨0, site, g, n, xs, ys, hs, hl, ht, by omega, ?_, hz, hm, hb, ?_⟩
  · show elemsOf (fr :: m) (r.ev f) = some ys
    rw [hr]; rfl
  · subst hn
    rw [List.take_length]
    exact h

/-- A call of a function that is handed no object of ours. -/
theorem aops_call {k : Nat} {args : List RA} {ys : List AV} {v : AV} (hk : Fn1 P k ys v) (hy : AV.stillL false m (args.map (RA.ev f)) = some ys) (h1 : AV.rfL ys = true) (h2 : v.rf = true) (h3 : AV.rfL (args.map (RA.ev f)) = true ∨ v.nl = true) (h : aops P its ⟨upd f d v, m, ds⟩ K) :
    aops P (⟨some d, .call (.f k) args, none⟩ :: its) ⟨f, m, ds⟩ K := by
  refine ⟨k, [], [], ys, v, rfl, ?_, h1, hk, h2, ?_, h⟩
  · simpa using hy
  · simpa using h3

/-- A call that is handed objects of ours. -/
theorem aops_callF {k : Nat} {args : List RA} {ys : List AV} {v : AV} {m' : Mem} (hk : ACalls P k ys m fun x m1 => x = v ∧ m1 = m') (hy : args.map (RA.ev f) = ys) (h : aops P its ⟨upd f d v, m', ds⟩ K) :
    aops P (⟨some d, .callF (.f k) args, none⟩ :: its) ⟨f, m, ds⟩ K := by
  refine ⟨k, [], [], v, m', rfl, ?_, h⟩
  show ACalls P k (args.map (RA.ev f) ++ []) m fun x m1 => x = v ∧ m1 = m'
  rw [List.append_nil, hy]
  exact hk

/-- .. whose value is not kept. -/
theorem aops_callF0 {k : Nat} {args : List RA} {ys : List AV} {v : AV} {m' : Mem} (hk : ACalls P k ys m fun x m1 => x = v ∧ m1 = m') (hy : args.map (RA.ev f) = ys) (h : aops P its ⟨f, m', ds⟩ K) :
    aops P (⟨none, .callF (.f k) args, none⟩ :: its) ⟨f, m, ds⟩ K := by
  refine ⟨k, [], [], v, m', rfl, ?_, h⟩
  show ACalls P k (args.map (RA.ev f) ++ []) m fun x m1 => x = v ∧ m1 = m'
  rw [List.append_nil, hy]
  exact hk

/-- make, at a site where nothing lies. -/
theorem aops_mk {site el sz bytes : Nat} {z : List AV} {l c : RA} {kl kc : IntKind} {n k : Nat} {fr : Nat → Ob} (hl : l.ev f = .int kl (n : Int)) (hc : c.ev f = .int kc (k : Int)) (hnk : n ≤ k) (hk : k ≤ 9223372036854775807) (hb : bytes * k ≤ 281474976710656) (hs : fr site = .none)
    (h : aops P its ⟨upd f d (.vec 0 site 1 0 n false), upd fr site (.vec 1 sz (List.replicate n (zeroE sz z))) :: m, ds⟩ K) : aops P (⟨some d, .mk site el sz bytes z l c, none⟩ :: its) ⟨f, fr :: m, ds⟩ K := by
  have e : look (fr :: m) 0 site = .none := hs
  refine ⟨kl, kc, n, k, hl, hc, hnk, hk, hb, ?_, ?_⟩
  · show rowOrNone (look (fr :: m) 0 site) = true
    rw [e]; rfl
  · have hg : newGen (fr :: m) 0 site = 1 := by unfold newGen; rw [e]
    simp only [hg]
    exact h

/-- The bytes of a text, at a site where nothing lies. -/
theorem aops_s2b {site el : Nat} {r : RA} {s : List UInt8} {fr : Nat → Ob} (hr : r.ev f = .str s) (hl : s.length ≤ 9223372036854775807) (hs : fr site = .none)
    (h : aops P its ⟨upd f d (.vec 0 site 1 0 s.length false), upd fr site (.vec 1 1 (bytesAV s)) :: m, ds⟩ K) : aops P (⟨some d, .s2b site el r, none⟩ :: its) ⟨f, fr :: m, ds⟩ K := by
  have e : look (fr :: m) 0 site = .none := hs
  refine ⟨s, hr, hl, ?_, ?_⟩
  · show rowOrNone (look (fr :: m) 0 site) = true
    rw [e]; rfl
  · have hg : newGen (fr :: m) 0 site = 1 := by unfold newGen; rw [e]
    simp only [hg]
    exact h

/-- append of a text's bytes. -/
theorem aops_appS {el : Nat} {s r : RA} {l site g n : Nat} {xs : List AV} {t : List UInt8} (hs : s.ev f = .vec l site g 0 n false) (hl : look m l site = .vec g 1 xs) (ht : tyOk site el = true) (hn : n = xs.length) (hr : r.ev f = .str t) (hm : n + t.length ≤ 140737488355328)
    (h : aops P its ⟨upd f d (.vec l site (g + 1) 0 (n + t.length) false), Am.put m l site (.vec (g + 1) 1 (xs ++ bytesAV t)), ds⟩ K) : aops P (⟨some d, .appS el s r, none⟩ :: its) ⟨f, m, ds⟩ K := by
  subst hn
  refine ⟨l, site, g, _, xs, t, hs, hl, ht, Nat.le_refl _, hr, hm, ?_⟩
  rw [List.take_length]
  exact h

/-- A variable of an elder round is forgotten. -/
theorem e_drop {s : Nat} {a : RC} {fr : Nat → Ob} : awp P (.gho (.drop s) a) ⟨f, fr :: m, ds⟩ Q = ((fr s).isRow = false ∧ awp P a ⟨fun i => (f i).scrub s, upd (fun i => (fr i).scrub s) s .none :: m, ds.map (DF.scrub s)⟩ Q) := by
  apply propext
  have hn : noRow (fr :: m) s = !(fr s).isRow := by
    unfold noRow
    show (match fr s with | .vec .. => false | _ => true) = _
    cases fr s <;> rfl
  constructor
  · rintro ⟨st', h1, h2⟩
    simp only [gstep, hn] at h1
    cases hr : (fr s).isRow with
    | true => rw [hr] at h1; cases h1
    | false => rw [hr] at h1; cases h1; exact ⟨rfl, h2⟩
  · rintro ⟨h1, h2⟩
    refine ⟨_, ?_, h2⟩
    simp only [gstep, hn, h1]
    rfl
theorem e_scr_top (s : Nat) : AV.top.scrub s = .top := id rfl
theorem e_scr_int (s : Nat) (k : IntKind) (n : Int) : (AV.int k n).scrub s = .int k n := id rfl
theorem e_scr_bool (s : Nat) (b : Bool) : (AV.bool b).scrub s = .bool b := id rfl
theorem e_scr_str (s : Nat) (b : List UInt8) : (AV.str b).scrub s = .str b := id rfl
theorem e_scr_nils (s : Nat) : AV.nils.scrub s = .nils := id rfl
theorem e_scr_nilp (s : Nat) : AV.nilp.scrub s = .nilp := id rfl
theorem e_scr_nili (s : Nat) : AV.nili.scrub s = .nili := id rfl
theorem e_scr_nilf (s : Nat) : AV.nilf.scrub s = .nilf := id rfl
theorem e_scr_list (s : Nat) (l : List AV) : (AV.list l).scrub s = .list l := id rfl
theorem e_scr_vec (s l t g o n : Nat) (q : Bool) : (AV.vec l t g o n q).scrub s = .vec l t g o n q := id rfl
theorem e_scr_agg (s : Nat) (l : List AV) : (AV.agg l).scrub s = .agg (AV.scrubL s l) := id rfl
theorem e_scr_tup (s : Nat) (l : List AV) : (AV.tup l).scrub s = .tup (AV.scrubL s l) := id rfl
theorem e_scr_ptr (s t o : Nat) : (AV.ptr 0 t o).scrub s = bif Nat.beq t s then .top else .ptr 0 t o := id rfl
theorem e_scr_ptr1 (s l t o : Nat) : (AV.ptr (l + 1) t o).scrub s = .ptr (l + 1) t o := id rfl
theorem e_scr_nil (s : Nat) : AV.scrubL s [] = [] := id rfl
theorem e_scr_cons (s : Nat) (x : AV) (l : List AV) : AV.scrubL s (x :: l) = x.scrub s :: AV.scrubL s l := id rfl
theorem e_scr_cells (s : Nat) (l : List AV) : (Ob.cells l).scrub s = .cells (AV.scrubL s l) := id rfl
theorem e_scr_row (s g z : Nat) (l : List AV) : (Ob.vec g z l).scrub s = .vec g z l := id rfl
theorem e_scr_none (s : Nat) : Ob.none.scrub s = .none := id rfl
theorem e_scr_isRow (s : Nat) (o : Ob) : (o.scrub s).isRow = o.isRow := by cases o <;> rfl
theorem e_row_cells (l : List AV) : (Ob.cells l).isRow = false := id rfl
theorem e_row_none : Ob.none.isRow = false := id rfl

/-- A guard. -/
def gsel (P : Program) (v : AV) (w : Bool) (d : Option Nat) (ro : RO) (its : List Item) (st : St) (K : St → Prop) : Prop :=
  match v with
  | .bool b => (b = w → aops P (⟨d, ro, none⟩ :: its) st K) ∧ (b = (!w) → aops P its { st with f := updO st.f d (.tup []) } K)
  | .tup l => l = [] ∧ aops P its { st with f := updO st.f d (.tup []) } K
  | _ => False
theorem gsel_of {b w : Bool} {d : Option Nat} {ro : RO} {st : St} (h1 : b = w → aops P (⟨d, ro, none⟩ :: its) st K) (h2 : b = (!w) → aops P its { st with f := updO st.f d (.tup []) } K) : gsel P (.bool b) w d ro its st K := ⟨h1, h2⟩
theorem gsel_t {b : Bool} {d : Option Nat} {ro : RO} {st : St} (h1 : b = true → aops P (⟨d, ro, none⟩ :: its) st K) (h2 : b = false → aops P its { st with f := updO st.f d (.tup []) } K) : gsel P (.bool b) true d ro its st K := ⟨h1, h2⟩
theorem gsel_f {b : Bool} {d : Option Nat} {ro : RO} {st : St} (h1 : b = false → aops P (⟨d, ro, none⟩ :: its) st K) (h2 : b = true → aops P its { st with f := updO st.f d (.tup []) } K) : gsel P (.bool b) false d ro its st K := ⟨h1, h2⟩
theorem e_gsel_t {d : Option Nat} {ro : RO} {st : St} : gsel P (.bool true) true d ro its st K = aops P (⟨d, ro, none⟩ :: its) st K := by simp [gsel]
theorem e_gsel_f {d : Option Nat} {ro : RO} {st : St} : gsel P (.bool false) false d ro its st K = aops P (⟨d, ro, none⟩ :: its) st K := by simp [gsel]
theorem e_gsel_tf {ro : RO} : gsel P (.bool true) false (some d) ro its ⟨f, m, ds⟩ K = aops P its ⟨upd f d (.tup []), m, ds⟩ K := by simp [gsel, updO]
theorem e_gsel_ft {ro : RO} : gsel P (.bool false) true (some d) ro its ⟨f, m, ds⟩ K = aops P its ⟨upd f d (.tup []), m, ds⟩ K := by simp [gsel, updO]
theorem e_gsel_n {ro : RO} {w : Bool} : gsel P (.tup []) w (some d) ro its ⟨f, m, ds⟩ K = aops P its ⟨upd f d (.tup []), m, ds⟩ K := by simp [gsel, updO]
theorem e_gsel_tf0 {ro : RO} {st : St} : gsel P (.bool true) false none ro its st K = aops P its st K := by simp [gsel, updO]
theorem e_gsel_ft0 {ro : RO} {st : St} : gsel P (.bool false) true none ro its st K = aops P its st K := by simp [gsel, updO]
theorem e_gsel_n0 {ro : RO} {w : Bool} {st : St} : gsel P (.tup []) w none ro its st K = aops P its st K := by simp [gsel, updO]
theorem e_g {ro : RO} {j : Nat} {w : Bool} {d : Option Nat} : aops P (⟨d, ro, some (j, w)⟩ :: its) ⟨f, m, ds⟩ K = gsel P (f j) w d ro its ⟨f, m, ds⟩ K := by
  simp only [aops, astep, gsel]
  generalize f j = v
  cases v <;> rfl

theorem e_ends_r {rs : List RR} {n : Nat} {R : AV → Mem → Prop} {fr : Nat → Ob} : AEnds rs n R .ret ⟨f, fr :: m, ds⟩ = (ds = [] ∧ isV (resV ⟨f, fr :: m, ds⟩ rs) ∧ isV (leave (fr :: m) (vget (resV ⟨f, fr :: m, ds⟩ rs))) ∧ m.length = n ∧ R (vget (leave (fr :: m) (vget (resV ⟨f, fr :: m, ds⟩ rs)))) m) := by
  apply propext
  constructor
  · rintro ⟨_, h1, x, y, fr', m', h2, h3, h4, h5, h6⟩
    cases h4
    have h1 : ds = [] := h1
    rw [h2, e_vget, h3]
    exact ⟨h1, rfl, rfl, h5, h6⟩
  · rintro ⟨h1, h2, h3, h4, h5⟩
    generalize hv : resV ⟨f, fr :: m, ds⟩ rs = v at h2 h3 h5
    cases v with
    | none => cases h2
    | some x =>
      rw [e_vget] at h3 h5
      cases hl : leave (fr :: m) x with
      | none => rw [hl] at h3; cases h3
      | some y =>
        rw [hl] at h5
        exact ⟨.inr rfl, h1, x, y, fr, m, hv, hl, rfl, h4, h5⟩
theorem e_ends_n {rs : List RR} {n : Nat} {R : AV → Mem → Prop} {st : St} : AEnds rs n R .normal st = AEnds rs n R .ret st := by
  simp [AEnds]

theorem e_upd {α : Type} (f : Nat → α) (d : Nat) (x : α) (i : Nat) : upd f d x i = bif Nat.beq i d then x else f i := id rfl
theorem e_nbeq (a b : Nat) : Nat.beq a b = (a == b) := by
  cases h : Nat.beq a b with
  | true => rw [Nat.eq_of_beq_eq_true h]; simp
  | false => have := Nat.ne_of_beq_eq_false h; simp [this]
/-- A nil slice in a variable becomes a row of the frame's own. -/
theorem awp_vecc {s idx site sz : Nat} {a : RC} {fr : Nat → Ob} {xs : List AV} (h1 : fr s = .cells xs) (h2 : xs[idx]? = some .nils) (h3 : fr site = .none) (hne : Nat.beq site s = false) (h : awp P a ⟨f, upd (upd fr site (.vec 1 sz [])) s (.cells (xs.set idx (.vec 0 site 1 0 0 false))) :: m, ds⟩ Q) : awp P (.gho (.vecc s idx site sz) a) ⟨f, fr :: m, ds⟩ Q := by
  refine ⟨_, ?_, h⟩
  have e1 : look (fr :: m) 0 s = .cells xs := h1
  have e : look (fr :: m) 0 site = .none := h3
  simp [gstep, e1, h2, e, rowOrNone, newGen, Am.put, hne]
theorem upd_upd {α : Type} (f : Nat → α) (d : Nat) (x y : α) : upd (upd f d x) d y = upd f d y := by
  funext i
  by_cases h : i = d
  · subst h; rw [upd_same, upd_same]
  · rw [upd_ne _ _ h, upd_ne _ _ h, upd_ne _ _ h]
theorem upd_comm {α : Type} (f : Nat → α) (d e : Nat) (x y : α) (hde : d ≠ e) : upd (upd f d x) e y = upd (upd f e y) d x := by
  funext i
  by_cases h : i = d
  · subst h; rw [upd_same, upd_ne _ _ hde, upd_same]
  · by_cases h2 : i = e
    · subst h2; rw [upd_same, upd_ne _ _ h, upd_same]
    · rw [upd_ne _ _ h2, upd_ne _ _ h, upd_ne _ _ h, upd_ne _ _ h2]
theorem upd_eta {α : Type} (f : Nat → α) (d : Nat) (x : α) (h : f d = x) : upd f d x = f := by
  funext i
  by_cases hi : i = d
  · subst hi; rw [upd_same, h]
  · rw [upd_ne _ _ hi]
theorem e_t (n : Nat) : (RA.t n).ev f = f n := id rfl
theorem e_c (x : AV) : (RA.c x).ev f = x := id rfl
theorem e_f (k : Nat) : (RA.f k).ev f = .fn (.func k) [] [] := id rfl

end

end Go.Proofs.Ytcmdlmcmefbkeaa.Am
