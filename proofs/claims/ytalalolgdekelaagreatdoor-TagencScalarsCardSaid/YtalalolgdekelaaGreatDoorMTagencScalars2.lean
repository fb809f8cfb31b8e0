/- Parts of the proof, in order. -/
import Derived.Test.YtalalolgdekelaaGreatDoorMTagencScalars1

/- Cursors, as plain data: what each function of the package computes. -/
namespace Go.Proofs.YtalalolgdekelaaGreatDoor.Cp
open Go Am Bt Vp

/-- A cursor. -/
structure C where
  d : List UInt8
  a : Int
  e : Int
  dp : Int
  nd : Int
  tx : Int

def C.av (c : C) : AV := .agg [.str c.d, .int .i64 c.a, .int .i64 c.e, .int .i64 c.dp, .int .i64 c.nd, .int .i64 c.tx]
def zc : C := ⟨[], 0, 0, 0, 0, 0⟩

/-- Limits. -/
structure L where
  b : Int
  dp : Int
  nd : Int
  tx : Int
def L.av (l : L) : AV := .agg [.int .i64 l.b, .int .i64 l.dp, .int .i64 l.nd, .int .i64 l.tx]

def C.sound (c : C) : Bool := decide (0 ≤ c.a) && decide (c.a ≤ c.e) && decide (c.e ≤ (c.d.length : Int))
def C.rest (c : C) : List UInt8 := bif c.sound then (c.d.drop c.a.toNat).take (c.e.toNat - c.a.toNat) else []
def C.left (c : C) : Int := (c.rest.length : Int)
def C.ahead (c : C) (n : Int) : C := { c with a := IntKind.i64.wrap (c.a + n) }

def opn (s : List UInt8) (l : L) : C × Nat :=
  if l.b < 0 ∨ l.dp < 0 ∨ l.nd < 0 ∨ l.tx < 0 then (zc, 1) else if l.b < (s.length : Int) then (zc, 3) else (⟨s, 0, s.length, l.dp, l.nd, l.tx⟩, 0)

/-- A number read at a cursor. -/
def C.varint (c : C) : Nat × C × Nat :=
  let r := Vp.take c.rest
  if r.2.2 = 0 then (r.1, c.ahead r.2.1, 0) else (0, c, r.2.2)

def fix8 (s : List UInt8) : Nat := (s.take 8).foldr (fun b u => 256 * u + b.toNat) 0

def C.fixed (c : C) : Nat × C × Nat :=
  if c.rest.length < 8 then (0, c, 4) else (fix8 c.rest, c.ahead 8, 0)

def C.spend (c : C) (n : Int) : C × Nat :=
  if n < 0 then (c, 1) else if c.nd < n then (c, 3) else ({ c with nd := IntKind.i64.wrap (c.nd - n) }, 0)

def ncav (r : Nat × C × Nat) : AV := .tup [.int .u64 (r.1 : Nat), r.2.1.av, .int .i64 (r.2.2 : Nat)]
def cav (r : C × Nat) : AV := .tup [r.1.av, .int .i64 (r.2 : Nat)]

theorem C.sound_iff (c : C) : c.sound = true ↔ 0 ≤ c.a ∧ c.a ≤ c.e ∧ c.e ≤ (c.d.length : Int) := by
  simp [C.sound, and_assoc]

theorem C.rest_len (c : C) : c.left = if c.sound = true then c.e - c.a else 0 := by
  unfold C.left C.rest
  split
  · rename_i h
    rw [h]
    have := (C.sound_iff c).1 h
    simp
    omega
  · rename_i h
    have h : c.sound = false := by simpa using h
    rw [h]; rfl

theorem C.rest_of {c : C} (h : c.sound = true) : c.rest = (c.d.drop c.a.toNat).take (c.e.toNat - c.a.toNat) := by
  unfold C.rest; rw [h]; rfl

theorem C.rest_no {c : C} (h : c.sound = false) : c.rest = [] := by
  unfold C.rest; rw [h]; rfl

/-- The first bytes that are left. -/
theorem C.head_of {c : C} (h : c.sound = true) (n : Nat) (k : Int) (hk : k = if c.a + n < c.e then c.a + n else c.e) : c.rest.take n = (c.d.drop c.a.toNat).take (k.toNat - c.a.toNat) := by
  have hs := (C.sound_iff c).1 h
  rw [C.rest_of h, List.take_take]
  congr 1
  split at hk <;> omega

end Go.Proofs.YtalalolgdekelaaGreatDoor.Cp

/- Raw fields, as plain data: what each function of the package computes. -/
namespace Go.Proofs.YtalalolgdekelaaGreatDoor.Up
open Go Am Bt Vp Cp

/-- A raw field. -/
structure R where
  num : Int
  wire : Int
  bits : Nat
  data : List UInt8
  deriving DecidableEq

def R.av (f : R) : AV := .agg [.int .i64 f.num, .int .i64 f.wire, .int .u64 (f.bits : Nat), .str f.data]
def zr : R := ⟨0, 0, 0, []⟩

def tag (num wire : Int) : List UInt8 × Nat :=
  if num < 1 ∨ 65535 < num ∨ wire < 0 ∨ 6 < wire then ([], 6) else (Vp.put (num * 8 + wire).toNat, 0)
def tagv (r : List UInt8 × Nat) : AV := .tup [.str r.1, .int .i64 (r.2 : Nat)]

def takeTag (c : C) : Int × Int × C × Nat :=
  let r := c.varint
  if r.2.2 = 0 then
    if r.1 % 8 = 7 then (0, 0, c, 5) else if r.1 / 8 < 1 ∨ 65535 < r.1 / 8 then (0, 0, c, 6) else ((r.1 / 8 : Nat), (r.1 % 8 : Nat), r.2.1, 0)
  else (0, 0, c, r.2.2)
def ttv (r : Int × Int × C × Nat) : AV := .tup [.int .i64 r.1, .int .i64 r.2.1, r.2.2.1.av, .int .i64 (r.2.2.2 : Nat)]

def number (wire : Int) : Bool := wire == 0 || wire == 1 || wire == 2

/-- A length and as many bytes. -/
def dat (c : C) (wire : Int) : List UInt8 × C × Nat :=
  let r := c.varint
  if r.2.2 = 0 then
    if r.2.1.left < (r.1 : Int) then ([], c, 4)
    else if (if wire = 3 then c.tx else 65536) < (r.1 : Int) then ([], c, 3)
    else ((r.2.1.d.drop r.2.1.a.toNat).take r.1, r.2.1.ahead r.1, 0)
  else ([], c, r.2.2)
def datv (r : List UInt8 × C × Nat) : AV := .tup [.str r.1, r.2.1.av, .int .i64 (r.2.2 : Nat)]

/-- The contents of a field. -/
def cont (c : C) (f : R) : R × C × Nat :=
  if f.wire = 2 then ({ f with bits := c.fixed.1 }, c.fixed.2.1, c.fixed.2.2)
  else if f.wire = 0 ∨ f.wire = 1 then ({ f with bits := c.varint.1 }, c.varint.2.1, c.varint.2.2)
  else ({ f with data := (dat c f.wire).1 }, (dat c f.wire).2.1, (dat c f.wire).2.2)

/-- A raw field read at a cursor. -/
def nxt (c : C) : R × C × Nat :=
  let t := takeTag c
  if t.2.2.2 = 0 then
    let s := t.2.2.1.spend 1
    if s.2 = 0 then
      let k := cont s.1 { num := t.1, wire := t.2.1, bits := 0, data := [] }
      if k.2.2 = 0 then k else (zr, c, k.2.2)
    else (zr, c, s.2)
  else (zr, c, t.2.2.2)
def nxtv (r : R × C × Nat) : AV := .tup [r.1.av, r.2.1.av, .int .i64 (r.2.2 : Nat)]

theorem rest_snd {c : C} (h : c.rest ≠ []) : c.sound = true := by
  cases hs : c.sound with
  | true => rfl
  | false => exact absurd (C.rest_no hs) h

/-- Behind a number that was read the cursor is sound. -/
theorem varint_next {c : C} (hl : c.d.length ≤ 9223372036854775807) (h : c.varint.2.2 = 0) : ∃ n : Nat, 0 < n ∧ n ≤ 10 ∧ (n : Int) ≤ c.left ∧ c.varint.2.1 = { c with a := c.a + n } ∧ c.sound = true ∧ c.varint.2.1.sound = true ∧ c.varint.1 < 2 ^ 64 := by
  unfold C.varint at h ⊢
  have hb := take_bounds c.rest
  generalize Vp.take c.rest = r at h hb ⊢
  obtain ⟨u, n, e⟩ := r
  simp only at h hb ⊢
  split at h
  · rename_i he
    subst he
    obtain ⟨h1, h2, h3, h4⟩ := hb rfl
    have hne : c.rest ≠ [] := by intro e; rw [e] at h2; simp at h2; omega
    have hs := rest_snd hne
    have hs' := (C.sound_iff c).1 hs
    have hle := c.rest_len
    rw [if_pos hs] at hle
    have hw : IntKind.i64.wrap (c.a + (n : Int)) = c.a + n := by
      have : (n : Int) ≤ c.left := by unfold C.left; omega
      rw [wi64]; omega
    have hnl : (n : Int) ≤ c.left := by unfold C.left; omega
    refine ⟨n, h1, h3, hnl, ?_, hs, ?_, ?_⟩
    · rw [if_pos rfl]; simp only [C.ahead, hw]
    · rw [if_pos rfl]
      rw [C.sound_iff]
      simp only [C.ahead, hw]
      omega
    · rw [if_pos rfl]; exact h4
  · rename_i he; exact absurd h he

end Go.Proofs.YtalalolgdekelaaGreatDoor.Up

/- Raw fields as arguments. -/
namespace Go.Proofs.YtalalolgdekelaaGreatDoor.Br
open Go Am Up

theorem has_raw {M k : Nat} {cs : List AV} (h : Has Tryz.prog M k 33 cs) : ∃ f : R, ((Lit.int .i64 f.num).wf = true ∧ (Lit.int .i64 f.wire).wf = true ∧ (Lit.int .u64 (f.bits : Int)).wf = true ∧ f.data.length ≤ M) ∧ .agg cs = f.av := by
  obtain ⟨k, h⟩ := has_struct Tryz.underlying33 h
  simp only [Has.HasL] at h
  obtain ⟨_, _, rfl, h0, _, _, rfl, h1, _, _, rfl, h2, _, _, rfl, h3, rfl⟩ := h
  obtain ⟨a0, rfl, w0⟩ := has_int Tryz.underlying3 h0
  obtain ⟨a1, rfl, w1⟩ := has_int Tryz.underlying3 h1
  obtain ⟨a2, rfl, w2⟩ := has_int Tryz.underlying22 h2
  obtain ⟨a3, rfl, w3⟩ := has_str Tryz.underlying9 h3
  have hn : 0 ≤ a2 := u64_lo w2
  obtain ⟨n, rfl⟩ := Int.eq_ofNat_of_zero_le hn
  exact ⟨⟨a0, a1, n, a3⟩, ⟨w0, w1, w2, w3⟩, rfl⟩

end Go.Proofs.YtalalolgdekelaaGreatDoor.Br

/- Values as arguments: what their cells are. -/
set_option linter.unusedSimpArgs false
namespace Go.Proofs.YtalalolgdekelaaGreatDoor.Br
open Go Am Up

/-- The cells of a value. -/
def vcs (k b : Int) (t : List UInt8) (l p s : List AV) (r : List R) : List AV := [.int .i64 k, .int .u64 b, .str t, .list l, .list p, .list s, .list (r.map R.av)]

structure rok (f : R) : Prop where
  num : (Lit.int .i64 f.num).wf = true
  wire : (Lit.int .i64 f.wire).wf = true
  bits : (Lit.int .u64 (f.bits : Int)).wf = true
  data : f.data.length ≤ maxLen

/-- Cells of a value, as deep as it goes. -/
def IsV : Nat → List AV → Prop
  | 0, _ => False
  | n + 1, cs => ∃ (k b : Int) (t : List UInt8) (ls : List (List AV)) (ps : List (List AV × List AV)) (ss : List (Int × List AV)) (rs : List R), cs = vcs k b t (ls.map .agg) (ps.map fun p => .agg (p.1 ++ p.2)) (ss.map fun s => .agg (.int .i64 s.1 :: s.2)) rs ∧
      (Lit.int .i64 k).wf = true ∧ (Lit.int .u64 b).wf = true ∧ t.length ≤ maxLen ∧ ls.length ≤ maxLen ∧ ps.length ≤ maxLen ∧ ss.length ≤ maxLen ∧ rs.length ≤ maxLen ∧
      (∀ c ∈ ls, IsV n c) ∧ (∀ p ∈ ps, IsV n p.1 ∧ IsV n p.2) ∧ (∀ s ∈ ss, (Lit.int .i64 s.1).wf = true ∧ IsV n s.2) ∧ ∀ r ∈ rs, rok r

theorem isV_mono : ∀ {n m : Nat} {cs : List AV}, n ≤ m → IsV n cs → IsV m cs
  | 0, _, _, _, h => h.elim
  | n + 1, 0, _, h, _ => by omega
  | n + 1, m + 1, cs, hnm, h => by
    obtain ⟨k, b, t, ls, ps, ss, rs, e, h1, h2, h3, h4, h5, h6, h7, h8, h9, h10, h11⟩ := h
    have hl : n ≤ m := by omega
    exact ⟨k, b, t, ls, ps, ss, rs, e, h1, h2, h3, h4, h5, h6, h7, fun c hc => isV_mono hl (h8 c hc), fun p hp => ⟨isV_mono hl (h9 p hp).1, isV_mono hl (h9 p hp).2⟩, fun s hs => ⟨(h10 s hs).1, isV_mono hl (h10 s hs).2⟩, h11⟩

theorem isV_len {n : Nat} {cs : List AV} (h : IsV n cs) : cs.length = 7 := by
  cases n with
  | zero => exact h.elim
  | succ n =>
    obtain ⟨k, b, t, ls, ps, ss, rs, rfl, _⟩ := h
    rfl

/-- The same bound for all of a list. -/
theorem isV_bound {l : List (List AV)} (h : ∀ c ∈ l, ∃ n, IsV n c) : ∃ n, ∀ c ∈ l, IsV n c := by
  induction l with
  | nil => exact ⟨0, by simp⟩
  | cons c l ih =>
    obtain ⟨n, hn⟩ := ih fun x hx => h x (by simp [hx])
    obtain ⟨m, hm⟩ := h c (by simp)
    refine ⟨max n m, fun x hx => ?_⟩
    rcases List.mem_cons.1 hx with rfl | hx
    · exact isV_mono (Nat.le_max_right ..) hm
    · exact isV_mono (Nat.le_max_left ..) (hn x hx)

theorem elemV_two {c : List AV} (h : 2 ≤ c.length) : elemV c = .agg c := by
  match c, h with
  | _ :: _ :: _, _ => rfl

theorem has_value {M : Nat} (hM : M ≤ maxLen) : ∀ {k : Nat} {cs : List AV}, Has Tryz.prog M k 28 cs → ∃ n, IsV n cs := by
  intro k
  induction k using Nat.strongRecOn with
  | ind k ih =>
  intro cs h
  cases k with
  | zero => cases h
  | succ k =>
  simp only [Has, Tryz.underlying28, Has.HasL] at h
  obtain ⟨_, _, rfl, h0, _, _, rfl, h1, _, _, rfl, h2, _, _, rfl, h3, _, _, rfl, h4, _, _, rfl, h5, _, _, rfl, h6, rfl⟩ := h
  obtain ⟨a0, rfl, w0⟩ := has_int Tryz.underlying3 h0
  obtain ⟨a1, rfl, w1⟩ := has_int Tryz.underlying22 h1
  obtain ⟨a2, rfl, w2'⟩ := has_str Tryz.underlying9 h2
  have w2 := Nat.le_trans w2' hM
  have sl : ∀ {k0 : Nat} {t e : TypeId} {cs : List AV}, k0 ≤ k → Tryz.prog.underlying t = some (.slice e) → Has Tryz.prog M k0 t cs → ∃ (k' : Nat) (l : List (List AV)), k' < k ∧ cs = [.list (l.map elemV)] ∧ l.length ≤ maxLen ∧ ∀ c ∈ l, Has Tryz.prog M k' e c := by
    intro k0 t e cs hk hu h
    cases k0 with
    | zero => cases h
    | succ k0 =>
      simp only [Has, hu] at h
      obtain ⟨l, h1, h2, h3⟩ := h
      exact ⟨k0, l, by omega, h1, h2, h3⟩
  obtain ⟨k3, l3, b3, rfl, w3, hl3⟩ := sl (Nat.le_refl _) Tryz.underlying23 h3
  obtain ⟨k4, l4, b4, rfl, w4, hl4⟩ := sl (Nat.le_refl _) Tryz.underlying24 h4
  obtain ⟨k5, l5, b5, rfl, w5, hl5⟩ := sl (Nat.le_refl _) Tryz.underlying25 h5
  obtain ⟨k6, l6, b6, rfl, w6, hl6⟩ := sl (Nat.le_refl _) Tryz.underlying26 h6
  obtain ⟨n3, o3⟩ := isV_bound fun c hc => ih k3 (by omega) (hl3 c hc)
  have p4 : ∃ ps : List (List AV × List AV), l4 = ps.map (fun p => p.1 ++ p.2) ∧ ∀ p ∈ ps, (∃ n, IsV n p.1) ∧ ∃ n, IsV n p.2 :=
    list_of (f := fun p : List AV × List AV => p.1 ++ p.2) (ok := fun p => (∃ n, IsV n p.1) ∧ ∃ n, IsV n p.2) fun c hc => by
      have h := hl4 c hc
      cases k4 with
      | zero => cases h
      | succ k4 =>
      simp only [Has, Tryz.underlying53, Has.HasL] at h
      obtain ⟨a, _, rfl, h0, b, _, rfl, h1, rfl⟩ := h
      exact ⟨(a, b), ⟨ih k4 (by omega) h0, ih k4 (by omega) h1⟩, by simp⟩
  obtain ⟨ps, rfl, hps⟩ := p4
  have p5 : ∃ ss : List (Int × List AV), l5 = ss.map (fun s => .int .i64 s.1 :: s.2) ∧ ∀ s ∈ ss, (Lit.int .i64 s.1).wf = true ∧ ∃ n, IsV n s.2 :=
    list_of (f := fun s : Int × List AV => .int .i64 s.1 :: s.2) (ok := fun s => (Lit.int .i64 s.1).wf = true ∧ ∃ n, IsV n s.2) fun c hc => by
      have h := hl5 c hc
      cases k5 with
      | zero => cases h
      | succ k5 =>
      simp only [Has, Tryz.underlying38, Has.HasL] at h
      obtain ⟨_, _, rfl, h0, b, _, rfl, h1, rfl⟩ := h
      obtain ⟨a0, rfl, w0⟩ := has_int Tryz.underlying3 h0
      exact ⟨(a0, b), ⟨w0, ih k5 (by omega) h1⟩, by simp⟩
  obtain ⟨ss, rfl, hss⟩ := p5
  have p6 : ∃ rs : List R, l6 = rs.map (fun r => r.av.cells) ∧ ∀ r ∈ rs, rok r :=
    list_of (f := fun r : R => r.av.cells) (ok := rok) fun c hc => by
      obtain ⟨f, ⟨g1, g2, g3, g4⟩, e⟩ := has_raw (hl6 c hc)
      refine ⟨f, ⟨g1, g2, g3, Nat.le_trans g4 hM⟩, ?_⟩
      rw [← e]
      rfl
  obtain ⟨rs, rfl, hrs⟩ := p6
  obtain ⟨n4, o4⟩ := isV_bound (l := ps.map (·.1)) fun c hc => by
    obtain ⟨p, hp, rfl⟩ := List.mem_map.1 hc
    exact (hps p hp).1
  obtain ⟨n5, o5⟩ := isV_bound (l := ps.map (·.2)) fun c hc => by
    obtain ⟨p, hp, rfl⟩ := List.mem_map.1 hc
    exact (hps p hp).2
  obtain ⟨n6, o6⟩ := isV_bound (l := ss.map (·.2)) fun c hc => by
    obtain ⟨p, hp, rfl⟩ := List.mem_map.1 hc
    exact (hss p hp).2
  have m4 : ∀ p ∈ ps, IsV n4 p.1 := fun p hp => o4 _ (List.mem_map.2 ⟨p, hp, rfl⟩)
  have m5 : ∀ p ∈ ps, IsV n5 p.2 := fun p hp => o5 _ (List.mem_map.2 ⟨p, hp, rfl⟩)
  have m6 : ∀ p ∈ ss, IsV n6 p.2 := fun p hp => o6 _ (List.mem_map.2 ⟨p, hp, rfl⟩)
  refine ⟨(n3 + n4 + n5 + n6) + 1, a0, a1, a2, l3, ps, ss, rs, ?_, w0, w1, w2, w3, by simpa using w4, by simpa using w5, by simpa using w6,
    fun c hc => isV_mono (by omega) (o3 c hc), fun p hp => ⟨isV_mono (by omega) (m4 p hp), isV_mono (by omega) (m5 p hp)⟩, fun s hs => ⟨(hss s hs).1, isV_mono (by omega) (m6 s hs)⟩, hrs⟩
  have e3 : l3.map elemV = l3.map .agg := List.map_congr_left fun c hc => elemV_two (by rw [isV_len (o3 c hc)]; omega)
  have e4 : (ps.map (fun p => p.1 ++ p.2)).map elemV = ps.map fun p => .agg (p.1 ++ p.2) := by
    rw [List.map_map]
    exact List.map_congr_left fun p hp => elemV_two (by rw [List.length_append, isV_len (m4 p hp)]; omega)
  have e5 : (ss.map (fun s => AV.int .i64 s.1 :: s.2)).map elemV = ss.map fun s => .agg (.int .i64 s.1 :: s.2) := by
    rw [List.map_map]
    exact List.map_congr_left fun p hp => elemV_two (by rw [List.length_cons, isV_len (m6 p hp)]; omega)
  have e6 : (rs.map (fun r => r.av.cells)).map elemV = rs.map R.av := by
    rw [List.map_map]
    exact List.map_congr_left fun r _ => rfl
  rw [e3, e4, e5, e6]
  rfl

end Go.Proofs.YtalalolgdekelaaGreatDoor.Br

/- The abstract machine: several variables of a loop's body, dropped at once; append to a part of a row. -/
namespace Go.Proofs.YtalalolgdekelaaGreatDoor.Am
open Go

variable {P : Program} {f : Fr} {m : Mem} {ds : List DF} {its : List Item} {d : Nat}

theorem aops_appL {K : St → Prop} {sz bytes el : Nat} {s r : RA} {site g n : Nat} {fr : Nat → Ob} {xs ys : List AV} (hs : s.ev f = .vec 0 site g 0 n false) (hl : fr site = .vec g sz xs) (ht : tyOk site el = true) (hn : n ≤ xs.length) (hr : r.ev f = .list ys) (hz : ys.all (fun e => e.cells.length == sz) = true) (hm : n + ys.length ≤ maxLen) (hb : (n + ys.length) * bytes ≤ 140737488355328)
    (h : aops P its ⟨upd f d (.vec 0 site (g + 1) 0 (n + ys.length) false), upd fr site (.vec (g + 1) sz (xs.take n ++ ys)) :: m, ds⟩ K) : aops P (⟨some d, .app sz bytes el s r, none⟩ :: its) ⟨f, fr :: m, ds⟩ K := by
  refine ⟨0, site, g, n, xs, ys, hs, hl, ht, hn, ?_, hz, hm, hb, h⟩
  show elemsOf (fr :: m) (r.ev f) = some ys
  rw [hr]; rfl

/-- A row of ours that is written no more becomes a list. -/
theorem awp_pub {Q : Exit → St → Prop} {a : RC} {slot site g sz n : Nat} {fr : Nat → Ob} {xs : List AV} (h1 : f slot = .vec 0 site g 0 n false) (h2 : fr site = .vec g sz xs) (hn : n ≤ xs.length)
    (h : awp P a ⟨upd f slot (.list (xs.take n)), upd fr site (.vec (g + 1) sz []) :: m, ds⟩ Q) : awp P (.gho (.pub slot site) a) ⟨f, fr :: m, ds⟩ Q := by
  refine ⟨_, ?_, h⟩
  have e : look (fr :: m) 0 site = .vec g sz xs := h2
  simp only [gstep, h1, e]
  rw [show Nat.beq site site = true from Nat.beq_refl site, show Nat.beq g g = true from Nat.beq_refl g, show Nat.ble (0 + n) xs.length = true from Nat.ble_eq_true_of_le (by omega)]
  rfl

def drops : List Nat → RC → RC
  | [], a => a
  | s :: l, a => .gho (.drop s) (drops l a)
def scrs : List Nat → AV → AV
  | [], x => x
  | s :: l, x => scrs l (x.scrub s)
def oscrs : List Nat → Ob → Ob
  | [], x => x
  | s :: l, x => oscrs l (x.scrub s)

theorem oscrs_none (l : List Nat) : oscrs l .none = .none := by
  induction l with
  | nil => rfl
  | cons s l ih => exact ih

theorem awp_drops {Q : Exit → St → Prop} {a : RC} (l : List Nat) : ∀ {f : Fr} {fr : Nat → Ob}, (∀ s ∈ l, (fr s).isRow = false) →
    (∀ f' fr', (∀ i, f' i = scrs l (f i)) → (∀ i, i ∉ l → fr' i = oscrs l (fr i)) → (∀ i ∈ l, fr' i = .none) → awp P a ⟨f', fr' :: m, []⟩ Q) → awp P (drops l a) ⟨f, fr :: m, []⟩ Q := by
  induction l with
  | nil => intro f fr _ h; exact h f fr (fun _ => rfl) (fun _ _ => rfl) (fun _ h => by cases h)
  | cons s l ih =>
    intro f fr hr h
    show awp P (.gho (.drop s) (drops l a)) _ _
    rw [e_drop]
    refine ⟨hr s (by simp), ?_⟩
    show awp P (drops l a) ⟨_, _ :: m, []⟩ Q
    refine ih ?_ ?_
    · intro t ht
      by_cases e : t = s
      · subst e; rw [upd_same]; rfl
      · rw [upd_ne _ _ e, e_scr_isRow]; exact hr t (by simp [ht])
    · intro f' fr' h1 h2 h3
      refine h f' fr' h1 ?_ ?_
      · intro i hi
        rw [h2 i (fun h => hi (List.mem_cons_of_mem _ h)), upd_ne _ _ (fun e => hi (by rw [e]; exact List.mem_cons_self))]; rfl
      · intro i hi
        by_cases hl : i ∈ l
        · exact h3 i hl
        · have e : i = s := by
            rcases List.mem_cons.1 hi with e | e
            · exact e
            · exact absurd e hl
          rw [h2 i hl, e, upd_same, oscrs_none]

/-- The generation of a row made anew over this. -/
def ngen : Ob → Nat
  | .vec g _ _ => g + 1
  | _ => 1

theorem newGen_fr {fr : Nat → Ob} {s : Nat} : newGen (fr :: m) 0 s = ngen (fr s) := by
  unfold newGen ngen
  rfl

theorem aops_slc0 {K : St → Prop} {site sz : Nat} {r : RA} {fr : Nat → Ob} {ys : List AV} (hx : elemsOf (fr :: m) (r.ev f) = some ys) (hs : rowOrNone (fr site) = true)
    (h : aops P its ⟨upd f d (.vec 0 site (ngen (fr site)) 0 0 false), upd fr site (.vec (ngen (fr site)) sz []) :: m, ds⟩ K) : aops P (⟨some d, .slc0 site sz r, none⟩ :: its) ⟨f, fr :: m, ds⟩ K :=
  ⟨ys, hx, hs, h⟩

theorem aops_isnil {K : St → Prop} {neg : Bool} {r : RA} {ys : List AV} (hr : r.ev f = .list ys) (h0 : aops P its ⟨upd f d (.bool neg), m, ds⟩ K) (h1 : ys = [] ∨ flat ys = [] → aops P its ⟨upd f d (.bool (!neg)), m, ds⟩ K) : aops P (⟨some d, .isnil neg r, none⟩ :: its) ⟨f, m, ds⟩ K := by
  refine ⟨ys, ?_, fun _ => h0, fun e => h1 ?_⟩
  · show elemsOf m (r.ev f) = some ys
    rw [hr]; rfl
  · rcases e with e | e
    · have e : r.ev f = .nils := e
      rw [hr] at e; cases e
    · exact .inr e

theorem aops_appc {K : St → Prop} {site sz bytes el : Nat} {s r : RA} {fr : Nat → Ob} {xs ys : List AV} (hs : s.ev f = .lcap xs) (hr : r.ev f = .list ys) (hne : ys ≠ []) (hxz : xs.all (fun e => e.cells.length == sz) = true) (hsz : ys.all (fun e => e.cells.length == sz) = true) (hm : xs.length + ys.length ≤ maxLen) (hb : (xs.length + ys.length) * bytes ≤ 140737488355328) (hro : rowOrNone (fr site) = true)
    (h : aops P its ⟨upd f d (.vec 0 site (ngen (fr site)) 0 (xs.length + ys.length) false), upd fr site (.vec (ngen (fr site)) sz (xs ++ ys)) :: m, ds⟩ K) : aops P (⟨some d, .appc site sz bytes el s r, none⟩ :: its) ⟨f, fr :: m, ds⟩ K := by
  refine ⟨xs, ys, hs, ?_, hne, hxz, hsz, hm, hb, hro, h⟩
  show elemsOf (fr :: m) (r.ev f) = some ys
  rw [hr]; rfl

theorem aops_bsl0 {K : St → Prop} {site sz : Nat} {fr : Nat → Ob} (hs : rowOrNone (fr site) = true)
    (h : aops P its ⟨upd f d (.vec 0 site (ngen (fr site)) 0 0 false), upd fr site (.vec (ngen (fr site)) sz []) :: m, ds⟩ K) : aops P (⟨some d, .bsl0 site sz, none⟩ :: its) ⟨f, fr :: m, ds⟩ K :=
  ⟨hs, h⟩

theorem aops_bslv {K : St → Prop} {site sz len : Nat} {z : List AV} {ps : List (Nat × Nat × RA)} {fr : Nat → Ob} {y : List AV} (hy : fill f ps (zeros z sz len) = some y) (h1 : AV.rfL y = true) (h2 : y.all AV.leaf = true) (hs : rowOrNone (fr site) = true)
    (h : aops P its ⟨upd f d (.vec 0 site (ngen (fr site)) 0 len false), upd fr site (.vec (ngen (fr site)) sz (chunk sz len (y.map nn0))) :: m, ds⟩ K) : aops P (⟨some d, .bslv site sz len z ps, none⟩ :: its) ⟨f, fr :: m, ds⟩ K :=
  ⟨y, hy, h1, h2, hs, h⟩

/-- A row of one element of many cells, to be appended to. -/
theorem aops_bslvA {K : St → Prop} {site sz : Nat} {z l : List AV} {r : RA} {fr : Nat → Ob} (hr : r.ev f = .agg l) (hl : l.length = sz) (h1 : sz ≠ 1) (hf : AV.rfL l = true) (hlf : l.all AV.leaf = true) (hs : rowOrNone (fr site) = true)
    (h : aops P its ⟨upd f d (.vec 0 site (ngen (fr site)) 0 1 false), upd fr site (.vec (ngen (fr site)) sz [.agg (l.map nn0)]) :: m, ds⟩ K) : aops P (⟨some d, .bslv site sz 1 z [(0, sz, r)], none⟩ :: its) ⟨f, fr :: m, ds⟩ K := by
  have hz : (zeros z sz 1).length = sz := by simp [zeros]
  have hy : fill f [(0, sz, r)] (zeros z sz 1) = some l := by
    simp only [fill, hr, AV.cells, hl, hlf, Nat.zero_add, hz, Nat.le_refl, and_self, if_true, splice, List.take_zero, List.nil_append]
    rw [List.drop_of_length_le (by omega), List.append_nil]
  have hc : chunk sz 1 (l.map nn0) = [.agg (l.map nn0)] := by
    simp only [chunk, if_neg h1]
    rw [List.take_of_length_le (by rw [List.length_map]; omega)]
  refine aops_bslv hy hf hlf hs ?_
  rw [hc]
  exact h

theorem awp_pubc {Q : Exit → St → Prop} {a : RC} {s idx site g sz n : Nat} {fr : Nat → Ob} {xs cs : List AV} (h0 : fr s = .cells cs) (h1 : cs[idx]? = some (.vec 0 site g 0 n false)) (h2 : fr site = .vec g sz xs) (hn : n ≤ xs.length)
    (h : awp P a ⟨f, upd (upd fr site (.vec (g + 1) sz [])) s (.cells (cs.set idx (.list (xs.take n)))) :: m, ds⟩ Q) : awp P (.gho (.pubc s idx site) a) ⟨f, fr :: m, ds⟩ Q := by
  refine ⟨_, ?_, h⟩
  have e : look (fr :: m) 0 site = .vec g sz xs := h2
  have e0 : look (fr :: m) 0 s = .cells cs := h0
  simp only [gstep, e0, h1, e]
  rw [show Nat.beq site site = true from Nat.beq_refl site, show Nat.beq g g = true from Nat.beq_refl g, show Nat.ble (0 + n) xs.length = true from Nat.ble_eq_true_of_le (by omega)]
  rfl

theorem awp_give {Q : Exit → St → Prop} {a : RC} {slot site l S g sz o n : Nat} {q : Bool} {fr : Nat → Ob} {xs : List AV} (h1 : f slot = .vec 0 site g o n q) (h2 : fr site = .vec g sz xs) (hl : l < m.length) (hS : S < 2000) (hr : rowOrNone (look m l S) = true)
    (h : awp P a ⟨upd f slot (.vec (l + 1) S (newGen m l S) o n q), upd fr site (.vec (g + 1) sz []) :: Am.put m l S (.vec (newGen m l S) sz xs), ds⟩ Q) : awp P (.gho (.give slot site (l + 1) S) a) ⟨f, fr :: m, ds⟩ Q := by
  refine ⟨_, ?_, h⟩
  have e : look (fr :: m) 0 site = .vec g sz xs := h2
  have e1 : rowOrNone (look (fr :: m) (l + 1) S) = true := hr
  have e2 : newGen (fr :: m) (l + 1) S = newGen m l S := rfl
  simp only [gstep, h1, e, e1, e2]
  rw [show Nat.beq site site = true from Nat.beq_refl site, show Nat.beq g g = true from Nat.beq_refl g, show Nat.blt (l + 1) (fr :: m).length = true from Nat.ble_eq_true_of_le (by simp; omega), show Nat.blt S 2000 = true from Nat.ble_eq_true_of_le hS]
  rfl

theorem awp_lst0 {Q : Exit → St → Prop} {a : RC} {slot : Nat} (h1 : f slot = .nils) (h : awp P a ⟨upd f slot (.list []), m, ds⟩ Q) : awp P (.gho (.lst slot) a) ⟨f, m, ds⟩ Q := by
  refine ⟨_, ?_, h⟩
  simp only [gstep, h1]

/-- A call of a function value. -/
theorem aops_callV {K : St → Prop} {k : Nat} {r : RA} {args : List RA} {fa fb ys : List AV} {v : AV} {m' : Mem} (hr : r.ev f = .fn (.func k) fa fb) (hk : ACalls P k ys m fun x m1 => x = v ∧ m1 = m') (hy : fa ++ args.map (RA.ev f) ++ fb = ys) (h : aops P its ⟨upd f d v, m', ds⟩ K) :
    aops P (⟨some d, .callF r args, none⟩ :: its) ⟨f, m, ds⟩ K := by
  refine ⟨k, fa, fb, v, m', hr, ?_, h⟩
  show ACalls P k (fa ++ args.map (RA.ev f) ++ fb) m fun x m1 => x = v ∧ m1 = m'
  rw [hy]
  exact hk

end Go.Proofs.YtalalolgdekelaaGreatDoor.Am

/- The abstract machine run: a function of what it is handed, for closed calls; it is sound. -/
namespace Go.Proofs.YtalalolgdekelaaGreatDoor.Am
open Go

/-- The functions' code: what the run reads. -/
abbrev Tab := FuncId → Option (RC × List RR × Nat)

def TabOk (P : Program) (T : Tab) : Prop :=
  ∀ k c rs N, T k = some (c, rs, N) → ∃ fn body, P.funcs[k]? = some fn ∧ fn.body = some body ∧ (fn.name == "runtime.NumGoroutine") = false ∧ fn.ntmps = N ∧ chkC P N c body = true ∧ chkR P fn.results.toList rs = true

abbrev Cal := FuncId → List AV → Mem → Option (AV × Mem)

/-- The same variable, of one plain cell. -/
def sameOb : Ob → Ob → Bool
  | .cells [.vec l s g o n q], .cells [.vec l' s' g' o' n' q'] => Nat.beq l l' && Nat.beq s s' && Nat.beq g g' && Nat.beq o o' && Nat.beq n n' && q == q'
  | _, _ => false
theorem sameOb_ok : ∀ {a b : Ob}, sameOb a b = true → a = b := by
  intro a b h
  unfold sameOb at h
  split at h
  · simp only [Bool.and_eq_true, beq_iff_eq] at h
    obtain ⟨⟨⟨⟨⟨h1, h2⟩, h3⟩, h4⟩, h5⟩, h6⟩ := h
    rw [Nat.eq_of_beq_eq_true h1, Nat.eq_of_beq_eq_true h2, Nat.eq_of_beq_eq_true h3, Nat.eq_of_beq_eq_true h4, Nat.eq_of_beq_eq_true h5, h6]
  · cases h

def evop (call : Cal) (d : Option Nat) (op : RO) (st : St) : Option St :=
  match op with
  | .val vo => match vop st.f st.m vo with
    | some x => some { st with f := updO st.f d x }
    | none => none
  | .allocN s z => bif noOb st.m s then some { st with m := Am.put st.m 0 s (.cells z), f := updO st.f d (.ptr 0 s 0) } else none
  | .boxN s r => bif noOb st.m s && (r.ev st.f).cells.all AV.leaf then some { st with m := Am.put st.m 0 s (.cells (r.ev st.f).cells), f := updO st.f d (.ptr 0 s 0) } else none
  | .store n p r => bif Nat.beq (r.ev st.f).cells.length n && (r.ev st.f).cells.all AV.leaf then match astore st.m (p.ev st.f) (r.ev st.f).cells with
      | some m' => some { st with m := m', f := updO st.f d (.tup []) }
      | none => none
    else none
  | .storev l s n p r => match p.ev st.f with
    | .ptr l' s' _ => bif Nat.beq l' l && Nat.beq s' s && Nat.beq (r.ev st.f).cells.length n && (r.ev st.f).cells.all AV.leaf then match astore st.m (p.ev st.f) (r.ev st.f).cells with
        | some m' => some { st with m := m', f := updO st.f d (.tup []) }
        | none => none
      else none
    | _ => none
  | .app sz bytes el s r => match s.ev st.f with
    | .vec l site g 0 n false => match look st.m l site with
      | .vec g' sz' xs => match elemsOf st.m (r.ev st.f) with
        | some ys => bif Nat.beq g' g && Nat.beq sz' sz && tyOk site el && Nat.ble n xs.length && ys.all (fun e => e.cells.length == sz) && Nat.ble (n + ys.length) maxLen && Nat.ble ((n + ys.length) * bytes) 140737488355328 then
            some { st with m := Am.put st.m l site (.vec (g + 1) sz (xs.take n ++ ys)), f := updO st.f d (.vec l site (g + 1) 0 (n + ys.length) false) }
          else none
        | none => none
      | _ => none
    | _ => none
  | .call f args => match f.ev st.f with
    | .fn (.func k) fa fb => match AV.stillL false st.m (fa ++ args.map (RA.ev st.f) ++ fb) with
      | some ys => bif AV.rfL ys then match call k ys [] with
          | some (v, _) => bif v.rf && (AV.rfL (fa ++ args.map (RA.ev st.f) ++ fb) || v.nl) then some { st with f := updO st.f d v } else none
          | none => none
        else none
      | none => none
    | _ => none
  | .callF f args => match f.ev st.f with
    | .fn (.func k) fa fb => match call k (fa ++ args.map (RA.ev st.f) ++ fb) st.m with
      | some (v, m') => some { st with m := m', f := updO st.f d v }
      | none => none
    | _ => none
  | .bsl sz len z ps => match fill st.f ps (zeros z sz len) with
    | some y => bif AV.rfL y && y.all AV.leaf then some { st with f := updO st.f d (.list (chunk sz len (y.map nn0))) } else none
    | none => none
  | .bslv site sz len z ps => match fill st.f ps (zeros z sz len) with
    | some y => bif AV.rfL y && y.all AV.leaf && rowOrNone (look st.m 0 site) then some { st with m := Am.put st.m 0 site (.vec (newGen st.m 0 site) sz (chunk sz len (y.map nn0))), f := updO st.f d (.vec 0 site (newGen st.m 0 site) 0 len false) } else none
    | none => none
  | .bsl0 site sz => bif rowOrNone (look st.m 0 site) then some { st with m := Am.put st.m 0 site (.vec (newGen st.m 0 site) sz []), f := updO st.f d (.vec 0 site (newGen st.m 0 site) 0 0 false) } else none
  | .appc site sz bytes _ s r => match s.ev st.f with
    | .lcap xs => match elemsOf st.m (r.ev st.f) with
      | some (y :: ys) => bif xs.all (fun e => e.cells.length == sz) && (y :: ys).all (fun e => e.cells.length == sz) && Nat.ble (xs.length + (y :: ys).length) maxLen && Nat.ble ((xs.length + (y :: ys).length) * bytes) 140737488355328 && rowOrNone (look st.m 0 site) then
          some { st with m := Am.put st.m 0 site (.vec (newGen st.m 0 site) sz (xs ++ y :: ys)), f := updO st.f d (.vec 0 site (newGen st.m 0 site) 0 (xs.length + (y :: ys).length) false) }
        else none
      | _ => none
    | _ => none
  | .isnil neg r => match r.ev st.f with
    | .nils => some { st with f := updO st.f d (.bool (!neg)) }
    | .list l => match flat l with
      | _ :: _ => some { st with f := updO st.f d (.bool neg) }
      | [] => none
    | _ => none
  | .callK l s f args => match f.ev st.f with
    | .fn (.func k) fa fb => match call k (fa ++ args.map (RA.ev st.f) ++ fb) st.m with
      | some (v, m') => bif sameOb (look m' l s) (look st.m l s) then some { st with m := m', f := updO st.f d v } else none
      | none => none
    | _ => none
  | .xb cnt _ s c => match s.ev st.f, c.ev st.f with
    | .str t, .int .u8 b => some { st with f := updO st.f d (.int .i64 (xbv cnt t b)) }
    | _, _ => none
  | .callR f args => match f.ev st.f with
    | .fn (.func k) fa fb => match AV.stillL false st.m (fa ++ args.map (RA.ev st.f) ++ fb) with
      | some ys => bif AV.rfL ys then match call k ys [] with
          | some (v, _) => bif v.rf && (AV.rfL (fa ++ args.map (RA.ev st.f) ++ fb) || v.nl) then some { st with f := updO st.f d v } else none
          | none => none
        else none
      | none => none
    | _ => none
  | .rngs s r => match r.ev st.f with
    | .str t => bif noOb st.m s then some { st with m := Am.put st.m 0 s (.iter t 0), f := updO st.f d (.ptr 0 s 0) } else none
    | _ => none
  | .nxts r => match r.ev st.f with
    | .ptr l s 0 => match look st.m l s with
      | .iter t p => bif Nat.blt p t.length then some { st with m := Am.put st.m l s (.iter t (p + (udec t p).2)), f := updO st.f d (.tup [.bool true, .int .i64 (p : Nat), .int .i32 ((udec t p).1 : Nat)]) } else some { st with f := updO st.f d (.tup [.bool false]) }
      | _ => none
    | _ => none
  | .slc0 site sz r => match elemsOf st.m (r.ev st.f) with
    | some _ => bif rowOrNone (look st.m 0 site) then some { st with m := Am.put st.m 0 site (.vec (newGen st.m 0 site) sz []), f := updO st.f d (.vec 0 site (newGen st.m 0 site) 0 0 false) } else none
    | none => none
  | .appS el s r => match s.ev st.f, r.ev st.f with
    | .vec l site g 0 n false, .str t => match look st.m l site with
      | .vec g' 1 xs => bif Nat.beq g' g && tyOk site el && Nat.ble n xs.length && Nat.ble (n + t.length) 140737488355328 then
          some { st with m := Am.put st.m l site (.vec (g + 1) 1 (xs.take n ++ bytesAV t)), f := updO st.f d (.vec l site (g + 1) 0 (n + t.length) false) }
        else none
      | _ => none
    | _, _ => none
  | .mk site _ sz bytes z l c => match l.ev st.f, c.ev st.f with
    | .int _ (.ofNat n), .int _ (.ofNat k) => bif Nat.ble n k && Nat.ble k 9223372036854775807 && Nat.ble (bytes * k) 281474976710656 && rowOrNone (look st.m 0 site) then
        some { st with m := Am.put st.m 0 site (.vec (newGen st.m 0 site) sz (List.replicate n (zeroE sz z))), f := updO st.f d (.vec 0 site (newGen st.m 0 site) 0 n false) }
      else none
    | _, _ => none
  | .s2b site _ r => match r.ev st.f with
    | .str s => bif Nat.ble s.length 9223372036854775807 && rowOrNone (look st.m 0 site) then
        some { st with m := Am.put st.m 0 site (.vec (newGen st.m 0 site) 1 (bytesAV s)), f := updO st.f d (.vec 0 site (newGen st.m 0 site) 0 s.length false) }
      else none
    | _ => none
  | .usd r => match r.ev st.f with
    | .vec l s g 0 n false => match look st.m l s with
      | .vec g' _ _ => bif Nat.beq g' g && Nat.ble 2000 s then some { st with f := updO st.f d (if n = 0 then .anyp else .vptr l s g 0 0) } else none
      | _ => none
    | _ => none
  | .ustr el p r => match p.ev st.f, r.ev st.f with
    | .anyp, .int .i64 (.ofNat 0) => some { st with f := updO st.f d (.str []) }
    | .vptr l s g 0 0, .int .i64 (.ofNat (n + 1)) => match look st.m l s with
      | .vec g' 1 xs => match bytesOf (xs.take (n + 1)) with
        | some t => bif Nat.beq s (el + 2000) && Nat.beq g' g && Nat.ble (n + 1) xs.length && isBytes (xs.take (n + 1)) t then some { st with m := Am.put st.m l (el + 2000) (.vec (g + 1) 1 []), f := updO st.f d (.str t) } else none
        | none => none
      | _ => none
    | _, _ => none
  | .dfr _ _ => none
where
  /-- These are the bytes of t. -/
  isBytes : List AV → List UInt8 → Bool
    | [], [] => true
    | .int .u8 (.ofNat n) :: l, b :: t => Nat.beq n b.toNat && isBytes l t
    | _, _ => false

def evstep (call : Cal) (it : Item) (st : St) : Option St :=
  match it.g with
  | none => evop call it.dst it.op st
  | some (j, want) => match st.f j with
    | .bool b => bif b == want then evop call it.dst it.op st else some { st with f := updO st.f it.dst (.tup []) }
    | .tup [] => some { st with f := updO st.f it.dst (.tup []) }
    | _ => none

def evops (call : Cal) : List Item → St → Option St
  | [], st => some st
  | it :: its, st => match evstep call it st with
    | some st' => evops call its st'
    | none => none

/-- How a body ends. -/
def evend (rs : List RR) (n : Nat) (r : Option (Exit × St)) : Option (AV × Mem) :=
  match r with
  | some (.normal, st) => fin st
  | some (.ret, st) => fin st
  | _ => none
where
  fin (st : St) : Option (AV × Mem) := match st.ds with
    | [] => match resV st rs with
      | some x => match leave st.m x with
        | some y => match st.m with
          | _ :: m => bif Nat.beq m.length n then some (y, m) else none
          | [] => none
        | none => none
      | none => none
    | _ => none

def evcall (nat : Cal) (T : Tab) (body : RC → St → Option (Exit × St)) : Cal := fun k args m =>
  match nat k args m with
  | some r => some r
  | none => match T k with
    | some (c, rs, N) => bif Nat.ble args.length N then evend rs m.length (body c (St.enter args m)) else none
    | none => none

def evC (nat : Cal) (T : Tab) : Nat → RC → St → Option (Exit × St)
  | 0, _, _ => none
  | n + 1, c, st => match c with
    | .skip => some (.normal, st)
    | .reg its => match evops (evcall nat T (evC nat T n)) its st with
      | some st' => some (.normal, st')
      | none => none
    | .draw its => match evops (evcall nat T (evC nat T n)) its st with
      | some st' => some (.normal, st')
      | none => none
    | .seq a b => match evC nat T n a st with
      | some (.normal, st') => evC nat T n b st'
      | r => r
    | .cond c a b => match c.ev st.f with
      | .bool t => bif t then evC nat T n a st else evC nat T n b st
      | _ => none
    | .block id a => match evC nat T n a st with
      | some (.exit i, st') => if i = id then some (.normal, st') else some (.exit i, st')
      | r => r
    | .loop a => match evC nat T n a st with
      | some (.normal, st') => evC nat T n (.loop a) st'
      | r => r
    | .exit id => some (.exit id, st)
    | .scope a => match evC nat T n a st with
      | some (.goto _, _) => none
      | r => r
    | .lab => some (.normal, st)
    | .ret => some (.ret, st)
    | .gho g a => match gstep g st with
      | some st' => evC nat T n a st'
      | none => none
    | .no => none

section
variable {P : Program} {T : Tab}

/-- What a call's run gives is what the function does. -/
def CalOk (P : Program) (call : Cal) : Prop := ∀ k args m v m', call k args m = some (v, m') → ACalls P k args m fun x m1 => x = v ∧ m1 = m'

theorem isBytes_ok : ∀ {l : List AV} {t : List UInt8}, evop.isBytes l t = true → l = bytesAV t
  | [], [], _ => rfl
  | [], _ :: _, h => by simp [evop.isBytes] at h
  | .int .u8 (.ofNat n) :: l, b :: t, h => by
    simp only [evop.isBytes, Bool.and_eq_true] at h
    rw [isBytes_ok h.2, Nat.eq_of_beq_eq_true h.1]
    rfl
  | x :: l, [], h => by
    unfold evop.isBytes at h
    split at h <;> simp_all

theorem evop_ok {call : Cal} (hc : CalOk P call) {d : Option Nat} {op : RO} {st st' : St} (h : evop call d op st = some st') {K : St → Prop} (hK : K st') : aop P d op st K := by
  cases op with
  | val vo =>
    simp only [evop] at h
    split at h
    · rename_i x hx; cases h; exact ⟨x, hx, hK⟩
    · cases h
  | allocN s z =>
    simp only [evop] at h
    cases h1 : noOb st.m s <;> rw [h1] at h <;> simp only [cond_true, cond_false, reduceCtorEq, Option.some.injEq] at h
    subst h; exact ⟨h1, hK⟩
  | boxN s r =>
    simp only [evop] at h
    cases h1 : (noOb st.m s && (r.ev st.f).cells.all AV.leaf) <;> rw [h1] at h <;> simp only [cond_true, cond_false, reduceCtorEq, Option.some.injEq] at h
    rw [Bool.and_eq_true] at h1
    subst h; exact ⟨h1.1, h1.2, hK⟩
  | store n p r =>
    simp only [evop] at h
    cases h1 : (Nat.beq (r.ev st.f).cells.length n && (r.ev st.f).cells.all AV.leaf) <;> rw [h1] at h <;> simp only [cond_true, cond_false, reduceCtorEq] at h
    rw [Bool.and_eq_true] at h1
    split at h
    · rename_i m' hm; cases h; exact ⟨Nat.eq_of_beq_eq_true h1.1, h1.2, m', hm, hK⟩
    · cases h
  | storev l s n p r =>
    simp only [evop] at h
    split at h
    · rename_i l' s' o hp
      cases h1 : (Nat.beq l' l && Nat.beq s' s && Nat.beq (r.ev st.f).cells.length n && (r.ev st.f).cells.all AV.leaf) <;> rw [h1] at h <;> simp only [cond_true, cond_false, reduceCtorEq] at h
      simp only [Bool.and_eq_true] at h1
      obtain ⟨⟨⟨a1, a2⟩, a3⟩, a4⟩ := h1
      have e1 := Nat.eq_of_beq_eq_true a1
      have e2 := Nat.eq_of_beq_eq_true a2
      subst e1 e2
      split at h
      · rename_i m' hm; cases h; exact ⟨⟨o, hp⟩, Nat.eq_of_beq_eq_true a3, a4, m', hm, hK⟩
      · cases h
    · cases h
  | app sz bytes el s r =>
    simp only [evop] at h
    split at h
    · rename_i l site g n hs
      split at h
      · rename_i g' sz' xs hl
        split at h
        · rename_i ys hy
          cases h1 : (Nat.beq g' g && Nat.beq sz' sz && tyOk site el && Nat.ble n xs.length && ys.all (fun e => e.cells.length == sz) && Nat.ble (n + ys.length) maxLen && Nat.ble ((n + ys.length) * bytes) 140737488355328) <;> rw [h1] at h <;> simp only [cond_true, cond_false, reduceCtorEq, Option.some.injEq] at h
          simp only [Bool.and_eq_true] at h1
          obtain ⟨⟨⟨⟨⟨⟨a1, a2⟩, a3⟩, a4⟩, a5⟩, a6⟩, a7⟩ := h1
          have e1 := Nat.eq_of_beq_eq_true a1
          have e2 := Nat.eq_of_beq_eq_true a2
          subst e1 e2 h
          exact ⟨l, site, _, n, xs, ys, hs, hl, a3, Nat.le_of_ble_eq_true a4, hy, a5, Nat.le_of_ble_eq_true a6, Nat.le_of_ble_eq_true a7, hK⟩
        · cases h
      · cases h
    · cases h
  | call f args =>
    simp only [evop] at h
    split at h
    · rename_i k fa fb hf
      split at h
      · rename_i ys hy
        cases h1 : AV.rfL ys <;> rw [h1] at h <;> simp only [cond_true, cond_false, reduceCtorEq] at h
        split at h
        · rename_i v m' hv
          cases h2 : (v.rf && (AV.rfL (fa ++ args.map (RA.ev st.f) ++ fb) || v.nl)) <;> rw [h2] at h <;> simp only [cond_true, cond_false, reduceCtorEq, Option.some.injEq] at h
          rw [Bool.and_eq_true, Bool.or_eq_true] at h2
          subst h
          exact ⟨k, fa, fb, ys, v, hf, hy, h1, (hc _ _ _ _ _ hv).mono (fun _ _ e => e.1), h2.1, h2.2, hK⟩
        · cases h
      · cases h
    · cases h
  | callF f args =>
    simp only [evop] at h
    split at h
    · rename_i k fa fb hf
      split at h
      · rename_i v m' hv
        cases h
        exact ⟨k, fa, fb, v, m', hf, hc _ _ _ _ _ hv, hK⟩
      · cases h
    · cases h
  | bsl sz len z ps =>
    simp only [evop] at h
    split at h
    · rename_i y hy
      cases h1 : (AV.rfL y && y.all AV.leaf) <;> rw [h1] at h <;> simp only [cond_true, cond_false, reduceCtorEq, Option.some.injEq] at h
      rw [Bool.and_eq_true] at h1
      subst h; exact ⟨y, hy, h1.1, h1.2, hK⟩
    · cases h
  | bslv site sz len z ps =>
    simp only [evop] at h
    split at h
    · rename_i y hy
      cases h1 : (AV.rfL y && y.all AV.leaf && rowOrNone (look st.m 0 site)) <;> rw [h1] at h <;> simp only [cond_true, cond_false, reduceCtorEq, Option.some.injEq] at h
      simp only [Bool.and_eq_true] at h1
      subst h; exact ⟨y, hy, h1.1.1, h1.1.2, h1.2, hK⟩
    · cases h
  | bsl0 site sz =>
    simp only [evop] at h
    cases h1 : rowOrNone (look st.m 0 site) <;> rw [h1] at h <;> simp only [cond_true, cond_false, reduceCtorEq, Option.some.injEq] at h
    subst h; exact ⟨h1, hK⟩
  | appc site sz bytes el s r =>
    simp only [evop] at h
    split at h
    · rename_i xs hs
      split at h
      · rename_i y ys hy
        cases h1 : (xs.all (fun e => e.cells.length == sz) && (y :: ys).all (fun e => e.cells.length == sz) && Nat.ble (xs.length + (y :: ys).length) maxLen && Nat.ble ((xs.length + (y :: ys).length) * bytes) 140737488355328 && rowOrNone (look st.m 0 site)) <;> rw [h1] at h <;> simp only [cond_true, cond_false, reduceCtorEq, Option.some.injEq] at h
        simp only [Bool.and_eq_true] at h1
        obtain ⟨⟨⟨⟨a1, a2⟩, a3⟩, a4⟩, a5⟩ := h1
        subst h
        exact ⟨xs, y :: ys, hs, hy, by simp, a1, a2, Nat.le_of_ble_eq_true a3, Nat.le_of_ble_eq_true a4, a5, hK⟩
      · cases h
    · cases h
  | isnil neg r =>
    simp only [evop] at h
    split at h
    · rename_i hr
      cases h
      exact ⟨[], by rw [hr]; rfl, fun e => absurd hr e, fun _ => hK⟩
    · rename_i l hr
      split at h
      · rename_i z zs hf
        cases h
        exact ⟨l, by rw [hr]; rfl, fun _ => hK, fun e => by
          rcases e with e | e
          · rw [hr] at e; cases e
          · rw [hf] at e; cases e⟩
      · cases h
    · cases h
  | callK l s f args =>
    simp only [evop] at h
    split at h
    · rename_i k fa fb hf
      split at h
      · rename_i v m' hv
        cases he : sameOb (look m' l s) (look st.m l s) <;> rw [he] at h <;> simp only [cond_true, cond_false, reduceCtorEq, Option.some.injEq] at h
        subst h
        exact ⟨k, fa, fb, v, m', hf, hc _ _ _ _ _ hv, sameOb_ok he, hK⟩
      · cases h
    · cases h
  | xb cnt k s c =>
    simp only [evop] at h
    split at h
    · rename_i t b hs hb
      cases h; exact ⟨t, b, hs, hb, hK⟩
    · cases h
  | callR f args =>
    simp only [evop] at h
    split at h
    · rename_i k fa fb hf
      split at h
      · rename_i ys hy
        cases h1 : AV.rfL ys <;> rw [h1] at h <;> simp only [cond_true, cond_false, reduceCtorEq] at h
        split at h
        · rename_i v m' hv
          cases h2 : (v.rf && (AV.rfL (fa ++ args.map (RA.ev st.f) ++ fb) || v.nl)) <;> rw [h2] at h <;> simp only [cond_true, cond_false, reduceCtorEq, Option.some.injEq] at h
          rw [Bool.and_eq_true, Bool.or_eq_true] at h2
          subst h
          exact ⟨k, fa, fb, ys, (· = v), hf, hy, h1, (hc _ _ _ _ _ hv).mono (fun _ _ e => e.1), fun x hx => by subst hx; exact h2, fun x hx => by subst hx; exact hK⟩
        · cases h
      · cases h
    · cases h
  | rngs s r =>
    simp only [evop] at h
    split at h
    · rename_i t ht
      cases h1 : noOb st.m s <;> rw [h1] at h <;> simp only [cond_true, cond_false, reduceCtorEq, Option.some.injEq] at h
      subst h; exact ⟨t, ht, h1, hK⟩
    · cases h
  | nxts r =>
    simp only [evop] at h
    split at h
    · rename_i l s hr
      split at h
      · rename_i t p hl
        refine ⟨l, s, t, p, hr, hl, fun e => ?_, fun e => ?_⟩
        · have hb : Nat.blt p t.length = true := by simp [Nat.blt_eq, e]
          rw [hb] at h
          cases h; exact hK
        · have hb : Nat.blt p t.length = false := by
            cases hb : Nat.blt p t.length with
            | false => rfl
            | true => rw [Nat.blt_eq] at hb; omega
          rw [hb] at h
          cases h; exact hK
      · cases h
    · cases h
  | slc0 site sz r =>
    simp only [evop] at h
    split at h
    · rename_i ys hy
      cases h1 : rowOrNone (look st.m 0 site) <;> rw [h1] at h <;> simp only [cond_true, cond_false, reduceCtorEq, Option.some.injEq] at h
      subst h; exact ⟨ys, hy, h1, hK⟩
    · cases h
  | appS el s r =>
    simp only [evop] at h
    split at h
    · rename_i l site g n t hs hr
      split at h
      · rename_i g' xs hl
        cases h1 : (Nat.beq g' g && tyOk site el && Nat.ble n xs.length && Nat.ble (n + t.length) 140737488355328) <;> rw [h1] at h <;> simp only [cond_true, cond_false, reduceCtorEq, Option.some.injEq] at h
        simp only [Bool.and_eq_true] at h1
        obtain ⟨⟨⟨a1, a2⟩, a3⟩, a4⟩ := h1
        have e1 := Nat.eq_of_beq_eq_true a1
        subst e1 h
        exact ⟨l, site, _, n, xs, t, hs, hl, a2, Nat.le_of_ble_eq_true a3, hr, Nat.le_of_ble_eq_true a4, hK⟩
      · cases h
    · cases h
  | mk site el sz bytes z l c =>
    simp only [evop] at h
    split at h
    · rename_i kl n kc k hl hcc
      cases h1 : (Nat.ble n k && Nat.ble k 9223372036854775807 && Nat.ble (bytes * k) 281474976710656 && rowOrNone (look st.m 0 site)) <;> rw [h1] at h <;> simp only [cond_true, cond_false, reduceCtorEq, Option.some.injEq] at h
      simp only [Bool.and_eq_true] at h1
      obtain ⟨⟨⟨a1, a2⟩, a3⟩, a4⟩ := h1
      subst h
      exact ⟨kl, kc, n, k, hl, hcc, Nat.le_of_ble_eq_true a1, Nat.le_of_ble_eq_true a2, Nat.le_of_ble_eq_true a3, a4, hK⟩
    · cases h
  | s2b site el r =>
    simp only [evop] at h
    split at h
    · rename_i s hs
      cases h1 : (Nat.ble s.length 9223372036854775807 && rowOrNone (look st.m 0 site)) <;> rw [h1] at h <;> simp only [cond_true, cond_false, reduceCtorEq, Option.some.injEq] at h
      simp only [Bool.and_eq_true] at h1
      subst h
      exact ⟨s, hs, Nat.le_of_ble_eq_true h1.1, h1.2, hK⟩
    · cases h
  | usd r =>
    simp only [evop] at h
    split at h
    · rename_i l s g n hr
      split at h
      · rename_i g' sz xs hl
        cases h1 : (Nat.beq g' g && Nat.ble 2000 s) <;> rw [h1] at h <;> simp only [cond_true, cond_false, reduceCtorEq, Option.some.injEq] at h
        simp only [Bool.and_eq_true] at h1
        have e1 := Nat.eq_of_beq_eq_true h1.1
        subst e1 h
        exact ⟨l, s, _, n, sz, xs, Nat.le_of_ble_eq_true h1.2, hr, hl, hK⟩
      · cases h
    · cases h
  | ustr el p r =>
    simp only [evop] at h
    split at h
    · rename_i hp hr
      cases h
      exact .inl ⟨hp, hr, hK⟩
    · rename_i l s g n hp hr
      split at h
      · rename_i g' xs hl
        split at h
        · rename_i t ht
          cases h1 : (Nat.beq s (el + 2000) && Nat.beq g' g && Nat.ble (n + 1) xs.length && evop.isBytes (xs.take (n + 1)) t) <;> rw [h1] at h <;> simp only [cond_true, cond_false, reduceCtorEq, Option.some.injEq] at h
          simp only [Bool.and_eq_true] at h1
          obtain ⟨⟨⟨a1, a2⟩, a3⟩, a4⟩ := h1
          have e1 := Nat.eq_of_beq_eq_true a1
          have e2 := Nat.eq_of_beq_eq_true a2
          subst e1 e2 h
          exact .inr ⟨l, _, n + 1, xs, t, hp, hr, hl, Nat.le_of_ble_eq_true a3, Nat.succ_ne_zero n, isBytes_ok a4, hK⟩
        · cases h
      · cases h
    · cases h
  | dfr f args => simp [evop] at h

theorem evstep_ok {call : Cal} (hc : CalOk P call) {it : Item} {st st' : St} (h : evstep call it st = some st') {K : St → Prop} (hK : K st') : astep P it st K := by
  obtain ⟨d, op, g⟩ := it
  cases g with
  | none => exact evop_ok (d := d) hc h hK
  | some p =>
    obtain ⟨j, want⟩ := p
    simp only [evstep] at h
    simp only [astep]
    split at h
    · rename_i b hj
      simp only [hj]
      cases hb : (b == want) with
      | true =>
        rw [hb] at h
        have e : b = want := by simpa using hb
        exact ⟨fun _ => evop_ok hc h hK, fun e' => by rw [e] at e'; cases want <;> cases e'⟩
      | false =>
        rw [hb] at h
        simp only [cond_false, Option.some.injEq] at h
        subst h
        exact ⟨fun e => by rw [e] at hb; simp at hb, fun _ => hK⟩
    · rename_i hj
      cases h
      simp only [hj]
      exact ⟨trivial, hK⟩
    · cases h

theorem evops_ok {call : Cal} (hc : CalOk P call) : ∀ {its : List Item} {st st' : St}, evops call its st = some st' → ∀ {K : St → Prop}, K st' → aops P its st K
  | [], _, _, h, _, hK => by cases h; exact hK
  | it :: its, st, st', h, K, hK => by
    simp only [evops] at h
    split at h
    · rename_i st1 h1
      exact evstep_ok hc h1 (evops_ok hc h hK)
    · cases h

theorem evend_ok {rs : List RR} {n : Nat} {r : Option (Exit × St)} {v : AV} {m' : Mem} (h : evend rs n r = some (v, m')) : ∃ e st, r = some (e, st) ∧ AEnds rs n (fun x m1 => x = v ∧ m1 = m') e st := by
  have fin : ∀ {e : Exit} {st : St}, (e = .normal ∨ e = .ret) → evend.fin rs n st = some (v, m') → AEnds rs n (fun x m1 => x = v ∧ m1 = m') e st := by
    intro e st he h
    unfold evend.fin at h
    split at h
    · rename_i hds
      split at h
      · rename_i x hx
        split at h
        · rename_i y hy
          split at h
          · rename_i fr m hm
            cases hb : Nat.beq m.length n with
            | false => rw [hb] at h; cases h
            | true =>
              rw [hb] at h
              simp only [cond_true, Option.some.injEq, Prod.mk.injEq] at h
              exact ⟨he, hds, x, y, fr, m, hx, hy, hm, Nat.eq_of_beq_eq_true hb, h.1, h.2⟩
          · cases h
        · cases h
      · cases h
    · cases h
  unfold evend at h
  split at h
  · exact ⟨_, _, rfl, fin (.inl rfl) h⟩
  · exact ⟨_, _, rfl, fin (.inr rfl) h⟩
  · cases h

theorem evcall_ok {nat : Cal} (hN : CalOk P nat) (hT : TabOk P T) {body : RC → St → Option (Exit × St)} (hb : ∀ c st e st', body c st = some (e, st') → ∀ Q : Exit → St → Prop, Q e st' → awp P c st Q) : CalOk P (evcall nat T body) := by
  intro k args m v m' h
  unfold evcall at h
  split at h
  · rename_i r hr; cases h; exact hN _ _ _ _ _ hr
  split at h
  · rename_i c rs N hk
    cases hN : Nat.ble args.length N with
    | false => rw [hN] at h; cases h
    | true =>
      rw [hN] at h
      simp only [cond_true] at h
      obtain ⟨e, st, h1, h2⟩ := evend_ok h
      obtain ⟨fn, cd, a1, a2, a3, a4, a5, a6⟩ := hT k c rs N hk
      exact acalls_of_awp a1 a2 a3 a4 a5 a6 (Nat.le_of_ble_eq_true hN) (hb _ _ _ _ h1 _ h2)
  · cases h

theorem evC_ok {nat : Cal} (hN : CalOk P nat) (hT : TabOk P T) : ∀ (n : Nat) (c : RC) (st : St) (e : Exit) (st' : St), evC nat T n c st = some (e, st') → ∀ Q : Exit → St → Prop, Q e st' → awp P c st Q := by
  intro n
  induction n using Nat.strongRecOn with
  | _ n ihs =>
  cases n with
  | zero => intro c st e st' h; cases h
  | succ n =>
    intro c st e st' h Q hQ
    have ih := ihs n (Nat.lt_succ_self n)
    cases c with
    | skip => cases h; exact hQ
    | reg its =>
      simp only [evC] at h
      split at h
      · rename_i st1 h1; cases h
        exact evops_ok (evcall_ok hN hT ih) h1 hQ
      · cases h
    | draw its =>
      simp only [evC] at h
      split at h
      · rename_i st1 h1; cases h
        exact evops_ok (evcall_ok hN hT ih) h1 hQ
      · cases h
    | seq a b =>
      simp only [evC] at h
      split at h
      · rename_i st1 h1
        exact ih _ _ _ _ h1 _ (ih _ _ _ _ h Q hQ)
      · rename_i h1
        refine ih _ _ _ _ h _ ?_
        cases e with
        | normal => exact absurd h (h1 st')
        | _ => exact hQ
    | cond c a b =>
      simp only [evC] at h
      split at h
      · rename_i t ht
        cases t with
        | true => exact ⟨true, ht, fun _ => ih _ _ _ _ h Q hQ, (fun e => by cases e)⟩
        | false => exact ⟨false, ht, (fun e => by cases e), fun _ => ih _ _ _ _ h Q hQ⟩
      · cases h
    | block id a =>
      simp only [evC] at h
      split at h
      · rename_i i st1 h1
        refine ih _ _ _ _ h1 _ ?_
        show if i = id then Q .normal st1 else Q (.exit i) st1
        split at h
        · rename_i hi; cases h; rw [if_pos hi]; exact hQ
        · rename_i hi; cases h; rw [if_neg hi]; exact hQ
      · rename_i h1
        refine ih _ _ _ _ h _ ?_
        cases e with
        | exit i => exact absurd h (h1 i st')
        | _ => exact hQ
    | loop a =>
      refine ⟨fun k s => k ≤ n ∧ evC nat T (k + 1) (.loop a) s = some (e, st'), n, ⟨Nat.le_refl _, h⟩, fun k s hh => ?_⟩
      obtain ⟨hk, hs⟩ := hh
      simp only [evC] at hs
      split at hs
      · rename_i st1 h1
        refine ihs k (by omega) _ _ _ _ h1 _ ?_
        show ∃ j, j < k ∧ j ≤ n ∧ evC nat T (j + 1) (.loop a) st1 = some (e, st')
        cases k with
        | zero => cases h1
        | succ j => exact ⟨j, Nat.lt_succ_self j, by omega, hs⟩
      · rename_i h1
        refine ihs k (by omega) _ _ _ _ hs _ ?_
        cases e with
        | normal => exact absurd hs (h1 st')
        | _ => exact hQ
    | exit id => cases h; exact hQ
    | scope a =>
      simp only [evC] at h
      split at h
      · cases h
      · rename_i h1
        refine ih _ _ _ _ h _ ?_
        cases e with
        | goto i => exact absurd h (h1 i st')
        | _ => exact hQ
    | lab => cases h; exact hQ
    | ret => cases h; exact hQ
    | gho g a =>
      simp only [evC] at h
      split at h
      · rename_i st1 h1
        exact ⟨st1, h1, ih _ _ _ _ h Q hQ⟩
      · cases h
    | no => cases h

/-- A closed call that returns true. -/
def evT (nat : Cal) (T : Tab) (n : Nat) (k : FuncId) (args : List AV) : Bool :=
  match evcall nat T (evC nat T n) k args [] with
  | some (.bool true, _) => true
  | _ => false

theorem fn1_of_evT {nat : Cal} (hN : CalOk P nat) (hT : TabOk P T) {n : Nat} {k : FuncId} {args : List AV} (h : evT nat T n k args = true) : Fn1 P k args (.bool true) := by
  unfold evT at h
  split at h
  · rename_i m' h1
    exact (evcall_ok hN hT (evC_ok hN hT n) _ _ _ _ _ h1).mono fun _ _ e => e.1
  · cases h

end

end Go.Proofs.YtalalolgdekelaaGreatDoor.Am

/- The lists of equations of a walk, each as one. -/
namespace Go.Proofs.YtalalolgdekelaaGreatDoor.Am
open Go

set_option linter.defProp false in
def eES := (And.intro (And.intro (And.intro (And.intro (And.intro (And.intro (And.intro (And.intro @Am.e_seq @Am.e_reg) (And.intro @Am.e_draw @Am.e_nil)) (And.intro (And.intro @Am.e_kc_n @Am.e_kc_x) (And.intro @Am.e_kc_r @Am.e_block))) (And.intro (And.intro (And.intro @Am.e_scope @Am.e_skip) (And.intro @Am.e_lab @Am.e_ret)) (And.intro (And.intro @Am.e_exit @Am.e_kb_n) (And.intro @Am.e_kb_x (And.intro @Am.e_kb_r @Am.e_kg_n))))) (And.intro (And.intro (And.intro (And.intro @Am.e_kg_x @Am.e_kg_r) (And.intro @Am.e_kl_n @Am.e_kl_x)) (And.intro (And.intro @Am.e_kl_r @Am.e_cond) (And.intro @Am.e_bget @Am.e_isB))) (And.intro (And.intro (And.intro @Am.e_c @Am.e_t) (And.intro @Am.e_f @Am.e_val)) (And.intro (And.intro @Am.e_vget @Am.e_isV) (And.intro @Am.e_upd (And.intro @Am.e_g @Am.e_gsel_t)))))) (And.intro (And.intro (And.intro (And.intro (And.intro @Am.e_gsel_f @Am.e_gsel_tf) (And.intro @Am.e_gsel_ft @Am.e_gsel_n)) (And.intro (And.intro @Am.e_gsel_tf0 @Am.e_gsel_ft0) (And.intro @Am.e_gsel_n0 @Am.e_csel_t))) (And.intro (And.intro (And.intro @Am.e_csel_f @Am.e_ends_r) (And.intro @Am.e_ends_n @Am.e_nbeq)) (And.intro (And.intro @Am.vop.eq_1 @Am.vop.eq_2) (And.intro @Am.vop.eq_3 (And.intro @Am.vop.eq_4 @Am.vop.eq_5))))) (And.intro (And.intro (And.intro (And.intro @Am.vop.eq_6 @Am.vop.eq_7) (And.intro @Am.vop.eq_8 @Am.vop.eq_9)) (And.intro (And.intro @Am.vop.eq_10 @Am.vop.eq_11) (And.intro @Am.vop.eq_12 (And.intro @Am.vop.eq_13 @Am.vop.eq_14)))) (And.intro (And.intro (And.intro @Am.vop.eq_15 @Am.vop.eq_16) (And.intro @Am.vop.eq_17 @Am.vop.eq_18)) (And.intro (And.intro @Am.vop.eq_19 @Am.vop.eq_20) (And.intro @Am.vop.eq_21 (And.intro @Am.vop.eq_22 @Am.vop.eq_23))))))) (And.intro (And.intro (And.intro (And.intro (And.intro (And.intro @Am.vop.eq_24 @Am.vop.eq_25) (And.intro @Am.vop.eq_26 @Am.vop.eq_27)) (And.intro (And.intro @Am.vop.eq_28 @Am.abin.eq_1) (And.intro @Am.abin.eq_2 @Am.abin.eq_3))) (And.intro (And.intro (And.intro @Am.abin.eq_4 @Am.abin.eq_5) (And.intro @Am.abin.eq_6 @Am.abin.eq_7)) (And.intro (And.intro @Am.abin.eq_8 @Am.abin.eq_9) (And.intro @Am.abin.eq_10 (And.intro @Am.abin.eq_11 @Am.abin.eq_12))))) (And.intro (And.intro (And.intro (And.intro @Am.abin.eq_13 @Am.abin.eq_14) (And.intro @Am.abin.eq_15 @Am.abin.eq_16)) (And.intro (And.intro @Am.abin.eq_17 @Am.aint.eq_1) (And.intro @Am.aint.eq_2 @Am.aint.eq_3))) (And.intro (And.intro (And.intro @Am.aint.eq_4 @Am.aint.eq_5) (And.intro @Am.aint.eq_6 @Am.aint.eq_7)) (And.intro (And.intro @Am.aint.eq_8 @Am.aint.eq_9) (And.intro @Am.aint.eq_10 (And.intro @Am.aint.eq_11 @Am.aint.eq_12)))))) (And.intro (And.intro (And.intro (And.intro (And.intro @Am.aint.eq_13 @Am.aint.eq_14) (And.intro @Am.aint.eq_15 @Am.aint.eq_16)) (And.intro (And.intro @Am.aun.eq_1 @Am.aun.eq_2) (And.intro @Am.aun.eq_3 @Am.aun.eq_4))) (And.intro (And.intro (And.intro @cond_true.{0} @cond_true.{1}) (And.intro @cond_false.{0} @cond_false.{1})) (And.intro (And.intro @true_and @and_true) (And.intro @List.getElem?_cons_zero.{0} (And.intro @List.getElem?_cons_succ.{0} @List.getElem?_nil.{0}))))) (And.intro (And.intro (And.intro (And.intro @Option.getD_some.{0} @Option.getD_none.{0}) (And.intro @Am.St.enter.eq_1 @Am.argF.eq_1)) (And.intro (And.intro @Am.AV.shL.eq_1 @Am.AV.shL.eq_2) (And.intro @Am.AV.sh.eq_1 (And.intro @Am.AV.sh.eq_2 @Am.AV.sh.eq_3)))) (And.intro (And.intro (And.intro @Am.AV.sh.eq_4 @Am.AV.sh.eq_5) (And.intro @Am.AV.sh.eq_6 @Am.AV.sh.eq_7)) (And.intro (And.intro @Am.AV.sh.eq_8 @Am.resV.eq_1) (And.intro @Am.resV.eq_2 (And.intro @Am.RR.ev.eq_1 @Am.RR.ev.eq_2)))))))) (And.intro (And.intro (And.intro (And.intro (And.intro (And.intro (And.intro @Am.RR.evL.eq_1 @Am.RR.evL.eq_2) (And.intro @Am.leave.eq_1 @Am.AV.still.eq_1)) (And.intro (And.intro @Am.AV.still.eq_2 @Am.AV.still.eq_3) (And.intro @Am.AV.still.eq_4 @Am.AV.still.eq_5))) (And.intro (And.intro (And.intro @Am.AV.still.eq_6 @Am.AV.still.eq_7) (And.intro @Am.AV.stillL.eq_1 @Am.AV.stillL.eq_2)) (And.intro (And.intro @Am.AV.un.eq_1 @Am.AV.un.eq_2) (And.intro @Am.AV.un.eq_3 (And.intro @Am.AV.un.eq_4 @Am.AV.un.eq_5))))) (And.intro (And.intro (And.intro (And.intro @Am.AV.un.eq_6 @Am.AV.un.eq_7) (And.intro @Am.AV.un.eq_8 @Am.AV.un.eq_9)) (And.intro (And.intro @Am.AV.un.eq_10 @Am.AV.un.eq_11) (And.intro @Am.AV.unL.eq_1 @Am.AV.unL.eq_2))) (And.intro (And.intro (And.intro @Option.bind_some.{0,0} @Option.map_some.{0,0}) (And.intro @if_true.{0} @if_true.{1})) (And.intro (And.intro @if_false.{0} @if_false.{1}) (And.intro @Bool.false_eq_true (And.intro @Go.IntKind.bits.eq_1 @Go.IntKind.bits.eq_2)))))) (And.intro (And.intro (And.intro (And.intro (And.intro @Go.IntKind.bits.eq_3 @Go.IntKind.bits.eq_4) (And.intro @Go.IntKind.bits.eq_5 @Go.IntKind.bits.eq_6)) (And.intro (And.intro @Go.IntKind.bits.eq_7 @Go.IntKind.bits.eq_8) (And.intro @List.length_nil.{0} @List.length_cons.{0}))) (And.intro (And.intro (And.intro @Bool.true_and @Bool.and_true) (And.intro @forall_const.{1} @not_true_eq_false)) (And.intro (And.intro @not_false_eq_true @Am.upd_upd) (And.intro @Bool.not_true (And.intro @Bool.not_false @Am.gen?.eq_1))))) (And.intro (And.intro (And.intro (And.intro @ne_eq.{1} @Nat.one_ne_zero) (And.intro @decide_true @decide_false)) (And.intro (And.intro @Am.e_store @Am.e_storev) (And.intro @Am.e_isPv (And.intro @Am.e_allocN @Am.e_boxN)))) (And.intro (And.intro (And.intro @Am.e_mget @Am.e_isM) (And.intro @Am.noOb.eq_1 @Am.AV.unNL.eq_1)) (And.intro (And.intro @Am.AV.unNL.eq_2 @Am.AV.unNL_zero) (And.intro @Am.AV.shNL.eq_1 (And.intro @Am.AV.shNL.eq_2 @Am.AV.shN.eq_1))))))) (And.intro (And.intro (And.intro (And.intro (And.intro (And.intro @Am.AV.shN.eq_2 @Am.splice.eq_1) (And.intro @Am.part.eq_1 @Am.part.eq_2)) (And.intro (And.intro @Am.fill.eq_1 @Am.fill.eq_2) (And.intro @Am.AV.leaf.eq_1 @Am.AV.leaf.eq_2))) (And.intro (And.intro (And.intro @Am.AV.leaf.eq_3 @Am.AV.leaf.eq_4) (And.intro @List.all_cons.{0} @List.all_nil.{0})) (And.intro (And.intro @List.take_succ_cons.{0} @List.take_zero.{0}) (And.intro @List.take_nil.{0} (And.intro @List.drop_succ_cons.{0} @List.drop_zero.{0}))))) (And.intro (And.intro (And.intro (And.intro @List.drop_nil.{0} @List.nil_append.{0}) (And.intro @List.cons_append.{0} @List.append_nil.{0})) (And.intro (And.intro @Am.noObs.eq_1 @and_self) (And.intro @Am.lenA.eq_1 (And.intro @Am.lenA.eq_2 @Am.lenA.eq_3)))) (And.intro (And.intro (And.intro @Am.lenA.eq_4 @Am.lenA.eq_5) (And.intro @Am.lenA.eq_6 @Am.bnd.eq_1)) (And.intro (And.intro @Am.bnd.eq_2 @Am.aslice.eq_1) (And.intro @Am.aslice.eq_2 (And.intro @Am.aslice.eq_3 @Am.aslice.eq_4)))))) (And.intro (And.intro (And.intro (And.intro (And.intro @Am.aslice.eq_5 @Am.aslice.eq_6) (And.intro @Am.aslice.eq_7 @Am.eqL.eq_1)) (And.intro (And.intro @Am.eqL.eq_2 @Am.eqL.eq_3) (And.intro @Am.eq1.eq_1 @Am.eq1.eq_2))) (And.intro (And.intro (And.intro @Am.eq1.eq_3 @Am.eq1.eq_4) (And.intro @Am.e_no @Am.e_drop)) (And.intro (And.intro @Am.e_scr_top @Am.e_scr_int) (And.intro @Am.e_scr_bool (And.intro @Am.e_scr_str @Am.e_scr_nils))))) (And.intro (And.intro (And.intro (And.intro @Am.e_scr_nilp @Am.e_scr_nili) (And.intro @Am.e_scr_nilf @Am.e_scr_list)) (And.intro (And.intro @Am.e_scr_vec @Am.e_scr_agg) (And.intro @Am.e_scr_tup (And.intro @Am.e_scr_ptr @Am.e_scr_ptr1)))) (And.intro (And.intro (And.intro @Am.e_scr_nil @Am.e_scr_cons) (And.intro @Am.e_scr_cells @Am.e_scr_row)) (And.intro (And.intro @Am.e_scr_none @Am.e_scr_isRow) (And.intro @Am.e_row_cells (And.intro @Am.e_row_none @List.map_nil.{0,0})))))))))

set_option linter.defProp false in
def eEX := (And.intro (And.intro (And.intro @Am.astore.eq_1 (And.intro @Am.astore.eq_2 @Am.astore.eq_3)) (And.intro (And.intro @Am.aload.eq_1 @Am.aload.eq_2) (And.intro @Am.aload.eq_3 @Am.aload.eq_4))) (And.intro (And.intro (And.intro @Am.look.eq_1 @Am.look.eq_2) (And.intro @Am.look.eq_3 @Am.put.eq_1)) (And.intro (And.intro @Am.put.eq_2 @Am.put.eq_3) (And.intro @Am.AV.cells.eq_1 @Am.AV.cells.eq_2))))

set_option linter.defProp false in
def eEV := (And.intro (And.intro (And.intro (And.intro (And.intro (And.intro (And.intro @Am.e_seq @Am.e_reg) (And.intro @Am.e_draw (And.intro @Am.e_nil @Am.e_kc_n))) (And.intro (And.intro @Am.e_kc_x (And.intro @Am.e_kc_r @Am.e_block)) (And.intro @Am.e_scope (And.intro @Am.e_skip @Am.e_lab)))) (And.intro (And.intro (And.intro @Am.e_ret (And.intro @Am.e_exit @Am.e_kb_n)) (And.intro @Am.e_kb_x (And.intro @Am.e_kb_r @Am.e_kg_n))) (And.intro (And.intro @Am.e_kg_x (And.intro @Am.e_kg_r @Am.e_kl_n)) (And.intro @Am.e_kl_x (And.intro @Am.e_kl_r @Am.e_cond))))) (And.intro (And.intro (And.intro (And.intro @Am.e_bget @Am.e_isB) (And.intro @Am.e_c (And.intro @Am.e_t @Am.e_f))) (And.intro (And.intro @Am.e_val (And.intro @Am.e_vget @Am.e_isV)) (And.intro @Am.e_upd (And.intro @Am.e_g @Am.e_gsel_t)))) (And.intro (And.intro (And.intro @Am.e_gsel_f (And.intro @Am.e_gsel_tf @Am.e_gsel_ft)) (And.intro @Am.e_gsel_n (And.intro @Am.e_gsel_tf0 @Am.e_gsel_ft0))) (And.intro (And.intro @Am.e_gsel_n0 (And.intro @Am.e_csel_t @Am.e_csel_f)) (And.intro @Am.e_ends_r (And.intro @Am.e_ends_n @Am.e_nbeq)))))) (And.intro (And.intro (And.intro (And.intro (And.intro @Am.vop.eq_1 @Am.vop.eq_2) (And.intro @Am.vop.eq_3 (And.intro @Am.vop.eq_4 @Am.vop.eq_5))) (And.intro (And.intro @Am.vop.eq_6 (And.intro @Am.vop.eq_7 @Am.vop.eq_8)) (And.intro @Am.vop.eq_9 (And.intro @Am.vop.eq_10 @Am.vop.eq_11)))) (And.intro (And.intro (And.intro @Am.vop.eq_12 (And.intro @Am.vop.eq_13 @Am.vop.eq_14)) (And.intro @Am.vop.eq_15 (And.intro @Am.vop.eq_16 @Am.vop.eq_17))) (And.intro (And.intro @Am.vop.eq_18 (And.intro @Am.vop.eq_19 @Am.vop.eq_20)) (And.intro @Am.vop.eq_21 (And.intro @Am.vop.eq_22 @Am.vop.eq_23))))) (And.intro (And.intro (And.intro (And.intro @Am.vop.eq_24 @Am.vop.eq_25) (And.intro @Am.vop.eq_26 (And.intro @Am.vop.eq_27 @Am.vop.eq_28))) (And.intro (And.intro @Am.abin.eq_1 (And.intro @Am.abin.eq_2 @Am.abin.eq_3)) (And.intro @Am.abin.eq_4 (And.intro @Am.abin.eq_5 @Am.abin.eq_6)))) (And.intro (And.intro (And.intro @Am.abin.eq_7 (And.intro @Am.abin.eq_8 @Am.abin.eq_9)) (And.intro @Am.abin.eq_10 (And.intro @Am.abin.eq_11 @Am.abin.eq_12))) (And.intro (And.intro @Am.abin.eq_13 (And.intro @Am.abin.eq_14 @Am.abin.eq_15)) (And.intro @Am.abin.eq_16 (And.intro @Am.abin.eq_17 @Am.aint.eq_1))))))) (And.intro (And.intro (And.intro (And.intro (And.intro (And.intro @Am.aint.eq_2 @Am.aint.eq_3) (And.intro @Am.aint.eq_4 (And.intro @Am.aint.eq_5 @Am.aint.eq_6))) (And.intro (And.intro @Am.aint.eq_7 (And.intro @Am.aint.eq_8 @Am.aint.eq_9)) (And.intro @Am.aint.eq_10 (And.intro @Am.aint.eq_11 @Am.aint.eq_12)))) (And.intro (And.intro (And.intro @Am.aint.eq_13 (And.intro @Am.aint.eq_14 @Am.aint.eq_15)) (And.intro @Am.aint.eq_16 (And.intro @Am.aun.eq_1 @Am.aun.eq_2))) (And.intro (And.intro @Am.aun.eq_3 (And.intro @Am.aun.eq_4 @cond_true.{0})) (And.intro @cond_true.{1} (And.intro @cond_false.{0} @cond_false.{1}))))) (And.intro (And.intro (And.intro (And.intro @true_and @and_true) (And.intro @List.getElem?_cons_zero.{0} (And.intro @List.getElem?_cons_succ.{0} @List.getElem?_nil.{0}))) (And.intro (And.intro @Option.getD_some.{0} (And.intro @Option.getD_none.{0} @Am.St.enter.eq_1)) (And.intro @Am.argF.eq_1 (And.intro @Am.AV.shL.eq_1 @Am.AV.shL.eq_2)))) (And.intro (And.intro (And.intro @Am.AV.sh.eq_1 (And.intro @Am.AV.sh.eq_2 @Am.AV.sh.eq_3)) (And.intro @Am.AV.sh.eq_4 (And.intro @Am.AV.sh.eq_5 @Am.AV.sh.eq_6))) (And.intro (And.intro @Am.AV.sh.eq_7 (And.intro @Am.AV.sh.eq_8 @Am.resV.eq_1)) (And.intro @Am.resV.eq_2 (And.intro @Am.RR.ev.eq_1 @Am.RR.ev.eq_2)))))) (And.intro (And.intro (And.intro (And.intro (And.intro @Am.RR.evL.eq_1 @Am.RR.evL.eq_2) (And.intro @Am.leave.eq_1 (And.intro @Am.AV.still.eq_1 @Am.AV.still.eq_2))) (And.intro (And.intro @Am.AV.still.eq_3 (And.intro @Am.AV.still.eq_4 @Am.AV.still.eq_5)) (And.intro @Am.AV.still.eq_6 (And.intro @Am.AV.still.eq_7 @Am.AV.stillL.eq_1)))) (And.intro (And.intro (And.intro @Am.AV.stillL.eq_2 (And.intro @Am.AV.un.eq_1 @Am.AV.un.eq_2)) (And.intro @Am.AV.un.eq_3 (And.intro @Am.AV.un.eq_4 @Am.AV.un.eq_5))) (And.intro (And.intro @Am.AV.un.eq_6 (And.intro @Am.AV.un.eq_7 @Am.AV.un.eq_8)) (And.intro @Am.AV.un.eq_9 (And.intro @Am.AV.un.eq_10 @Am.AV.un.eq_11))))) (And.intro (And.intro (And.intro (And.intro @Am.AV.unL.eq_1 (And.intro @Am.AV.unL.eq_2 @Option.bind_some.{0,0})) (And.intro @Option.map_some.{0,0} (And.intro @if_true.{0} @if_true.{1}))) (And.intro (And.intro @if_false.{0} (And.intro @if_false.{1} @Bool.false_eq_true)) (And.intro @Go.IntKind.bits.eq_1 (And.intro @Go.IntKind.bits.eq_2 @Go.IntKind.bits.eq_3)))) (And.intro (And.intro (And.intro @Go.IntKind.bits.eq_4 (And.intro @Go.IntKind.bits.eq_5 @Go.IntKind.bits.eq_6)) (And.intro @Go.IntKind.bits.eq_7 (And.intro @Go.IntKind.bits.eq_8 @List.length_nil.{0}))) (And.intro (And.intro @List.length_cons.{0} (And.intro @Bool.true_and @Bool.and_true)) (And.intro @forall_const.{1} (And.intro @not_true_eq_false @not_false_eq_true))))))))

end Go.Proofs.YtalalolgdekelaaGreatDoor.Am
