/- Raw fields, as plain data: what each function of the package computes. -/
import Derived.Test.YtcmdlmcmefbkeaaCp
namespace Go.Proofs.Ytcmdlmcmefbkeaa.Up
open Go Am Bt Vp Cp

/-- A raw field. -/
structure R where
  num : Int
  wire : Int
  bits : Nat
  data : List UInt8
  deriving DecidableEq

def R.av (f : R) : AV := .agg [.int .i64 f.num, .int .i64 f.wire, .int .u64 (f.bits : Nat), .str f.data]
def zr : R := ⟨0, 0, 0, []⟩

def tag (num wire : Int) : List UInt8 × Nat :=
  if num < 1 ∨ 65535 < num ∨ wire < 0 ∨ 6 < wire then ([], 6) else (Vp.put (num * 8 + wire).toNat, 0)
def tagv (r : List UInt8 × Nat) : AV := .tup [.str r.1, .int .i64 (r.2 : Nat)]

def takeTag (c : C) : Int × Int × C × Nat :=
  let r := c.varint
  if r.2.2 = 0 then
    if r.1 % 8 = 7 then (0, 0, c, 5) else if r.1 / 8 < 1 ∨ 65535 < r.1 / 8 then (0, 0, c, 6) else ((r.1 / 8 : Nat), (r.1 % 8 : Nat), r.2.1, 0)
  else (0, 0, c, r.2.2)
def ttv (r : Int × Int × C × Nat) : AV := .tup [.int .i64 r.1, .int .i64 r.2.1, r.2.2.1.av, .int .i64 (r.2.2.2 : Nat)]

def number (wire : Int) : Bool := wire == 0 || wire == 1 || wire == 2

/-- A length and as many bytes. -/
def dat (c : C) (wire : Int) : List UInt8 × C × Nat :=
  let r := c.varint
  if r.2.2 = 0 then
    if r.2.1.left < (r.1 : Int) then ([], c, 4)
    else if (if wire = 3 then c.tx else 65536) < (r.1 : Int) then ([], c, 3)
    else ((r.2.1.d.drop r.2.1.a.toNat).take r.1, r.2.1.ahead r.1, 0)
  else ([], c, r.2.2)
def datv (r : List UInt8 × C × Nat) : AV := .tup [.str r.1, r.2.1.av, .int .i64 (r.2.2 : Nat)]

/-- The contents of a field. -/
def cont (c : C) (f : R) : R × C × Nat :=
  if f.wire = 2 then ({ f with bits := c.fixed.1 }, c.fixed.2.1, c.fixed.2.2)
  else if f.wire = 0 ∨ f.wire = 1 then ({ f with bits := c.varint.1 }, c.varint.2.1, c.varint.2.2)
  else ({ f with data := (dat c f.wire).1 }, (dat c f.wire).2.1, (dat c f.wire).2.2)

/-- A raw field read at a cursor. -/
def nxt (c : C) : R × C × Nat :=
  let t := takeTag c
  if t.2.2.2 = 0 then
    let s := t.2.2.1.spend 1
    if s.2 = 0 then
      let k := cont s.1 { num := t.1, wire := t.2.1, bits := 0, data := [] }
      if k.2.2 = 0 then k else (zr, c, k.2.2)
    else (zr, c, s.2)
  else (zr, c, t.2.2.2)
def nxtv (r : R × C × Nat) : AV := .tup [r.1.av, r.2.1.av, .int .i64 (r.2.2 : Nat)]

theorem rest_snd {c : C} (h : c.rest ≠ []) : c.sound = true := by
  cases hs : c.sound with
  | true => rfl
  | false => exact absurd (C.rest_no hs) h

/-- Behind a number that was read the cursor is sound. -/
theorem varint_next {c : C} (hl : c.d.length ≤ 9223372036854775807) (h : c.varint.2.2 = 0) : ∃ n : Nat, 0 < n ∧ n ≤ 10 ∧ (n : Int) ≤ c.left ∧ c.varint.2.1 = { c with a := c.a + n } ∧ c.sound = true ∧ c.varint.2.1.sound = true ∧ c.varint.1 < 2 ^ 64 := by
  unfold C.varint at h ⊢
  have hb := take_bounds c.rest
  generalize Vp.take c.rest = r at h hb ⊢
  obtain ⟨u, n, e⟩ := r
  simp only at h hb ⊢
  split at h
  · rename_i he
    subst he
    obtain ⟨h1, h2, h3, h4⟩ := hb rfl
    have hne : c.rest ≠ [] := by intro e; rw [e] at h2; simp at h2; omega
    have hs := rest_snd hne
    have hs' := (C.sound_iff c).1 hs
    have hle := c.rest_len
    rw [if_pos hs] at hle
    have hw : IntKind.i64.wrap (c.a + (n : Int)) = c.a + n := by
      have : (n : Int) ≤ c.left := by unfold C.left; omega
      rw [wi64]; omega
    have hnl : (n : Int) ≤ c.left := by unfold C.left; omega
    refine ⟨n, h1, h3, hnl, ?_, hs, ?_, ?_⟩
    · rw [if_pos rfl]; simp only [C.ahead, hw]
    · rw [if_pos rfl]
      rw [C.sound_iff]
      simp only [C.ahead, hw]
      omega
    · rw [if_pos rfl]; exact h4
  · rename_i he; exact absurd h he

end Go.Proofs.Ytcmdlmcmefbkeaa.Up
