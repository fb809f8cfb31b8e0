/- Cursors, as plain data: what each function of the package computes. -/
import Derived.Test.YtcmdlmcmefbkeaaVp
import Derived.Test.YtcmdlmcmefbkeaaAma
import Derived.Test.YtcmdlmcmefbkeaaBt
namespace Go.Proofs.Ytcmdlmcmefbkeaa.Cp
open Go Am Bt Vp

/-- A cursor. -/
structure C where
  d : List UInt8
  a : Int
  e : Int
  dp : Int
  nd : Int
  tx : Int

def C.av (c : C) : AV := .agg [.str c.d, .int .i64 c.a, .int .i64 c.e, .int .i64 c.dp, .int .i64 c.nd, .int .i64 c.tx]
def zc : C := ⟨[], 0, 0, 0, 0, 0⟩

/-- Limits. -/
structure L where
  b : Int
  dp : Int
  nd : Int
  tx : Int
def L.av (l : L) : AV := .agg [.int .i64 l.b, .int .i64 l.dp, .int .i64 l.nd, .int .i64 l.tx]

def C.sound (c : C) : Bool := decide (0 ≤ c.a) && decide (c.a ≤ c.e) && decide (c.e ≤ (c.d.length : Int))
def C.rest (c : C) : List UInt8 := bif c.sound then (c.d.drop c.a.toNat).take (c.e.toNat - c.a.toNat) else []
def C.left (c : C) : Int := (c.rest.length : Int)
def C.ahead (c : C) (n : Int) : C := { c with a := IntKind.i64.wrap (c.a + n) }

def opn (s : List UInt8) (l : L) : C × Nat :=
  if l.b < 0 ∨ l.dp < 0 ∨ l.nd < 0 ∨ l.tx < 0 then (zc, 1) else if l.b < (s.length : Int) then (zc, 3) else (⟨s, 0, s.length, l.dp, l.nd, l.tx⟩, 0)

/-- A number read at a cursor. -/
def C.varint (c : C) : Nat × C × Nat :=
  let r := Vp.take c.rest
  if r.2.2 = 0 then (r.1, c.ahead r.2.1, 0) else (0, c, r.2.2)

def fix8 (s : List UInt8) : Nat := (s.take 8).foldr (fun b u => 256 * u + b.toNat) 0

def C.fixed (c : C) : Nat × C × Nat :=
  if c.rest.length < 8 then (0, c, 4) else (fix8 c.rest, c.ahead 8, 0)

def C.spend (c : C) (n : Int) : C × Nat :=
  if n < 0 then (c, 1) else if c.nd < n then (c, 3) else ({ c with nd := IntKind.i64.wrap (c.nd - n) }, 0)

def ncav (r : Nat × C × Nat) : AV := .tup [.int .u64 (r.1 : Nat), r.2.1.av, .int .i64 (r.2.2 : Nat)]
def cav (r : C × Nat) : AV := .tup [r.1.av, .int .i64 (r.2 : Nat)]

theorem C.sound_iff (c : C) : c.sound = true ↔ 0 ≤ c.a ∧ c.a ≤ c.e ∧ c.e ≤ (c.d.length : Int) := by
  simp [C.sound, and_assoc]

theorem C.rest_len (c : C) : c.left = if c.sound = true then c.e - c.a else 0 := by
  unfold C.left C.rest
  split
  · rename_i h
    rw [h]
    have := (C.sound_iff c).1 h
    simp
    omega
  · rename_i h
    have h : c.sound = false := by simpa using h
    rw [h]; rfl

theorem C.rest_of {c : C} (h : c.sound = true) : c.rest = (c.d.drop c.a.toNat).take (c.e.toNat - c.a.toNat) := by
  unfold C.rest; rw [h]; rfl

theorem C.rest_no {c : C} (h : c.sound = false) : c.rest = [] := by
  unfold C.rest; rw [h]; rfl

/-- The first bytes that are left. -/
theorem C.head_of {c : C} (h : c.sound = true) (n : Nat) (k : Int) (hk : k = if c.a + n < c.e then c.a + n else c.e) : c.rest.take n = (c.d.drop c.a.toNat).take (k.toNat - c.a.toNat) := by
  have hs := (C.sound_iff c).1 h
  rw [C.rest_of h, List.take_take]
  congr 1
  split at hk <;> omega

end Go.Proofs.Ytcmdlmcmefbkeaa.Cp
