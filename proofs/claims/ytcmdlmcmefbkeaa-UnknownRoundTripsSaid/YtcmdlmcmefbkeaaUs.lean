/- Raw fields: scanning, as a law of bytes. -/
import Derived.Test.YtcmdlmcmefbkeaaUr
set_option linter.unusedSimpArgs false
namespace Go.Proofs.Ytcmdlmcmefbkeaa.Va
open Go Am Rc Bt Vp Cp Up

/-- The fields of some bytes, whatever their number. -/
def scc : Nat → List UInt8 → Int → Option (List R)
  | 0, s, _ => if s = [] then some [] else none
  | k + 1, s, tx => if s = [] then some [] else (rd s tx).bind fun r => (scc k (s.drop r.2) tx).map fun a => r.1 :: a

theorem sg_scc : ∀ (k : Nat) (c : C), c.d.length ≤ 9223372036854770000 → c.sound = true → c.rest.length ≤ k → 0 ≤ c.nd → c.nd < 9223372036854775808 →
    (∀ a, scc k c.rest c.tx = some a → (a.length : Int) ≤ c.nd → sg k c = (a, 0)) ∧ ((sg k c).2 = 0 → ∃ a, scc k c.rest c.tx = some a ∧ (a.length : Int) ≤ c.nd ∧ sg k c = (a, 0))
  | 0, c, hl, hs, hk, h0, hm => by
    have hr : c.rest = [] := List.eq_nil_of_length_eq_zero (by omega)
    rw [hr]
    refine ⟨fun a h _ => ?_, fun _ => ⟨[], rfl, by simpa using h0, rfl⟩⟩
    simp only [scc, if_true, Option.some.injEq] at h
    rw [← h]; rfl
  | k + 1, c, hl, hs, hk, h0, hm => by
    by_cases hr : c.rest = []
    · have hlf : ¬ 0 < c.left := by unfold C.left; rw [hr]; simp
      have e : sg (k + 1) c = ([], 0) := by rw [sg, if_neg hlf]
      rw [e, hr]
      refine ⟨fun a h _ => ?_, fun _ => ⟨[], rfl, by simpa using h0, rfl⟩⟩
      simp only [scc, if_true, Option.some.injEq] at h
      rw [← h]
    · have hlf : 0 < c.left := by
        unfold C.left
        have : c.rest.length ≠ 0 := fun h => hr (List.eq_nil_of_length_eq_zero h)
        omega
      by_cases hnd : 1 ≤ c.nd
      · obtain ⟨g1, g2⟩ := nxt_rd hl hs hnd hm
        rw [scc, if_neg hr, sg, if_pos hlf]
        cases hrd : rd c.rest c.tx with
        | none =>
          have := g2 hrd
          simp only [this, if_false]
          exact ⟨fun a h => (by cases h), fun h => h.elim⟩
        | some p =>
          obtain ⟨f, n⟩ := p
          have hnx := g1 f n hrd
          obtain ⟨_, _, v3, v4, _⟩ := rd_valid hrd
          obtain ⟨a1, a2, a3⟩ := ahead_at hl hs n (by unfold C.left; omega)
          have hc' : ({ c with a := c.a + n, nd := c.nd - 1 } : C) = { c.ahead n with nd := c.nd - 1 } := by rw [a1]
          have hr' : ({ c with a := c.a + n, nd := c.nd - 1 } : C).rest = c.rest.drop n := by rw [hc', ← a3]; rfl
          have hs' : ({ c with a := c.a + n, nd := c.nd - 1 } : C).sound = true := by rw [hc']; exact a2
          obtain ⟨i1, i2⟩ := sg_scc k { c with a := c.a + n, nd := c.nd - 1 } hl hs' (by rw [hr', List.length_drop]; omega) (by show 0 ≤ c.nd - 1; omega) (by show c.nd - 1 < _; omega)
          rw [hr'] at i1 i2
          simp only [hnx, if_true, Option.bind_some]
          refine ⟨fun a h hal => ?_, fun h => ?_⟩
          · obtain ⟨b, hb, rfl⟩ := Option.map_eq_some_iff.1 h
            have hb' := i1 b hb (by simp only [List.length_cons] at hal; show (b.length : Int) ≤ c.nd - 1; omega)
            rw [hb']
            simp
          · by_cases ht : (sg k { c with a := c.a + n, nd := c.nd - 1 }).2 = 0
            · obtain ⟨b, hb, hbn, hbs⟩ := i2 ht
              have hbn : (b.length : Int) ≤ c.nd - 1 := hbn
              refine ⟨f :: b, by rw [hb]; rfl, by simp only [List.length_cons]; omega, ?_⟩
              rw [hbs]; simp
            · rw [if_neg ht] at h; exact absurd h ht
      · have hn := nxt_nd (c := c) (by omega)
        rw [sg, if_pos hlf]
        simp only [hn, if_false]
        refine ⟨fun a h hal => ?_, fun h => h.elim⟩
        rw [scc, if_neg hr] at h
        obtain ⟨p, _, h⟩ := Option.bind_eq_some_iff.1 h
        obtain ⟨b, _, rfl⟩ := Option.map_eq_some_iff.1 h
        simp only [List.length_cons] at hal
        omega

def okl (s : List UInt8) (l : L) : Prop := 0 ≤ l.b ∧ 0 ≤ l.dp ∧ 0 ≤ l.nd ∧ 0 ≤ l.tx ∧ (s.length : Int) ≤ l.b

theorem opn_okl {s : List UInt8} {l : L} (h : okl s l) : opn s l = (⟨s, 0, s.length, l.dp, l.nd, l.tx⟩, 0) := by
  obtain ⟨h1, h2, h3, h4, h5⟩ := h
  unfold opn
  rw [if_neg (by omega), if_neg (by omega)]

theorem okl_opn {s : List UInt8} {l : L} (h : (opn s l).2 = 0) : okl s l := by
  unfold opn at h
  split at h
  · cases h
  · split at h
    · cases h
    · exact ⟨by omega, by omega, by omega, by omega, by omega⟩

theorem full_rest (s : List UInt8) (x y z : Int) : (⟨s, 0, s.length, x, y, z⟩ : C).sound = true ∧ (⟨s, 0, s.length, x, y, z⟩ : C).rest = s := by
  have hs : (⟨s, 0, s.length, x, y, z⟩ : C).sound = true := (C.sound_iff _).2 ⟨Int.le_refl _, by simp, Int.le_refl _⟩
  refine ⟨hs, ?_⟩
  rw [C.rest_of hs]
  simp

theorem scan_scc {s : List UInt8} {l : L} (hl : s.length ≤ 9223372036854770000) (hm : l.nd < 9223372036854775808) :
    (∀ a, okl s l → scc s.length s l.tx = some a → (a.length : Int) ≤ l.nd → scan s l = (a, 0)) ∧ ((scan s l).2 = 0 → okl s l ∧ ∃ a, scc s.length s l.tx = some a ∧ (a.length : Int) ≤ l.nd ∧ scan s l = (a, 0)) := by
  obtain ⟨f1, f2⟩ := full_rest s l.dp l.nd l.tx
  have main : okl s l → _ := fun ho => sg_scc s.length ⟨s, 0, s.length, l.dp, l.nd, l.tx⟩ hl f1 (by rw [f2]; exact Nat.le_refl _) ho.2.2.1 hm
  rw [f2] at main
  constructor
  · intro a ho ha hn
    have := (main ho).1 a ha hn
    unfold scan
    rw [opn_okl ho]
    simp only [if_true]
    exact this
  · intro h
    unfold scan at h ⊢
    by_cases ho : (opn s l).2 = 0
    · have hk := okl_opn ho
      rw [opn_okl hk] at h ⊢
      simp only [if_true] at h ⊢
      exact ⟨hk, (main hk).2 h⟩
    · simp only [ho, if_false] at h

theorem scc_mono : ∀ (k j : Nat) (s : List UInt8) (tx : Int) (a : List R), k ≤ j → scc k s tx = some a → scc j s tx = some a
  | 0, j, s, tx, a, _, h => by
    unfold scc at h
    split at h
    · rename_i hs
      cases j <;> simp only [scc, hs, if_true] <;> exact h
    · cases h
  | k + 1, j, s, tx, a, hj, h => by
    obtain ⟨j, rfl⟩ : ∃ i, j = i + 1 := ⟨j - 1, by omega⟩
    rw [scc] at h ⊢
    split at h
    · rename_i hs; rw [if_pos hs]; exact h
    · rename_i hs
      rw [if_neg hs]
      obtain ⟨p, hp, h⟩ := Option.bind_eq_some_iff.1 h
      obtain ⟨b, hb, rfl⟩ := Option.map_eq_some_iff.1 h
      rw [hp, Option.bind_some, scc_mono k j _ tx b (by omega) hb]
      rfl

/-- More rounds than bytes are of no use. -/
theorem scc_fit : ∀ (k : Nat) (s : List UInt8) (tx : Int) (a : List R), scc k s tx = some a → scc s.length s tx = some a
  | 0, s, tx, a, h => scc_mono 0 _ s tx a (Nat.zero_le _) h
  | k + 1, s, tx, a, h => by
    rw [scc] at h
    split at h
    · rename_i hs; subst hs; exact h
    · rename_i hs
      obtain ⟨p, hp, h⟩ := Option.bind_eq_some_iff.1 h
      obtain ⟨b, hb, rfl⟩ := Option.map_eq_some_iff.1 h
      obtain ⟨f, n⟩ := p
      obtain ⟨_, _, v3, v4, _⟩ := rd_valid hp
      obtain ⟨j, hj⟩ : ∃ j, s.length = j + 1 := ⟨s.length - 1, by omega⟩
      have hb' := scc_mono _ j _ tx b (by rw [List.length_drop]; omega) (scc_fit k _ tx b hb)
      rw [hj, scc, if_neg hs, hp, Option.bind_some, hb']
      rfl

theorem scc_app : ∀ (k j : Nat) (s t : List UInt8) (tx : Int) (a b : List R), scc k s tx = some a → scc j t tx = some b → scc (k + j) (s ++ t) tx = some (a ++ b)
  | 0, j, s, t, tx, a, b, h, g => by
    unfold scc at h
    split at h
    · rename_i hs
      cases h
      rw [hs, Nat.zero_add]; exact g
    · cases h
  | k + 1, j, s, t, tx, a, b, h, g => by
    rw [scc] at h
    split at h
    · rename_i hs
      cases h
      rw [hs]
      exact scc_mono j _ t tx b (by omega) g
    · rename_i hs
      obtain ⟨p, hp, h⟩ := Option.bind_eq_some_iff.1 h
      obtain ⟨b', hb, rfl⟩ := Option.map_eq_some_iff.1 h
      obtain ⟨f, n⟩ := p
      obtain ⟨_, _, v3, v4, _⟩ := rd_valid hp
      rw [show k + 1 + j = (k + j) + 1 by omega, scc, if_neg (by simp [hs]), rd_append hp t, Option.bind_some]
      have := scc_app k j (s.drop n) t tx b' b hb g
      rw [show ((f, n) : R × Nat).2 = n from rfl] at *
      rw [List.drop_append_of_le_length v4, this]
      rfl

/-- What scanning gives. -/
theorem scc_valid : ∀ (k : Nat) (s : List UInt8) (tx : Int) (a : List R), scc k s tx = some a →
    (∀ f ∈ a, valid f = true ∧ f.bits < 2 ^ 64 ∧ f.data.length ≤ s.length ∧ fits f tx) ∧ (putl a).length ≤ s.length ∧ a.length ≤ s.length
  | 0, s, tx, a, h => by
    unfold scc at h
    split at h
    · cases h; simp [putl]
    · cases h
  | k + 1, s, tx, a, h => by
    rw [scc] at h
    split at h
    · cases h; simp [putl]
    · rename_i hs
      obtain ⟨p, hp, h⟩ := Option.bind_eq_some_iff.1 h
      obtain ⟨b, hb, rfl⟩ := Option.map_eq_some_iff.1 h
      obtain ⟨f, n⟩ := p
      obtain ⟨v1, v2, v3, v4, v5, v6, v7⟩ := rd_valid hp
      obtain ⟨i1, i2, i3⟩ := scc_valid k (s.drop n) tx b hb
      rw [List.length_drop] at i2 i3
      refine ⟨fun g hg => ?_, ?_, ?_⟩
      · rcases List.mem_cons.1 hg with rfl | hg
        · exact ⟨v1, v2, by omega, v6⟩
        · obtain ⟨j1, j2, j3, j4⟩ := i1 g hg
          rw [List.length_drop] at j3
          exact ⟨j1, j2, by omega, j4⟩
      · show (putl (f :: b)).length ≤ s.length
        unfold putl at i2 ⊢
        rw [List.flatMap_cons, List.length_append]
        omega
      · simp only [List.length_cons]; omega

theorem ptf_pos {f : R} (h : valid f = true) : 0 < (ptf f).length := by
  rw [ptf, if_pos h, List.length_append]
  have h' := h
  unfold valid at h'
  simp only [Bool.and_eq_true, beq_iff_eq] at h'
  unfold tag at h' ⊢
  split
  · rename_i hb; rw [if_pos hb] at h'; exact absurd h'.1 (by decide)
  · have := (put_len (f.num * 8 + f.wire).toNat).1
    simp only
    omega

/-- What is written is read again. -/
theorem scc_put (tx : Int) : ∀ (l : List R), (∀ f ∈ l, valid f = true ∧ f.bits < 2 ^ 64 ∧ f.data.length < 2 ^ 64 ∧ fits f tx) → scc (putl l).length (putl l) tx = some l
  | [], _ => rfl
  | f :: l, h => by
    obtain ⟨h1, h2, h3, h4⟩ := h f (by simp)
    have ih := scc_put tx l (fun g hg => h g (by simp [hg]))
    have hp := ptf_pos h1
    have e : putl (f :: l) = ptf f ++ putl l := by unfold putl; rw [List.flatMap_cons]
    have hne : putl (f :: l) ≠ [] := by intro e'; rw [e] at e'; have := congrArg List.length e'; rw [List.length_append, List.length_nil] at this; omega
    obtain ⟨j, hj⟩ : ∃ j, (putl (f :: l)).length = j + 1 := ⟨(putl (f :: l)).length - 1, by rw [e, List.length_append]; omega⟩
    have hjl : (putl l).length ≤ j := by
      have := hj
      rw [e, List.length_append] at this
      omega
    rw [hj, scc, if_neg hne, e, rd_ptf h1 h2 h3 h4 (putl l), Option.bind_some]
    simp only [List.drop_left']
    rw [scc_mono _ j _ tx l hjl ih]
    rfl

theorem putl_filter : ∀ l : List R, putl (l.filter valid) = putl l
  | [] => rfl
  | f :: l => by
    unfold putl
    by_cases h : valid f = true
    · rw [List.filter_cons_of_pos h, List.flatMap_cons, List.flatMap_cons]
      congr 1
      exact putl_filter l
    · rw [List.filter_cons_of_neg h, List.flatMap_cons, show ptf f = [] by rw [ptf, if_neg h], List.nil_append]
      exact putl_filter l

end Go.Proofs.Ytcmdlmcmefbkeaa.Va
