/- Parts of the proof, in order. -/
import Derived.Test.YtofcnjhnjagncaaGreatMTagdecKeeps3

/- Raw fields: the next one. -/
set_option linter.unusedSimpArgs false
namespace Go.Proofs.YtofcnjhnjagncaaGreat.Va
open Go Am Rc Bt Vp Cp Up

theorem bne00 : (((0 : Nat) : Int) != 0) = false := rfl
theorem bne0_t {a : Nat} (h : ¬ a = 0) : ((a : Int) != 0) = true := by simp [h]
theorem bne0_f {a : Nat} (h : a = 0) : ((a : Int) != 0) = false := by simp [h]

theorem tag_len {c : C} (hl : c.d.length ≤ 9223372036854770000) : (takeTag c).2.2.1.d.length ≤ 9223372036854770000 := by
  unfold takeTag
  simp only
  split
  · rename_i h0
    split
    · exact hl
    · split
      · exact hl
      · obtain ⟨n, _, _, _, h4, _⟩ := varint_next (c := c) (by omega) h0
        show c.varint.2.1.d.length ≤ _
        rw [h4]; exact hl
  · exact hl

theorem spend_len {c : C} {n : Int} (hl : c.d.length ≤ 9223372036854770000) : (c.spend n).1.d.length ≤ 9223372036854770000 := by
  unfold C.spend
  split
  · exact hl
  · split <;> exact hl

theorem c22 (c : C) (hl : c.d.length ≤ 9223372036854770000) : Fn1 Tryz.prog 22 [c.av] (nxtv (nxt c)) := by
  refine fn1_of_awp (rc := r22) (rs := o22) Tryz.func22 rfl rfl Tryz.ntmps22 k22 q22 (by simp) ?_
  simp only [g22_0, g22_1, g22_2, g22_3, g22_4, g22_5, g22_6, g22_7, g22_8, g22_9, g22_10, g22_11, r22, o22, C.av, eES, eEX, Nat.reduceBEq, Int.reduceLE, Int.reduceLT, Int.reduceToNat, Int.reduceEq, ↓reduceIte, reduceCtorEq, Nat.reducePow, Nat.reduceAdd, Nat.reduceLeDiff, Nat.reduceLT, Nat.reduceSub, Nat.reduceEqDiff]
  refine aops_call (c33 c hl) rfl rfl rfl (.inl rfl) ?_
  have htl := tag_len hl
  unfold nxt
  generalize takeTag c = t at htl ⊢
  obtain ⟨num, wire, d, e⟩ := t
  simp only [ttv, C.av, eES, eEX, Nat.reduceBEq, Int.reduceLE, Int.reduceLT, Int.reduceToNat, Int.reduceEq, ↓reduceIte, reduceCtorEq, Nat.reducePow, Nat.reduceAdd, Nat.reduceLeDiff, Nat.reduceLT, Nat.reduceSub, Nat.reduceEqDiff] at htl ⊢
  by_cases he : e = 0
  · subst he
    simp only [bne00, eES, eEX, Nat.reduceBEq, Int.reduceLE, Int.reduceLT, Int.reduceToNat, Int.reduceEq, ↓reduceIte, reduceCtorEq, Nat.reducePow, Nat.reduceAdd, Nat.reduceLeDiff, Nat.reduceLT, Nat.reduceSub, Nat.reduceEqDiff]
    refine aops_call (c34 d 1) rfl rfl rfl (.inl rfl) ?_
    have hsl := spend_len (n := 1) htl
    generalize d.spend 1 = sp at hsl ⊢
    obtain ⟨d2, e2⟩ := sp
    simp only [cav, C.av, eES, eEX, Nat.reduceBEq, Int.reduceLE, Int.reduceLT, Int.reduceToNat, Int.reduceEq, ↓reduceIte, reduceCtorEq, Nat.reducePow, Nat.reduceAdd, Nat.reduceLeDiff, Nat.reduceLT, Nat.reduceSub, Nat.reduceEqDiff] at hsl ⊢
    by_cases he2 : e2 = 0
    · subst he2
      simp only [bne00, eES, eEX, Nat.reduceBEq, Int.reduceLE, Int.reduceLT, Int.reduceToNat, Int.reduceEq, ↓reduceIte, reduceCtorEq, Nat.reducePow, Nat.reduceAdd, Nat.reduceLeDiff, Nat.reduceLT, Nat.reduceSub, Nat.reduceEqDiff]
      refine aops_callF (c35 d2 ⟨num, wire, 0, []⟩ 9 _ _ ?_ hsl) rfl ?_
      · simp only [R.av, eES, eEX, Nat.reduceBEq, Int.reduceLE, Int.reduceLT, Int.reduceToNat, Int.reduceEq, ↓reduceIte, reduceCtorEq, Nat.reducePow, Nat.reduceAdd, Nat.reduceLeDiff, Nat.reduceLT, Nat.reduceSub, Nat.reduceEqDiff]
        rfl
      · generalize cont d2 ⟨num, wire, 0, []⟩ = k
        obtain ⟨f, d3, e3⟩ := k
        simp only [cav, C.av, R.av, eES, eEX, Nat.reduceBEq, Int.reduceLE, Int.reduceLT, Int.reduceToNat, Int.reduceEq, ↓reduceIte, reduceCtorEq, Nat.reducePow, Nat.reduceAdd, Nat.reduceLeDiff, Nat.reduceLT, Nat.reduceSub, Nat.reduceEqDiff]
        by_cases he3 : e3 = 0
        · subst he3
          simp only [bne00, nxtv, R.av, C.av, eES, eEX, Nat.reduceBEq, Int.reduceLE, Int.reduceLT, Int.reduceToNat, Int.reduceEq, ↓reduceIte, reduceCtorEq, Nat.reducePow, Nat.reduceAdd, Nat.reduceLeDiff, Nat.reduceLT, Nat.reduceSub, Nat.reduceEqDiff]
          rfl
        · simp only [bne0_t he3, he3, nxtv, zr, R.av, C.av, eES, eEX, Nat.reduceBEq, Int.reduceLE, Int.reduceLT, Int.reduceToNat, Int.reduceEq, ↓reduceIte, reduceCtorEq, Nat.reducePow, Nat.reduceAdd, Nat.reduceLeDiff, Nat.reduceLT, Nat.reduceSub, Nat.reduceEqDiff]
          rfl
    · simp only [bne0_t he2, he2, nxtv, zr, R.av, C.av, eES, eEX, Nat.reduceBEq, Int.reduceLE, Int.reduceLT, Int.reduceToNat, Int.reduceEq, ↓reduceIte, reduceCtorEq, Nat.reducePow, Nat.reduceAdd, Nat.reduceLeDiff, Nat.reduceLT, Nat.reduceSub, Nat.reduceEqDiff]
      rfl
  · simp only [bne0_t he, he, nxtv, zr, R.av, C.av, eES, eEX, Nat.reduceBEq, Int.reduceLE, Int.reduceLT, Int.reduceToNat, Int.reduceEq, ↓reduceIte, reduceCtorEq, Nat.reducePow, Nat.reduceAdd, Nat.reduceLeDiff, Nat.reduceLT, Nat.reduceSub, Nat.reduceEqDiff]
    rfl

/-- The contents, as the specification has them. -/
def rcont (c : C) (f : R) : R × C × Nat :=
  if f.wire = 2 then ({ f with bits := c.fixed.1 }, c.fixed.2.1, c.fixed.2.2)
  else if c.varint.2.2 ≠ 0 ∨ number f.wire = true then ({ f with bits := c.varint.1 }, c.varint.2.1, c.varint.2.2)
  else if c.varint.2.1.left < (c.varint.1 : Int) then (f, c, 4)
  else if (f.wire = 3 ∧ c.varint.2.1.tx < (c.varint.1 : Int)) ∨ (f.wire ≠ 3 ∧ 65536 < c.varint.1) then (f, c, 3)
  else ({ f with data := (c.varint.2.1.d.drop c.varint.2.1.a.toNat).take c.varint.1 }, c.varint.2.1.ahead c.varint.1, 0)

end Go.Proofs.YtofcnjhnjagncaaGreat.Va

/- Raw fields: the next one, by the specification. -/
set_option linter.unusedSimpArgs false
namespace Go.Proofs.YtofcnjhnjagncaaGreat.Va
open Go Am Rc Bt Vp Cp Up

theorem rcont_cont (c : C) (f : R) (hl : c.d.length ≤ 9223372036854770000) : (rcont c f).2.2 = (cont c f).2.2 ∧ ((cont c f).2.2 = 0 → rcont c f = cont c f) := by
  unfold rcont cont dat
  by_cases h2 : f.wire = 2
  · simp [h2]
  · by_cases hv : c.varint.2.2 = 0
    · obtain ⟨n, _, _, _, h4, _⟩ := varint_next (c := c) (by omega) hv
      have htx : c.varint.2.1.tx = c.tx := by rw [h4]
      by_cases hn : f.wire = 0 ∨ f.wire = 1
      · have : number f.wire = true := by rcases hn with h | h <;> simp [number, h]
        simp [h2, hn, this]
      · have : number f.wire = false := by
          simp only [not_or] at hn
          simp [number, hn.1, hn.2, h2]
        simp only [h2, hn, hv, this, htx, ne_eq, not_true_eq_false, or_self, if_false, if_true, Bool.false_eq_true, false_or]
        by_cases hu : c.varint.2.1.left < (c.varint.1 : Int)
        · simp [hu]
        · simp only [hu, if_false]
          by_cases hw : f.wire = 3
          · by_cases hm : c.tx < (c.varint.1 : Int) <;> simp [hw, hm]
          · by_cases hm : 65536 < c.varint.1
            · have hm' : (65536 : Int) < (c.varint.1 : Int) := by omega
              simp [hw, hm, hm']
            · have hm' : ¬ (65536 : Int) < (c.varint.1 : Int) := by omega
              simp [hw, hm, hm']
    · simp only [h2, hv, ne_eq, not_false_eq_true, true_or, if_true, if_false]
      by_cases hn : f.wire = 0 ∨ f.wire = 1
      · simp [hn]
      · simp [hn, hv]

end Go.Proofs.YtofcnjhnjagncaaGreat.Va

/- Raw fields: all of some bytes. -/
set_option linter.unusedSimpArgs false
namespace Go.Proofs.YtofcnjhnjagncaaGreat.Va
open Go Am Rc Bt Vp Cp Up

/-- The fields from a cursor on (at most so many), or the first error. -/
def sg : Nat → C → List R × Nat
  | 0, _ => ([], 0)
  | k + 1, c =>
    if 0 < c.left then
      let r := nxt c
      if r.2.2 = 0 then
        let t := sg k r.2.1
        if t.2 = 0 then (r.1 :: t.1, 0) else ([], t.2)
      else ([], r.2.2)
    else ([], 0)

def scan (s : List UInt8) (l : L) : List R × Nat :=
  let o := opn s l
  if o.2 = 0 then sg s.length o.1 else ([], o.2)

def rsv (l : List R) : List AV := l.map R.av
def scv (r : List R × Nat) : AV := .tup [.list (rsv r.1), .int .i64 (r.2 : Nat)]

theorem rsv_append (a b : List R) : rsv (a ++ b) = rsv a ++ rsv b := by simp [rsv]
theorem rsv_len (a : List R) : (rsv a).length = a.length := by simp [rsv]

/-- What a step of reading does to a cursor: it moves on; the limits of depth and text stand. -/
theorem fixed_next {c : C} (hl : c.d.length ≤ 9223372036854775807) (h : c.fixed.2.2 = 0) : c.sound = true ∧ 8 ≤ c.left ∧ c.fixed.2.1 = { c with a := c.a + 8 } ∧ c.fixed.1 < 2 ^ 64 := by
  unfold C.fixed at h ⊢
  split at h
  · cases h
  · rename_i hr
    have hne : c.rest ≠ [] := by intro e; rw [e] at hr; simp at hr
    have hs := rest_snd hne
    have hs' := (C.sound_iff c).1 hs
    have hle := c.rest_len
    rw [if_pos hs] at hle
    have h8 : 8 ≤ c.left := by unfold C.left; omega
    have hw : IntKind.i64.wrap (c.a + 8) = c.a + 8 := by rw [wi64]; omega
    refine ⟨hs, h8, ?_, ?_⟩
    · rw [if_neg hr]; simp only [C.ahead, hw]
    · rw [if_neg hr]
      have h1 := foldr_lt (c.rest.take 8)
      rw [List.length_take, Nat.min_eq_left (by omega)] at h1
      have : (256 : Nat) ^ 8 = 2 ^ 64 := by decide
      show fix8 c.rest < 2 ^ 64
      unfold fix8
      omega

/-- A step of reading moves on within the data. -/
structure Step (c d : C) : Prop where
  n : ∃ k : Nat, d = { c with a := c.a + k, nd := d.nd } ∧ 0 < k ∧ (k : Int) ≤ c.left
  sound : c.sound = true

theorem Step.left {c d : C} (h : Step c d) : d.sound = true ∧ d.left < c.left ∧ 0 ≤ d.left ∧ d.d = c.d ∧ d.left = c.left - (d.a - c.a) := by
  obtain ⟨⟨k, h1, h2, h3⟩, h4⟩ := h
  have hs := (C.sound_iff c).1 h4
  have hc := c.rest_len
  rw [if_pos h4] at hc
  have e1 : d.a = c.a + k := by rw [h1]
  have e2 : d.e = c.e := by rw [h1]
  have e3 : d.d = c.d := by rw [h1]
  have hd : d.sound = true := by
    rw [C.sound_iff, e1, e2, e3]
    omega
  have hdl := d.rest_len
  rw [if_pos hd] at hdl
  exact ⟨hd, by omega, by omega, e3, by omega⟩

theorem nxt_step {c : C} (hl : c.d.length ≤ 9223372036854770000) (h : (nxt c).2.2 = 0) : Step c (nxt c).2.1 := by
  unfold nxt at h ⊢
  simp only at h ⊢
  split at h
  · rename_i ht
    split at h
    · rename_i hs
      split at h
      · rename_i hk
        rw [if_pos ht, if_pos hs, if_pos hk]
        -- the tag
        unfold takeTag at ht hs hk ⊢
        simp only at ht hs hk ⊢
        split at ht
        · rename_i hv
          rw [if_pos hv] at hs hk ⊢
          split at ht
          · cases ht
          · rename_i h7
            rw [if_neg h7] at hs hk ⊢
            split at ht
            · cases ht
            · rename_i h8
              rw [if_neg h8] at hs hk ⊢
              simp only at hs hk ⊢
              obtain ⟨n, g1, g2, g3, g4, g5, g6, g7⟩ := varint_next (c := c) (by omega) hv
              rw [g4] at hs hk ⊢
              have hsc := (C.sound_iff c).1 g5
              have hcl := c.rest_len
              rw [if_pos g5] at hcl
              -- the value spent
              unfold C.spend at hs hk ⊢
              split at hs
              · cases hs
              · rename_i s1
                rw [if_neg s1] at hk ⊢
                split at hs
                · cases hs
                · rename_i s2
                  rw [if_neg s2] at hk ⊢
                  simp only at hk ⊢
                  generalize hd : ({ d := c.d, a := c.a + n, e := c.e, dp := c.dp, nd := IntKind.i64.wrap (c.nd - 1), tx := c.tx } : C) = d at hk ⊢
                  have q1 : d.d = c.d := by rw [← hd]
                  have q2 : d.a = c.a + n := by rw [← hd]
                  have q3 : d.e = c.e := by rw [← hd]
                  have q4 : d.dp = c.dp := by rw [← hd]
                  have q5 : d.tx = c.tx := by rw [← hd]
                  have hdl : d.left ≤ c.left - n := by
                    have := d.rest_len
                    split at this
                    · omega
                    · omega
                  have mk : ∀ (d' : C) (j : Nat), d' = { d with a := d.a + j } → (j : Int) ≤ d.left → Step c d' := by
                    intro d' j e hj
                    refine ⟨⟨n + j, ?_, by omega, by omega⟩, g5⟩
                    rw [e]
                    obtain ⟨_, _, _, _, _, _⟩ := d
                    simp only at q1 q2 q3 q4 q5
                    subst q1 q2 q3 q4 q5
                    simp only [C.mk.injEq, true_and, and_true]
                    omega
                  -- the contents
                  unfold cont at hk ⊢
                  split at hk
                  · rename_i w2
                    rw [if_pos w2]
                    obtain ⟨f1, f2, f3, f4⟩ := fixed_next (c := d) (by rw [q1]; omega) hk
                    exact mk _ 8 f3 f2
                  · rename_i w2
                    rw [if_neg w2]
                    split at hk
                    · rename_i w1
                      rw [if_pos w1]
                      obtain ⟨j, f1, f2, f3, f4, f5, f6, f7⟩ := varint_next (c := d) (by rw [q1]; omega) hk
                      exact mk _ j f4 f3
                    · rename_i w1
                      rw [if_neg w1]
                      simp only at hk ⊢
                      unfold dat at hk ⊢
                      simp only at hk ⊢
                      split at hk
                      · rename_i hv2
                        rw [if_pos hv2]
                        by_cases hu : d.varint.2.1.left < (d.varint.1 : Int)
                        · rw [if_pos hu] at hk; cases hk
                        · rw [if_neg hu] at hk ⊢
                          by_cases hm : (if ((c.varint.1 % 8 : Nat) : Int) = 3 then d.tx else 65536) < (d.varint.1 : Int)
                          · rw [if_pos hm] at hk; cases hk
                          · rw [if_neg hm]
                            obtain ⟨j, f1, f2, f3, f4, f5, f6, f7⟩ := varint_next (c := d) (by rw [q1]; omega) hv2
                            have hs2 := (C.sound_iff d).1 f5
                            have hl2 := d.rest_len
                            rw [if_pos f5] at hl2
                            have hl3 := d.varint.2.1.rest_len
                            rw [if_pos f6, f4] at hl3
                            rw [f4] at hu
                            simp only at hl3
                            have hdl' : (d.d.length : Int) = c.d.length := by rw [q1]
                            have hw : IntKind.i64.wrap (d.a + (j : Int) + (d.varint.1 : Int)) = d.a + j + d.varint.1 := by
                              rw [wi64]
                              omega
                            refine mk _ (j + d.varint.1) ?_ (by omega)
                            rw [f4]
                            simp only [C.ahead, hw, C.mk.injEq, true_and, and_true]
                            omega
                      · rename_i hv2; exact absurd hk hv2
        · rename_i hv; exact absurd ht hv
      · rename_i hk; exact absurd h hk
    · rename_i hs; exact absurd h hs
  · rename_i ht; exact absurd h ht

end Go.Proofs.YtofcnjhnjagncaaGreat.Va

/- Raw fields: scanning. -/
set_option linter.unusedSimpArgs false
namespace Go.Proofs.YtofcnjhnjagncaaGreat.Va
open Go Am Rc Bt Vp Cp Up

theorem rsv_cells (l : List R) : (rsv l).all (fun e => e.cells.length == 4) = true := by
  induction l with
  | nil => rfl
  | cons a l ih => exact ih

/-- What is left to scan, and what was scanned. -/
structure ScanS (s : List UInt8) (l : L) (c : C) (acc : List R) : Prop where
  len : c.d.length = s.length
  all : scan s l = (if (sg c.left.toNat c).2 = 0 then (acc ++ (sg c.left.toNat c).1, 0) else ([], (sg c.left.toNat c).2))
  acc : (acc.length : Int) + c.left ≤ s.length

/-- More rounds than bytes change nothing. -/
theorem sg_more : ∀ (k : Nat) (c : C), c.d.length ≤ 9223372036854770000 → c.left ≤ k → sg k c = sg c.left.toNat c
  | 0, c, hl, h => by
    have := (left_bound c).1
    rw [show c.left.toNat = 0 by omega]
  | k + 1, c, hl, h => by
    have hlb := left_bound c
    by_cases h0 : 0 < c.left
    · obtain ⟨j, hj⟩ : ∃ j, c.left.toNat = j + 1 := ⟨c.left.toNat - 1, by omega⟩
      rw [hj, sg, sg, if_pos h0, if_pos h0]
      by_cases hn : (nxt c).2.2 = 0
      · obtain ⟨_, s2, s3, s4, _⟩ := (nxt_step hl hn).left
        simp only [hn, if_true]
        have hl' : (nxt c).2.1.d.length ≤ 9223372036854770000 := by rw [s4]; exact hl
        rw [sg_more k _ hl' (by omega), sg_more j _ hl' (by omega)]
      · simp only [hn, if_false]
    · have e : c.left.toNat = 0 := by omega
      rw [e]
      simp only [sg, h0, if_false]

theorem scan_start {s : List UInt8} {l : L} (hl : s.length ≤ 9223372036854770000) (h : (opn s l).2 = 0) : ScanS s l (opn s l).1 [] := by
  have ho : (opn s l).1 = ⟨s, 0, s.length, l.dp, l.nd, l.tx⟩ := by
    unfold opn at h ⊢
    split
    · rename_i h1; rw [if_pos h1] at h; cases h
    · rename_i h1
      rw [if_neg h1] at h
      split
      · rename_i h2; rw [if_pos h2] at h; cases h
      · rfl
  have hsnd : (opn s l).1.sound = true := by rw [ho, C.sound_iff]; simp
  have hleft : (opn s l).1.left = s.length := by
    have := (opn s l).1.rest_len
    rw [if_pos hsnd] at this
    rw [this, ho]
    simp
  refine ⟨by rw [ho], ?_, by rw [hleft]; simp⟩
  unfold scan
  simp only [h, if_true]
  rw [sg_more s.length _ (by rw [ho]; exact hl) (by rw [hleft]; omega)]
  split
  · rename_i h'
    rw [List.nil_append]
    exact Prod.ext rfl h'
  · rename_i h'
    refine Prod.ext ?_ rfl
    show (sg _ _).1 = []
    generalize (opn s l).1.left.toNat = k at h' ⊢
    generalize (opn s l).1 = c at h' ⊢
    cases k with
    | zero => rfl
    | succ k =>
      rw [sg] at h' ⊢
      simp only at h' ⊢
      split
      · rename_i h0
        rw [if_pos h0] at h'
        split
        · rename_i h1
          rw [if_pos h1] at h'
          split
          · rename_i h2; rw [if_pos h2] at h'; exact absurd rfl h'
          · rfl
        · rfl
      · rfl

/-- At the end of the bytes. -/
theorem ScanS.done {s : List UInt8} {l : L} {c : C} {acc : List R} (h : ScanS s l c acc) (h0 : ¬ 0 < c.left) : scan s l = (acc, 0) := by
  have := h.all
  have hb := (left_bound c).1
  rw [show c.left.toNat = 0 by omega] at this
  simpa [sg] using this

theorem ScanS.err {s : List UInt8} {l : L} {c : C} {acc : List R} (h : ScanS s l c acc) (h0 : 0 < c.left) (hn : ¬ (nxt c).2.2 = 0) : scan s l = ([], (nxt c).2.2) := by
  have := h.all
  obtain ⟨j, hj⟩ : ∃ j, c.left.toNat = j + 1 := ⟨c.left.toNat - 1, by omega⟩
  rw [hj, sg] at this
  simpa only [h0, hn, if_true, if_false] using this

theorem ScanS.step {s : List UInt8} {l : L} {c : C} {acc : List R} (hl : s.length ≤ 9223372036854770000) (h : ScanS s l c acc) (h0 : 0 < c.left) (hn : (nxt c).2.2 = 0) : ScanS s l (nxt c).2.1 (acc ++ [(nxt c).1]) ∧ (nxt c).2.1.left < c.left ∧ 0 ≤ (nxt c).2.1.left := by
  have hcl : c.d.length ≤ 9223372036854770000 := by rw [h.len]; exact hl
  obtain ⟨_, s2, s3, s4, _⟩ := (nxt_step hcl hn).left
  refine ⟨⟨by rw [s4]; exact h.len, ?_, ?_⟩, s2, s3⟩
  · have := h.all
    obtain ⟨j, hj⟩ : ∃ j, c.left.toNat = j + 1 := ⟨c.left.toNat - 1, by omega⟩
    rw [hj, sg] at this
    simp only [h0, hn, if_true] at this
    rw [sg_more j _ (by rw [s4]; exact hcl) (by omega)] at this
    rw [this]
    by_cases hs : (sg (nxt c).2.1.left.toNat (nxt c).2.1).2 = 0
    · simp [hs]
    · simp [hs]
  · have := h.acc
    simp
    omega

def RScanI (s : List UInt8) (l : L) (k : Nat) (st : St) : Prop :=
  ∃ f fr c acc g, st = ⟨f, [fr], []⟩ ∧ k = c.left.toNat ∧ ScanS s l c acc ∧ f 6 = .ptr 0 6 0 ∧ f 8 = .vec 0 8 g 0 acc.length false ∧ fr 6 = .cells c.av.cells ∧ fr 8 = .vec g 4 (rsv acc) ∧ (fr 9).isRow = false ∧ (fr 10).isRow = false

/-- The closure that counts the bytes. -/
theorem d21 (c : C) (rd fm : Int) (s : Nat) (h fr : Nat → Ob) (m : Mem) (h1 : h 1 = .cells [.ptr 1 s 0]) (h4 : h 4 = .cells [.int .i64 fm]) (hs : fr s = .cells (c.av.cells ++ [.int .i64 rd])) :
    ACallsD Tryz.prog 21 [.ptr 0 1 0, .ptr 0 4 0] (h :: fr :: m) fun _ m1 => m1 = h :: upd fr s (.cells (c.av.cells ++ [.int .i64 (IntKind.i64.wrap (rd + IntKind.i64.wrap (c.a - fm)))])) :: m := by
  refine acallsD_of_awp (rc := r21) (rs := o21) Tryz.func21 rfl rfl Tryz.ntmps21 k21 q21 (by simp) ?_
  simp only [C.av, AV.cells, List.cons_append, List.nil_append] at hs ⊢
  simp only [g21_0, r21, o21, h1, h4, hs, RR.evL, eES, eEX, Nat.reduceBEq, Int.reduceLE, Int.reduceLT, Int.reduceToNat, Int.reduceEq, ↓reduceIte, reduceCtorEq, Nat.reducePow, Nat.reduceAdd, Nat.reduceLeDiff, Nat.reduceLT, Nat.reduceSub, Nat.reduceEqDiff]

end Go.Proofs.YtofcnjhnjagncaaGreat.Va

/- Raw fields: the scanner. -/
set_option linter.unusedSimpArgs false
namespace Go.Proofs.YtofcnjhnjagncaaGreat.Va
open Go Am Rc Bt Vp Cp Up

/-- A field and an error. -/
def rev (r : R × C × Nat) : AV := .tup [r.1.av, .int .i64 (r.2.2 : Nat)]

theorem c10 (c : C) (rd : Int) (s : Nat) (fr : Nat → Ob) (m : Mem) (hs : fr s = .cells (c.av.cells ++ [.int .i64 rd])) (hl : c.d.length ≤ 9223372036854770000) :
    ACalls Tryz.prog 10 [.ptr 0 s 0] (fr :: m) fun x m1 => x = rev (nxt c) ∧ m1 = upd (upd fr s (.cells ((nxt c).2.1.av.cells ++ [.int .i64 rd]))) s (.cells ((nxt c).2.1.av.cells ++ [.int .i64 (IntKind.i64.wrap (rd + IntKind.i64.wrap ((nxt c).2.1.a - c.a)))])) :: m := by
  refine acalls_of_awpD (rc := r10) (rs := o10) Tryz.func10 rfl rfl Tryz.ntmps10 k10 q10 (by simp) ?_
  have hs' := hs
  simp only [C.av, AV.cells, List.cons_append, List.nil_append] at hs
  simp only [g10_0, g10_1, g10_2, g10_3, g10_4, r10, o10, hs, eES, eEX, Nat.reduceBEq, Int.reduceLE, Int.reduceLT, Int.reduceToNat, Int.reduceEq, ↓reduceIte, reduceCtorEq, Nat.reducePow, Nat.reduceAdd, Nat.reduceLeDiff, Nat.reduceLT, Nat.reduceSub, Nat.reduceEqDiff]
  refine aops_dfr rfl ?_
  simp only [hs, eES, eEX, Nat.reduceBEq, Int.reduceLE, Int.reduceLT, Int.reduceToNat, Int.reduceEq, ↓reduceIte, reduceCtorEq, Nat.reducePow, Nat.reduceAdd, Nat.reduceLeDiff, Nat.reduceLT, Nat.reduceSub, Nat.reduceEqDiff]
  refine aops_call (c22 c hl) rfl rfl rfl (.inl rfl) ?_
  generalize nxt c = r
  obtain ⟨fd, c', e⟩ := r
  simp only [nxtv, R.av, C.av, hs, eES, eEX, Nat.reduceBEq, Int.reduceLE, Int.reduceLT, Int.reduceToNat, Int.reduceEq, ↓reduceIte, reduceCtorEq, Nat.reducePow, Nat.reduceAdd, Nat.reduceLeDiff, Nat.reduceLT, Nat.reduceSub, Nat.reduceEqDiff]
  refine ⟨.inr trivial, Am.leaves_cons (d21 c' rd c.a s _ _ m rfl rfl ?_) (Am.leaves_nil ?_)⟩
  · simp only [C.av, beq_self_eq_true, eES, eEX, Nat.reduceBEq, Int.reduceLE, Int.reduceLT, Int.reduceToNat, Int.reduceEq, ↓reduceIte, reduceCtorEq, Nat.reducePow, Nat.reduceAdd, Nat.reduceLeDiff, Nat.reduceLT, Nat.reduceSub, Nat.reduceEqDiff]
  · simp only [hs, rev, R.av, C.av, eES, eEX, Nat.reduceBEq, Int.reduceLE, Int.reduceLT, Int.reduceToNat, Int.reduceEq, ↓reduceIte, reduceCtorEq, Nat.reducePow, Nat.reduceAdd, Nat.reduceLeDiff, Nat.reduceLT, Nat.reduceSub, Nat.reduceEqDiff]

def ScanI (s : List UInt8) (l : L) (k : Nat) (st : St) : Prop :=
  ∃ f fr c acc g, st = ⟨f, [fr], []⟩ ∧ k = c.left.toNat ∧ ScanS s l c acc ∧ c.sound = true ∧ c.e = s.length ∧ f 0 = .str s ∧ f 8 = .ptr 0 23 0 ∧ f 9 = .vec 0 9 g 0 acc.length false ∧ fr 23 = .cells (c.av.cells ++ [.int .i64 c.a]) ∧ fr 9 = .vec g 4 (rsv acc) ∧ (fr 10).isRow = false

theorem opn_ok {s : List UInt8} {l : L} (h : (opn s l).2 = 0) : (opn s l).1 = ⟨s, 0, s.length, l.dp, l.nd, l.tx⟩ := by
  unfold opn at h ⊢
  split
  · rename_i h1; rw [if_pos h1] at h; cases h
  · rename_i h1
    rw [if_neg h1] at h
    split
    · rename_i h2; rw [if_pos h2] at h; cases h
    · rfl

theorem c4 (s : List UInt8) (l : L) (hl : s.length ≤ 1000000000000) : Fn1 Tryz.prog 4 [.str s, l.av] (scv (scan s l)) := by
  refine fn1_of_awp (rc := r4) (rs := o4) Tryz.func4 rfl rfl Tryz.ntmps4 k4 q4 (by simp) ?_
  simp only [g4_0, g4_1, g4_2, g4_3, g4_4, g4_5, g4_6, g4_7, g4_8, g4_9, g4_10, g4_11, r4, o4, L.av, eES, eEX, Nat.reduceBEq, Int.reduceLE, Int.reduceLT, Int.reduceToNat, Int.reduceEq, ↓reduceIte, reduceCtorEq, Nat.reducePow, Nat.reduceAdd, Nat.reduceLeDiff, Nat.reduceLT, Nat.reduceSub, Nat.reduceEqDiff]
  refine aops_call (c9 s l) rfl rfl rfl (.inl rfl) ?_
  have hst := scan_start (s := s) (l := l) (by omega)
  have hok := opn_ok (s := s) (l := l)
  have hsc : ¬ (opn s l).2 = 0 → scan s l = ([], (opn s l).2) := fun h => by simp [scan, h]
  generalize opn s l = o at hst hsc hok ⊢
  obtain ⟨c0, e⟩ := o
  simp only [cav, C.av, eES, eEX, Nat.reduceBEq, Int.reduceLE, Int.reduceLT, Int.reduceToNat, Int.reduceEq, ↓reduceIte, reduceCtorEq, Nat.reducePow, Nat.reduceAdd, Nat.reduceLeDiff, Nat.reduceLT, Nat.reduceSub, Nat.reduceEqDiff] at hst hsc hok ⊢
  by_cases he : e = 0
  · subst he
    have hok := hok rfl
    simp only [bne00, eES, eEX, Nat.reduceBEq, Int.reduceLE, Int.reduceLT, Int.reduceToNat, Int.reduceEq, ↓reduceIte, reduceCtorEq, Nat.reducePow, Nat.reduceAdd, Nat.reduceLeDiff, Nat.reduceLT, Nat.reduceSub, Nat.reduceEqDiff]
    refine awp_vec rfl rfl ?_
    simp only [eES, eEX, Nat.reduceBEq, Int.reduceLE, Int.reduceLT, Int.reduceToNat, Int.reduceEq, ↓reduceIte, reduceCtorEq, Nat.reducePow, Nat.reduceAdd, Nat.reduceLeDiff, Nat.reduceLT, Nat.reduceSub, Nat.reduceEqDiff]
    refine awp_loop (ScanI s l) _ ⟨_, _, c0, [], 1, rfl, rfl, hst rfl, ?_, ?_, rfl, rfl, rfl, ?_, rfl, rfl⟩ ?_
    · rw [hok, C.sound_iff]; simp
    · rw [hok]
    · rw [hok] <;> rfl
    rintro n st ⟨f, fr, c, acc, g, rfl, rfl, hS, hsnd, hend, h0, h8, h9, m23, m9, m10⟩
    have hcl : c.d.length ≤ 9223372036854770000 := by rw [hS.len]; omega
    have m23' := m23
    simp only [C.av, AV.cells, List.cons_append, List.nil_append] at m23
    have hleft := c.rest_len
    rw [if_pos hsnd] at hleft
    simp only [l4_0, g4_0, g4_1, g4_2, g4_3, g4_4, g4_5, g4_6, g4_7, g4_8, g4_9, g4_10, g4_11, r4, o4, h0, h8, h9, m23, m9, m10, eES, eEX, Nat.reduceBEq, Int.reduceLE, Int.reduceLT, Int.reduceToNat, Int.reduceEq, ↓reduceIte, reduceCtorEq, Nat.reducePow, Nat.reduceAdd, Nat.reduceLeDiff, Nat.reduceLT, Nat.reduceSub, Nat.reduceEqDiff]
    by_cases hlt : 0 < c.left
    · have d0 : decide (c.a < (s.length : Int)) = true := by simp; omega
      simp only [d0, h0, h8, h9, m23, m9, m10, eES, eEX, Nat.reduceBEq, Int.reduceLE, Int.reduceLT, Int.reduceToNat, Int.reduceEq, ↓reduceIte, reduceCtorEq, Nat.reducePow, Nat.reduceAdd, Nat.reduceLeDiff, Nat.reduceLT, Nat.reduceSub, Nat.reduceEqDiff]
      refine aops_callF (c10 c c.a 23 _ [] ?_ hcl) rfl ?_
      · simp only [m23, C.av, eES, eEX, Nat.reduceBEq, Int.reduceLE, Int.reduceLT, Int.reduceToNat, Int.reduceEq, ↓reduceIte, reduceCtorEq, Nat.reducePow, Nat.reduceAdd, Nat.reduceLeDiff, Nat.reduceLT, Nat.reduceSub, Nat.reduceEqDiff]
      have hstep := hS.step (by omega) hlt
      have herr := hS.err hlt
      have hns := fun h => (nxt_step (c := c) hcl h)
      generalize nxt c = r at hstep herr hns ⊢
      obtain ⟨fd, c', e⟩ := r
      simp only at hstep herr hns
      simp only [rev, R.av, upd_upd, h0, h8, h9, m23, m9, m10, eES, eEX, Nat.reduceBEq, Int.reduceLE, Int.reduceLT, Int.reduceToNat, Int.reduceEq, ↓reduceIte, reduceCtorEq, Nat.reducePow, Nat.reduceAdd, Nat.reduceLeDiff, Nat.reduceLT, Nat.reduceSub, Nat.reduceEqDiff]
      by_cases he : e = 0
      · subst he
        obtain ⟨hS', hlt', hge⟩ := hstep rfl
        obtain ⟨⟨k, hk1, hk2, hk3⟩, _⟩ := hns rfl
        obtain ⟨q1, q2, q3, q4, q5⟩ := (hns rfl).left
        have hacc := hS'.acc
        have hal : (acc ++ [fd]).length = acc.length + 1 := by simp
        rw [hal] at hacc
        have hsn := (C.sound_iff c).1 hsnd
        have ea : c'.a = c.a + k := by rw [hk1]
        have ee : c'.e = c.e := by rw [hk1]
        have hsl := hS.len
        have hw : IntKind.i64.wrap (c.a + IntKind.i64.wrap (c'.a - c.a)) = c'.a := by
          simp only [wi64]; omega
        simp only [bne00, hw, C.av, h0, h8, h9, m23, m9, m10, eES, eEX, Nat.reduceBEq, Int.reduceLE, Int.reduceLT, Int.reduceToNat, Int.reduceEq, ↓reduceIte, reduceCtorEq, Nat.reducePow, Nat.reduceAdd, Nat.reduceLeDiff, Nat.reduceLT, Nat.reduceSub, Nat.reduceEqDiff]
        refine aops_bslA rfl rfl (by decide) rfl rfl ?_
        refine aops_app rfl (by simp only [m9, eES, eEX, Nat.reduceBEq, Int.reduceLE, Int.reduceLT, Int.reduceToNat, Int.reduceEq, ↓reduceIte, reduceCtorEq, Nat.reducePow, Nat.reduceAdd, Nat.reduceLeDiff, Nat.reduceLT, Nat.reduceSub, Nat.reduceEqDiff]) rfl (rsv_len acc).symm rfl rfl (by simp [maxLen]; omega) (by simp; omega) ?_
        simp only [h0, h8, h9, m23, m9, m10, eES, eEX, Nat.reduceBEq, Int.reduceLE, Int.reduceLT, Int.reduceToNat, Int.reduceEq, ↓reduceIte, reduceCtorEq, Nat.reducePow, Nat.reduceAdd, Nat.reduceLeDiff, Nat.reduceLT, Nat.reduceSub, Nat.reduceEqDiff]
        refine ⟨c'.left.toNat, by omega, _, _, c', acc ++ [fd], g + 1, rfl, rfl, hS', q1, by rw [ee, hend], ?_, ?_, ?_, ?_, ?_, ?_⟩
        · simp only [h0, eES, eEX, Nat.reduceBEq, Int.reduceLE, Int.reduceLT, Int.reduceToNat, Int.reduceEq, ↓reduceIte, reduceCtorEq, Nat.reducePow, Nat.reduceAdd, Nat.reduceLeDiff, Nat.reduceLT, Nat.reduceSub, Nat.reduceEqDiff]
        · simp only [h8, eES, eEX, Nat.reduceBEq, Int.reduceLE, Int.reduceLT, Int.reduceToNat, Int.reduceEq, ↓reduceIte, reduceCtorEq, Nat.reducePow, Nat.reduceAdd, Nat.reduceLeDiff, Nat.reduceLT, Nat.reduceSub, Nat.reduceEqDiff]
        · simp only [hal, eES, eEX, Nat.reduceBEq, Int.reduceLE, Int.reduceLT, Int.reduceToNat, Int.reduceEq, ↓reduceIte, reduceCtorEq, Nat.reducePow, Nat.reduceAdd, Nat.reduceLeDiff, Nat.reduceLT, Nat.reduceSub, Nat.reduceEqDiff]
        · simp only [C.av, eES, eEX, Nat.reduceBEq, Int.reduceLE, Int.reduceLT, Int.reduceToNat, Int.reduceEq, ↓reduceIte, reduceCtorEq, Nat.reducePow, Nat.reduceAdd, Nat.reduceLeDiff, Nat.reduceLT, Nat.reduceSub, Nat.reduceEqDiff]
        · simp only [rsv_append, eES, eEX, Nat.reduceBEq, Int.reduceLE, Int.reduceLT, Int.reduceToNat, Int.reduceEq, ↓reduceIte, reduceCtorEq, Nat.reducePow, Nat.reduceAdd, Nat.reduceLeDiff, Nat.reduceLT, Nat.reduceSub, Nat.reduceEqDiff]
          rfl
        · simp only [eES, eEX, Nat.reduceBEq, Int.reduceLE, Int.reduceLT, Int.reduceToNat, Int.reduceEq, ↓reduceIte, reduceCtorEq, Nat.reducePow, Nat.reduceAdd, Nat.reduceLeDiff, Nat.reduceLT, Nat.reduceSub, Nat.reduceEqDiff]
      · rw [herr he]
        simp only [bne0_t he, scv, rsv, C.av, h0, h8, h9, m23, m9, m10, eES, eEX, Nat.reduceBEq, Int.reduceLE, Int.reduceLT, Int.reduceToNat, Int.reduceEq, ↓reduceIte, reduceCtorEq, Nat.reducePow, Nat.reduceAdd, Nat.reduceLeDiff, Nat.reduceLT, Nat.reduceSub, Nat.reduceEqDiff]
    · have d0 : decide (c.a < (s.length : Int)) = false := by
        have := (C.sound_iff c).1 hsnd
        simp; omega
      have hd := hS.done hlt
      have hle : (0 + acc.length ≤ (rsv acc).length) = True := eq_true (by rw [rsv_len]; omega)
      have ht : List.take acc.length (rsv acc) = rsv acc := List.take_of_length_le (by rw [rsv_len]; exact Nat.le_refl _)
      simp only [d0, h0, h8, h9, m23, m9, m10, hd, scv, hle, ht, bne_self_eq_false, eES, eEX, Nat.reduceBEq, Int.reduceLE, Int.reduceLT, Int.reduceToNat, Int.reduceEq, ↓reduceIte, reduceCtorEq, Nat.reducePow, Nat.reduceAdd, Nat.reduceLeDiff, Nat.reduceLT, Nat.reduceSub, Nat.reduceEqDiff]
      rfl
  · rw [hsc he]
    simp only [bne0_t he, scv, rsv, List.map_nil, eES, eEX, Nat.reduceBEq, Int.reduceLE, Int.reduceLT, Int.reduceToNat, Int.reduceEq, ↓reduceIte, reduceCtorEq, Nat.reducePow, Nat.reduceAdd, Nat.reduceLeDiff, Nat.reduceLT, Nat.reduceSub, Nat.reduceEqDiff]

end Go.Proofs.YtofcnjhnjagncaaGreat.Va

/- Stable sorting: insertion, merging, and how a merge falls into two. No program in sight. -/
namespace Go.Proofs.YtofcnjhnjagncaaGreat.So

section
variable {α : Type}

/-- Into a list, before the first element that is not less. -/
def ins (lt : α → α → Bool) (a : α) : List α → List α
  | [] => [a]
  | x :: l => bif lt x a then x :: ins lt a l else a :: x :: l

def isort (lt : α → α → Bool) : List α → List α
  | [] => []
  | a :: l => ins lt a (isort lt l)

def mg (lt : α → α → Bool) : List α → List α → List α
  | [], Y => Y
  | x :: X, [] => x :: X
  | x :: X, y :: Y => bif lt y x then y :: mg lt (x :: X) Y else x :: mg lt X (y :: Y)
termination_by X Y => X.length + Y.length

/-- A strict weak order. -/
structure SW (lt : α → α → Bool) : Prop where
  irr : ∀ x, lt x x = false
  tr : ∀ x y z, lt x y = true → lt y z = true → lt x z = true
  nt : ∀ x y z, lt x y = false → lt y z = false → lt x z = false

variable {lt : α → α → Bool}

theorem SW.as (h : SW lt) {x y : α} (hx : lt x y = true) : lt y x = false := by
  cases hy : lt y x with
  | false => rfl
  | true =>
    have := h.tr x y x hx hy
    rw [h.irr] at this
    cases this

theorem mg_nil (X : List α) : mg lt X [] = X := by cases X <;> simp [mg]
theorem nil_mg (Y : List α) : mg lt [] Y = Y := by simp [mg]
theorem mg_t {x y : α} {X Y : List α} (h : lt y x = true) : mg lt (x :: X) (y :: Y) = y :: mg lt (x :: X) Y := by rw [mg, h]; rfl
theorem mg_f {x y : α} {X Y : List α} (h : lt y x = false) : mg lt (x :: X) (y :: Y) = x :: mg lt X (y :: Y) := by rw [mg, h]; rfl
theorem ins_t {a x : α} {l : List α} (h : lt x a = true) : ins lt a (x :: l) = x :: ins lt a l := by rw [ins, h]; rfl
theorem ins_f {a x : α} {l : List α} (h : lt x a = false) : ins lt a (x :: l) = a :: x :: l := by rw [ins, h]; rfl

theorem mg_one (a : α) : ∀ Y : List α, mg lt [a] Y = ins lt a Y
  | [] => by rw [mg_nil]; rfl
  | y :: Y => by
    cases h : lt y a with
    | true => rw [mg_t h, ins_t h, mg_one a Y]
    | false => rw [mg_f h, ins_f h, nil_mg]

theorem mg_ins (h : SW lt) (a : α) : ∀ (n : Nat) (X Y : List α), X.length + Y.length = n → mg lt (ins lt a X) Y = ins lt a (mg lt X Y) := by
  intro n
  induction n using Nat.strongRecOn with
  | _ n ih =>
  intro X Y hn
  cases X with
  | nil =>
    show mg lt [a] Y = ins lt a (mg lt [] Y)
    rw [nil_mg, mg_one]
  | cons x X =>
    cases Y with
    | nil => rw [mg_nil, mg_nil]
    | cons y Y =>
      simp only [List.length_cons] at hn
      cases hxa : lt x a with
      | false =>
        have hi : ins lt a (x :: X) = a :: x :: X := ins_f hxa
        cases hya : lt y a with
        | true =>
          cases hyx : lt y x with
          | true =>
            have i := ih (n - 1) (by omega) (x :: X) Y (by simp only [List.length_cons]; omega)
            rw [hi] at i ⊢
            rw [mg_t hya, mg_t hyx, ins_t hya, i]
          | false =>
            have := h.nt y x a hyx hxa
            rw [hya] at this; cases this
        | false =>
          rw [hi, mg_f hya]
          cases hyx : lt y x with
          | true => rw [mg_t hyx, ins_f hya]
          | false => rw [mg_f hyx, ins_f hxa]
      | true =>
        have hi : ins lt a (x :: X) = x :: ins lt a X := ins_t hxa
        cases hyx : lt y x with
        | true =>
          have i := ih (n - 1) (by omega) (x :: X) Y (by simp only [List.length_cons]; omega)
          rw [hi] at i ⊢
          rw [mg_t hyx, mg_t hyx, ins_t (h.tr y x a hyx hxa), i]
        | false =>
          have i := ih (n - 1) (by omega) X (y :: Y) (by simp only [List.length_cons]; omega)
          rw [hi, mg_f hyx, mg_f hyx, ins_t hxa, i]

theorem mg_isort (h : SW lt) : ∀ A B : List α, mg lt (isort lt A) (isort lt B) = isort lt (A ++ B)
  | [], B => nil_mg _
  | a :: A, B => by
    show mg lt (ins lt a (isort lt A)) (isort lt B) = ins lt a (isort lt (A ++ B))
    rw [mg_ins h a _ _ _ rfl, mg_isort h A B]

theorem mg_split : ∀ (n : Nat) (X1 Y1 X2 Y2 : List α), X1.length + Y1.length = n → (∀ y ∈ Y1, ∀ x ∈ X2, lt y x = true) → (∀ x ∈ X1, ∀ y ∈ Y2, lt y x = false) →
    mg lt (X1 ++ X2) (Y1 ++ Y2) = mg lt X1 Y1 ++ mg lt X2 Y2 := by
  intro n
  induction n using Nat.strongRecOn with
  | _ n ih =>
  intro X1 Y1 X2 Y2 hn h1 h2
  cases X1 with
  | nil =>
    cases Y1 with
    | nil => rw [nil_mg]; rfl
    | cons y Y1 =>
      cases X2 with
      | nil => simp [nil_mg]
      | cons x X2 =>
        simp only [List.length_cons, List.length_nil] at hn
        have i := ih (n - 1) (by omega) [] Y1 (x :: X2) Y2 (by simp only [List.length_nil]; omega) (fun z hz => h1 z (List.mem_cons_of_mem _ hz)) h2
        simp only [List.nil_append, List.cons_append, nil_mg] at i ⊢
        rw [mg_t (h1 y (by simp) x (by simp)), i]
  | cons x X1 =>
    simp only [List.length_cons] at hn
    cases Y1 with
    | nil =>
      cases Y2 with
      | nil => simp [mg_nil]
      | cons y Y2 =>
        have i := ih (n - 1) (by omega) X1 [] X2 (y :: Y2) (by simp only [List.length_nil] at hn ⊢; omega) h1 (fun z hz => h2 z (List.mem_cons_of_mem _ hz))
        simp only [List.nil_append, List.cons_append, mg_nil] at i ⊢
        rw [mg_f (h2 x (by simp) y (by simp)), i]
    | cons y Y1 =>
      simp only [List.length_cons] at hn
      simp only [List.cons_append]
      cases hyx : lt y x with
      | true =>
        have i := ih (n - 1) (by omega) (x :: X1) Y1 X2 Y2 (by simp only [List.length_cons]; omega) (fun z hz => h1 z (List.mem_cons_of_mem _ hz)) h2
        simp only [List.cons_append] at i
        rw [mg_t hyx, mg_t hyx, i]; rfl
      | false =>
        have i := ih (n - 1) (by omega) X1 (y :: Y1) X2 Y2 (by simp only [List.length_cons]; omega) h1 (fun z hz => h2 z (List.mem_cons_of_mem _ hz))
        simp only [List.cons_append] at i
        rw [mg_f hyx, mg_f hyx, i]; rfl

theorem mg_left {x : α} {Y1 Y2 : List α} (h1 : ∀ y ∈ Y1, lt y x = true) (h2 : ∀ y ∈ Y2, lt y x = false) : mg lt [x] (Y1 ++ Y2) = Y1 ++ x :: Y2 := by
  have a := mg_split (lt := lt) _ [] Y1 [x] Y2 rfl (fun y hy z hz => by rw [List.mem_singleton.1 hz]; exact h1 y hy) (by simp)
  have b := mg_split (lt := lt) _ [x] [] [] Y2 rfl (by simp) (fun z hz y hy => by rw [List.mem_singleton.1 hz]; exact h2 y hy)
  simp only [List.nil_append, List.append_nil, nil_mg, mg_nil] at a b
  rw [a, b]; rfl

theorem mg_right {y : α} {X1 X2 : List α} (h1 : ∀ x ∈ X1, lt y x = false) (h2 : ∀ x ∈ X2, lt y x = true) : mg lt (X1 ++ X2) [y] = X1 ++ y :: X2 := by
  have a := mg_split (lt := lt) _ X1 [y] X2 [] rfl (fun z hz x hx => by rw [List.mem_singleton.1 hz]; exact h2 x hx) (by simp)
  have b := mg_split (lt := lt) _ X1 [] [] [y] rfl (by simp) (fun x hx z hz => by rw [List.mem_singleton.1 hz]; exact h1 x hx)
  simp only [List.nil_append, List.append_nil, nil_mg, mg_nil] at a b
  rw [a, b]; simp

def Srt (lt : α → α → Bool) (l : List α) : Prop := l.Pairwise fun x y => lt y x = false

theorem mem_ins {a z : α} : ∀ {l : List α}, z ∈ ins lt a l → z = a ∨ z ∈ l
  | [], h => .inl (List.mem_singleton.1 h)
  | x :: l, h => by
    cases hx : lt x a with
    | true =>
      rw [ins_t hx] at h
      rcases List.mem_cons.1 h with rfl | h
      · exact .inr List.mem_cons_self
      · rcases mem_ins h with h | h
        · exact .inl h
        · exact .inr (List.mem_cons_of_mem _ h)
    | false =>
      rw [ins_f hx] at h
      rcases List.mem_cons.1 h with rfl | h
      · exact .inl rfl
      · exact .inr h

theorem mem_isort {z : α} : ∀ {l : List α}, z ∈ isort lt l → z ∈ l
  | [], h => h
  | a :: l, h => by
    rcases mem_ins (l := isort lt l) h with rfl | h
    · exact List.mem_cons_self
    · exact List.mem_cons_of_mem _ (mem_isort h)

theorem srt_ins (h : SW lt) (a : α) : ∀ {l : List α}, Srt lt l → Srt lt (ins lt a l)
  | [], _ => List.pairwise_singleton _ _
  | x :: l, hs => by
    obtain ⟨h1, h2⟩ := List.pairwise_cons.1 hs
    cases hx : lt x a with
    | true =>
      rw [ins_t hx]
      refine List.pairwise_cons.2 ⟨fun z hz => ?_, srt_ins h a h2⟩
      rcases mem_ins hz with rfl | hz
      · exact h.as hx
      · exact h1 z hz
    | false =>
      rw [ins_f hx]
      refine List.pairwise_cons.2 ⟨fun z hz => ?_, hs⟩
      rcases List.mem_cons.1 hz with rfl | hz
      · exact hx
      · exact h.nt z x a (h1 z hz) hx

theorem srt_isort (h : SW lt) : ∀ l : List α, Srt lt (isort lt l)
  | [] => List.Pairwise.nil
  | a :: l => srt_ins h a (srt_isort h l)

theorem len_ins (a : α) : ∀ l : List α, (ins lt a l).length = l.length + 1
  | [] => rfl
  | x :: l => by
    cases hx : lt x a with
    | true => rw [ins_t hx, List.length_cons, len_ins a l, List.length_cons]
    | false => rw [ins_f hx]; rfl

theorem len_isort : ∀ l : List α, (isort lt l).length = l.length
  | [] => rfl
  | a :: l => by show (ins lt a (isort lt l)).length = _; rw [len_ins, len_isort l]; rfl

theorem len_mg : ∀ (n : Nat) (X Y : List α), X.length + Y.length = n → (mg lt X Y).length = n := by
  intro n
  induction n using Nat.strongRecOn with
  | _ n ih =>
  intro X Y hn
  cases X with
  | nil => rw [nil_mg]; simpa using hn
  | cons x X =>
    cases Y with
    | nil => rw [mg_nil]; simpa using hn
    | cons y Y =>
      simp only [List.length_cons] at hn
      cases hyx : lt y x with
      | true =>
        rw [mg_t hyx, List.length_cons, ih (n - 1) (by omega) (x :: X) Y (by simp only [List.length_cons]; omega)]; omega
      | false =>
        rw [mg_f hyx, List.length_cons, ih (n - 1) (by omega) X (y :: Y) (by simp only [List.length_cons]; omega)]; omega

theorem mem_mg {z : α} : ∀ (n : Nat) (X Y : List α), X.length + Y.length = n → z ∈ mg lt X Y → z ∈ X ∨ z ∈ Y := by
  intro n
  induction n using Nat.strongRecOn with
  | _ n ih =>
  intro X Y hn hz
  cases X with
  | nil => rw [nil_mg] at hz; exact .inr hz
  | cons x X =>
    cases Y with
    | nil => rw [mg_nil] at hz; exact .inl hz
    | cons y Y =>
      simp only [List.length_cons] at hn
      cases hyx : lt y x with
      | true =>
        rw [mg_t hyx] at hz
        rcases List.mem_cons.1 hz with rfl | hz
        · exact .inr List.mem_cons_self
        · exact (ih (n - 1) (by omega) (x :: X) Y (by simp only [List.length_cons]; omega) hz).imp id (List.mem_cons_of_mem _)
      | false =>
        rw [mg_f hyx] at hz
        rcases List.mem_cons.1 hz with rfl | hz
        · exact .inl List.mem_cons_self
        · exact (ih (n - 1) (by omega) X (y :: Y) (by simp only [List.length_cons]; omega) hz).imp (List.mem_cons_of_mem _) id

/-- In a sorted list what is less than x comes first. -/
theorem srt_mono (h : SW lt) {l : List α} (hs : Srt lt l) {i j : Nat} {u v x : α} (hij : i ≤ j) (hi : l[i]? = some u) (hj : l[j]? = some v) (hv : lt v x = true) : lt u x = true := by
  rcases Nat.lt_or_eq_of_le hij with hlt | rfl
  · obtain ⟨h1, rfl⟩ := List.getElem?_eq_some_iff.1 hi
    obtain ⟨h2, rfl⟩ := List.getElem?_eq_some_iff.1 hj
    have := List.pairwise_iff_getElem.1 hs i j h1 h2 hlt
    cases hu : lt l[i] x with
    | true => rfl
    | false =>
      have := h.nt _ _ _ this hu
      rw [hv] at this; cases this
  · rw [hi] at hj; cases hj; exact hv

theorem srt_le {l : List α} (hs : Srt lt l) (h : SW lt) {i j : Nat} {u v : α} (hij : i ≤ j) (hi : l[i]? = some u) (hj : l[j]? = some v) : lt v u = false := by
  rcases Nat.lt_or_eq_of_le hij with hlt | rfl
  · obtain ⟨h1, rfl⟩ := List.getElem?_eq_some_iff.1 hi
    obtain ⟨h2, rfl⟩ := List.getElem?_eq_some_iff.1 hj
    exact List.pairwise_iff_getElem.1 hs i j h1 h2 hlt
  · rw [hi] at hj; cases hj; exact h.irr _

/-- Sorted block by block. -/
def blk (lt : α → α → Bool) (s : Nat) : Nat → List α → List α
  | 0, _ => []
  | n + 1, l => isort lt (l.take s) ++ blk lt s n (l.drop s)

theorem blk_nil (s : Nat) : ∀ k, blk lt s k [] = []
  | 0 => rfl
  | k + 1 => by rw [blk, List.take_nil, List.drop_nil, blk_nil s k]; rfl

theorem len_blk (s : Nat) : ∀ (k : Nat) (l : List α), (blk lt s k l).length = min (s * k) l.length
  | 0, l => by simp [blk]
  | k + 1, l => by
    rw [blk, List.length_append, len_isort, len_blk s k, List.length_take, List.length_drop, Nat.mul_succ]
    omega

theorem mem_blk {s : Nat} {z : α} : ∀ {k : Nat} {l : List α}, z ∈ blk lt s k l → z ∈ l
  | 0, l, h => by cases h
  | k + 1, l, h => by
    rw [blk] at h
    rcases List.mem_append.1 h with h | h
    · exact List.mem_of_mem_take (mem_isort h)
    · exact List.mem_of_mem_drop (mem_blk h)

theorem blk_snoc (s : Nat) : ∀ (k : Nat) (l : List α), blk lt s (k + 1) l = blk lt s k l ++ isort lt ((l.drop (s * k)).take s)
  | 0, l => by simp [blk]
  | k + 1, l => by
    rw [blk, blk_snoc s k (l.drop s), blk, List.append_assoc, List.drop_drop, Nat.mul_succ, Nat.add_comm s (s * k)]

theorem blk_big {s k : Nat} {l : List α} (h : l.length ≤ s) (hk : l.length ≤ s * k) : blk lt s k l = isort lt l := by
  cases k with
  | zero =>
    have : l = [] := List.eq_nil_of_length_eq_zero (by omega)
    subst this; rfl
  | succ k => rw [blk, List.take_of_length_le h, List.drop_of_length_le h, blk_nil, List.append_nil]

theorem take_two (s : Nat) (l : List α) : l.take s ++ (l.drop s).take s = l.take (2 * s) := by
  rw [show 2 * s = s + s by omega, List.take_add]

end

end Go.Proofs.YtofcnjhnjagncaaGreat.So

/- Rows that are sorted in place: loads and stores of elements; swapping. -/
namespace Go.Proofs.YtofcnjhnjagncaaGreat.Am
open Go Bt

/-- An element of so many cells. -/
def Ez (E : AV → Prop) (sz : Nat) (x : AV) : Prop := E x ∧ ∃ l, x = .agg l ∧ l.length = sz ∧ AV.rfL l = true ∧ l.all AV.leaf = true ∧ ∀ m, AV.stillL false m l = some l

variable {E : AV → Prop}

theorem Ez.part {sz : Nat} {x : AV} (h : Ez E sz x) : Am.part x.cells 0 (some sz) = some x := by
  obtain ⟨_, l, rfl, rfl, _, _, _⟩ := h
  simp [Am.part, AV.cells]
theorem Ez.len {sz : Nat} {x : AV} (h : Ez E sz x) : x.cells.length = sz := by
  obtain ⟨_, l, rfl, rfl, _, _, _⟩ := h; rfl
theorem Ez.leaf {sz : Nat} {x : AV} (h : Ez E sz x) : x.cells.all AV.leaf = true := by
  obtain ⟨_, l, rfl, _, _, h, _⟩ := h; exact h
theorem Ez.rf {sz : Nat} {x : AV} (h : Ez E sz x) : x.rf = true := by
  obtain ⟨_, l, rfl, _, h, _, _⟩ := h; exact h

theorem Ez.still {sz : Nat} {x : AV} (h : Ez E sz x) (m : Mem) : x.still false m = some x := by
  obtain ⟨_, l, rfl, _, _, _, h⟩ := h
  simp only [AV.still, h m, Option.map_some]
theorem still_two {sz : Nat} {x y : AV} (h : Ez E sz x) (k : Ez E sz y) (m : Mem) : AV.stillL false m [x, y] = some [x, y] := by
  simp only [AV.stillL, h.still, k.still]
theorem rf_two {sz : Nat} {x y : AV} (h : Ez E sz x) (k : Ez E sz y) : AV.rfL [x, y] = true := by
  simp only [AV.rfL, h.rf, k.rf, Bool.and_self]

/-- A call of a function value that is handed no object of ours. -/
theorem aops_callP {P : Program} {f : Fr} {m : Mem} {ds : List DF} {its : List Item} {d : Nat} {K : St → Prop} {k : Nat} {r : RA} {args : List RA} {ys : List AV} {v : AV} (hr : r.ev f = .fn (.func k) [] []) (hk : Fn1 P k ys v) (hy : AV.stillL false m (args.map (RA.ev f)) = some ys) (h1 : AV.rfL ys = true) (h2 : v.rf = true) (h3 : AV.rfL (args.map (RA.ev f)) = true ∨ v.nl = true) (h : aops P its ⟨upd f d v, m, ds⟩ K) :
    aops P (⟨some d, .call r args, none⟩ :: its) ⟨f, m, ds⟩ K := by
  refine ⟨k, [], [], ys, v, hr, ?_, h1, hk, h2, ?_, h⟩
  · simpa using hy
  · simpa using h3

theorem awp_vecR {P : Program} {f : Fr} {m : Mem} {ds : List DF} {Q : Exit → St → Prop} {slot site sz : Nat} {a : RC} {fr : Nat → Ob} (h1 : f slot = .nils) (h2 : rowOrNone (fr site) = true) (h : awp P a ⟨upd f slot (.vec 0 site (ngen (fr site)) 0 0 false), upd fr site (.vec (ngen (fr site)) sz []) :: m, ds⟩ Q) : awp P (.gho (.vec slot site sz) a) ⟨f, fr :: m, ds⟩ Q := by
  refine ⟨_, ?_, h⟩
  have e : rowOrNone (look (fr :: m) 0 site) = true := h2
  simp only [gstep, h1, e, newGen_fr, cond_true, Am.put]

theorem put_put : ∀ {m : Mem} {l s : Nat} {o o' : Ob}, Am.put (Am.put m l s o) l s o' = Am.put m l s o'
  | [], _, _, _, _ => rfl
  | fr :: m, 0, s, o, o' => by simp only [Am.put, upd_upd']
  | fr :: m, l + 1, s, o, o' => by simp only [Am.put, put_put (m := m)]
where
  upd_upd' {f : Nat → Ob} {d : Nat} {x y : Ob} : upd (upd f d x) d y = upd f d y := by
    funext i
    simp only [upd]
    cases Nat.beq i d <;> rfl

theorem put_self : ∀ {m : Mem} {l s : Nat} {o : Ob}, look m l s = o → Am.put m l s o = m
  | [], _, _, _, _ => rfl
  | fr :: m, 0, s, o, h => by
    simp only [Am.put]
    congr 1
    funext i
    simp only [upd]
    cases hb : Nat.beq i s with
    | false => rfl
    | true => rw [Nat.eq_of_beq_eq_true hb]; exact h.symm
  | fr :: m, l + 1, s, o, h => by simp only [Am.put, put_self (m := m) h]

section
variable {m : Mem} {fr : Nat → Ob} {lv s g sz n i : Nat} {cur : List AV} {x y : AV}

theorem ldr (hlv : lv < m.length) (hx : cur[i]? = some x) (he : Ez E sz x) : aload (fr :: Am.put m lv s (.vec g sz cur)) (some sz) (.vptr (lv + 1) s g i 0) = some x := by
  have e : look (fr :: Am.put m lv s (.vec g sz cur)) (lv + 1) s = .vec g sz cur := look_put_same hlv
  simp only [aload, e, if_true, hx, he.part]

theorem str1 (hlv : lv < m.length) (hx : cur[i]? = some x) (he : Ez E sz x) (hy : Ez E sz y) (h0 : sz ≠ 0) : astore (fr :: Am.put m lv s (.vec g sz cur)) (.vptr (lv + 1) s g i 0) y.cells = some (fr :: Am.put m lv s (.vec g sz (cur.set i y))) := by
  have e : look (fr :: Am.put m lv s (.vec g sz cur)) (lv + 1) s = .vec g sz cur := look_put_same hlv
  obtain ⟨_, l, rfl, hl, _, _, _⟩ := he
  obtain ⟨_, k, rfl, hk, hf, _, _⟩ := hy
  have hc : 0 + (AV.agg k).cells.length ≤ (AV.agg l).cells.length ∧ (AV.agg k).cells.length ≠ 0 ∧ AV.rfL (AV.agg k).cells = true := by
    simp only [AV.cells]; exact ⟨by omega, by omega, hf⟩
  simp only [astore, e, if_true, hx, if_pos hc]
  have hs : splice l 0 k = k := by
    simp only [splice, List.take_zero, List.nil_append, Nat.zero_add]
    rw [List.drop_of_length_le (by omega), List.append_nil]
  simp only [newElem, AV.cells, hs, Am.put, put_put]

theorem iad (hlv : lv < m.length) (hi : i < n) : aiaddr (fr :: Am.put m lv s (.vec g sz cur)) sz none (.vec (lv + 1) s g 0 n false) ((i : Nat) : Int) = some (.vptr (lv + 1) s g i 0) := by
  have e : look (fr :: Am.put m lv s (.vec g sz cur)) (lv + 1) s = .vec g sz cur := look_put_same hlv
  simp only [aiaddr, e, Int.toNat_natCast]
  rw [if_pos (by omega), if_pos ⟨trivial, trivial, hi⟩, Nat.zero_add]

end

theorem put_len : ∀ {m : Mem} {l s : Nat} {o : Ob}, (Am.put m l s o).length = m.length
  | [], _, _, _ => rfl
  | _ :: _, 0, _, _ => rfl
  | fr :: m, l + 1, s, o => by simp only [Am.put, List.length_cons, put_len (m := m)]

theorem wn (n : Nat) (h : n < 9223372036854775808) : IntKind.i64.wrap ((n : Nat) : Int) = ((n : Nat) : Int) := by
  rw [wi64]; omega

end Go.Proofs.YtofcnjhnjagncaaGreat.Am

/- A row that is sorted: two ranges of it swapped. -/
set_option linter.unusedSimpArgs false
namespace Go.Proofs.YtofcnjhnjagncaaGreat.Ta
open Go Am Rc Bt

variable {E : AV → Prop}

/-- After i rounds of swapping. -/
def SwI (X cur : List AV) (p q i : Nat) : Prop :=
  cur.length = X.length ∧ ∀ j, cur[j]? = if p ≤ j ∧ j < p + i then X[q + (j - p)]? else if q ≤ j ∧ j < q + i then X[p + (j - q)]? else X[j]?

theorem SwI.step {X cur : List AV} {p q i n : Nat} (h : SwI X cur p q i) (hi : i < n) (hpq : p + n ≤ q) (hq : q + n ≤ X.length) {x y : AV} (hx : X[q + i]? = some x) (hy : X[p + i]? = some y) :
    SwI X ((cur.set (p + i) x).set (q + i) y) p q (i + 1) := by
  obtain ⟨h1, h2⟩ := h
  refine ⟨by simp [h1], fun j => ?_⟩
  rw [List.getElem?_set, List.length_set, h1, List.getElem?_set, h1, h2 j]
  by_cases a : q + i = j
  · subst a
    rw [if_pos rfl, if_pos (by omega), if_neg (by omega), if_pos (by omega), show p + (q + i - q) = p + i by omega, hy]
  · rw [if_neg a]
    by_cases b : p + i = j
    · subst b
      rw [if_pos rfl, if_pos (by omega), if_pos (by omega), show q + (p + i - p) = q + i by omega, hx]
    · rw [if_neg b]
      repeat' split
      all_goals first | rfl | (exfalso; omega) | (congr 1; omega)

theorem SwI.done {P A M B S cur : List AV} (h : SwI (P ++ A ++ M ++ B ++ S) cur P.length (P.length + A.length + M.length) A.length) (hAB : A.length = B.length) : cur = P ++ B ++ M ++ A ++ S := by
  apply List.ext_getElem?
  intro j
  rw [h.2 j]
  simp only [List.getElem?_append, List.length_append]
  repeat' split
  all_goals first | rfl | (exfalso; omega) | (congr 1; omega)

def SwS (m : Mem) (lv s g N p q n : Nat) (X : List AV) (k : Nat) (st : St) : Prop :=
  ∃ f i cur, st = ⟨f, [noObs] ++ Am.put m lv s (.vec g 4 cur), []⟩ ∧ k = n - i ∧ i ≤ n ∧ SwI X cur p q i ∧
    f 0 = .vec (lv + 1) s g 0 N false ∧ f 1 = .int .i64 (p : Nat) ∧ f 2 = .int .i64 (q : Nat) ∧ f 3 = .int .i64 (n : Nat) ∧ f 10 = .int .i64 (i : Nat)

theorem c103 (cmp : AV) (lv s g : Nat) (P A M B S : List AV) (m : Mem) (hl : Am.look m lv s = .vec g 4 (P ++ A ++ M ++ B ++ S)) (hAB : A.length = B.length) (he : ∀ x ∈ P ++ A ++ M ++ B ++ S, Ez E 4 x)
    (hn : (P ++ A ++ M ++ B ++ S).length < 4611686018427387904) :
    ACalls Tryz.prog 103 [.vec lv s g 0 (P ++ A ++ M ++ B ++ S).length false, .int .i64 (P.length : Nat), .int .i64 ((P.length + A.length + M.length : Nat) : Int), .int .i64 (A.length : Nat), cmp] m
      (fun x m1 => x = .tup [] ∧ m1 = Am.put m lv s (.vec g 4 (P ++ B ++ M ++ A ++ S))) := by
  have hlv : lv < m.length := look_lt (by rw [hl]; simp)
  have hlen : (P ++ A ++ M ++ B ++ S).length = P.length + A.length + M.length + B.length + S.length := by simp only [List.length_append]
  refine acalls_of_awp (rc := r103) (rs := o103) Tryz.func103 rfl rfl Tryz.ntmps103 k103 q103 (by simp) ?_
  simp only [g103_0, g103_1, g103_3, g103_2, r103, o103, eES, Nat.reduceBEq, Int.reduceLE, Int.reduceLT, Int.reduceToNat, Int.reduceEq, ↓reduceIte, reduceCtorEq, Nat.reducePow, Nat.reduceAdd, Nat.reduceLeDiff, Nat.reduceLT, Nat.reduceSub, Nat.reduceEqDiff]
  have h0 : m = Am.put m lv s (.vec g 4 (P ++ A ++ M ++ B ++ S)) := (put_self hl).symm
  generalize hX : P ++ A ++ M ++ B ++ S = X at *
  generalize hp : P.length = p at *
  generalize hq : p + A.length + M.length = q at *
  generalize hnn : A.length = n at *
  refine awp_loop (SwS m lv s g X.length p q n X) _ ⟨_, 0, X, by rw [← h0] <;> rfl, rfl, Nat.zero_le _, ⟨rfl, fun j => ?_⟩, by simp only [eES, Nat.reduceBEq, Int.reduceLE, Int.reduceLT, Int.reduceToNat, Int.reduceEq, ↓reduceIte, reduceCtorEq, Nat.reducePow, Nat.reduceAdd, Nat.reduceLeDiff, Nat.reduceLT, Nat.reduceSub, Nat.reduceEqDiff], by simp only [eES, Nat.reduceBEq, Int.reduceLE, Int.reduceLT, Int.reduceToNat, Int.reduceEq, ↓reduceIte, reduceCtorEq, Nat.reducePow, Nat.reduceAdd, Nat.reduceLeDiff, Nat.reduceLT, Nat.reduceSub, Nat.reduceEqDiff], by simp only [eES, Nat.reduceBEq, Int.reduceLE, Int.reduceLT, Int.reduceToNat, Int.reduceEq, ↓reduceIte, reduceCtorEq, Nat.reducePow, Nat.reduceAdd, Nat.reduceLeDiff, Nat.reduceLT, Nat.reduceSub, Nat.reduceEqDiff], by simp only [eES, Nat.reduceBEq, Int.reduceLE, Int.reduceLT, Int.reduceToNat, Int.reduceEq, ↓reduceIte, reduceCtorEq, Nat.reducePow, Nat.reduceAdd, Nat.reduceLeDiff, Nat.reduceLT, Nat.reduceSub, Nat.reduceEqDiff], by simp only [eES, Nat.reduceBEq, Int.reduceLE, Int.reduceLT, Int.reduceToNat, Int.reduceEq, ↓reduceIte, reduceCtorEq, Nat.reducePow, Nat.reduceAdd, Nat.reduceLeDiff, Nat.reduceLT, Nat.reduceSub, Nat.reduceEqDiff] <;> rfl⟩ ?_
  · rw [if_neg (by omega), if_neg (by omega)]
  rintro k st ⟨f, i, cur, rfl, rfl, hi, hsw, f0, f1, f2, f3, f10⟩
  simp only [l103_0, g103_0, g103_1, g103_3, g103_2, r103, o103, f0, f1, f2, f3, f10, List.singleton_append, eES, Nat.reduceBEq, Int.reduceLE, Int.reduceLT, Int.reduceToNat, Int.reduceEq, ↓reduceIte, reduceCtorEq, Nat.reducePow, Nat.reduceAdd, Nat.reduceLeDiff, Nat.reduceLT, Nat.reduceSub, Nat.reduceEqDiff]
  by_cases hlt : i < n
  · have d0 : decide ((i : Int) < (n : Int)) = true := by simp; omega
    have e1 : IntKind.i64.wrap ((p : Int) + (i : Int)) = ((p + i : Nat) : Int) := by rw [wi64]; omega
    have e2 : IntKind.i64.wrap ((q : Int) + (i : Int)) = ((q + i : Nat) : Int) := by rw [wi64]; omega
    have e3 : IntKind.i64.wrap ((i : Int) + 1) = ((i + 1 : Nat) : Int) := by rw [wi64]; omega
    obtain ⟨x, hx⟩ : ∃ x, X[q + i]? = some x := ⟨_, List.getElem?_eq_getElem (by omega)⟩
    obtain ⟨y, hy⟩ : ∃ y, X[p + i]? = some y := ⟨_, List.getElem?_eq_getElem (by omega)⟩
    have ex := he x (List.mem_of_getElem? hx)
    have ey := he y (List.mem_of_getElem? hy)
    have cx : cur[q + i]? = some x := by rw [hsw.2, if_neg (by omega), if_neg (by omega), hx]
    have cy : cur[p + i]? = some y := by rw [hsw.2, if_neg (by omega), if_neg (by omega), hy]
    have cx' : (cur.set (p + i) x)[q + i]? = some x := by rw [List.getElem?_set_ne (by omega), cx]
    simp only [d0, e1, e2, e3, f0, f1, f2, f3, f10, iad hlv (show q + i < X.length by omega), iad hlv (show p + i < X.length by omega), ldr hlv cx ex, ldr hlv cy ey, ex.len, ey.len, ex.leaf, ey.leaf, str1 hlv cy ey ex (by decide), str1 hlv cx' ex ey (by decide), eES, Nat.reduceBEq, Int.reduceLE, Int.reduceLT, Int.reduceToNat, Int.reduceEq, ↓reduceIte, reduceCtorEq, Nat.reducePow, Nat.reduceAdd, Nat.reduceLeDiff, Nat.reduceLT, Nat.reduceSub, Nat.reduceEqDiff]
    exact ⟨n - (i + 1), by omega, _, i + 1, _, rfl, rfl, by omega, hsw.step hlt (by omega) (by omega) hx hy, by simp only [f0, eES, Nat.reduceBEq, Int.reduceLE, Int.reduceLT, Int.reduceToNat, Int.reduceEq, ↓reduceIte, reduceCtorEq, Nat.reducePow, Nat.reduceAdd, Nat.reduceLeDiff, Nat.reduceLT, Nat.reduceSub, Nat.reduceEqDiff], by simp only [f1, eES, Nat.reduceBEq, Int.reduceLE, Int.reduceLT, Int.reduceToNat, Int.reduceEq, ↓reduceIte, reduceCtorEq, Nat.reducePow, Nat.reduceAdd, Nat.reduceLeDiff, Nat.reduceLT, Nat.reduceSub, Nat.reduceEqDiff], by simp only [f2, eES, Nat.reduceBEq, Int.reduceLE, Int.reduceLT, Int.reduceToNat, Int.reduceEq, ↓reduceIte, reduceCtorEq, Nat.reducePow, Nat.reduceAdd, Nat.reduceLeDiff, Nat.reduceLT, Nat.reduceSub, Nat.reduceEqDiff], by simp only [f3, eES, Nat.reduceBEq, Int.reduceLE, Int.reduceLT, Int.reduceToNat, Int.reduceEq, ↓reduceIte, reduceCtorEq, Nat.reducePow, Nat.reduceAdd, Nat.reduceLeDiff, Nat.reduceLT, Nat.reduceSub, Nat.reduceEqDiff], by simp only [eES, Nat.reduceBEq, Int.reduceLE, Int.reduceLT, Int.reduceToNat, Int.reduceEq, ↓reduceIte, reduceCtorEq, Nat.reducePow, Nat.reduceAdd, Nat.reduceLeDiff, Nat.reduceLT, Nat.reduceSub, Nat.reduceEqDiff]⟩
  · have d0 : decide ((i : Int) < (n : Int)) = false := by simp; omega
    have hin : i = n := by omega
    subst hin
    have hc := SwI.done (P := P) (A := A) (M := M) (B := B) (S := S) (cur := cur) (by rw [hX, hp, hnn, hq]; exact hsw) (by omega)
    simp only [d0, f0, f1, f2, f3, f10, hc, put_len, eES, Nat.reduceBEq, Int.reduceLE, Int.reduceLT, Int.reduceToNat, Int.reduceEq, ↓reduceIte, reduceCtorEq, Nat.reducePow, Nat.reduceAdd, Nat.reduceLeDiff, Nat.reduceLT, Nat.reduceSub, Nat.reduceEqDiff]

/-- .. as a callee's frame sees it. -/
theorem sw_call (cmp : AV) {fr : Nat → Ob} {lv s g N a b n : Nat} (P A M B S : List AV) {m : Mem} (hlv : lv < m.length) (hAB : A.length = B.length) (he : ∀ x ∈ P ++ A ++ M ++ B ++ S, Ez E 4 x)
    (hn : (P ++ A ++ M ++ B ++ S).length < 4611686018427387904) (hN : N = (P ++ A ++ M ++ B ++ S).length) (ha : a = P.length) (hb : b = P.length + A.length + M.length) (hc : n = A.length) :
    ACalls Tryz.prog 103 [.vec (lv + 1) s g 0 N false, .int .i64 (a : Nat), .int .i64 (b : Nat), .int .i64 (n : Nat), cmp] (fr :: Am.put m lv s (.vec g 4 (P ++ A ++ M ++ B ++ S)))
      (fun x m1 => x = .tup [] ∧ m1 = fr :: Am.put m lv s (.vec g 4 (P ++ B ++ M ++ A ++ S))) := by
  subst hN ha hb hc
  refine (c103 cmp (lv + 1) s g P A M B S (fr :: Am.put m lv s (.vec g 4 (P ++ A ++ M ++ B ++ S))) (look_put_same (m := m) hlv) hAB he hn).mono fun x m1 h => ⟨h.1, ?_⟩
  rw [h.2]
  simp only [Am.put, put_put]

def RoS (E : AV → Prop) (m : Mem) (lv s g N mid : Nat) (T : List AV) (cmp : AV) (k : Nat) (st : St) : Prop :=
  ∃ f P A B S, st = ⟨f, [noObs] ++ Am.put m lv s (.vec g 4 (P ++ A ++ B ++ S)), []⟩ ∧ k = A.length + B.length ∧ 0 < A.length ∧ 0 < B.length ∧ P.length + A.length = mid ∧ P ++ B ++ A ++ S = T ∧ (P ++ A ++ B ++ S).length = N ∧ (∀ x ∈ P ++ A ++ B ++ S, Ez E 4 x) ∧
    f 0 = .vec (lv + 1) s g 0 N false ∧ f 2 = .int .i64 (mid : Nat) ∧ f 4 = cmp ∧ f 10 = .int .i64 (A.length : Nat) ∧ f 11 = .int .i64 (B.length : Nat)

theorem c75 (cmp : AV) (lv s g : Nat) (P X Y S : List AV) (m : Mem) (hl : Am.look m lv s = .vec g 4 (P ++ X ++ Y ++ S)) (hX : 0 < X.length) (hY : 0 < Y.length) (he : ∀ x ∈ P ++ X ++ Y ++ S, Ez E 4 x)
    (hn : (P ++ X ++ Y ++ S).length < 4611686018427387904) :
    ACalls Tryz.prog 75 [.vec lv s g 0 (P ++ X ++ Y ++ S).length false, .int .i64 (P.length : Nat), .int .i64 ((P.length + X.length : Nat) : Int), .int .i64 ((P.length + X.length + Y.length : Nat) : Int), cmp] m
      (fun x m1 => x = .tup [] ∧ m1 = Am.put m lv s (.vec g 4 (P ++ Y ++ X ++ S))) := by
  have hlv : lv < m.length := look_lt (by rw [hl]; simp)
  have hlen : (P ++ X ++ Y ++ S).length = P.length + X.length + Y.length + S.length := by simp only [List.length_append]
  refine acalls_of_awp (rc := r75) (rs := o75) Tryz.func75 rfl rfl Tryz.ntmps75 k75 q75 (by simp) ?_
  have e1 : IntKind.i64.wrap (((P.length + X.length : Nat) : Int) - (P.length : Int)) = ((X.length : Nat) : Int) := by rw [wi64]; omega
  have e2 : IntKind.i64.wrap (((P.length + X.length + Y.length : Nat) : Int) - ((P.length + X.length : Nat) : Int)) = ((Y.length : Nat) : Int) := by rw [wi64]; omega
  simp only [g75_0, g75_1, g75_2, g75_3, g75_4, g75_5, g75_6, g75_7, g75_8, r75, o75, e1, e2, eES, Nat.reduceBEq, Int.reduceLE, Int.reduceLT, Int.reduceToNat, Int.reduceEq, ↓reduceIte, reduceCtorEq, Nat.reducePow, Nat.reduceAdd, Nat.reduceLeDiff, Nat.reduceLT, Nat.reduceSub, Nat.reduceEqDiff]
  have h0 : m = Am.put m lv s (.vec g 4 (P ++ X ++ Y ++ S)) := (put_self hl).symm
  refine awp_loop (RoS E m lv s g (P ++ X ++ Y ++ S).length (P.length + X.length) (P ++ Y ++ X ++ S) cmp.sh) _ ⟨_, P, X, Y, S, by rw [← h0] <;> rfl, rfl, hX, hY, rfl, rfl, rfl, he, by simp only [eES, Nat.reduceBEq, Int.reduceLE, Int.reduceLT, Int.reduceToNat, Int.reduceEq, ↓reduceIte, reduceCtorEq, Nat.reducePow, Nat.reduceAdd, Nat.reduceLeDiff, Nat.reduceLT, Nat.reduceSub, Nat.reduceEqDiff], by simp only [eES, Nat.reduceBEq, Int.reduceLE, Int.reduceLT, Int.reduceToNat, Int.reduceEq, ↓reduceIte, reduceCtorEq, Nat.reducePow, Nat.reduceAdd, Nat.reduceLeDiff, Nat.reduceLT, Nat.reduceSub, Nat.reduceEqDiff], by simp only [eES, Nat.reduceBEq, Int.reduceLE, Int.reduceLT, Int.reduceToNat, Int.reduceEq, ↓reduceIte, reduceCtorEq, Nat.reducePow, Nat.reduceAdd, Nat.reduceLeDiff, Nat.reduceLT, Nat.reduceSub, Nat.reduceEqDiff], by simp only [eES, Nat.reduceBEq, Int.reduceLE, Int.reduceLT, Int.reduceToNat, Int.reduceEq, ↓reduceIte, reduceCtorEq, Nat.reducePow, Nat.reduceAdd, Nat.reduceLeDiff, Nat.reduceLT, Nat.reduceSub, Nat.reduceEqDiff], by simp only [eES, Nat.reduceBEq, Int.reduceLE, Int.reduceLT, Int.reduceToNat, Int.reduceEq, ↓reduceIte, reduceCtorEq, Nat.reducePow, Nat.reduceAdd, Nat.reduceLeDiff, Nat.reduceLT, Nat.reduceSub, Nat.reduceEqDiff]⟩ ?_
  generalize hT : P ++ Y ++ X ++ S = T
  generalize hN : (P ++ X ++ Y ++ S).length = N at *
  generalize hmid : P.length + X.length = mid at *
  clear hl he h0 hX hY e1 e2
  rintro k st ⟨f, P', A, B, S', rfl, rfl, hA, hB, hm, hTT, hNN, hee, f0, f2, f4, f10, f11⟩
  have hlen' : (P' ++ A ++ B ++ S').length = P'.length + A.length + B.length + S'.length := by simp only [List.length_append]
  simp only [l75_0, g75_0, g75_1, g75_2, g75_3, g75_4, g75_5, g75_6, g75_7, g75_8, r75, o75, f0, f2, f4, f10, f11, List.singleton_append, bne_iff_ne, eES, Nat.reduceBEq, Int.reduceLE, Int.reduceLT, Int.reduceToNat, Int.reduceEq, ↓reduceIte, reduceCtorEq, Nat.reducePow, Nat.reduceAdd, Nat.reduceLeDiff, Nat.reduceLT, Nat.reduceSub, Nat.reduceEqDiff]
  by_cases hij : A.length = B.length
  · have d0 : ((A.length : Int) != (B.length : Int)) = false := by simp; omega
    have e1 : IntKind.i64.wrap ((mid : Int) - (A.length : Int)) = ((P'.length : Nat) : Int) := by rw [wi64]; omega
    simp only [d0, e1, f0, f2, f4, f10, f11, eES, Nat.reduceBEq, Int.reduceLE, Int.reduceLT, Int.reduceToNat, Int.reduceEq, ↓reduceIte, reduceCtorEq, Nat.reducePow, Nat.reduceAdd, Nat.reduceLeDiff, Nat.reduceLT, Nat.reduceSub, Nat.reduceEqDiff]
    have hc := sw_call cmp.sh (fr := noObs) (g := g) (s := s) (N := N) (a := P'.length) (b := mid) (n := A.length) P' A [] B S' hlv hij (by simpa using hee) (by simp only [List.append_nil]; omega) (by simp only [List.append_nil]; omega) rfl (by simp only [List.length_nil]; omega) rfl
    simp only [List.append_nil] at hc
    refine aops_callF hc rfl ?_
    simp only [hTT, put_len, eES, Nat.reduceBEq, Int.reduceLE, Int.reduceLT, Int.reduceToNat, Int.reduceEq, ↓reduceIte, reduceCtorEq, Nat.reducePow, Nat.reduceAdd, Nat.reduceLeDiff, Nat.reduceLT, Nat.reduceSub, Nat.reduceEqDiff]
  · have d0 : ((A.length : Int) != (B.length : Int)) = true := by simp; omega
    simp only [d0, f0, f2, f4, f10, f11, eES, Nat.reduceBEq, Int.reduceLE, Int.reduceLT, Int.reduceToNat, Int.reduceEq, ↓reduceIte, reduceCtorEq, Nat.reducePow, Nat.reduceAdd, Nat.reduceLeDiff, Nat.reduceLT, Nat.reduceSub, Nat.reduceEqDiff]
    by_cases hgt : B.length < A.length
    · have d1 : decide ((A.length : Int) > (B.length : Int)) = true := by simp; omega
      have e1 : IntKind.i64.wrap ((mid : Int) - (A.length : Int)) = ((P'.length : Nat) : Int) := by rw [wi64]; omega
      have e2 : IntKind.i64.wrap ((A.length : Int) - (B.length : Int)) = ((A.length - B.length : Nat) : Int) := by rw [wi64]; omega
      simp only [d1, e1, f0, f2, f4, f10, f11, eES, Nat.reduceBEq, Int.reduceLE, Int.reduceLT, Int.reduceToNat, Int.reduceEq, ↓reduceIte, reduceCtorEq, Nat.reducePow, Nat.reduceAdd, Nat.reduceLeDiff, Nat.reduceLT, Nat.reduceSub, Nat.reduceEqDiff]
      have hcut : P' ++ A ++ B ++ S' = P' ++ A.take B.length ++ A.drop B.length ++ B ++ S' := by
        rw [List.append_assoc P' (A.take _), List.take_append_drop]
      have hl1 : (A.take B.length).length = B.length := by simp; omega
      rw [hcut] at hee hNN ⊢
      refine aops_callF (sw_call cmp.sh (a := P'.length) (b := mid) (n := B.length) P' (A.take B.length) (A.drop B.length) B S' hlv hl1 hee (by omega) hNN.symm rfl (by rw [hl1]; simp; omega) hl1.symm) rfl ?_
      simp only [e2, f0, f2, f4, f10, f11, eES, Nat.reduceBEq, Int.reduceLE, Int.reduceLT, Int.reduceToNat, Int.reduceEq, ↓reduceIte, reduceCtorEq, Nat.reducePow, Nat.reduceAdd, Nat.reduceLeDiff, Nat.reduceLT, Nat.reduceSub, Nat.reduceEqDiff]
      have hcat : P' ++ B ++ A.drop B.length ++ A.take B.length ++ S' = (P' ++ B) ++ A.drop B.length ++ A.take B.length ++ S' := rfl
      refine ⟨(A.drop B.length).length + (A.take B.length).length, ?_, _, P' ++ B, A.drop B.length, A.take B.length, S', rfl, rfl, by simp; omega, by omega, by simp; omega, ?_, ?_, ?_, by simp only [f0, eES, Nat.reduceBEq, Int.reduceLE, Int.reduceLT, Int.reduceToNat, Int.reduceEq, ↓reduceIte, reduceCtorEq, Nat.reducePow, Nat.reduceAdd, Nat.reduceLeDiff, Nat.reduceLT, Nat.reduceSub, Nat.reduceEqDiff], by simp only [f2, eES, Nat.reduceBEq, Int.reduceLE, Int.reduceLT, Int.reduceToNat, Int.reduceEq, ↓reduceIte, reduceCtorEq, Nat.reducePow, Nat.reduceAdd, Nat.reduceLeDiff, Nat.reduceLT, Nat.reduceSub, Nat.reduceEqDiff], by simp only [f4, eES, Nat.reduceBEq, Int.reduceLE, Int.reduceLT, Int.reduceToNat, Int.reduceEq, ↓reduceIte, reduceCtorEq, Nat.reducePow, Nat.reduceAdd, Nat.reduceLeDiff, Nat.reduceLT, Nat.reduceSub, Nat.reduceEqDiff], by simp only [List.length_drop, eES, Nat.reduceBEq, Int.reduceLE, Int.reduceLT, Int.reduceToNat, Int.reduceEq, ↓reduceIte, reduceCtorEq, Nat.reducePow, Nat.reduceAdd, Nat.reduceLeDiff, Nat.reduceLT, Nat.reduceSub, Nat.reduceEqDiff], by simp only [f11, hl1, eES, Nat.reduceBEq, Int.reduceLE, Int.reduceLT, Int.reduceToNat, Int.reduceEq, ↓reduceIte, reduceCtorEq, Nat.reducePow, Nat.reduceAdd, Nat.reduceLeDiff, Nat.reduceLT, Nat.reduceSub, Nat.reduceEqDiff]⟩
      · simp; omega
      · rw [← hTT]
        simp only [List.append_assoc]
        rw [← List.append_assoc (A.take _), List.take_append_drop]
      · rw [← hNN]; simp only [List.length_append]; omega
      · intro x hx
        refine hee x ?_
        simp only [List.mem_append] at hx ⊢
        grind
    · have d1 : decide ((A.length : Int) > (B.length : Int)) = false := by simp; omega
      have e1 : IntKind.i64.wrap ((mid : Int) - (A.length : Int)) = ((P'.length : Nat) : Int) := by rw [wi64]; omega
      have e2 : IntKind.i64.wrap ((B.length : Int) - (A.length : Int)) = ((B.length - A.length : Nat) : Int) := by rw [wi64]; omega
      have e3 : IntKind.i64.wrap ((mid : Int) + (B.length : Int)) = ((mid + B.length : Nat) : Int) := by rw [wi64]; omega
      have e4 : IntKind.i64.wrap (((mid + B.length : Nat) : Int) - (A.length : Int)) = ((mid + B.length - A.length : Nat) : Int) := by rw [wi64]; omega
      simp only [d1, e1, e3, e4, f0, f2, f4, f10, f11, eES, Nat.reduceBEq, Int.reduceLE, Int.reduceLT, Int.reduceToNat, Int.reduceEq, ↓reduceIte, reduceCtorEq, Nat.reducePow, Nat.reduceAdd, Nat.reduceLeDiff, Nat.reduceLT, Nat.reduceSub, Nat.reduceEqDiff]
      have hcut : P' ++ A ++ B ++ S' = P' ++ A ++ B.take (B.length - A.length) ++ B.drop (B.length - A.length) ++ S' := by
        rw [List.append_assoc (P' ++ A) (B.take _), List.take_append_drop]
      have hl1 : (B.take (B.length - A.length)).length = B.length - A.length := by simp
      have hl2 : (B.drop (B.length - A.length)).length = A.length := by simp; omega
      rw [hcut] at hee hNN ⊢
      refine aops_callF (sw_call cmp.sh (a := P'.length) (b := mid + B.length - A.length) (n := A.length) P' A (B.take (B.length - A.length)) (B.drop (B.length - A.length)) S' hlv hl2.symm hee (by omega) hNN.symm rfl (by rw [hl1]; omega) rfl) rfl ?_
      simp only [e2, f0, f2, f4, f10, f11, eES, Nat.reduceBEq, Int.reduceLE, Int.reduceLT, Int.reduceToNat, Int.reduceEq, ↓reduceIte, reduceCtorEq, Nat.reducePow, Nat.reduceAdd, Nat.reduceLeDiff, Nat.reduceLT, Nat.reduceSub, Nat.reduceEqDiff]
      refine ⟨(B.drop (B.length - A.length)).length + (B.take (B.length - A.length)).length, ?_, _, P', B.drop (B.length - A.length), B.take (B.length - A.length), A ++ S', by simp only [List.append_assoc] <;> rfl, rfl, by omega, by omega, by omega, ?_, ?_, ?_, by simp only [f0, eES, Nat.reduceBEq, Int.reduceLE, Int.reduceLT, Int.reduceToNat, Int.reduceEq, ↓reduceIte, reduceCtorEq, Nat.reducePow, Nat.reduceAdd, Nat.reduceLeDiff, Nat.reduceLT, Nat.reduceSub, Nat.reduceEqDiff], by simp only [f2, eES, Nat.reduceBEq, Int.reduceLE, Int.reduceLT, Int.reduceToNat, Int.reduceEq, ↓reduceIte, reduceCtorEq, Nat.reducePow, Nat.reduceAdd, Nat.reduceLeDiff, Nat.reduceLT, Nat.reduceSub, Nat.reduceEqDiff], by simp only [f4, eES, Nat.reduceBEq, Int.reduceLE, Int.reduceLT, Int.reduceToNat, Int.reduceEq, ↓reduceIte, reduceCtorEq, Nat.reducePow, Nat.reduceAdd, Nat.reduceLeDiff, Nat.reduceLT, Nat.reduceSub, Nat.reduceEqDiff], by simp only [f10, hl2, eES, Nat.reduceBEq, Int.reduceLE, Int.reduceLT, Int.reduceToNat, Int.reduceEq, ↓reduceIte, reduceCtorEq, Nat.reducePow, Nat.reduceAdd, Nat.reduceLeDiff, Nat.reduceLT, Nat.reduceSub, Nat.reduceEqDiff], by simp only [hl1, eES, Nat.reduceBEq, Int.reduceLE, Int.reduceLT, Int.reduceToNat, Int.reduceEq, ↓reduceIte, reduceCtorEq, Nat.reducePow, Nat.reduceAdd, Nat.reduceLeDiff, Nat.reduceLT, Nat.reduceSub, Nat.reduceEqDiff]⟩
      · omega
      · rw [← hTT]
        simp only [List.append_assoc]
        rw [← List.append_assoc (B.take _), List.take_append_drop]
      · rw [← hNN]; simp only [List.length_append]; omega
      · intro x hx
        refine hee x ?_
        simp only [List.mem_append] at hx ⊢
        grind

end Go.Proofs.YtofcnjhnjagncaaGreat.Ta

/- A row that is sorted: a range of it by insertion. -/
set_option linter.unusedSimpArgs false
namespace Go.Proofs.YtofcnjhnjagncaaGreat.Ta
open Go Am Rc Bt So

variable {E : AV → Prop}

def lt (c : AV → AV → Int) (x y : AV) : Bool := decide (c x y < 0)

/-- What compares two elements. -/
structure Cp (E : AV → Prop) (kc : Nat) (c : AV → AV → Int) : Prop where
  call : ∀ x y, Ez E 4 x → Ez E 4 y → Fn1 Tryz.prog kc [x, y] (.int .i64 (c x y))
  sw : SW (lt c)

/-- The rounds of one element. -/
def InS (m : Mem) (lv s g N i p : Nat) (kc : Nat) (c : AV → AV → Int) (P L S : List AV) (x : AV) (k : Nat) (st : St) : Prop :=
  ∃ f U V, st = ⟨f, [noObs] ++ Am.put m lv s (.vec g 4 (P ++ U ++ [x] ++ V ++ S)), []⟩ ∧ k = U.length ∧ U ++ V = L ∧ (∀ v ∈ V, lt c x v = true) ∧
    f 0 = .vec (lv + 1) s g 0 N false ∧ f 1 = .int .i64 (P.length : Nat) ∧ f 2 = .int .i64 (p : Nat) ∧ f 3 = .fn (.func kc) [] [] ∧ f 8 = .int .i64 (i : Nat) ∧ f 9 = .int .i64 ((P.length + U.length : Nat) : Int)

/-- .. of the range. -/
def IoS (m : Mem) (lv s g N : Nat) (kc : Nat) (c : AV → AV → Int) (P X S : List AV) (k : Nat) (st : St) : Prop :=
  ∃ f i, st = ⟨f, [noObs] ++ Am.put m lv s (.vec g 4 (P ++ isort (lt c) (X.take i) ++ X.drop i ++ S)), []⟩ ∧ k = X.length + 1 - i ∧ 1 ≤ i ∧ (i ≤ X.length ∨ (i = 1 ∧ X = [])) ∧
    f 0 = .vec (lv + 1) s g 0 N false ∧ f 1 = .int .i64 (P.length : Nat) ∧ f 2 = .int .i64 ((P.length + X.length : Nat) : Int) ∧ f 3 = .fn (.func kc) [] [] ∧ f 8 = .int .i64 ((P.length + i : Nat) : Int)

theorem last_split {α : Type} (U : List α) (h : 0 < U.length) : ∃ W u, U = W ++ [u] := by
  rcases List.eq_nil_or_concat U with rfl | ⟨W, u, e⟩
  · simp at h
  · exact ⟨W, u, by simpa using e⟩

theorem getE {α : Type} {P W V : List α} {u : α} {i : Nat} (h : i = P.length + W.length) : (P ++ (W ++ [u]) ++ V)[i]? = some u := by
  subst h; simp

theorem c50 {kc : Nat} {c : AV → AV → Int} (hc : Cp E kc c) (lv s g : Nat) (P X S : List AV) (m : Mem) (hl : Am.look m lv s = .vec g 4 (P ++ X ++ S)) (he : ∀ x ∈ P ++ X ++ S, Ez E 4 x)
    (hn : (P ++ X ++ S).length < 4611686018427387904) :
    ACalls Tryz.prog 50 [.vec lv s g 0 (P ++ X ++ S).length false, .int .i64 (P.length : Nat), .int .i64 ((P.length + X.length : Nat) : Int), .fn (.func kc) [] []] m
      (fun x m1 => x = .tup [] ∧ m1 = Am.put m lv s (.vec g 4 (P ++ isort (lt c) X ++ S))) := by
  have hlv : lv < m.length := look_lt (by rw [hl]; simp)
  have hlen : (P ++ X ++ S).length = P.length + X.length + S.length := by simp only [List.length_append]
  refine acalls_of_awp (rc := r50) (rs := o50) Tryz.func50 rfl rfl Tryz.ntmps50 k50 q50 (by simp) ?_
  have e1 : IntKind.i64.wrap ((P.length : Int) + 1) = ((P.length + 1 : Nat) : Int) := by rw [wi64]; omega
  simp only [g50_0, g50_1, g50_3, g50_4, g50_6, g50_5, g50_2, r50, o50, e1, eES, Nat.reduceBEq, Int.reduceLE, Int.reduceLT, Int.reduceToNat, Int.reduceEq, ↓reduceIte, reduceCtorEq, Nat.reducePow, Nat.reduceAdd, Nat.reduceLeDiff, Nat.reduceLT, Nat.reduceSub, Nat.reduceEqDiff]
  have h0 : m = Am.put m lv s (.vec g 4 (P ++ isort (lt c) (X.take 1) ++ X.drop 1 ++ S)) := by
    have : P ++ isort (lt c) (X.take 1) ++ X.drop 1 ++ S = P ++ X ++ S := by
      cases X with
      | nil => simp [isort]
      | cons x X => simp [isort, ins]
    rw [this]; exact (put_self hl).symm
  generalize hN : (P ++ X ++ S).length = N at *
  refine awp_loop (IoS m lv s g N kc c P X S) _ ⟨_, 1, by rw [← h0] <;> rfl, rfl, Nat.le_refl _, by
    cases X with
    | nil => exact .inr ⟨rfl, rfl⟩
    | cons x X => exact .inl (by simp), by simp only [eES, Nat.reduceBEq, Int.reduceLE, Int.reduceLT, Int.reduceToNat, Int.reduceEq, ↓reduceIte, reduceCtorEq, Nat.reducePow, Nat.reduceAdd, Nat.reduceLeDiff, Nat.reduceLT, Nat.reduceSub, Nat.reduceEqDiff], by simp only [eES, Nat.reduceBEq, Int.reduceLE, Int.reduceLT, Int.reduceToNat, Int.reduceEq, ↓reduceIte, reduceCtorEq, Nat.reducePow, Nat.reduceAdd, Nat.reduceLeDiff, Nat.reduceLT, Nat.reduceSub, Nat.reduceEqDiff], by simp only [eES, Nat.reduceBEq, Int.reduceLE, Int.reduceLT, Int.reduceToNat, Int.reduceEq, ↓reduceIte, reduceCtorEq, Nat.reducePow, Nat.reduceAdd, Nat.reduceLeDiff, Nat.reduceLT, Nat.reduceSub, Nat.reduceEqDiff], by simp only [eES, Nat.reduceBEq, Int.reduceLE, Int.reduceLT, Int.reduceToNat, Int.reduceEq, ↓reduceIte, reduceCtorEq, Nat.reducePow, Nat.reduceAdd, Nat.reduceLeDiff, Nat.reduceLT, Nat.reduceSub, Nat.reduceEqDiff], by simp only [eES, Nat.reduceBEq, Int.reduceLE, Int.reduceLT, Int.reduceToNat, Int.reduceEq, ↓reduceIte, reduceCtorEq, Nat.reducePow, Nat.reduceAdd, Nat.reduceLeDiff, Nat.reduceLT, Nat.reduceSub, Nat.reduceEqDiff]⟩ ?_
  clear h0 e1
  rintro k st ⟨f, i, rfl, rfl, hi1, hi2, f0, f1, f2, f3, f8⟩
  simp only [l50_0, l50_1, g50_0, g50_1, g50_3, g50_4, g50_6, g50_5, g50_2, r50, o50, f0, f1, f2, f3, f8, List.singleton_append, eES, Nat.reduceBEq, Int.reduceLE, Int.reduceLT, Int.reduceToNat, Int.reduceEq, ↓reduceIte, reduceCtorEq, Nat.reducePow, Nat.reduceAdd, Nat.reduceLeDiff, Nat.reduceLT, Nat.reduceSub, Nat.reduceEqDiff]
  by_cases hlt : i < X.length
  · have d0 : decide (((P.length + i : Nat) : Int) < ((P.length + X.length : Nat) : Int)) = true := by simp only [decide_eq_true_eq]; omega
    simp only [d0, f0, f1, f2, f3, f8, eES, Nat.reduceBEq, Int.reduceLE, Int.reduceLT, Int.reduceToNat, Int.reduceEq, ↓reduceIte, reduceCtorEq, Nat.reducePow, Nat.reduceAdd, Nat.reduceLeDiff, Nat.reduceLT, Nat.reduceSub, Nat.reduceEqDiff]
    obtain ⟨x, hx⟩ : ∃ x, X[i]? = some x := ⟨_, List.getElem?_eq_getElem hlt⟩
    have ex : Ez E 4 x := he x (by simp [List.mem_of_getElem? hx])
    have hL : (isort (lt c) (X.take i)).length = i := by rw [len_isort, List.length_take]; omega
    have heL : ∀ z ∈ isort (lt c) (X.take i), Ez E 4 z := fun z hz => he z (by simp [List.mem_of_mem_take (mem_isort hz)])
    have hdrop : X.drop i = [x] ++ X.drop (i + 1) := by
      rw [List.singleton_append, List.drop_eq_getElem_cons hlt]
      congr 1
      exact (List.getElem?_eq_some_iff.1 hx).2
    have htake : isort (lt c) (X.take (i + 1)) = mg (lt c) (isort (lt c) (X.take i)) [x] := by
      rw [List.take_add_one, hx, Option.toList_some, ← mg_isort hc.sw] <;> rfl
    refine awp_loop (InS m lv s g N (P.length + i) (P.length + X.length) kc c P (isort (lt c) (X.take i)) (X.drop (i + 1) ++ S) x) _ ⟨_, isort (lt c) (X.take i), [], by rw [hdrop]; simp only [List.append_assoc, List.append_nil, List.nil_append] <;> rfl, rfl, List.append_nil _, by simp, by simp only [f0, eES, Nat.reduceBEq, Int.reduceLE, Int.reduceLT, Int.reduceToNat, Int.reduceEq, ↓reduceIte, reduceCtorEq, Nat.reducePow, Nat.reduceAdd, Nat.reduceLeDiff, Nat.reduceLT, Nat.reduceSub, Nat.reduceEqDiff], by simp only [f1, eES, Nat.reduceBEq, Int.reduceLE, Int.reduceLT, Int.reduceToNat, Int.reduceEq, ↓reduceIte, reduceCtorEq, Nat.reducePow, Nat.reduceAdd, Nat.reduceLeDiff, Nat.reduceLT, Nat.reduceSub, Nat.reduceEqDiff], by simp only [f2, eES, Nat.reduceBEq, Int.reduceLE, Int.reduceLT, Int.reduceToNat, Int.reduceEq, ↓reduceIte, reduceCtorEq, Nat.reducePow, Nat.reduceAdd, Nat.reduceLeDiff, Nat.reduceLT, Nat.reduceSub, Nat.reduceEqDiff], by simp only [f3, eES, Nat.reduceBEq, Int.reduceLE, Int.reduceLT, Int.reduceToNat, Int.reduceEq, ↓reduceIte, reduceCtorEq, Nat.reducePow, Nat.reduceAdd, Nat.reduceLeDiff, Nat.reduceLT, Nat.reduceSub, Nat.reduceEqDiff], by simp only [f8, eES, Nat.reduceBEq, Int.reduceLE, Int.reduceLT, Int.reduceToNat, Int.reduceEq, ↓reduceIte, reduceCtorEq, Nat.reducePow, Nat.reduceAdd, Nat.reduceLeDiff, Nat.reduceLT, Nat.reduceSub, Nat.reduceEqDiff], by simp only [hL, eES, Nat.reduceBEq, Int.reduceLE, Int.reduceLT, Int.reduceToNat, Int.reduceEq, ↓reduceIte, reduceCtorEq, Nat.reducePow, Nat.reduceAdd, Nat.reduceLeDiff, Nat.reduceLT, Nat.reduceSub, Nat.reduceEqDiff]⟩ ?_
    rintro k' st ⟨f, U, V, rfl, rfl, hUV, hV, f0, f1, f2, f3, f8, f9⟩
    have hUVl : U.length + V.length = i := by rw [← List.length_append, hUV, hL]
    have hrow : (P ++ U ++ [x] ++ V ++ (X.drop (i + 1) ++ S)).length = N := by
      rw [← hN]; simp only [List.length_append, List.length_drop, List.length_singleton]; omega
    simp only [l50_0, l50_1, g50_0, g50_1, g50_3, g50_4, g50_6, g50_5, g50_2, r50, o50, f0, f1, f2, f3, f8, f9, List.singleton_append, eES, Nat.reduceBEq, Int.reduceLE, Int.reduceLT, Int.reduceToNat, Int.reduceEq, ↓reduceIte, reduceCtorEq, Nat.reducePow, Nat.reduceAdd, Nat.reduceLeDiff, Nat.reduceLT, Nat.reduceSub, Nat.reduceEqDiff]
    have e4 : IntKind.i64.wrap (((P.length + i : Nat) : Int) + 1) = ((P.length + (i + 1) : Nat) : Int) := by rw [wi64]; omega
    have fin : (∀ u ∈ U, lt c x u = false) → P ++ U ++ [x] ++ V ++ (X.drop (i + 1) ++ S) = P ++ isort (lt c) (X.take (i + 1)) ++ X.drop (i + 1) ++ S := by
      intro h
      rw [htake, ← hUV, mg_right h hV]; simp
    by_cases hU : 0 < U.length
    · obtain ⟨W, u, rfl⟩ := last_split U hU
      simp only [List.length_append, List.length_singleton] at hUVl hrow f9
      have d1 : decide (((P.length + (W.length + 1) : Nat) : Int) > (P.length : Int)) = true := by simp only [decide_eq_true_eq]; omega
      have e2 : IntKind.i64.wrap (((P.length + (W.length + 1) : Nat) : Int) - 1) = ((P.length + W.length : Nat) : Int) := by rw [wi64]; omega
      have eu : Ez E 4 u := heL u (by rw [← hUV]; simp)
      have hx1 : (P ++ (W ++ [u]) ++ [x] ++ V ++ (X.drop (i + 1) ++ S))[P.length + (W.length + 1)]? = some x := by
        have := getE (P := P) (W := W ++ [u]) (u := x) (V := V ++ (X.drop (i + 1) ++ S)) (i := P.length + (W.length + 1)) (by simp)
        simpa only [List.append_assoc] using this
      have hu1 : (P ++ (W ++ [u]) ++ [x] ++ V ++ (X.drop (i + 1) ++ S))[P.length + W.length]? = some u := by
        have := getE (P := P) (W := W) (u := u) (V := [x] ++ V ++ (X.drop (i + 1) ++ S)) (i := P.length + W.length) rfl
        simpa only [List.append_assoc] using this
      simp only [d1, e2, f0, f1, f2, f3, f8, f9, List.length_append, List.length_singleton, iad hlv (show P.length + (W.length + 1) < N by omega), iad hlv (show P.length + W.length < N by omega), ldr hlv hx1 ex, ldr hlv hu1 eu, eES, Nat.reduceBEq, Int.reduceLE, Int.reduceLT, Int.reduceToNat, Int.reduceEq, ↓reduceIte, reduceCtorEq, Nat.reducePow, Nat.reduceAdd, Nat.reduceLeDiff, Nat.reduceLT, Nat.reduceSub, Nat.reduceEqDiff]
      refine aops_callP (by simp only [eES, Nat.reduceBEq, Int.reduceLE, Int.reduceLT, Int.reduceToNat, Int.reduceEq, ↓reduceIte, reduceCtorEq, Nat.reducePow, Nat.reduceAdd, Nat.reduceLeDiff, Nat.reduceLT, Nat.reduceSub, Nat.reduceEqDiff]) (hc.call x u ex eu) (still_two ex eu _) (rf_two ex eu) rfl (.inl (rf_two ex eu)) ?_
      cases hcx : decide (c x u < 0) with
      | true =>
        have hset : ((P ++ (W ++ [u]) ++ [x] ++ V ++ (X.drop (i + 1) ++ S)).set (P.length + (W.length + 1)) u).set (P.length + W.length) x = P ++ W ++ [x] ++ ([u] ++ V) ++ (X.drop (i + 1) ++ S) := by
          simp [List.set_append, List.append_assoc]
        have hx2 : ((P ++ (W ++ [u]) ++ [x] ++ V ++ (X.drop (i + 1) ++ S)).set (P.length + (W.length + 1)) u)[P.length + W.length]? = some u := by
          rw [List.getElem?_set_ne (by omega), hu1]
        simp only [hcx, d1, e2, f0, f1, f2, f3, f8, f9, iad hlv (show P.length + (W.length + 1) < N by omega), iad hlv (show P.length + W.length < N by omega), ldr hlv hx1 ex, ldr hlv hu1 eu, ex.len, eu.len, ex.leaf, eu.leaf, str1 hlv hx1 ex eu (by decide), str1 hlv hx2 eu ex (by decide), eES, Nat.reduceBEq, Int.reduceLE, Int.reduceLT, Int.reduceToNat, Int.reduceEq, ↓reduceIte, reduceCtorEq, Nat.reducePow, Nat.reduceAdd, Nat.reduceLeDiff, Nat.reduceLT, Nat.reduceSub, Nat.reduceEqDiff]
        exact ⟨W.length, by simp, _, W, [u] ++ V, by rw [hset] <;> rfl, rfl, by rw [← hUV]; simp, by
          intro v hv
          rcases List.mem_append.1 hv with hv | hv
          · rw [List.mem_singleton.1 hv]; exact hcx
          · exact hV v hv, by simp only [f0, eES, Nat.reduceBEq, Int.reduceLE, Int.reduceLT, Int.reduceToNat, Int.reduceEq, ↓reduceIte, reduceCtorEq, Nat.reducePow, Nat.reduceAdd, Nat.reduceLeDiff, Nat.reduceLT, Nat.reduceSub, Nat.reduceEqDiff], by simp only [f1, eES, Nat.reduceBEq, Int.reduceLE, Int.reduceLT, Int.reduceToNat, Int.reduceEq, ↓reduceIte, reduceCtorEq, Nat.reducePow, Nat.reduceAdd, Nat.reduceLeDiff, Nat.reduceLT, Nat.reduceSub, Nat.reduceEqDiff], by simp only [f2, eES, Nat.reduceBEq, Int.reduceLE, Int.reduceLT, Int.reduceToNat, Int.reduceEq, ↓reduceIte, reduceCtorEq, Nat.reducePow, Nat.reduceAdd, Nat.reduceLeDiff, Nat.reduceLT, Nat.reduceSub, Nat.reduceEqDiff], by simp only [f3, eES, Nat.reduceBEq, Int.reduceLE, Int.reduceLT, Int.reduceToNat, Int.reduceEq, ↓reduceIte, reduceCtorEq, Nat.reducePow, Nat.reduceAdd, Nat.reduceLeDiff, Nat.reduceLT, Nat.reduceSub, Nat.reduceEqDiff], by simp only [f8, eES, Nat.reduceBEq, Int.reduceLE, Int.reduceLT, Int.reduceToNat, Int.reduceEq, ↓reduceIte, reduceCtorEq, Nat.reducePow, Nat.reduceAdd, Nat.reduceLeDiff, Nat.reduceLT, Nat.reduceSub, Nat.reduceEqDiff], by simp only [eES, Nat.reduceBEq, Int.reduceLE, Int.reduceLT, Int.reduceToNat, Int.reduceEq, ↓reduceIte, reduceCtorEq, Nat.reducePow, Nat.reduceAdd, Nat.reduceLeDiff, Nat.reduceLT, Nat.reduceSub, Nat.reduceEqDiff]⟩
      | false =>
        have hz : ∀ z ∈ W ++ [u], lt c x z = false := by
          have hsrt := srt_isort hc.sw (X.take i)
          have hsrt : Srt (lt c) ((W ++ [u]) ++ V) := by rw [hUV]; exact hsrt
          have hs2 := (List.pairwise_append.1 (List.pairwise_append.1 hsrt).1).2.2
          intro z hz
          rcases List.mem_append.1 hz with hz | hz
          · exact hc.sw.nt x u z hcx (hs2 z hz u (by simp))
          · rw [List.mem_singleton.1 hz]; exact hcx
        simp only [hcx, f0, f1, f2, f3, f8, f9, e4, eES, Nat.reduceBEq, Int.reduceLE, Int.reduceLT, Int.reduceToNat, Int.reduceEq, ↓reduceIte, reduceCtorEq, Nat.reducePow, Nat.reduceAdd, Nat.reduceLeDiff, Nat.reduceLT, Nat.reduceSub, Nat.reduceEqDiff]
        exact ⟨X.length + 1 - (i + 1), by omega, _, i + 1, by rw [fin hz] <;> rfl, rfl, by omega, .inl (by omega), by simp only [f0, eES, Nat.reduceBEq, Int.reduceLE, Int.reduceLT, Int.reduceToNat, Int.reduceEq, ↓reduceIte, reduceCtorEq, Nat.reducePow, Nat.reduceAdd, Nat.reduceLeDiff, Nat.reduceLT, Nat.reduceSub, Nat.reduceEqDiff], by simp only [f1, eES, Nat.reduceBEq, Int.reduceLE, Int.reduceLT, Int.reduceToNat, Int.reduceEq, ↓reduceIte, reduceCtorEq, Nat.reducePow, Nat.reduceAdd, Nat.reduceLeDiff, Nat.reduceLT, Nat.reduceSub, Nat.reduceEqDiff], by simp only [f2, eES, Nat.reduceBEq, Int.reduceLE, Int.reduceLT, Int.reduceToNat, Int.reduceEq, ↓reduceIte, reduceCtorEq, Nat.reducePow, Nat.reduceAdd, Nat.reduceLeDiff, Nat.reduceLT, Nat.reduceSub, Nat.reduceEqDiff], by simp only [f3, eES, Nat.reduceBEq, Int.reduceLE, Int.reduceLT, Int.reduceToNat, Int.reduceEq, ↓reduceIte, reduceCtorEq, Nat.reducePow, Nat.reduceAdd, Nat.reduceLeDiff, Nat.reduceLT, Nat.reduceSub, Nat.reduceEqDiff], by simp only [eES, Nat.reduceBEq, Int.reduceLE, Int.reduceLT, Int.reduceToNat, Int.reduceEq, ↓reduceIte, reduceCtorEq, Nat.reducePow, Nat.reduceAdd, Nat.reduceLeDiff, Nat.reduceLT, Nat.reduceSub, Nat.reduceEqDiff]⟩
    · have hU0 : U = [] := List.eq_nil_of_length_eq_zero (by omega)
      subst hU0
      have d1 : decide (((P.length + 0 : Nat) : Int) > (P.length : Int)) = false := by simp
      have fin0 := fin (by simp)
      simp only [List.append_nil] at fin0
      simp only [List.length_nil] at f9
      simp only [d1, f0, f1, f2, f3, f8, f9, e4, List.length_nil, eES, Nat.reduceBEq, Int.reduceLE, Int.reduceLT, Int.reduceToNat, Int.reduceEq, ↓reduceIte, reduceCtorEq, Nat.reducePow, Nat.reduceAdd, Nat.reduceLeDiff, Nat.reduceLT, Nat.reduceSub, Nat.reduceEqDiff]
      exact ⟨X.length + 1 - (i + 1), by omega, _, i + 1, by rw [fin0] <;> rfl, rfl, by omega, .inl (by omega), by simp only [f0, eES, Nat.reduceBEq, Int.reduceLE, Int.reduceLT, Int.reduceToNat, Int.reduceEq, ↓reduceIte, reduceCtorEq, Nat.reducePow, Nat.reduceAdd, Nat.reduceLeDiff, Nat.reduceLT, Nat.reduceSub, Nat.reduceEqDiff], by simp only [f1, eES, Nat.reduceBEq, Int.reduceLE, Int.reduceLT, Int.reduceToNat, Int.reduceEq, ↓reduceIte, reduceCtorEq, Nat.reducePow, Nat.reduceAdd, Nat.reduceLeDiff, Nat.reduceLT, Nat.reduceSub, Nat.reduceEqDiff], by simp only [f2, eES, Nat.reduceBEq, Int.reduceLE, Int.reduceLT, Int.reduceToNat, Int.reduceEq, ↓reduceIte, reduceCtorEq, Nat.reducePow, Nat.reduceAdd, Nat.reduceLeDiff, Nat.reduceLT, Nat.reduceSub, Nat.reduceEqDiff], by simp only [f3, eES, Nat.reduceBEq, Int.reduceLE, Int.reduceLT, Int.reduceToNat, Int.reduceEq, ↓reduceIte, reduceCtorEq, Nat.reducePow, Nat.reduceAdd, Nat.reduceLeDiff, Nat.reduceLT, Nat.reduceSub, Nat.reduceEqDiff], by simp only [eES, Nat.reduceBEq, Int.reduceLE, Int.reduceLT, Int.reduceToNat, Int.reduceEq, ↓reduceIte, reduceCtorEq, Nat.reducePow, Nat.reduceAdd, Nat.reduceLeDiff, Nat.reduceLT, Nat.reduceSub, Nat.reduceEqDiff]⟩
  · have d0 : decide (((P.length + i : Nat) : Int) < ((P.length + X.length : Nat) : Int)) = false := by simp only [decide_eq_false_iff_not]; omega
    have hX : isort (lt c) (X.take i) ++ X.drop i = isort (lt c) X := by
      rcases hi2 with h | ⟨_, rfl⟩
      · rw [List.take_of_length_le (by omega), List.drop_of_length_le (by omega), List.append_nil]
      · simp [isort]
    have hX2 : P ++ isort (lt c) (X.take i) ++ X.drop i ++ S = P ++ isort (lt c) X ++ S := by rw [List.append_assoc P (isort (lt c) (X.take i)) (X.drop i), hX]
    simp only [d0, f0, f1, f2, f3, f8, hX2, put_len, eES, Nat.reduceBEq, Int.reduceLE, Int.reduceLT, Int.reduceToNat, Int.reduceEq, ↓reduceIte, reduceCtorEq, Nat.reducePow, Nat.reduceAdd, Nat.reduceLeDiff, Nat.reduceLT, Nat.reduceSub, Nat.reduceEqDiff]

end Go.Proofs.YtofcnjhnjagncaaGreat.Ta

/- A row that is sorted: two ranges merged, one of them of one element. -/
set_option linter.unusedSimpArgs false
namespace Go.Proofs.YtofcnjhnjagncaaGreat.Ta
open Go Am Rc Bt So

variable {E : AV → Prop}

theorem half (a b : Nat) (h : a + b < 9223372036854775808) : IntKind.i64.wrap ((IntKind.u64.wrap ((a + b : Nat) : Int)).fdiv (2 ^ min 1 64)) = (((a + b) / 2 : Nat) : Int) := by
  rw [wi64, wu64, show min 1 64 = 1 from rfl, show (2 : Int) ^ 1 = 2 from rfl]
  have : (((a + b : Nat) : Int) % 18446744073709551616) = ((a + b : Nat) : Int) := by omega
  rw [this, Int.fdiv_eq_ediv_of_nonneg _ (by omega)]
  omega

/-- The search of the place of x among Y. -/
def SaS (m : Mem) (lv s g N : Nat) (kc : Nat) (c : AV → AV → Int) (P Y S : List AV) (x : AV) (k : Nat) (st : St) : Prop :=
  ∃ f i j, st = ⟨f, [noObs] ++ Am.put m lv s (.vec g 4 (P ++ [x] ++ Y ++ S)), []⟩ ∧ k = j - i ∧ i ≤ j ∧ j ≤ Y.length ∧ (∀ k y, k < i → Y[k]? = some y → lt c y x = true) ∧ (∀ k y, j ≤ k → Y[k]? = some y → lt c y x = false) ∧
    f 0 = .vec (lv + 1) s g 0 N false ∧ f 1 = .int .i64 (P.length : Nat) ∧ f 4 = .fn (.func kc) [] [] ∧ f 10 = .int .i64 ((P.length + 1 + i : Nat) : Int) ∧ f 11 = .int .i64 ((P.length + 1 + j : Nat) : Int)

/-- .. x brought there. -/
def SaT (m : Mem) (lv s g N i : Nat) (P Y S : List AV) (x : AV) (k : Nat) (st : St) : Prop :=
  ∃ f t, st = ⟨f, [noObs] ++ Am.put m lv s (.vec g 4 (P ++ Y.take t ++ [x] ++ Y.drop t ++ S)), []⟩ ∧ k = i - t ∧ t ≤ i ∧
    f 0 = .vec (lv + 1) s g 0 N false ∧ f 10 = .int .i64 ((P.length + 1 + i : Nat) : Int) ∧ f 13 = .int .i64 ((P.length + t : Nat) : Int)

theorem symA {kc : Nat} {c : AV → AV → Int} (hc : Cp E kc c) (lv s g : Nat) (P : List AV) (x : AV) (Y S : List AV) (m : Mem) (hl : Am.look m lv s = .vec g 4 (P ++ [x] ++ Y ++ S)) (he : ∀ z ∈ P ++ [x] ++ Y ++ S, Ez E 4 z)
    (hn : (P ++ [x] ++ Y ++ S).length < 4611686018427387904) (hY : Srt (lt c) Y) :
    ACalls Tryz.prog 51 [.vec lv s g 0 (P ++ [x] ++ Y ++ S).length false, .int .i64 (P.length : Nat), .int .i64 ((P.length + 1 : Nat) : Int), .int .i64 ((P.length + 1 + Y.length : Nat) : Int), .fn (.func kc) [] []] m
      (fun v m1 => v = .tup [] ∧ m1 = Am.put m lv s (.vec g 4 (P ++ mg (lt c) [x] Y ++ S))) := by
  have hlv : lv < m.length := look_lt (by rw [hl]; simp)
  have hlen : (P ++ [x] ++ Y ++ S).length = P.length + 1 + Y.length + S.length := by simp only [List.length_append, List.length_singleton]
  have ex : Ez E 4 x := he x (by simp)
  have eY : ∀ y ∈ Y, Ez E 4 y := fun y hy => he y (by simp [hy])
  refine acalls_of_awp (rc := r51) (rs := o51) Tryz.func51 rfl rfl Tryz.ntmps51 k51 q51 (by simp) ?_
  have e1 : IntKind.i64.wrap (((P.length + 1 : Nat) : Int) - (P.length : Int)) = 1 := by rw [wi64]; omega
  simp only [g51_0, g51_1, g51_2, g51_3, g51_4, g51_5, g51_6, g51_7, g51_8, g51_9, g51_11, g51_10, g51_12, g51_13, g51_14, g51_15, g51_16, g51_17, g51_18, g51_19, g51_20, g51_21, g51_23, g51_22, g51_24, g51_25, g51_26, g51_27, g51_28, g51_29, g51_30, g51_31, g51_32, g51_33, g51_34, g51_35, g51_36, g51_37, g51_38, g51_39, g51_40, g51_41, g51_42, g51_43, g51_44, r51, o51, e1, beq_self_eq_true, eES, Nat.reduceBEq, Int.reduceLE, Int.reduceLT, Int.reduceToNat, Int.reduceEq, ↓reduceIte, reduceCtorEq, Nat.reducePow, Nat.reduceAdd, Nat.reduceLeDiff, Nat.reduceLT, Nat.reduceSub, Nat.reduceEqDiff]
  have h0 : m = Am.put m lv s (.vec g 4 (P ++ [x] ++ Y ++ S)) := (put_self hl).symm
  generalize hN : (P ++ [x] ++ Y ++ S).length = N at *
  refine awp_loop (SaS m lv s g N kc c P Y S x) _ ⟨_, 0, Y.length, by rw [← h0] <;> rfl, rfl, Nat.zero_le _, Nat.le_refl _, (by intro k y hk; exact absurd hk (Nat.not_lt_zero _)), (by intro k y hk hy; rw [List.getElem?_eq_none hk] at hy; cases hy), by simp only [eES, Nat.reduceBEq, Int.reduceLE, Int.reduceLT, Int.reduceToNat, Int.reduceEq, ↓reduceIte, reduceCtorEq, Nat.reducePow, Nat.reduceAdd, Nat.reduceLeDiff, Nat.reduceLT, Nat.reduceSub, Nat.reduceEqDiff], by simp only [eES, Nat.reduceBEq, Int.reduceLE, Int.reduceLT, Int.reduceToNat, Int.reduceEq, ↓reduceIte, reduceCtorEq, Nat.reducePow, Nat.reduceAdd, Nat.reduceLeDiff, Nat.reduceLT, Nat.reduceSub, Nat.reduceEqDiff], by simp only [eES, Nat.reduceBEq, Int.reduceLE, Int.reduceLT, Int.reduceToNat, Int.reduceEq, ↓reduceIte, reduceCtorEq, Nat.reducePow, Nat.reduceAdd, Nat.reduceLeDiff, Nat.reduceLT, Nat.reduceSub, Nat.reduceEqDiff], by simp only [Nat.add_zero, eES, Nat.reduceBEq, Int.reduceLE, Int.reduceLT, Int.reduceToNat, Int.reduceEq, ↓reduceIte, reduceCtorEq, Nat.reducePow, Nat.reduceAdd, Nat.reduceLeDiff, Nat.reduceLT, Nat.reduceSub, Nat.reduceEqDiff], by simp only [eES, Nat.reduceBEq, Int.reduceLE, Int.reduceLT, Int.reduceToNat, Int.reduceEq, ↓reduceIte, reduceCtorEq, Nat.reducePow, Nat.reduceAdd, Nat.reduceLeDiff, Nat.reduceLT, Nat.reduceSub, Nat.reduceEqDiff]⟩ ?_
  clear h0 e1
  rintro k st ⟨f, i, j, rfl, rfl, hij, hj, hp, hq, f0, f1, f4, f10, f11⟩
  simp only [l51_0, l51_1, l51_2, l51_3, l51_4, g51_0, g51_1, g51_2, g51_3, g51_4, g51_5, g51_6, g51_7, g51_8, g51_9, g51_11, g51_10, g51_12, g51_13, g51_14, g51_15, g51_16, g51_17, g51_18, g51_19, g51_20, g51_21, g51_23, g51_22, g51_24, g51_25, g51_26, g51_27, g51_28, g51_29, g51_30, g51_31, g51_32, g51_33, g51_34, g51_35, g51_36, g51_37, g51_38, g51_39, g51_40, g51_41, g51_42, g51_43, g51_44, r51, o51, f0, f1, f4, f10, f11, List.singleton_append, eES, Nat.reduceBEq, Int.reduceLE, Int.reduceLT, Int.reduceToNat, Int.reduceEq, ↓reduceIte, reduceCtorEq, Nat.reducePow, Nat.reduceAdd, Nat.reduceLeDiff, Nat.reduceLT, Nat.reduceSub, Nat.reduceEqDiff]
  by_cases hlt : i < j
  · have d0 : decide (((P.length + 1 + i : Nat) : Int) < ((P.length + 1 + j : Nat) : Int)) = true := by simp only [decide_eq_true_eq]; omega
    have e2 : IntKind.i64.wrap (((P.length + 1 + i : Nat) : Int) + ((P.length + 1 + j : Nat) : Int)) = (((P.length + 1 + i) + (P.length + 1 + j) : Nat) : Int) := by rw [wi64]; omega
    have e3 := half (P.length + 1 + i) (P.length + 1 + j) (by omega)
    have e4 : ((P.length + 1 + i) + (P.length + 1 + j)) / 2 = P.length + 1 + (i + j) / 2 := by omega
    rw [e4] at e3
    generalize hh : (i + j) / 2 = h at *
    have hh1 : h < j := by omega
    have hh2 : i ≤ h := by omega
    have e5 : IntKind.i64.wrap (((P.length + 1 + h : Nat) : Int) + 1) = ((P.length + 1 + (h + 1) : Nat) : Int) := by rw [wi64]; omega
    obtain ⟨y, hy⟩ : ∃ y, Y[h]? = some y := ⟨_, List.getElem?_eq_getElem (by omega)⟩
    have ey := eY y (List.mem_of_getElem? hy)
    have gy : (P ++ [x] ++ Y ++ S)[P.length + 1 + h]? = some y := by
      rw [List.getElem?_append_left (by simp only [List.length_append, List.length_singleton]; omega), List.getElem?_append_right (by simp only [List.length_append, List.length_singleton]; omega)]
      rw [← hy]; congr 1; simp only [List.length_append, List.length_singleton]; omega
    have gx : (P ++ [x] ++ Y ++ S)[P.length]? = some x := by
      have := getE (P := P) (W := []) (u := x) (V := Y ++ S) (i := P.length) rfl
      simpa only [List.append_assoc, List.nil_append] using this
    simp only [d0, e2, e3, f0, f1, f4, f10, f11, iad hlv (show P.length + 1 + h < N by omega), iad hlv (show P.length < N by omega), ldr hlv gy ey, ldr hlv gx ex, eES, Nat.reduceBEq, Int.reduceLE, Int.reduceLT, Int.reduceToNat, Int.reduceEq, ↓reduceIte, reduceCtorEq, Nat.reducePow, Nat.reduceAdd, Nat.reduceLeDiff, Nat.reduceLT, Nat.reduceSub, Nat.reduceEqDiff]
    refine aops_callP (by simp only [eES, Nat.reduceBEq, Int.reduceLE, Int.reduceLT, Int.reduceToNat, Int.reduceEq, ↓reduceIte, reduceCtorEq, Nat.reducePow, Nat.reduceAdd, Nat.reduceLeDiff, Nat.reduceLT, Nat.reduceSub, Nat.reduceEqDiff]) (hc.call y x ey ex) (still_two ey ex _) (rf_two ey ex) rfl (.inl (rf_two ey ex)) ?_
    cases hcx : decide (c y x < 0) with
    | true =>
      simp only [hcx, e5, f0, f1, f4, f10, f11, eES, Nat.reduceBEq, Int.reduceLE, Int.reduceLT, Int.reduceToNat, Int.reduceEq, ↓reduceIte, reduceCtorEq, Nat.reducePow, Nat.reduceAdd, Nat.reduceLeDiff, Nat.reduceLT, Nat.reduceSub, Nat.reduceEqDiff]
      exact ⟨j - (h + 1), by omega, _, h + 1, j, rfl, rfl, by omega, hj, fun k z hk hz => srt_mono hc.sw hY (Nat.le_of_lt_succ hk) hz hy hcx, hq, by simp only [f0, eES, Nat.reduceBEq, Int.reduceLE, Int.reduceLT, Int.reduceToNat, Int.reduceEq, ↓reduceIte, reduceCtorEq, Nat.reducePow, Nat.reduceAdd, Nat.reduceLeDiff, Nat.reduceLT, Nat.reduceSub, Nat.reduceEqDiff], by simp only [f1, eES, Nat.reduceBEq, Int.reduceLE, Int.reduceLT, Int.reduceToNat, Int.reduceEq, ↓reduceIte, reduceCtorEq, Nat.reducePow, Nat.reduceAdd, Nat.reduceLeDiff, Nat.reduceLT, Nat.reduceSub, Nat.reduceEqDiff], by simp only [f4, eES, Nat.reduceBEq, Int.reduceLE, Int.reduceLT, Int.reduceToNat, Int.reduceEq, ↓reduceIte, reduceCtorEq, Nat.reducePow, Nat.reduceAdd, Nat.reduceLeDiff, Nat.reduceLT, Nat.reduceSub, Nat.reduceEqDiff], by simp only [eES, Nat.reduceBEq, Int.reduceLE, Int.reduceLT, Int.reduceToNat, Int.reduceEq, ↓reduceIte, reduceCtorEq, Nat.reducePow, Nat.reduceAdd, Nat.reduceLeDiff, Nat.reduceLT, Nat.reduceSub, Nat.reduceEqDiff], by simp only [f11, eES, Nat.reduceBEq, Int.reduceLE, Int.reduceLT, Int.reduceToNat, Int.reduceEq, ↓reduceIte, reduceCtorEq, Nat.reducePow, Nat.reduceAdd, Nat.reduceLeDiff, Nat.reduceLT, Nat.reduceSub, Nat.reduceEqDiff]⟩
    | false =>
      simp only [hcx, e5, f0, f1, f4, f10, f11, eES, Nat.reduceBEq, Int.reduceLE, Int.reduceLT, Int.reduceToNat, Int.reduceEq, ↓reduceIte, reduceCtorEq, Nat.reducePow, Nat.reduceAdd, Nat.reduceLeDiff, Nat.reduceLT, Nat.reduceSub, Nat.reduceEqDiff]
      exact ⟨h - i, by omega, _, i, h, rfl, rfl, by omega, by omega, hp, fun k z hk hz => by
        cases hb : lt c z x with
        | false => rfl
        | true => exact absurd (srt_mono hc.sw hY hk hy hz hb) (by show ¬ (decide _ = true); rw [hcx]; simp), by simp only [f0, eES, Nat.reduceBEq, Int.reduceLE, Int.reduceLT, Int.reduceToNat, Int.reduceEq, ↓reduceIte, reduceCtorEq, Nat.reducePow, Nat.reduceAdd, Nat.reduceLeDiff, Nat.reduceLT, Nat.reduceSub, Nat.reduceEqDiff], by simp only [f1, eES, Nat.reduceBEq, Int.reduceLE, Int.reduceLT, Int.reduceToNat, Int.reduceEq, ↓reduceIte, reduceCtorEq, Nat.reducePow, Nat.reduceAdd, Nat.reduceLeDiff, Nat.reduceLT, Nat.reduceSub, Nat.reduceEqDiff], by simp only [f4, eES, Nat.reduceBEq, Int.reduceLE, Int.reduceLT, Int.reduceToNat, Int.reduceEq, ↓reduceIte, reduceCtorEq, Nat.reducePow, Nat.reduceAdd, Nat.reduceLeDiff, Nat.reduceLT, Nat.reduceSub, Nat.reduceEqDiff], by simp only [f10, eES, Nat.reduceBEq, Int.reduceLE, Int.reduceLT, Int.reduceToNat, Int.reduceEq, ↓reduceIte, reduceCtorEq, Nat.reducePow, Nat.reduceAdd, Nat.reduceLeDiff, Nat.reduceLT, Nat.reduceSub, Nat.reduceEqDiff], by simp only [eES, Nat.reduceBEq, Int.reduceLE, Int.reduceLT, Int.reduceToNat, Int.reduceEq, ↓reduceIte, reduceCtorEq, Nat.reducePow, Nat.reduceAdd, Nat.reduceLeDiff, Nat.reduceLT, Nat.reduceSub, Nat.reduceEqDiff]⟩
  · have d0 : decide (((P.length + 1 + i : Nat) : Int) < ((P.length + 1 + j : Nat) : Int)) = false := by simp only [decide_eq_false_iff_not]; omega
    have hij' : j = i := by omega
    subst hij'
    simp only [d0, f0, f1, f4, f10, f11, eES, Nat.reduceBEq, Int.reduceLE, Int.reduceLT, Int.reduceToNat, Int.reduceEq, ↓reduceIte, reduceCtorEq, Nat.reducePow, Nat.reduceAdd, Nat.reduceLeDiff, Nat.reduceLT, Nat.reduceSub, Nat.reduceEqDiff]
    have hres : mg (lt c) [x] Y = Y.take j ++ x :: Y.drop j := by
      have := mg_left (lt := lt c) (x := x) (Y1 := Y.take j) (Y2 := Y.drop j) (fun y hy => by
        obtain ⟨k, hk⟩ := List.getElem?_of_mem hy
        rw [List.getElem?_take] at hk
        split at hk
        · rename_i h; exact hp k y h hk
        · cases hk) (fun y hy => by
        obtain ⟨k, hk⟩ := List.getElem?_of_mem hy
        rw [List.getElem?_drop] at hk
        exact hq _ y (by omega) hk)
      rwa [List.take_append_drop] at this
    refine awp_loop (SaT m lv s g N j P Y S x) _ ⟨_, 0, by rw [show P ++ Y.take 0 ++ [x] ++ Y.drop 0 ++ S = P ++ [x] ++ Y ++ S by simp] <;> rfl, rfl, Nat.zero_le _, by simp only [f0, eES, Nat.reduceBEq, Int.reduceLE, Int.reduceLT, Int.reduceToNat, Int.reduceEq, ↓reduceIte, reduceCtorEq, Nat.reducePow, Nat.reduceAdd, Nat.reduceLeDiff, Nat.reduceLT, Nat.reduceSub, Nat.reduceEqDiff], by simp only [f10, eES, Nat.reduceBEq, Int.reduceLE, Int.reduceLT, Int.reduceToNat, Int.reduceEq, ↓reduceIte, reduceCtorEq, Nat.reducePow, Nat.reduceAdd, Nat.reduceLeDiff, Nat.reduceLT, Nat.reduceSub, Nat.reduceEqDiff], by simp only [Nat.add_zero, eES, Nat.reduceBEq, Int.reduceLE, Int.reduceLT, Int.reduceToNat, Int.reduceEq, ↓reduceIte, reduceCtorEq, Nat.reducePow, Nat.reduceAdd, Nat.reduceLeDiff, Nat.reduceLT, Nat.reduceSub, Nat.reduceEqDiff]⟩ ?_
    clear f0 f1 f4 f10 f11 d0 hp hq f
    rintro k st ⟨f, t, rfl, rfl, ht, f0, f10, f13⟩
    have e6 : IntKind.i64.wrap (((P.length + 1 + j : Nat) : Int) - 1) = ((P.length + j : Nat) : Int) := by rw [wi64]; omega
    have e7 : IntKind.i64.wrap (((P.length + t : Nat) : Int) + 1) = ((P.length + (t + 1) : Nat) : Int) := by rw [wi64]; omega
    simp only [l51_0, l51_1, l51_2, l51_3, l51_4, g51_0, g51_1, g51_2, g51_3, g51_4, g51_5, g51_6, g51_7, g51_8, g51_9, g51_11, g51_10, g51_12, g51_13, g51_14, g51_15, g51_16, g51_17, g51_18, g51_19, g51_20, g51_21, g51_23, g51_22, g51_24, g51_25, g51_26, g51_27, g51_28, g51_29, g51_30, g51_31, g51_32, g51_33, g51_34, g51_35, g51_36, g51_37, g51_38, g51_39, g51_40, g51_41, g51_42, g51_43, g51_44, r51, o51, e6, f0, f10, f13, List.singleton_append, eES, Nat.reduceBEq, Int.reduceLE, Int.reduceLT, Int.reduceToNat, Int.reduceEq, ↓reduceIte, reduceCtorEq, Nat.reducePow, Nat.reduceAdd, Nat.reduceLeDiff, Nat.reduceLT, Nat.reduceSub, Nat.reduceEqDiff]
    by_cases hlt : t < j
    · have d0 : decide (((P.length + t : Nat) : Int) < ((P.length + j : Nat) : Int)) = true := by simp only [decide_eq_true_eq]; omega
      obtain ⟨y, hy⟩ : ∃ y, Y[t]? = some y := ⟨_, List.getElem?_eq_getElem (by omega)⟩
      have ey := eY y (List.mem_of_getElem? hy)
      have hdrop : Y.drop t = [y] ++ Y.drop (t + 1) := by
        rw [List.singleton_append, List.drop_eq_getElem_cons (by omega)]
        congr 1
        exact (List.getElem?_eq_some_iff.1 hy).2
      have htake : Y.take (t + 1) = Y.take t ++ [y] := by rw [List.take_add_one, hy] <;> rfl
      have hlt' : (Y.take t).length = t := by rw [List.length_take]; omega
      have g1 : (P ++ Y.take t ++ [x] ++ Y.drop t ++ S)[P.length + t]? = some x := by
        have := getE (P := P) (W := Y.take t) (u := x) (V := Y.drop t ++ S) (i := P.length + t) (by rw [hlt'])
        simpa only [List.append_assoc] using this
      have g2 : (P ++ Y.take t ++ [x] ++ Y.drop t ++ S)[P.length + (t + 1)]? = some y := by
        have := getE (P := P) (W := Y.take t ++ [x]) (u := y) (V := Y.drop (t + 1) ++ S) (i := P.length + (t + 1)) (by rw [List.length_append, hlt'] <;> rfl)
        rw [hdrop]
        simpa only [List.append_assoc] using this
      have g3 : ((P ++ Y.take t ++ [x] ++ Y.drop t ++ S).set (P.length + t) y)[P.length + (t + 1)]? = some y := by
        rw [List.getElem?_set_ne (by omega), g2]
      have hset : ((P ++ Y.take t ++ [x] ++ Y.drop t ++ S).set (P.length + t) y).set (P.length + (t + 1)) x = P ++ Y.take (t + 1) ++ [x] ++ Y.drop (t + 1) ++ S := by
        rw [hdrop, htake]
        simp [List.set_append, hlt']
      simp only [d0, e7, f0, f10, f13, iad hlv (show P.length + (t + 1) < N by omega), iad hlv (show P.length + t < N by omega), ldr hlv g1 ex, ldr hlv g2 ey, ex.len, ey.len, ex.leaf, ey.leaf, str1 hlv g1 ex ey (by decide), str1 hlv g3 ey ex (by decide), eES, Nat.reduceBEq, Int.reduceLE, Int.reduceLT, Int.reduceToNat, Int.reduceEq, ↓reduceIte, reduceCtorEq, Nat.reducePow, Nat.reduceAdd, Nat.reduceLeDiff, Nat.reduceLT, Nat.reduceSub, Nat.reduceEqDiff]
      exact ⟨j - (t + 1), by omega, _, t + 1, by rw [hset] <;> rfl, rfl, by omega, by simp only [f0, eES, Nat.reduceBEq, Int.reduceLE, Int.reduceLT, Int.reduceToNat, Int.reduceEq, ↓reduceIte, reduceCtorEq, Nat.reducePow, Nat.reduceAdd, Nat.reduceLeDiff, Nat.reduceLT, Nat.reduceSub, Nat.reduceEqDiff], by simp only [f10, eES, Nat.reduceBEq, Int.reduceLE, Int.reduceLT, Int.reduceToNat, Int.reduceEq, ↓reduceIte, reduceCtorEq, Nat.reducePow, Nat.reduceAdd, Nat.reduceLeDiff, Nat.reduceLT, Nat.reduceSub, Nat.reduceEqDiff], by simp only [eES, Nat.reduceBEq, Int.reduceLE, Int.reduceLT, Int.reduceToNat, Int.reduceEq, ↓reduceIte, reduceCtorEq, Nat.reducePow, Nat.reduceAdd, Nat.reduceLeDiff, Nat.reduceLT, Nat.reduceSub, Nat.reduceEqDiff]⟩
    · have d0 : decide (((P.length + t : Nat) : Int) < ((P.length + j : Nat) : Int)) = false := by simp only [decide_eq_false_iff_not]; omega
      have htj : t = j := by omega
      subst htj
      have hfin : P ++ Y.take t ++ [x] ++ Y.drop t ++ S = P ++ mg (lt c) [x] Y ++ S := by rw [hres]; simp
      simp only [d0, f0, f10, f13, hfin, put_len, eES, Nat.reduceBEq, Int.reduceLE, Int.reduceLT, Int.reduceToNat, Int.reduceEq, ↓reduceIte, reduceCtorEq, Nat.reducePow, Nat.reduceAdd, Nat.reduceLeDiff, Nat.reduceLT, Nat.reduceSub, Nat.reduceEqDiff]

end Go.Proofs.YtofcnjhnjagncaaGreat.Ta

/- A row that is sorted: two ranges merged, the second of one element. -/
set_option linter.unusedSimpArgs false
namespace Go.Proofs.YtofcnjhnjagncaaGreat.Ta
open Go Am Rc Bt So

variable {E : AV → Prop}

/-- The search of the place of y among X. -/
def SbS (m : Mem) (lv s g N : Nat) (kc : Nat) (c : AV → AV → Int) (P X S : List AV) (y : AV) (k : Nat) (st : St) : Prop :=
  ∃ f i j, st = ⟨f, [noObs] ++ Am.put m lv s (.vec g 4 (P ++ X ++ [y] ++ S)), []⟩ ∧ k = j - i ∧ i ≤ j ∧ j ≤ X.length ∧ (∀ k x, k < i → X[k]? = some x → lt c y x = false) ∧ (∀ k x, j ≤ k → X[k]? = some x → lt c y x = true) ∧
    f 0 = .vec (lv + 1) s g 0 N false ∧ f 2 = .int .i64 ((P.length + X.length : Nat) : Int) ∧ f 4 = .fn (.func kc) [] [] ∧ f 14 = .int .i64 ((P.length + i : Nat) : Int) ∧ f 15 = .int .i64 ((P.length + j : Nat) : Int)

/-- .. y brought there. -/
def SbT (m : Mem) (lv s g N i : Nat) (P X S : List AV) (y : AV) (k : Nat) (st : St) : Prop :=
  ∃ f t, st = ⟨f, [noObs] ++ Am.put m lv s (.vec g 4 (P ++ X.take t ++ [y] ++ X.drop t ++ S)), []⟩ ∧ k = t - i ∧ i ≤ t ∧ t ≤ X.length ∧
    f 0 = .vec (lv + 1) s g 0 N false ∧ f 14 = .int .i64 ((P.length + i : Nat) : Int) ∧ f 17 = .int .i64 ((P.length + t : Nat) : Int)

theorem symB {kc : Nat} {c : AV → AV → Int} (hc : Cp E kc c) (lv s g : Nat) (P X : List AV) (y : AV) (S : List AV) (m : Mem) (hl : Am.look m lv s = .vec g 4 (P ++ X ++ [y] ++ S)) (he : ∀ x ∈ P ++ X ++ [y] ++ S, Ez E 4 x)
    (hn : (P ++ X ++ [y] ++ S).length < 4611686018427387904) (hX : Srt (lt c) X) (hX1 : X.length ≠ 1) :
    ACalls Tryz.prog 51 [.vec lv s g 0 (P ++ X ++ [y] ++ S).length false, .int .i64 (P.length : Nat), .int .i64 ((P.length + X.length : Nat) : Int), .int .i64 ((P.length + X.length + 1 : Nat) : Int), .fn (.func kc) [] []] m
      (fun v m1 => v = .tup [] ∧ m1 = Am.put m lv s (.vec g 4 (P ++ mg (lt c) X [y] ++ S))) := by
  have hlv : lv < m.length := look_lt (by rw [hl]; simp)
  have hlen : (P ++ X ++ [y] ++ S).length = P.length + X.length + 1 + S.length := by simp only [List.length_append, List.length_singleton]
  have ey : Ez E 4 y := he y (by simp)
  have eX : ∀ x ∈ X, Ez E 4 x := fun x hx => he x (by simp [hx])
  refine acalls_of_awp (rc := r51) (rs := o51) Tryz.func51 rfl rfl Tryz.ntmps51 k51 q51 (by simp) ?_
  have e1 : (IntKind.i64.wrap (((P.length + X.length : Nat) : Int) - (P.length : Int)) == 1) = false := by rw [wi64]; simp only [beq_eq_false_iff_ne, ne_eq]; omega
  have e2 : (IntKind.i64.wrap (((P.length + X.length + 1 : Nat) : Int) - ((P.length + X.length : Nat) : Int)) == 1) = true := by rw [wi64]; simp only [beq_iff_eq]; omega
  simp only [g51_0, g51_1, g51_2, g51_3, g51_4, g51_5, g51_6, g51_7, g51_8, g51_9, g51_11, g51_10, g51_12, g51_13, g51_14, g51_15, g51_16, g51_17, g51_18, g51_19, g51_20, g51_21, g51_23, g51_22, g51_24, g51_25, g51_26, g51_27, g51_28, g51_29, g51_30, g51_31, g51_32, g51_33, g51_34, g51_35, g51_36, g51_37, g51_38, g51_39, g51_40, g51_41, g51_42, g51_43, g51_44, r51, o51, e1, e2, eES, Nat.reduceBEq, Int.reduceLE, Int.reduceLT, Int.reduceToNat, Int.reduceEq, ↓reduceIte, reduceCtorEq, Nat.reducePow, Nat.reduceAdd, Nat.reduceLeDiff, Nat.reduceLT, Nat.reduceSub, Nat.reduceEqDiff]
  have h0 : m = Am.put m lv s (.vec g 4 (P ++ X ++ [y] ++ S)) := (put_self hl).symm
  generalize hN : (P ++ X ++ [y] ++ S).length = N at *
  refine awp_loop (SbS m lv s g N kc c P X S y) _ ⟨_, 0, X.length, by rw [← h0] <;> rfl, rfl, Nat.zero_le _, Nat.le_refl _, (by intro k y hk; exact absurd hk (Nat.not_lt_zero _)), (by intro k y hk hy; rw [List.getElem?_eq_none hk] at hy; cases hy), by simp only [eES, Nat.reduceBEq, Int.reduceLE, Int.reduceLT, Int.reduceToNat, Int.reduceEq, ↓reduceIte, reduceCtorEq, Nat.reducePow, Nat.reduceAdd, Nat.reduceLeDiff, Nat.reduceLT, Nat.reduceSub, Nat.reduceEqDiff], by simp only [eES, Nat.reduceBEq, Int.reduceLE, Int.reduceLT, Int.reduceToNat, Int.reduceEq, ↓reduceIte, reduceCtorEq, Nat.reducePow, Nat.reduceAdd, Nat.reduceLeDiff, Nat.reduceLT, Nat.reduceSub, Nat.reduceEqDiff], by simp only [eES, Nat.reduceBEq, Int.reduceLE, Int.reduceLT, Int.reduceToNat, Int.reduceEq, ↓reduceIte, reduceCtorEq, Nat.reducePow, Nat.reduceAdd, Nat.reduceLeDiff, Nat.reduceLT, Nat.reduceSub, Nat.reduceEqDiff], by simp only [Nat.add_zero, eES, Nat.reduceBEq, Int.reduceLE, Int.reduceLT, Int.reduceToNat, Int.reduceEq, ↓reduceIte, reduceCtorEq, Nat.reducePow, Nat.reduceAdd, Nat.reduceLeDiff, Nat.reduceLT, Nat.reduceSub, Nat.reduceEqDiff], by simp only [eES, Nat.reduceBEq, Int.reduceLE, Int.reduceLT, Int.reduceToNat, Int.reduceEq, ↓reduceIte, reduceCtorEq, Nat.reducePow, Nat.reduceAdd, Nat.reduceLeDiff, Nat.reduceLT, Nat.reduceSub, Nat.reduceEqDiff]⟩ ?_
  clear h0 e1 e2
  rintro k st ⟨f, i, j, rfl, rfl, hij, hj, hp, hq, f0, f2, f4, f14, f15⟩
  simp only [l51_0, l51_1, l51_2, l51_3, l51_4, g51_0, g51_1, g51_2, g51_3, g51_4, g51_5, g51_6, g51_7, g51_8, g51_9, g51_11, g51_10, g51_12, g51_13, g51_14, g51_15, g51_16, g51_17, g51_18, g51_19, g51_20, g51_21, g51_23, g51_22, g51_24, g51_25, g51_26, g51_27, g51_28, g51_29, g51_30, g51_31, g51_32, g51_33, g51_34, g51_35, g51_36, g51_37, g51_38, g51_39, g51_40, g51_41, g51_42, g51_43, g51_44, r51, o51, f0, f2, f4, f14, f15, List.singleton_append, eES, Nat.reduceBEq, Int.reduceLE, Int.reduceLT, Int.reduceToNat, Int.reduceEq, ↓reduceIte, reduceCtorEq, Nat.reducePow, Nat.reduceAdd, Nat.reduceLeDiff, Nat.reduceLT, Nat.reduceSub, Nat.reduceEqDiff]
  by_cases hlt : i < j
  · have d0 : decide (((P.length + i : Nat) : Int) < ((P.length + j : Nat) : Int)) = true := by simp only [decide_eq_true_eq]; omega
    have e2 : IntKind.i64.wrap (((P.length + i : Nat) : Int) + ((P.length + j : Nat) : Int)) = (((P.length + i) + (P.length + j) : Nat) : Int) := by rw [wi64]; omega
    have e3 := half (P.length + i) (P.length + j) (by omega)
    have e4 : ((P.length + i) + (P.length + j)) / 2 = P.length + (i + j) / 2 := by omega
    rw [e4] at e3
    generalize hh : (i + j) / 2 = h at *
    have hh1 : h < j := by omega
    have hh2 : i ≤ h := by omega
    have e5 : IntKind.i64.wrap (((P.length + h : Nat) : Int) + 1) = ((P.length + (h + 1) : Nat) : Int) := by rw [wi64]; omega
    obtain ⟨x, hx⟩ : ∃ x, X[h]? = some x := ⟨_, List.getElem?_eq_getElem (by omega)⟩
    have ex := eX x (List.mem_of_getElem? hx)
    have gx : (P ++ X ++ [y] ++ S)[P.length + h]? = some x := by
      rw [List.append_assoc, List.append_assoc, List.getElem?_append_right (by omega), List.getElem?_append_left (by omega), ← hx]
      congr 1; omega
    have gy : (P ++ X ++ [y] ++ S)[P.length + X.length]? = some y := by
      have := getE (P := P) (W := X) (u := y) (V := S) (i := P.length + X.length) rfl
      simpa only [List.append_assoc] using this
    simp only [d0, e2, e3, f0, f2, f4, f14, f15, iad hlv (show P.length + h < N by omega), iad hlv (show P.length + X.length < N by omega), ldr hlv gy ey, ldr hlv gx ex, eES, Nat.reduceBEq, Int.reduceLE, Int.reduceLT, Int.reduceToNat, Int.reduceEq, ↓reduceIte, reduceCtorEq, Nat.reducePow, Nat.reduceAdd, Nat.reduceLeDiff, Nat.reduceLT, Nat.reduceSub, Nat.reduceEqDiff]
    refine aops_callP (by simp only [eES, Nat.reduceBEq, Int.reduceLE, Int.reduceLT, Int.reduceToNat, Int.reduceEq, ↓reduceIte, reduceCtorEq, Nat.reducePow, Nat.reduceAdd, Nat.reduceLeDiff, Nat.reduceLT, Nat.reduceSub, Nat.reduceEqDiff]) (hc.call y x ey ex) (still_two ey ex _) (rf_two ey ex) rfl (.inl (rf_two ey ex)) ?_
    cases hcx : decide (c y x < 0) with
    | true =>
      simp only [hcx, e5, f0, f2, f4, f14, f15, eES, Nat.reduceBEq, Int.reduceLE, Int.reduceLT, Int.reduceToNat, Int.reduceEq, ↓reduceIte, reduceCtorEq, Nat.reducePow, Nat.reduceAdd, Nat.reduceLeDiff, Nat.reduceLT, Nat.reduceSub, Nat.reduceEqDiff]
      exact ⟨h - i, by omega, _, i, h, rfl, rfl, by omega, by omega, hp, fun k z hk hz => by
        have := srt_le hX hc.sw hk hx hz
        cases hb : lt c y z with
        | true => rfl
        | false => exact absurd (hc.sw.nt y z x hb this) (by show ¬ (decide _ = false); rw [hcx]; simp), by simp only [f0, eES, Nat.reduceBEq, Int.reduceLE, Int.reduceLT, Int.reduceToNat, Int.reduceEq, ↓reduceIte, reduceCtorEq, Nat.reducePow, Nat.reduceAdd, Nat.reduceLeDiff, Nat.reduceLT, Nat.reduceSub, Nat.reduceEqDiff], by simp only [f2, eES, Nat.reduceBEq, Int.reduceLE, Int.reduceLT, Int.reduceToNat, Int.reduceEq, ↓reduceIte, reduceCtorEq, Nat.reducePow, Nat.reduceAdd, Nat.reduceLeDiff, Nat.reduceLT, Nat.reduceSub, Nat.reduceEqDiff], by simp only [f4, eES, Nat.reduceBEq, Int.reduceLE, Int.reduceLT, Int.reduceToNat, Int.reduceEq, ↓reduceIte, reduceCtorEq, Nat.reducePow, Nat.reduceAdd, Nat.reduceLeDiff, Nat.reduceLT, Nat.reduceSub, Nat.reduceEqDiff], by simp only [f14, eES, Nat.reduceBEq, Int.reduceLE, Int.reduceLT, Int.reduceToNat, Int.reduceEq, ↓reduceIte, reduceCtorEq, Nat.reducePow, Nat.reduceAdd, Nat.reduceLeDiff, Nat.reduceLT, Nat.reduceSub, Nat.reduceEqDiff], by simp only [eES, Nat.reduceBEq, Int.reduceLE, Int.reduceLT, Int.reduceToNat, Int.reduceEq, ↓reduceIte, reduceCtorEq, Nat.reducePow, Nat.reduceAdd, Nat.reduceLeDiff, Nat.reduceLT, Nat.reduceSub, Nat.reduceEqDiff]⟩
    | false =>
      simp only [hcx, e5, f0, f2, f4, f14, f15, eES, Nat.reduceBEq, Int.reduceLE, Int.reduceLT, Int.reduceToNat, Int.reduceEq, ↓reduceIte, reduceCtorEq, Nat.reducePow, Nat.reduceAdd, Nat.reduceLeDiff, Nat.reduceLT, Nat.reduceSub, Nat.reduceEqDiff]
      exact ⟨j - (h + 1), by omega, _, h + 1, j, rfl, rfl, by omega, hj, fun k z hk hz => hc.sw.nt y x z hcx (srt_le hX hc.sw (Nat.le_of_lt_succ hk) hz hx), hq, by simp only [f0, eES, Nat.reduceBEq, Int.reduceLE, Int.reduceLT, Int.reduceToNat, Int.reduceEq, ↓reduceIte, reduceCtorEq, Nat.reducePow, Nat.reduceAdd, Nat.reduceLeDiff, Nat.reduceLT, Nat.reduceSub, Nat.reduceEqDiff], by simp only [f2, eES, Nat.reduceBEq, Int.reduceLE, Int.reduceLT, Int.reduceToNat, Int.reduceEq, ↓reduceIte, reduceCtorEq, Nat.reducePow, Nat.reduceAdd, Nat.reduceLeDiff, Nat.reduceLT, Nat.reduceSub, Nat.reduceEqDiff], by simp only [f4, eES, Nat.reduceBEq, Int.reduceLE, Int.reduceLT, Int.reduceToNat, Int.reduceEq, ↓reduceIte, reduceCtorEq, Nat.reducePow, Nat.reduceAdd, Nat.reduceLeDiff, Nat.reduceLT, Nat.reduceSub, Nat.reduceEqDiff], by simp only [eES, Nat.reduceBEq, Int.reduceLE, Int.reduceLT, Int.reduceToNat, Int.reduceEq, ↓reduceIte, reduceCtorEq, Nat.reducePow, Nat.reduceAdd, Nat.reduceLeDiff, Nat.reduceLT, Nat.reduceSub, Nat.reduceEqDiff], by simp only [f15, eES, Nat.reduceBEq, Int.reduceLE, Int.reduceLT, Int.reduceToNat, Int.reduceEq, ↓reduceIte, reduceCtorEq, Nat.reducePow, Nat.reduceAdd, Nat.reduceLeDiff, Nat.reduceLT, Nat.reduceSub, Nat.reduceEqDiff]⟩
  · have d0 : decide (((P.length + i : Nat) : Int) < ((P.length + j : Nat) : Int)) = false := by simp only [decide_eq_false_iff_not]; omega
    have hij' : j = i := by omega
    subst hij'
    simp only [d0, f0, f2, f4, f14, f15, eES, Nat.reduceBEq, Int.reduceLE, Int.reduceLT, Int.reduceToNat, Int.reduceEq, ↓reduceIte, reduceCtorEq, Nat.reducePow, Nat.reduceAdd, Nat.reduceLeDiff, Nat.reduceLT, Nat.reduceSub, Nat.reduceEqDiff]
    have hres : mg (lt c) X [y] = X.take j ++ y :: X.drop j := by
      have := mg_right (lt := lt c) (y := y) (X1 := X.take j) (X2 := X.drop j) (fun x hx => by
        obtain ⟨k, hk⟩ := List.getElem?_of_mem hx
        rw [List.getElem?_take] at hk
        split at hk
        · rename_i h; exact hp k x h hk
        · cases hk) (fun x hx => by
        obtain ⟨k, hk⟩ := List.getElem?_of_mem hx
        rw [List.getElem?_drop] at hk
        exact hq _ x (by omega) hk)
      rwa [List.take_append_drop] at this
    refine awp_loop (SbT m lv s g N j P X S y) _ ⟨_, X.length, by rw [show P ++ X.take X.length ++ [y] ++ X.drop X.length ++ S = P ++ X ++ [y] ++ S by simp] <;> rfl, rfl, hj, Nat.le_refl _, by simp only [f0, eES, Nat.reduceBEq, Int.reduceLE, Int.reduceLT, Int.reduceToNat, Int.reduceEq, ↓reduceIte, reduceCtorEq, Nat.reducePow, Nat.reduceAdd, Nat.reduceLeDiff, Nat.reduceLT, Nat.reduceSub, Nat.reduceEqDiff], by simp only [f14, eES, Nat.reduceBEq, Int.reduceLE, Int.reduceLT, Int.reduceToNat, Int.reduceEq, ↓reduceIte, reduceCtorEq, Nat.reducePow, Nat.reduceAdd, Nat.reduceLeDiff, Nat.reduceLT, Nat.reduceSub, Nat.reduceEqDiff], by simp only [eES, Nat.reduceBEq, Int.reduceLE, Int.reduceLT, Int.reduceToNat, Int.reduceEq, ↓reduceIte, reduceCtorEq, Nat.reducePow, Nat.reduceAdd, Nat.reduceLeDiff, Nat.reduceLT, Nat.reduceSub, Nat.reduceEqDiff]⟩ ?_
    clear f0 f2 f4 f14 f15 d0 hp hq f
    rintro k st ⟨f, t, rfl, rfl, ht, htl, f0, f14, f17⟩
    simp only [l51_0, l51_1, l51_2, l51_3, l51_4, g51_0, g51_1, g51_2, g51_3, g51_4, g51_5, g51_6, g51_7, g51_8, g51_9, g51_11, g51_10, g51_12, g51_13, g51_14, g51_15, g51_16, g51_17, g51_18, g51_19, g51_20, g51_21, g51_23, g51_22, g51_24, g51_25, g51_26, g51_27, g51_28, g51_29, g51_30, g51_31, g51_32, g51_33, g51_34, g51_35, g51_36, g51_37, g51_38, g51_39, g51_40, g51_41, g51_42, g51_43, g51_44, r51, o51, f0, f14, f17, List.singleton_append, eES, Nat.reduceBEq, Int.reduceLE, Int.reduceLT, Int.reduceToNat, Int.reduceEq, ↓reduceIte, reduceCtorEq, Nat.reducePow, Nat.reduceAdd, Nat.reduceLeDiff, Nat.reduceLT, Nat.reduceSub, Nat.reduceEqDiff]
    by_cases hlt : j < t
    · have d0 : decide (((P.length + t : Nat) : Int) > ((P.length + j : Nat) : Int)) = true := by simp only [decide_eq_true_eq]; omega
      obtain ⟨r, rfl⟩ : ∃ r, t = r + 1 := ⟨t - 1, by omega⟩
      have e7 : IntKind.i64.wrap (((P.length + (r + 1) : Nat) : Int) - 1) = ((P.length + r : Nat) : Int) := by rw [wi64]; omega
      obtain ⟨x, hx⟩ : ∃ x, X[r]? = some x := ⟨_, List.getElem?_eq_getElem (by omega)⟩
      have ex := eX x (List.mem_of_getElem? hx)
      have hdrop : X.drop r = [x] ++ X.drop (r + 1) := by
        rw [List.singleton_append, List.drop_eq_getElem_cons (by omega)]
        congr 1
        exact (List.getElem?_eq_some_iff.1 hx).2
      have htake : X.take (r + 1) = X.take r ++ [x] := by rw [List.take_add_one, hx] <;> rfl
      have hlt' : (X.take r).length = r := by rw [List.length_take]; omega
      have g1 : (P ++ X.take (r + 1) ++ [y] ++ X.drop (r + 1) ++ S)[P.length + r]? = some x := by
        have := getE (P := P) (W := X.take r) (u := x) (V := [y] ++ X.drop (r + 1) ++ S) (i := P.length + r) (by rw [hlt'])
        rw [htake]
        simpa only [List.append_assoc] using this
      have g2 : (P ++ X.take (r + 1) ++ [y] ++ X.drop (r + 1) ++ S)[P.length + (r + 1)]? = some y := by
        have := getE (P := P) (W := X.take (r + 1)) (u := y) (V := X.drop (r + 1) ++ S) (i := P.length + (r + 1)) (by rw [List.length_take]; omega)
        simpa only [List.append_assoc] using this
      have g3 : ((P ++ X.take (r + 1) ++ [y] ++ X.drop (r + 1) ++ S).set (P.length + (r + 1)) x)[P.length + r]? = some x := by
        rw [List.getElem?_set_ne (by omega), g1]
      have hset : ((P ++ X.take (r + 1) ++ [y] ++ X.drop (r + 1) ++ S).set (P.length + (r + 1)) x).set (P.length + r) y = P ++ X.take r ++ [y] ++ X.drop r ++ S := by
        rw [hdrop, htake]
        simp [List.set_append, hlt']
      simp only [d0, e7, f0, f14, f17, iad hlv (show P.length + (r + 1) < N by omega), iad hlv (show P.length + r < N by omega), ldr hlv g1 ex, ldr hlv g2 ey, ex.len, ey.len, ex.leaf, ey.leaf, str1 hlv g2 ey ex (by decide), str1 hlv g3 ex ey (by decide), eES, Nat.reduceBEq, Int.reduceLE, Int.reduceLT, Int.reduceToNat, Int.reduceEq, ↓reduceIte, reduceCtorEq, Nat.reducePow, Nat.reduceAdd, Nat.reduceLeDiff, Nat.reduceLT, Nat.reduceSub, Nat.reduceEqDiff]
      exact ⟨r - j, by omega, _, r, by rw [hset] <;> rfl, rfl, by omega, by omega, by simp only [f0, eES, Nat.reduceBEq, Int.reduceLE, Int.reduceLT, Int.reduceToNat, Int.reduceEq, ↓reduceIte, reduceCtorEq, Nat.reducePow, Nat.reduceAdd, Nat.reduceLeDiff, Nat.reduceLT, Nat.reduceSub, Nat.reduceEqDiff], by simp only [f14, eES, Nat.reduceBEq, Int.reduceLE, Int.reduceLT, Int.reduceToNat, Int.reduceEq, ↓reduceIte, reduceCtorEq, Nat.reducePow, Nat.reduceAdd, Nat.reduceLeDiff, Nat.reduceLT, Nat.reduceSub, Nat.reduceEqDiff], by simp only [eES, Nat.reduceBEq, Int.reduceLE, Int.reduceLT, Int.reduceToNat, Int.reduceEq, ↓reduceIte, reduceCtorEq, Nat.reducePow, Nat.reduceAdd, Nat.reduceLeDiff, Nat.reduceLT, Nat.reduceSub, Nat.reduceEqDiff]⟩
    · have d0 : decide (((P.length + t : Nat) : Int) > ((P.length + j : Nat) : Int)) = false := by simp only [decide_eq_false_iff_not]; omega
      have htj : t = j := by omega
      subst htj
      have hfin : P ++ X.take t ++ [y] ++ X.drop t ++ S = P ++ mg (lt c) X [y] ++ S := by rw [hres]; simp
      simp only [d0, f0, f14, f17, hfin, put_len, eES, Nat.reduceBEq, Int.reduceLE, Int.reduceLT, Int.reduceToNat, Int.reduceEq, ↓reduceIte, reduceCtorEq, Nat.reducePow, Nat.reduceAdd, Nat.reduceLeDiff, Nat.reduceLT, Nat.reduceSub, Nat.reduceEqDiff]

end Go.Proofs.YtofcnjhnjagncaaGreat.Ta

/- A row that is sorted: two ranges merged. -/
set_option linter.unusedSimpArgs false
namespace Go.Proofs.YtofcnjhnjagncaaGreat.Ta
open Go Am Rc Bt So

variable {E : AV → Prop}

/-- .. as a callee's frame sees it: rotating. -/
theorem ro_call (cmp : AV) {fr : Nat → Ob} {lv s g N a b n : Nat} (P X Y S : List AV) {m : Mem} (hlv : lv < m.length) (hX : 0 < X.length) (hY : 0 < Y.length) (he : ∀ x ∈ P ++ X ++ Y ++ S, Ez E 4 x)
    (hn : (P ++ X ++ Y ++ S).length < 4611686018427387904) (hN : N = (P ++ X ++ Y ++ S).length) (ha : a = P.length) (hb : b = P.length + X.length) (hc : n = P.length + X.length + Y.length) :
    ACalls Tryz.prog 75 [.vec (lv + 1) s g 0 N false, .int .i64 (a : Nat), .int .i64 (b : Nat), .int .i64 (n : Nat), cmp] (fr :: Am.put m lv s (.vec g 4 (P ++ X ++ Y ++ S)))
      (fun x m1 => x = .tup [] ∧ m1 = fr :: Am.put m lv s (.vec g 4 (P ++ Y ++ X ++ S))) := by
  subst hN ha hb hc
  refine (c75 cmp (lv + 1) s g P X Y S (fr :: Am.put m lv s (.vec g 4 (P ++ X ++ Y ++ S))) (look_put_same (m := m) hlv) hX hY he hn).mono fun x m1 h => ⟨h.1, ?_⟩
  rw [h.2]
  simp only [Am.put, put_put]

/-- What merging does, of so many elements. -/
def SymOk (E : AV → Prop) (kc : Nat) (c : AV → AV → Int) (n : Nat) : Prop :=
  ∀ (lv s g : Nat) (P X Y S : List AV) (m : Mem), X.length + Y.length = n → 0 < X.length → 0 < Y.length → Am.look m lv s = .vec g 4 (P ++ X ++ Y ++ S) → (∀ x ∈ P ++ X ++ Y ++ S, Ez E 4 x) →
    (P ++ X ++ Y ++ S).length < 4611686018427387904 → Srt (lt c) X → Srt (lt c) Y →
    ACalls Tryz.prog 51 [.vec lv s g 0 (P ++ X ++ Y ++ S).length false, .int .i64 (P.length : Nat), .int .i64 ((P.length + X.length : Nat) : Int), .int .i64 ((P.length + X.length + Y.length : Nat) : Int), .fn (.func kc) [] []] m
      (fun v m1 => v = .tup [] ∧ m1 = Am.put m lv s (.vec g 4 (P ++ mg (lt c) X Y ++ S)))

theorem sym_call {kc : Nat} {c : AV → AV → Int} {n : Nat} (h : SymOk E kc c n) {fr : Nat → Ob} {lv s g N a b e : Nat} (P X Y S : List AV) {m : Mem} (hlv : lv < m.length) (hXY : X.length + Y.length = n) (hX : 0 < X.length) (hY : 0 < Y.length) (he : ∀ x ∈ P ++ X ++ Y ++ S, Ez E 4 x)
    (hn : (P ++ X ++ Y ++ S).length < 4611686018427387904) (sX : Srt (lt c) X) (sY : Srt (lt c) Y) (hN : N = (P ++ X ++ Y ++ S).length) (ha : a = P.length) (hb : b = P.length + X.length) (hc : e = P.length + X.length + Y.length) :
    ACalls Tryz.prog 51 [.vec (lv + 1) s g 0 N false, .int .i64 (a : Nat), .int .i64 (b : Nat), .int .i64 (e : Nat), .fn (.func kc) [] []] (fr :: Am.put m lv s (.vec g 4 (P ++ X ++ Y ++ S)))
      (fun x m1 => x = .tup [] ∧ m1 = fr :: Am.put m lv s (.vec g 4 (P ++ mg (lt c) X Y ++ S))) := by
  subst hN ha hb hc
  refine (h (lv + 1) s g P X Y S (fr :: Am.put m lv s (.vec g 4 (P ++ X ++ Y ++ S))) hXY hX hY (look_put_same (m := m) hlv) he hn sX sY).mono fun x m1 h => ⟨h.1, ?_⟩
  rw [h.2]
  simp only [Am.put, put_put]

/-- The search of the place where both fall in two. -/
def ScS (m : Mem) (lv s g N mid s0 r0 : Nat) (kc : Nat) (c : AV → AV → Int) (P X Y S : List AV) (k : Nat) (st : St) : Prop :=
  ∃ f i j, st = ⟨f, [noObs] ++ Am.put m lv s (.vec g 4 (P ++ X ++ Y ++ S)), []⟩ ∧ k = j - i ∧ s0 ≤ i ∧ i ≤ j ∧ j ≤ r0 ∧
    (∀ k x y, s0 ≤ k → k < i → X[k - P.length]? = some x → Y[mid - 1 - k]? = some y → lt c y x = false) ∧ (∀ k x y, j ≤ k → k < r0 → X[k - P.length]? = some x → Y[mid - 1 - k]? = some y → lt c y x = true) ∧
    f 0 = .vec (lv + 1) s g 0 N false ∧ f 1 = .int .i64 (P.length : Nat) ∧ f 2 = .int .i64 ((P.length + X.length : Nat) : Int) ∧ f 3 = .int .i64 ((P.length + X.length + Y.length : Nat) : Int) ∧ f 4 = .fn (.func kc) [] [] ∧
    f 18 = .int .i64 (mid : Nat) ∧ f 19 = .int .i64 ((mid + (P.length + X.length) : Nat) : Int) ∧ f 22 = .int .i64 ((mid + (P.length + X.length) - 1 : Nat) : Int) ∧ f 20 = .int .i64 (i : Nat) ∧ f 21 = .int .i64 (j : Nat)

theorem two_fall {c : AV → AV → Int} (hsw : SW (lt c)) {X Y : List AV} {p mid t : Nat} {s0 r0 : Nat} (sX : Srt (lt c) X) (sY : Srt (lt c) Y) (h1 : s0 ≤ t) (h2 : t ≤ r0) (hp : p ≤ t) (htm : t ≤ mid) (hr : r0 = mid ∨ r0 = p + X.length) (hs : mid - s0 ≥ Y.length ∨ s0 = p) (hs2 : mid - s0 ≤ Y.length) (hr2 : r0 ≤ p + X.length)
    (hlow : ∀ k x y, s0 ≤ k → k < t → X[k - p]? = some x → Y[mid - 1 - k]? = some y → lt c y x = false) (hhigh : ∀ k x y, t ≤ k → k < r0 → X[k - p]? = some x → Y[mid - 1 - k]? = some y → lt c y x = true) :
    mg (lt c) X Y = mg (lt c) (X.take (t - p)) (Y.take (mid - t)) ++ mg (lt c) (X.drop (t - p)) (Y.drop (mid - t)) := by
  have key := mg_split (lt := lt c) _ (X.take (t - p)) (Y.take (mid - t)) (X.drop (t - p)) (Y.drop (mid - t)) rfl ?_ ?_
  · rwa [List.take_append_drop, List.take_append_drop] at key
  · intro y hy x hx
    obtain ⟨k, hk⟩ := List.getElem?_of_mem hy
    obtain ⟨l, hl⟩ := List.getElem?_of_mem hx
    rw [List.getElem?_take] at hk
    split at hk
    · rename_i hkt
      rw [List.getElem?_drop] at hl
      have hlX : t - p + l < X.length := (List.getElem?_eq_some_iff.1 hl).1
      have hkY : k < Y.length := (List.getElem?_eq_some_iff.1 hk).1
      have htr : t < r0 := by rcases hr with h | h <;> omega
      by_cases hY2 : mid - 1 - t < Y.length
      · obtain ⟨x0, hx0⟩ : ∃ x, X[t - p]? = some x := ⟨_, List.getElem?_eq_getElem (by omega)⟩
        obtain ⟨y0, hy0⟩ : ∃ y, Y[mid - 1 - t]? = some y := ⟨_, List.getElem?_eq_getElem hY2⟩
        have h0 := hhigh t x0 y0 (Nat.le_refl _) htr hx0 hy0
        have h3 := srt_mono hsw sY (show k ≤ mid - 1 - t by omega) hk hy0 h0
        have h4 := srt_le sX hsw (show t - p ≤ t - p + l by omega) hx0 hl
        cases hb : lt c y x with
        | true => rfl
        | false =>
          have := hsw.nt y x x0 hb h4
          rw [h3] at this; cases this
      · exfalso
        omega
    · cases hk
  · intro x hx y hy
    obtain ⟨k, hk⟩ := List.getElem?_of_mem hy
    obtain ⟨l, hl⟩ := List.getElem?_of_mem hx
    rw [List.getElem?_take] at hl
    split at hl
    · rename_i hlt
      rw [List.getElem?_drop] at hk
      have hkY : mid - t + k < Y.length := (List.getElem?_eq_some_iff.1 hk).1
      have hlX : l < X.length := (List.getElem?_eq_some_iff.1 hl).1
      have hst : s0 < t := by rcases hs with h | h <;> omega
      by_cases hX2 : t - 1 - p < X.length
      · obtain ⟨x0, hx0⟩ : ∃ x, X[t - 1 - p]? = some x := ⟨_, List.getElem?_eq_getElem hX2⟩
        obtain ⟨y0, hy0⟩ : ∃ y, Y[mid - 1 - (t - 1)]? = some y := ⟨_, List.getElem?_eq_getElem (by omega)⟩
        have h0 := hlow (t - 1) x0 y0 (by omega) (by omega) hx0 hy0
        have h3 := srt_le sX hsw (show l ≤ t - 1 - p by omega) hl hx0
        have h4 : lt c y x0 = false := by
          cases hb : lt c y x0 with
          | false => rfl
          | true =>
            have := srt_mono hsw sY (show mid - 1 - (t - 1) ≤ mid - t + k by omega) hy0 hk hb
            rw [h0] at this; cases this
        exact hsw.nt y x0 x h4 h3
      · exfalso
        omega
    · cases hl

section
variable {kc : Nat} {c : AV → AV → Int} {nn lv s g N : Nat} {P X1 X2 Y1 Y2 S : List AV} {m : Mem} {f : Fr}

/-- What is left to do: the second halves. -/
theorem tail3 (ih : ∀ n, n < nn → SymOk E kc c n) (hnn : X2.length + Y2.length < nn) (hlv : lv < m.length) (he : ∀ x ∈ P ++ X2 ++ Y2 ++ S, Ez E 4 x) (hN : N = (P ++ X2 ++ Y2 ++ S).length) (hn : N < 4611686018427387904)
    (sX : Srt (lt c) X2) (sY : Srt (lt c) Y2) (f0 : f 0 = .vec (lv + 1) s g 0 N false) (f3 : f 3 = .int .i64 ((P.length + X2.length + Y2.length : Nat) : Int)) (f4 : f 4 = .fn (.func kc) [] []) (f18 : f 18 = .int .i64 (P.length : Nat)) (f24 : f 24 = .int .i64 ((P.length + X2.length : Nat) : Int)) :
    awp Tryz.prog (.seq (.reg g51_43) (.cond (.t 213) (.reg g51_44) (.skip))) ⟨f, noObs :: Am.put m lv s (.vec g 4 (P ++ X2 ++ Y2 ++ S)), []⟩
      (AEnds o51 m.length (fun v m1 => v = .tup [] ∧ m1 = Am.put m lv s (.vec g 4 (P ++ mg (lt c) X2 Y2 ++ S)))) := by
  simp only [g51_0, g51_1, g51_2, g51_3, g51_4, g51_5, g51_6, g51_7, g51_8, g51_9, g51_11, g51_10, g51_12, g51_13, g51_14, g51_15, g51_16, g51_17, g51_18, g51_19, g51_20, g51_21, g51_23, g51_22, g51_24, g51_25, g51_26, g51_27, g51_28, g51_29, g51_30, g51_31, g51_32, g51_33, g51_34, g51_35, g51_36, g51_37, g51_38, g51_39, g51_40, g51_41, g51_42, g51_43, g51_44, r51, o51, f0, f3, f4, f18, f24, eES, Nat.reduceBEq, Int.reduceLE, Int.reduceLT, Int.reduceToNat, Int.reduceEq, ↓reduceIte, reduceCtorEq, Nat.reducePow, Nat.reduceAdd, Nat.reduceLeDiff, Nat.reduceLT, Nat.reduceSub, Nat.reduceEqDiff]
  by_cases h1 : 0 < X2.length
  · have d1 : decide ((P.length : Int) < ((P.length + X2.length : Nat) : Int)) = true := by simp only [decide_eq_true_eq]; omega
    by_cases h2 : 0 < Y2.length
    · have d2 : decide (((P.length + X2.length : Nat) : Int) < ((P.length + X2.length + Y2.length : Nat) : Int)) = true := by simp only [decide_eq_true_eq]; omega
      simp only [d1, d2, f0, f3, f4, f18, f24, eES, Nat.reduceBEq, Int.reduceLE, Int.reduceLT, Int.reduceToNat, Int.reduceEq, ↓reduceIte, reduceCtorEq, Nat.reducePow, Nat.reduceAdd, Nat.reduceLeDiff, Nat.reduceLT, Nat.reduceSub, Nat.reduceEqDiff]
      refine aops_callF (sym_call (ih _ hnn) P X2 Y2 S hlv rfl h1 h2 he (by omega) sX sY hN rfl rfl rfl) rfl ?_
      simp only [put_len, eES, Nat.reduceBEq, Int.reduceLE, Int.reduceLT, Int.reduceToNat, Int.reduceEq, ↓reduceIte, reduceCtorEq, Nat.reducePow, Nat.reduceAdd, Nat.reduceLeDiff, Nat.reduceLT, Nat.reduceSub, Nat.reduceEqDiff]
    · have d2 : decide (((P.length + X2.length : Nat) : Int) < ((P.length + X2.length + Y2.length : Nat) : Int)) = false := by simp only [decide_eq_false_iff_not]; omega
      have hy : Y2 = [] := List.eq_nil_of_length_eq_zero (by omega)
      have hfin : P ++ X2 ++ Y2 ++ S = P ++ mg (lt c) X2 Y2 ++ S := by rw [hy, mg_nil]; simp
      simp only [d1, d2, f0, f3, f4, f18, f24, hfin, put_len, eES, Nat.reduceBEq, Int.reduceLE, Int.reduceLT, Int.reduceToNat, Int.reduceEq, ↓reduceIte, reduceCtorEq, Nat.reducePow, Nat.reduceAdd, Nat.reduceLeDiff, Nat.reduceLT, Nat.reduceSub, Nat.reduceEqDiff]
  · have d1 : decide ((P.length : Int) < ((P.length + X2.length : Nat) : Int)) = false := by simp only [decide_eq_false_iff_not]; omega
    have hx : X2 = [] := List.eq_nil_of_length_eq_zero (by omega)
    have hfin : P ++ X2 ++ Y2 ++ S = P ++ mg (lt c) X2 Y2 ++ S := by rw [hx, nil_mg]; simp
    simp only [d1, f0, f3, f4, f18, f24, hfin, put_len, eES, Nat.reduceBEq, Int.reduceLE, Int.reduceLT, Int.reduceToNat, Int.reduceEq, ↓reduceIte, reduceCtorEq, Nat.reducePow, Nat.reduceAdd, Nat.reduceLeDiff, Nat.reduceLT, Nat.reduceSub, Nat.reduceEqDiff]

/-- .. both. -/
theorem tail2 (ih : ∀ n, n < nn → SymOk E kc c n) (hn1 : X1.length + Y1.length < nn) (hn2 : X2.length + Y2.length < nn) (hlv : lv < m.length) (he : ∀ x ∈ P ++ X1 ++ Y1 ++ (X2 ++ Y2 ++ S), Ez E 4 x) (hN : N = (P ++ X1 ++ Y1 ++ (X2 ++ Y2 ++ S)).length) (hn : N < 4611686018427387904)
    (sX1 : Srt (lt c) X1) (sY1 : Srt (lt c) Y1) (sX : Srt (lt c) X2) (sY : Srt (lt c) Y2) (f0 : f 0 = .vec (lv + 1) s g 0 N false) (f1 : f 1 = .int .i64 (P.length : Nat)) (f3 : f 3 = .int .i64 ((P.length + X1.length + Y1.length + X2.length + Y2.length : Nat) : Int)) (f4 : f 4 = .fn (.func kc) [] []) (f18 : f 18 = .int .i64 ((P.length + X1.length + Y1.length : Nat) : Int)) (f20 : f 20 = .int .i64 ((P.length + X1.length : Nat) : Int)) (f24 : f 24 = .int .i64 ((P.length + X1.length + Y1.length + X2.length : Nat) : Int)) :
    awp Tryz.prog (.seq (.seq (.reg g51_41) (.cond (.t 199) (.reg g51_42) (.skip))) (.seq (.reg g51_43) (.cond (.t 213) (.reg g51_44) (.skip)))) ⟨f, noObs :: Am.put m lv s (.vec g 4 (P ++ X1 ++ Y1 ++ (X2 ++ Y2 ++ S))), []⟩
      (AEnds o51 m.length (fun v m1 => v = .tup [] ∧ m1 = Am.put m lv s (.vec g 4 (P ++ (mg (lt c) X1 Y1 ++ mg (lt c) X2 Y2) ++ S)))) := by
  have hlm : (mg (lt c) X1 Y1).length = X1.length + Y1.length := len_mg _ _ _ rfl
  have hlen : N = P.length + X1.length + Y1.length + X2.length + Y2.length + S.length := by rw [hN]; simp only [List.length_append]; omega
  have hem : ∀ x ∈ P ++ mg (lt c) X1 Y1 ++ X2 ++ Y2 ++ S, Ez E 4 x := by
    intro x hx
    refine he x ?_
    simp only [List.mem_append] at hx ⊢
    rcases hx with (((hx | hx) | hx) | hx) | hx
    · exact .inl (.inl (.inl hx))
    · exact (mem_mg _ _ _ rfl hx).elim (fun h => .inl (.inl (.inr h))) (fun h => .inl (.inr h))
    · exact .inr (.inl (.inl hx))
    · exact .inr (.inl (.inr hx))
    · exact .inr (.inr hx)
  have go : ∀ f : Fr, f 0 = .vec (lv + 1) s g 0 N false → f 3 = .int .i64 ((P.length + X1.length + Y1.length + X2.length + Y2.length : Nat) : Int) → f 4 = .fn (.func kc) [] [] → f 18 = .int .i64 ((P.length + X1.length + Y1.length : Nat) : Int) → f 24 = .int .i64 ((P.length + X1.length + Y1.length + X2.length : Nat) : Int) →
      awp Tryz.prog (.seq (.reg g51_43) (.cond (.t 213) (.reg g51_44) (.skip))) ⟨f, noObs :: Am.put m lv s (.vec g 4 (P ++ mg (lt c) X1 Y1 ++ (X2 ++ Y2 ++ S))), []⟩
      (AEnds o51 m.length (fun v m1 => v = .tup [] ∧ m1 = Am.put m lv s (.vec g 4 (P ++ (mg (lt c) X1 Y1 ++ mg (lt c) X2 Y2) ++ S)))) := by
    intro f f0 f3 f4 f18 f24
    have hpl : (P ++ mg (lt c) X1 Y1).length = P.length + X1.length + Y1.length := by rw [List.length_append, hlm]; omega
    have := tail3 (P := P ++ mg (lt c) X1 Y1) (X2 := X2) (Y2 := Y2) (S := S) (m := m) (f := f) (g := g) (s := s) ih hn2 hlv hem (by rw [hlen]; simp only [List.length_append, hlm]; omega) hn sX sY f0 (by rw [hpl]; exact f3) f4 (by rw [hpl]; exact f18) (by rw [hpl]; exact f24)
    rw [show P ++ mg (lt c) X1 Y1 ++ (X2 ++ Y2 ++ S) = P ++ mg (lt c) X1 Y1 ++ X2 ++ Y2 ++ S by simp only [List.append_assoc], show P ++ (mg (lt c) X1 Y1 ++ mg (lt c) X2 Y2) ++ S = P ++ mg (lt c) X1 Y1 ++ mg (lt c) X2 Y2 ++ S by simp only [List.append_assoc]]
    exact this
  rw [e_seq, e_seq]
  simp only [g51_41, g51_42, f0, f1, f4, f18, f20, e_reg, e_kc_n, e_nil, e_val, e_vget, e_isV, e_upd, e_g, e_gsel_t, e_gsel_f, e_gsel_tf, e_gsel_ft, e_gsel_n, e_t, e_c, e_f, e_cond, e_csel_t, e_csel_f, e_bget, e_isB, vop, abin, aint, cond_true, cond_false, true_and, and_true, ↓reduceIte, Option.getD_some, e_nbeq, Nat.reduceBEq, upd_upd]
  by_cases h1 : 0 < X1.length
  · have d1 : decide ((P.length : Int) < ((P.length + X1.length : Nat) : Int)) = true := by simp only [decide_eq_true_eq]; omega
    by_cases h2 : 0 < Y1.length
    · have d2 : decide (((P.length + X1.length : Nat) : Int) < ((P.length + X1.length + Y1.length : Nat) : Int)) = true := by simp only [decide_eq_true_eq]; omega
      simp only [d1, d2, f0, f1, f4, f18, f20, e_reg, e_kc_n, e_nil, e_val, e_vget, e_isV, e_upd, e_g, e_gsel_t, e_gsel_f, e_gsel_tf, e_gsel_ft, e_gsel_n, e_t, e_c, e_f, e_cond, e_csel_t, e_csel_f, e_bget, e_isB, vop, abin, aint, cond_true, cond_false, true_and, and_true, ↓reduceIte, Option.getD_some, e_nbeq, Nat.reduceBEq, upd_upd]
      refine aops_callF (sym_call (ih _ hn1) P X1 Y1 (X2 ++ Y2 ++ S) hlv rfl h1 h2 he (by omega) sX1 sY1 hN rfl rfl rfl) rfl ?_
      rw [e_nil, e_kc_n]
      refine go _ ?_ ?_ ?_ ?_ ?_
      · simp only [f0, eES, Nat.reduceBEq, Int.reduceLE, Int.reduceLT, Int.reduceToNat, Int.reduceEq, ↓reduceIte, reduceCtorEq, Nat.reducePow, Nat.reduceAdd, Nat.reduceLeDiff, Nat.reduceLT, Nat.reduceSub, Nat.reduceEqDiff]
      · simp only [f3, eES, Nat.reduceBEq, Int.reduceLE, Int.reduceLT, Int.reduceToNat, Int.reduceEq, ↓reduceIte, reduceCtorEq, Nat.reducePow, Nat.reduceAdd, Nat.reduceLeDiff, Nat.reduceLT, Nat.reduceSub, Nat.reduceEqDiff]
      · simp only [f4, eES, Nat.reduceBEq, Int.reduceLE, Int.reduceLT, Int.reduceToNat, Int.reduceEq, ↓reduceIte, reduceCtorEq, Nat.reducePow, Nat.reduceAdd, Nat.reduceLeDiff, Nat.reduceLT, Nat.reduceSub, Nat.reduceEqDiff]
      · simp only [f18, eES, Nat.reduceBEq, Int.reduceLE, Int.reduceLT, Int.reduceToNat, Int.reduceEq, ↓reduceIte, reduceCtorEq, Nat.reducePow, Nat.reduceAdd, Nat.reduceLeDiff, Nat.reduceLT, Nat.reduceSub, Nat.reduceEqDiff]
      · simp only [f24, eES, Nat.reduceBEq, Int.reduceLE, Int.reduceLT, Int.reduceToNat, Int.reduceEq, ↓reduceIte, reduceCtorEq, Nat.reducePow, Nat.reduceAdd, Nat.reduceLeDiff, Nat.reduceLT, Nat.reduceSub, Nat.reduceEqDiff]
    · have d2 : decide (((P.length + X1.length : Nat) : Int) < ((P.length + X1.length + Y1.length : Nat) : Int)) = false := by simp only [decide_eq_false_iff_not]; omega
      have hy : Y1 = [] := List.eq_nil_of_length_eq_zero (by omega)
      have hres : mg (lt c) X1 Y1 = X1 ++ Y1 := by rw [hy, mg_nil, List.append_nil]
      rw [hres, ← List.append_assoc P X1 Y1] at go
      simp only [d1, d2, hres, f0, f1, f4, f18, f20, e_reg, e_kc_n, e_nil, e_val, e_vget, e_isV, e_upd, e_g, e_gsel_t, e_gsel_f, e_gsel_tf, e_gsel_ft, e_gsel_n, e_t, e_c, e_f, e_cond, e_csel_t, e_csel_f, e_skip, e_bget, e_isB, vop, abin, aint, cond_true, cond_false, true_and, and_true, ↓reduceIte, Option.getD_some, e_nbeq, Nat.reduceBEq, upd_upd]
      refine go _ ?_ ?_ ?_ ?_ ?_
      · simp only [f0, eES, Nat.reduceBEq, Int.reduceLE, Int.reduceLT, Int.reduceToNat, Int.reduceEq, ↓reduceIte, reduceCtorEq, Nat.reducePow, Nat.reduceAdd, Nat.reduceLeDiff, Nat.reduceLT, Nat.reduceSub, Nat.reduceEqDiff]
      · simp only [f3, eES, Nat.reduceBEq, Int.reduceLE, Int.reduceLT, Int.reduceToNat, Int.reduceEq, ↓reduceIte, reduceCtorEq, Nat.reducePow, Nat.reduceAdd, Nat.reduceLeDiff, Nat.reduceLT, Nat.reduceSub, Nat.reduceEqDiff]
      · simp only [f4, eES, Nat.reduceBEq, Int.reduceLE, Int.reduceLT, Int.reduceToNat, Int.reduceEq, ↓reduceIte, reduceCtorEq, Nat.reducePow, Nat.reduceAdd, Nat.reduceLeDiff, Nat.reduceLT, Nat.reduceSub, Nat.reduceEqDiff]
      · simp only [f18, eES, Nat.reduceBEq, Int.reduceLE, Int.reduceLT, Int.reduceToNat, Int.reduceEq, ↓reduceIte, reduceCtorEq, Nat.reducePow, Nat.reduceAdd, Nat.reduceLeDiff, Nat.reduceLT, Nat.reduceSub, Nat.reduceEqDiff]
      · simp only [f24, eES, Nat.reduceBEq, Int.reduceLE, Int.reduceLT, Int.reduceToNat, Int.reduceEq, ↓reduceIte, reduceCtorEq, Nat.reducePow, Nat.reduceAdd, Nat.reduceLeDiff, Nat.reduceLT, Nat.reduceSub, Nat.reduceEqDiff]
  · have d1 : decide ((P.length : Int) < ((P.length + X1.length : Nat) : Int)) = false := by simp only [decide_eq_false_iff_not]; omega
    have hx : X1 = [] := List.eq_nil_of_length_eq_zero (by omega)
    have hres : mg (lt c) X1 Y1 = X1 ++ Y1 := by rw [hx, nil_mg, List.nil_append]
    rw [hres, ← List.append_assoc P X1 Y1] at go
    simp only [d1, hres, f0, f1, f4, f18, f20, e_reg, e_kc_n, e_nil, e_val, e_vget, e_isV, e_upd, e_g, e_gsel_t, e_gsel_f, e_gsel_tf, e_gsel_ft, e_gsel_n, e_t, e_c, e_f, e_cond, e_csel_t, e_csel_f, e_skip, e_bget, e_isB, vop, abin, aint, cond_true, cond_false, true_and, and_true, ↓reduceIte, Option.getD_some, e_nbeq, Nat.reduceBEq, upd_upd]
    refine go _ ?_ ?_ ?_ ?_ ?_
    · simp only [f0, eES, Nat.reduceBEq, Int.reduceLE, Int.reduceLT, Int.reduceToNat, Int.reduceEq, ↓reduceIte, reduceCtorEq, Nat.reducePow, Nat.reduceAdd, Nat.reduceLeDiff, Nat.reduceLT, Nat.reduceSub, Nat.reduceEqDiff]
    · simp only [f3, eES, Nat.reduceBEq, Int.reduceLE, Int.reduceLT, Int.reduceToNat, Int.reduceEq, ↓reduceIte, reduceCtorEq, Nat.reducePow, Nat.reduceAdd, Nat.reduceLeDiff, Nat.reduceLT, Nat.reduceSub, Nat.reduceEqDiff]
    · simp only [f4, eES, Nat.reduceBEq, Int.reduceLE, Int.reduceLT, Int.reduceToNat, Int.reduceEq, ↓reduceIte, reduceCtorEq, Nat.reducePow, Nat.reduceAdd, Nat.reduceLeDiff, Nat.reduceLT, Nat.reduceSub, Nat.reduceEqDiff]
    · simp only [f18, eES, Nat.reduceBEq, Int.reduceLE, Int.reduceLT, Int.reduceToNat, Int.reduceEq, ↓reduceIte, reduceCtorEq, Nat.reducePow, Nat.reduceAdd, Nat.reduceLeDiff, Nat.reduceLT, Nat.reduceSub, Nat.reduceEqDiff]
    · simp only [f24, eES, Nat.reduceBEq, Int.reduceLE, Int.reduceLT, Int.reduceToNat, Int.reduceEq, ↓reduceIte, reduceCtorEq, Nat.reducePow, Nat.reduceAdd, Nat.reduceLeDiff, Nat.reduceLT, Nat.reduceSub, Nat.reduceEqDiff]

/-- .. all of it, from where both fall in two. -/
theorem tail1 (ih : ∀ n, n < nn → SymOk E kc c n) (hn1 : X1.length + Y1.length < nn) (hn2 : X2.length + Y2.length < nn) (hlv : lv < m.length) (he : ∀ x ∈ P ++ X1 ++ X2 ++ Y1 ++ (Y2 ++ S), Ez E 4 x) (hN : N = (P ++ X1 ++ X2 ++ Y1 ++ (Y2 ++ S)).length) (hn : N < 4611686018427387904)
    (sX1 : Srt (lt c) X1) (sY1 : Srt (lt c) Y1) (sX : Srt (lt c) X2) (sY : Srt (lt c) Y2) (f0 : f 0 = .vec (lv + 1) s g 0 N false) (f1 : f 1 = .int .i64 (P.length : Nat)) (f2 : f 2 = .int .i64 ((P.length + X1.length + X2.length : Nat) : Int)) (f3 : f 3 = .int .i64 ((P.length + X1.length + Y1.length + X2.length + Y2.length : Nat) : Int)) (f4 : f 4 = .fn (.func kc) [] []) (f18 : f 18 = .int .i64 ((P.length + X1.length + Y1.length : Nat) : Int)) (f19 : f 19 = .int .i64 ((P.length + X1.length + Y1.length + (P.length + X1.length + X2.length) : Nat) : Int)) (f20 : f 20 = .int .i64 ((P.length + X1.length : Nat) : Int)) :
    awp Tryz.prog (.seq (.reg g51_38) (.seq (.seq (.reg g51_39) (.cond (.t 185) (.reg g51_40) (.skip))) (.seq (.seq (.reg g51_41) (.cond (.t 199) (.reg g51_42) (.skip))) (.seq (.reg g51_43) (.cond (.t 213) (.reg g51_44) (.skip)))))) ⟨f, noObs :: Am.put m lv s (.vec g 4 (P ++ X1 ++ X2 ++ Y1 ++ (Y2 ++ S))), []⟩
      (AEnds o51 m.length (fun v m1 => v = .tup [] ∧ m1 = Am.put m lv s (.vec g 4 (P ++ (mg (lt c) X1 Y1 ++ mg (lt c) X2 Y2) ++ S)))) := by
  have hlen : N = P.length + X1.length + Y1.length + X2.length + Y2.length + S.length := by rw [hN]; simp only [List.length_append]; omega
  have hem : ∀ x ∈ P ++ X1 ++ Y1 ++ (X2 ++ Y2 ++ S), Ez E 4 x := by
    intro x hx
    refine he x ?_
    simp only [List.mem_append] at hx ⊢
    rcases hx with ((hx | hx) | hx) | ((hx | hx) | hx)
    · exact .inl (.inl (.inl (.inl hx)))
    · exact .inl (.inl (.inl (.inr hx)))
    · exact .inl (.inr hx)
    · exact .inl (.inl (.inr hx))
    · exact .inr (.inl hx)
    · exact .inr (.inr hx)
  have go : ∀ f : Fr, f 0 = .vec (lv + 1) s g 0 N false → f 1 = .int .i64 (P.length : Nat) → f 3 = .int .i64 ((P.length + X1.length + Y1.length + X2.length + Y2.length : Nat) : Int) → f 4 = .fn (.func kc) [] [] → f 18 = .int .i64 ((P.length + X1.length + Y1.length : Nat) : Int) → f 20 = .int .i64 ((P.length + X1.length : Nat) : Int) → f 24 = .int .i64 ((P.length + X1.length + Y1.length + X2.length : Nat) : Int) → _ :=
    fun f f0 f1 f3 f4 f18 f20 f24 => tail2 (P := P) (X1 := X1) (Y1 := Y1) (X2 := X2) (Y2 := Y2) (S := S) (m := m) (f := f) (g := g) (s := s) ih hn1 hn2 hlv hem (by rw [hlen]; simp only [List.length_append]; omega) hn sX1 sY1 sX sY f0 f1 f3 f4 f18 f20 f24
  have e1 : IntKind.i64.wrap (((P.length + X1.length + Y1.length + (P.length + X1.length + X2.length) : Nat) : Int) - ((P.length + X1.length : Nat) : Int)) = ((P.length + X1.length + Y1.length + X2.length : Nat) : Int) := by rw [wi64]; omega
  rw [e_seq]
  simp only [g51_38, e1, f0, f1, f2, f4, f18, f19, f20, e_reg, e_kc_n, e_nil, e_val, e_vget, e_isV, e_upd, e_g, e_gsel_t, e_gsel_f, e_gsel_tf, e_gsel_ft, e_gsel_n, e_t, e_c, e_f, e_cond, e_csel_t, e_csel_f, e_skip, e_bget, e_isB, vop, abin, aint, cond_true, cond_false, true_and, and_true, ↓reduceIte, Option.getD_some, e_nbeq, Nat.reduceBEq, upd_upd]
  rw [e_seq, e_seq]
  simp only [g51_39, f0, f1, f2, f4, f18, f19, f20, e_reg, e_kc_n, e_nil, e_val, e_vget, e_isV, e_upd, e_g, e_gsel_t, e_gsel_f, e_gsel_tf, e_gsel_ft, e_gsel_n, e_t, e_c, e_f, e_cond, e_csel_t, e_csel_f, e_skip, e_bget, e_isB, vop, abin, aint, cond_true, cond_false, true_and, and_true, ↓reduceIte, Option.getD_some, e_nbeq, Nat.reduceBEq, upd_upd]
  by_cases h1 : 0 < X2.length
  · have d1 : decide (((P.length + X1.length : Nat) : Int) < ((P.length + X1.length + X2.length : Nat) : Int)) = true := by simp only [decide_eq_true_eq]; omega
    by_cases h2 : 0 < Y1.length
    · have d2 : decide (((P.length + X1.length + X2.length : Nat) : Int) < ((P.length + X1.length + Y1.length + X2.length : Nat) : Int)) = true := by simp only [decide_eq_true_eq]; omega
      simp only [g51_40, d1, d2, f0, f1, f2, f4, f18, f19, f20, e_reg, e_kc_n, e_nil, e_val, e_vget, e_isV, e_upd, e_g, e_gsel_t, e_gsel_f, e_gsel_tf, e_gsel_ft, e_gsel_n, e_t, e_c, e_f, e_cond, e_csel_t, e_csel_f, e_skip, e_bget, e_isB, vop, abin, aint, cond_true, cond_false, true_and, and_true, ↓reduceIte, Option.getD_some, e_nbeq, Nat.reduceBEq, upd_upd]
      refine aops_callF (ro_call (.fn (.func kc) [] []) (P ++ X1) X2 Y1 (Y2 ++ S) (n := P.length + X1.length + Y1.length + X2.length) hlv h1 h2 he (by omega) hN (by rw [List.length_append]) (by rw [List.length_append]) (by rw [List.length_append]; omega)) rfl ?_
      rw [e_nil, e_kc_n]
      rw [show P ++ X1 ++ Y1 ++ X2 ++ (Y2 ++ S) = P ++ X1 ++ Y1 ++ (X2 ++ Y2 ++ S) by simp only [List.append_assoc]]
      refine go _ ?_ ?_ ?_ ?_ ?_ ?_ ?_
      · simp only [f0, eES, Nat.reduceBEq, Int.reduceLE, Int.reduceLT, Int.reduceToNat, Int.reduceEq, ↓reduceIte, reduceCtorEq, Nat.reducePow, Nat.reduceAdd, Nat.reduceLeDiff, Nat.reduceLT, Nat.reduceSub, Nat.reduceEqDiff]
      · simp only [f1, eES, Nat.reduceBEq, Int.reduceLE, Int.reduceLT, Int.reduceToNat, Int.reduceEq, ↓reduceIte, reduceCtorEq, Nat.reducePow, Nat.reduceAdd, Nat.reduceLeDiff, Nat.reduceLT, Nat.reduceSub, Nat.reduceEqDiff]
      · simp only [f3, eES, Nat.reduceBEq, Int.reduceLE, Int.reduceLT, Int.reduceToNat, Int.reduceEq, ↓reduceIte, reduceCtorEq, Nat.reducePow, Nat.reduceAdd, Nat.reduceLeDiff, Nat.reduceLT, Nat.reduceSub, Nat.reduceEqDiff]
      · simp only [f4, eES, Nat.reduceBEq, Int.reduceLE, Int.reduceLT, Int.reduceToNat, Int.reduceEq, ↓reduceIte, reduceCtorEq, Nat.reducePow, Nat.reduceAdd, Nat.reduceLeDiff, Nat.reduceLT, Nat.reduceSub, Nat.reduceEqDiff]
      · simp only [f18, eES, Nat.reduceBEq, Int.reduceLE, Int.reduceLT, Int.reduceToNat, Int.reduceEq, ↓reduceIte, reduceCtorEq, Nat.reducePow, Nat.reduceAdd, Nat.reduceLeDiff, Nat.reduceLT, Nat.reduceSub, Nat.reduceEqDiff]
      · simp only [f20, eES, Nat.reduceBEq, Int.reduceLE, Int.reduceLT, Int.reduceToNat, Int.reduceEq, ↓reduceIte, reduceCtorEq, Nat.reducePow, Nat.reduceAdd, Nat.reduceLeDiff, Nat.reduceLT, Nat.reduceSub, Nat.reduceEqDiff]
      · simp only [eES, Nat.reduceBEq, Int.reduceLE, Int.reduceLT, Int.reduceToNat, Int.reduceEq, ↓reduceIte, reduceCtorEq, Nat.reducePow, Nat.reduceAdd, Nat.reduceLeDiff, Nat.reduceLT, Nat.reduceSub, Nat.reduceEqDiff]
    · have d2 : decide (((P.length + X1.length + X2.length : Nat) : Int) < ((P.length + X1.length + Y1.length + X2.length : Nat) : Int)) = false := by simp only [decide_eq_false_iff_not]; omega
      have hy : Y1 = [] := List.eq_nil_of_length_eq_zero (by omega)
      have hrow : P ++ X1 ++ X2 ++ Y1 ++ (Y2 ++ S) = P ++ X1 ++ Y1 ++ (X2 ++ Y2 ++ S) := by rw [hy]; simp
      simp only [d1, d2, hrow, f0, f1, f2, f4, f18, f19, f20, e_reg, e_kc_n, e_nil, e_val, e_vget, e_isV, e_upd, e_g, e_gsel_t, e_gsel_f, e_gsel_tf, e_gsel_ft, e_gsel_n, e_t, e_c, e_f, e_cond, e_csel_t, e_csel_f, e_skip, e_bget, e_isB, vop, abin, aint, cond_true, cond_false, true_and, and_true, ↓reduceIte, Option.getD_some, e_nbeq, Nat.reduceBEq, upd_upd]
      refine go _ ?_ ?_ ?_ ?_ ?_ ?_ ?_
      · simp only [f0, eES, Nat.reduceBEq, Int.reduceLE, Int.reduceLT, Int.reduceToNat, Int.reduceEq, ↓reduceIte, reduceCtorEq, Nat.reducePow, Nat.reduceAdd, Nat.reduceLeDiff, Nat.reduceLT, Nat.reduceSub, Nat.reduceEqDiff]
      · simp only [f1, eES, Nat.reduceBEq, Int.reduceLE, Int.reduceLT, Int.reduceToNat, Int.reduceEq, ↓reduceIte, reduceCtorEq, Nat.reducePow, Nat.reduceAdd, Nat.reduceLeDiff, Nat.reduceLT, Nat.reduceSub, Nat.reduceEqDiff]
      · simp only [f3, eES, Nat.reduceBEq, Int.reduceLE, Int.reduceLT, Int.reduceToNat, Int.reduceEq, ↓reduceIte, reduceCtorEq, Nat.reducePow, Nat.reduceAdd, Nat.reduceLeDiff, Nat.reduceLT, Nat.reduceSub, Nat.reduceEqDiff]
      · simp only [f4, eES, Nat.reduceBEq, Int.reduceLE, Int.reduceLT, Int.reduceToNat, Int.reduceEq, ↓reduceIte, reduceCtorEq, Nat.reducePow, Nat.reduceAdd, Nat.reduceLeDiff, Nat.reduceLT, Nat.reduceSub, Nat.reduceEqDiff]
      · simp only [f18, eES, Nat.reduceBEq, Int.reduceLE, Int.reduceLT, Int.reduceToNat, Int.reduceEq, ↓reduceIte, reduceCtorEq, Nat.reducePow, Nat.reduceAdd, Nat.reduceLeDiff, Nat.reduceLT, Nat.reduceSub, Nat.reduceEqDiff]
      · simp only [f20, eES, Nat.reduceBEq, Int.reduceLE, Int.reduceLT, Int.reduceToNat, Int.reduceEq, ↓reduceIte, reduceCtorEq, Nat.reducePow, Nat.reduceAdd, Nat.reduceLeDiff, Nat.reduceLT, Nat.reduceSub, Nat.reduceEqDiff]
      · simp only [eES, Nat.reduceBEq, Int.reduceLE, Int.reduceLT, Int.reduceToNat, Int.reduceEq, ↓reduceIte, reduceCtorEq, Nat.reducePow, Nat.reduceAdd, Nat.reduceLeDiff, Nat.reduceLT, Nat.reduceSub, Nat.reduceEqDiff]
  · have d1 : decide (((P.length + X1.length : Nat) : Int) < ((P.length + X1.length + X2.length : Nat) : Int)) = false := by simp only [decide_eq_false_iff_not]; omega
    have hx : X2 = [] := List.eq_nil_of_length_eq_zero (by omega)
    have hrow : P ++ X1 ++ X2 ++ Y1 ++ (Y2 ++ S) = P ++ X1 ++ Y1 ++ (X2 ++ Y2 ++ S) := by rw [hx]; simp
    simp only [d1, hrow, f0, f1, f2, f4, f18, f19, f20, e_reg, e_kc_n, e_nil, e_val, e_vget, e_isV, e_upd, e_g, e_gsel_t, e_gsel_f, e_gsel_tf, e_gsel_ft, e_gsel_n, e_t, e_c, e_f, e_cond, e_csel_t, e_csel_f, e_skip, e_bget, e_isB, vop, abin, aint, cond_true, cond_false, true_and, and_true, ↓reduceIte, Option.getD_some, e_nbeq, Nat.reduceBEq, upd_upd]
    refine go _ ?_ ?_ ?_ ?_ ?_ ?_ ?_
    · simp only [f0, eES, Nat.reduceBEq, Int.reduceLE, Int.reduceLT, Int.reduceToNat, Int.reduceEq, ↓reduceIte, reduceCtorEq, Nat.reducePow, Nat.reduceAdd, Nat.reduceLeDiff, Nat.reduceLT, Nat.reduceSub, Nat.reduceEqDiff]
    · simp only [f1, eES, Nat.reduceBEq, Int.reduceLE, Int.reduceLT, Int.reduceToNat, Int.reduceEq, ↓reduceIte, reduceCtorEq, Nat.reducePow, Nat.reduceAdd, Nat.reduceLeDiff, Nat.reduceLT, Nat.reduceSub, Nat.reduceEqDiff]
    · simp only [f3, eES, Nat.reduceBEq, Int.reduceLE, Int.reduceLT, Int.reduceToNat, Int.reduceEq, ↓reduceIte, reduceCtorEq, Nat.reducePow, Nat.reduceAdd, Nat.reduceLeDiff, Nat.reduceLT, Nat.reduceSub, Nat.reduceEqDiff]
    · simp only [f4, eES, Nat.reduceBEq, Int.reduceLE, Int.reduceLT, Int.reduceToNat, Int.reduceEq, ↓reduceIte, reduceCtorEq, Nat.reducePow, Nat.reduceAdd, Nat.reduceLeDiff, Nat.reduceLT, Nat.reduceSub, Nat.reduceEqDiff]
    · simp only [f18, eES, Nat.reduceBEq, Int.reduceLE, Int.reduceLT, Int.reduceToNat, Int.reduceEq, ↓reduceIte, reduceCtorEq, Nat.reducePow, Nat.reduceAdd, Nat.reduceLeDiff, Nat.reduceLT, Nat.reduceSub, Nat.reduceEqDiff]
    · simp only [f20, eES, Nat.reduceBEq, Int.reduceLE, Int.reduceLT, Int.reduceToNat, Int.reduceEq, ↓reduceIte, reduceCtorEq, Nat.reducePow, Nat.reduceAdd, Nat.reduceLeDiff, Nat.reduceLT, Nat.reduceSub, Nat.reduceEqDiff]
    · simp only [eES, Nat.reduceBEq, Int.reduceLE, Int.reduceLT, Int.reduceToNat, Int.reduceEq, ↓reduceIte, reduceCtorEq, Nat.reducePow, Nat.reduceAdd, Nat.reduceLeDiff, Nat.reduceLT, Nat.reduceSub, Nat.reduceEqDiff]

end

set_option maxHeartbeats 1000000 in
theorem symC {kc : Nat} {c : AV → AV → Int} (hc : Cp E kc c) (nn : Nat) (ih : ∀ n, n < nn → SymOk E kc c n) (lv s g : Nat) (P X Y S : List AV) (m : Mem) (hXY : X.length + Y.length = nn) (hX1 : 1 < X.length) (hY1 : 1 < Y.length) (hl : Am.look m lv s = .vec g 4 (P ++ X ++ Y ++ S)) (he : ∀ x ∈ P ++ X ++ Y ++ S, Ez E 4 x)
    (hn : (P ++ X ++ Y ++ S).length < 4611686018427387904) (sX : Srt (lt c) X) (sY : Srt (lt c) Y) :
    ACalls Tryz.prog 51 [.vec lv s g 0 (P ++ X ++ Y ++ S).length false, .int .i64 (P.length : Nat), .int .i64 ((P.length + X.length : Nat) : Int), .int .i64 ((P.length + X.length + Y.length : Nat) : Int), .fn (.func kc) [] []] m
      (fun v m1 => v = .tup [] ∧ m1 = Am.put m lv s (.vec g 4 (P ++ mg (lt c) X Y ++ S))) := by
  have hlv : lv < m.length := look_lt (by rw [hl]; simp)
  have hlen : (P ++ X ++ Y ++ S).length = P.length + X.length + Y.length + S.length := by simp only [List.length_append]
  refine acalls_of_awp (rc := r51) (rs := o51) Tryz.func51 rfl rfl Tryz.ntmps51 k51 q51 (by simp) ?_
  have e1 : (IntKind.i64.wrap (((P.length + X.length : Nat) : Int) - (P.length : Int)) == 1) = false := by rw [wi64]; simp only [beq_eq_false_iff_ne, ne_eq]; omega
  have e2 : (IntKind.i64.wrap (((P.length + X.length + Y.length : Nat) : Int) - ((P.length + X.length : Nat) : Int)) == 1) = false := by rw [wi64]; simp only [beq_eq_false_iff_ne, ne_eq]; omega
  have e3 : IntKind.i64.wrap ((P.length : Int) + ((P.length + X.length + Y.length : Nat) : Int)) = ((P.length + (P.length + X.length + Y.length) : Nat) : Int) := by rw [wi64]; omega
  have e4 := half P.length (P.length + X.length + Y.length) (by omega)
  generalize hmid : (P.length + (P.length + X.length + Y.length)) / 2 = mid at *
  have e5 : IntKind.i64.wrap ((mid : Int) + ((P.length + X.length : Nat) : Int)) = ((mid + (P.length + X.length) : Nat) : Int) := by rw [wi64]; omega
  have e6 : IntKind.i64.wrap (((mid + (P.length + X.length) : Nat) : Int) - ((P.length + X.length + Y.length : Nat) : Int)) = ((mid + (P.length + X.length) - (P.length + X.length + Y.length) : Nat) : Int) ∨ mid < Y.length := by
    by_cases h : mid < Y.length
    · exact .inr h
    · refine .inl ?_
      rw [wi64]; omega
  have e7 : IntKind.i64.wrap (((mid + (P.length + X.length) : Nat) : Int) - 1) = ((mid + (P.length + X.length) - 1 : Nat) : Int) := by rw [wi64]; omega
  simp only [r51, g51_0, g51_12, g51_24, g51_25, g51_26, g51_27, g51_28, g51_29, g51_30, g51_31, g51_32, e1, e2, e3, e4, e5, eES, Nat.reduceBEq, Int.reduceLE, Int.reduceLT, Int.reduceToNat, Int.reduceEq, ↓reduceIte, reduceCtorEq, Nat.reducePow, Nat.reduceAdd, Nat.reduceLeDiff, Nat.reduceLT, Nat.reduceSub, Nat.reduceEqDiff]
  have h0 : m = Am.put m lv s (.vec g 4 (P ++ X ++ Y ++ S)) := (put_self hl).symm
  generalize hN : (P ++ X ++ Y ++ S).length = N at *
  -- the search, from whatever bounds
  have main : ∀ (Q : Exit → St → Prop) (f : Fr) (s0 r0 : Nat), s0 ≤ r0 → r0 ≤ mid → (r0 = mid ∨ r0 = P.length + X.length) → (mid - s0 ≥ Y.length ∨ s0 = P.length) → mid - s0 ≤ Y.length → r0 ≤ P.length + X.length → P.length ≤ s0 →
      f 0 = .vec (lv + 1) s g 0 N false → f 1 = .int .i64 (P.length : Nat) → f 2 = .int .i64 ((P.length + X.length : Nat) : Int) → f 3 = .int .i64 ((P.length + X.length + Y.length : Nat) : Int) → f 4 = .fn (.func kc) [] [] →
      f 18 = .int .i64 (mid : Nat) → f 19 = .int .i64 ((mid + (P.length + X.length) : Nat) : Int) → f 22 = .int .i64 ((mid + (P.length + X.length) - 1 : Nat) : Int) → f 20 = .int .i64 (s0 : Nat) → f 21 = .int .i64 (r0 : Nat) →
      (∀ (f : Fr) (t : Nat), s0 ≤ t → t ≤ r0 → mg (lt c) X Y = mg (lt c) (X.take (t - P.length)) (Y.take (mid - t)) ++ mg (lt c) (X.drop (t - P.length)) (Y.drop (mid - t)) →
        f 0 = .vec (lv + 1) s g 0 N false → f 1 = .int .i64 (P.length : Nat) → f 2 = .int .i64 ((P.length + X.length : Nat) : Int) → f 3 = .int .i64 ((P.length + X.length + Y.length : Nat) : Int) → f 4 = .fn (.func kc) [] [] →
        f 18 = .int .i64 (mid : Nat) → f 19 = .int .i64 ((mid + (P.length + X.length) : Nat) : Int) → f 20 = .int .i64 (t : Nat) → Q (.exit 8) ⟨f, noObs :: Am.put m lv s (.vec g 4 (P ++ X ++ Y ++ S)), []⟩) →
      awp Tryz.prog (.loop (l51_4)) ⟨f, noObs :: m, []⟩ Q := by
    intro Q f s0 r0 hsr hrm hr hs hs2 hr2 hps f0 f1 f2 f3 f4 f18 f19 f22 f20 f21 hQ
    refine awp_loop (ScS m lv s g N mid s0 r0 kc c P X Y S) _ ⟨_, s0, r0, by rw [← h0] <;> rfl, rfl, Nat.le_refl _, hsr, Nat.le_refl _, (by intro k x y h1 h2; omega), (by intro k x y h1 h2; omega), f0, f1, f2, f3, f4, f18, f19, f22, f20, f21⟩ ?_
    clear f0 f1 f2 f3 f4 f18 f19 f22 f20 f21 f
    rintro k st ⟨f, i, j, rfl, rfl, hsi, hij, hj, hp, hq, f0, f1, f2, f3, f4, f18, f19, f22, f20, f21⟩
    simp only [l51_0, l51_1, l51_2, l51_3, l51_4, g51_0, g51_1, g51_2, g51_3, g51_4, g51_5, g51_6, g51_7, g51_8, g51_9, g51_11, g51_10, g51_12, g51_13, g51_14, g51_15, g51_16, g51_17, g51_18, g51_19, g51_20, g51_21, g51_23, g51_22, g51_24, g51_25, g51_26, g51_27, g51_28, g51_29, g51_30, g51_31, g51_32, g51_33, g51_34, g51_35, g51_36, g51_37, g51_38, g51_39, g51_40, g51_41, g51_42, g51_43, g51_44, r51, o51, f0, f4, f20, f21, f22, List.singleton_append, eES, Nat.reduceBEq, Int.reduceLE, Int.reduceLT, Int.reduceToNat, Int.reduceEq, ↓reduceIte, reduceCtorEq, Nat.reducePow, Nat.reduceAdd, Nat.reduceLeDiff, Nat.reduceLT, Nat.reduceSub, Nat.reduceEqDiff]
    by_cases hlt : i < j
    · have d0 : decide ((i : Int) < (j : Int)) = true := by simp only [decide_eq_true_eq]; omega
      have e8 : IntKind.i64.wrap ((i : Int) + (j : Int)) = ((i + j : Nat) : Int) := by rw [wi64]; omega
      have e9 := half i j (by omega)
      generalize hh : (i + j) / 2 = h at *
      have hh1 : h < j := by omega
      have hh2 : i ≤ h := by omega
      have ea : IntKind.i64.wrap ((h : Int) + 1) = ((h + 1 : Nat) : Int) := by rw [wi64]; omega
      have eb : IntKind.i64.wrap (((mid + (P.length + X.length) - 1 : Nat) : Int) - (h : Int)) = ((P.length + X.length + (mid - 1 - h) : Nat) : Int) := by rw [wi64]; omega
      obtain ⟨x, hx⟩ : ∃ x, X[h - P.length]? = some x := ⟨_, List.getElem?_eq_getElem (by omega)⟩
      obtain ⟨y, hy⟩ : ∃ y, Y[mid - 1 - h]? = some y := ⟨_, List.getElem?_eq_getElem (by omega)⟩
      have ex : Ez E 4 x := he x (by simp [List.mem_of_getElem? hx])
      have ey : Ez E 4 y := he y (by simp [List.mem_of_getElem? hy])
      have gx : (P ++ X ++ Y ++ S)[h]? = some x := by
        rw [List.append_assoc, List.append_assoc, List.getElem?_append_right (by omega), List.getElem?_append_left (by omega), hx]
      have gy : (P ++ X ++ Y ++ S)[P.length + X.length + (mid - 1 - h)]? = some y := by
        rw [List.append_assoc, List.getElem?_append_right (by rw [List.length_append]; omega), List.getElem?_append_left (by rw [List.length_append]; omega), ← hy]
        congr 1; rw [List.length_append]; omega
      simp only [d0, e8, e9, eb, f0, f4, f20, f21, f22, iad hlv (show P.length + X.length + (mid - 1 - h) < N by omega), iad hlv (show h < N by omega), ldr hlv gy ey, ldr hlv gx ex, eES, Nat.reduceBEq, Int.reduceLE, Int.reduceLT, Int.reduceToNat, Int.reduceEq, ↓reduceIte, reduceCtorEq, Nat.reducePow, Nat.reduceAdd, Nat.reduceLeDiff, Nat.reduceLT, Nat.reduceSub, Nat.reduceEqDiff]
      refine aops_callP (by simp only [eES, Nat.reduceBEq, Int.reduceLE, Int.reduceLT, Int.reduceToNat, Int.reduceEq, ↓reduceIte, reduceCtorEq, Nat.reducePow, Nat.reduceAdd, Nat.reduceLeDiff, Nat.reduceLT, Nat.reduceSub, Nat.reduceEqDiff]) (hc.call y x ey ex) (still_two ey ex _) (rf_two ey ex) rfl (.inl (rf_two ey ex)) ?_
      cases hcx : decide (c y x < 0) with
      | true =>
        simp only [hcx, ea, f0, f4, f20, f21, f22, eES, Nat.reduceBEq, Int.reduceLE, Int.reduceLT, Int.reduceToNat, Int.reduceEq, ↓reduceIte, reduceCtorEq, Nat.reducePow, Nat.reduceAdd, Nat.reduceLeDiff, Nat.reduceLT, Nat.reduceSub, Nat.reduceEqDiff]
        have hq' : ∀ k x' y', h ≤ k → k < r0 → X[k - P.length]? = some x' → Y[mid - 1 - k]? = some y' → lt c y' x' = true := by
          intro k x' y' hk hk2 hx' hy'
          have h3 := srt_mono hc.sw sY (show mid - 1 - k ≤ mid - 1 - h by omega) hy' hy hcx
          have h4 := srt_le sX hc.sw (show h - P.length ≤ k - P.length by omega) hx hx'
          cases hb : lt c y' x' with
          | true => rfl
          | false =>
            have := hc.sw.nt y' x' x hb h4
            rw [h3] at this; cases this
        exact ⟨h - i, by omega, _, i, h, rfl, rfl, hsi, by omega, by omega, hp, hq', by simp only [f0, eES, Nat.reduceBEq, Int.reduceLE, Int.reduceLT, Int.reduceToNat, Int.reduceEq, ↓reduceIte, reduceCtorEq, Nat.reducePow, Nat.reduceAdd, Nat.reduceLeDiff, Nat.reduceLT, Nat.reduceSub, Nat.reduceEqDiff], by simp only [f1, eES, Nat.reduceBEq, Int.reduceLE, Int.reduceLT, Int.reduceToNat, Int.reduceEq, ↓reduceIte, reduceCtorEq, Nat.reducePow, Nat.reduceAdd, Nat.reduceLeDiff, Nat.reduceLT, Nat.reduceSub, Nat.reduceEqDiff], by simp only [f2, eES, Nat.reduceBEq, Int.reduceLE, Int.reduceLT, Int.reduceToNat, Int.reduceEq, ↓reduceIte, reduceCtorEq, Nat.reducePow, Nat.reduceAdd, Nat.reduceLeDiff, Nat.reduceLT, Nat.reduceSub, Nat.reduceEqDiff], by simp only [f3, eES, Nat.reduceBEq, Int.reduceLE, Int.reduceLT, Int.reduceToNat, Int.reduceEq, ↓reduceIte, reduceCtorEq, Nat.reducePow, Nat.reduceAdd, Nat.reduceLeDiff, Nat.reduceLT, Nat.reduceSub, Nat.reduceEqDiff], by simp only [f4, eES, Nat.reduceBEq, Int.reduceLE, Int.reduceLT, Int.reduceToNat, Int.reduceEq, ↓reduceIte, reduceCtorEq, Nat.reducePow, Nat.reduceAdd, Nat.reduceLeDiff, Nat.reduceLT, Nat.reduceSub, Nat.reduceEqDiff], by simp only [f18, eES, Nat.reduceBEq, Int.reduceLE, Int.reduceLT, Int.reduceToNat, Int.reduceEq, ↓reduceIte, reduceCtorEq, Nat.reducePow, Nat.reduceAdd, Nat.reduceLeDiff, Nat.reduceLT, Nat.reduceSub, Nat.reduceEqDiff], by simp only [f19, eES, Nat.reduceBEq, Int.reduceLE, Int.reduceLT, Int.reduceToNat, Int.reduceEq, ↓reduceIte, reduceCtorEq, Nat.reducePow, Nat.reduceAdd, Nat.reduceLeDiff, Nat.reduceLT, Nat.reduceSub, Nat.reduceEqDiff], by simp only [f22, eES, Nat.reduceBEq, Int.reduceLE, Int.reduceLT, Int.reduceToNat, Int.reduceEq, ↓reduceIte, reduceCtorEq, Nat.reducePow, Nat.reduceAdd, Nat.reduceLeDiff, Nat.reduceLT, Nat.reduceSub, Nat.reduceEqDiff], by simp only [f20, eES, Nat.reduceBEq, Int.reduceLE, Int.reduceLT, Int.reduceToNat, Int.reduceEq, ↓reduceIte, reduceCtorEq, Nat.reducePow, Nat.reduceAdd, Nat.reduceLeDiff, Nat.reduceLT, Nat.reduceSub, Nat.reduceEqDiff], by simp only [eES, Nat.reduceBEq, Int.reduceLE, Int.reduceLT, Int.reduceToNat, Int.reduceEq, ↓reduceIte, reduceCtorEq, Nat.reducePow, Nat.reduceAdd, Nat.reduceLeDiff, Nat.reduceLT, Nat.reduceSub, Nat.reduceEqDiff]⟩
      | false =>
        simp only [hcx, ea, f0, f4, f20, f21, f22, eES, Nat.reduceBEq, Int.reduceLE, Int.reduceLT, Int.reduceToNat, Int.reduceEq, ↓reduceIte, reduceCtorEq, Nat.reducePow, Nat.reduceAdd, Nat.reduceLeDiff, Nat.reduceLT, Nat.reduceSub, Nat.reduceEqDiff]
        exact ⟨j - (h + 1), by omega, _, h + 1, j, rfl, rfl, by omega, by omega, hj, fun k x' y' hk hk2 hx' hy' => by
          have h3 := srt_le sX hc.sw (show k - P.length ≤ h - P.length by omega) hx' hx
          have h4 : lt c y' x = false := by
            cases hb : lt c y' x with
            | false => rfl
            | true => exact absurd (srt_mono hc.sw sY (show mid - 1 - h ≤ mid - 1 - k by omega) hy hy' hb) (by show ¬ (decide _ = true); rw [hcx]; simp)
          exact hc.sw.nt y' x x' h4 h3, hq, by simp only [f0, eES, Nat.reduceBEq, Int.reduceLE, Int.reduceLT, Int.reduceToNat, Int.reduceEq, ↓reduceIte, reduceCtorEq, Nat.reducePow, Nat.reduceAdd, Nat.reduceLeDiff, Nat.reduceLT, Nat.reduceSub, Nat.reduceEqDiff], by simp only [f1, eES, Nat.reduceBEq, Int.reduceLE, Int.reduceLT, Int.reduceToNat, Int.reduceEq, ↓reduceIte, reduceCtorEq, Nat.reducePow, Nat.reduceAdd, Nat.reduceLeDiff, Nat.reduceLT, Nat.reduceSub, Nat.reduceEqDiff], by simp only [f2, eES, Nat.reduceBEq, Int.reduceLE, Int.reduceLT, Int.reduceToNat, Int.reduceEq, ↓reduceIte, reduceCtorEq, Nat.reducePow, Nat.reduceAdd, Nat.reduceLeDiff, Nat.reduceLT, Nat.reduceSub, Nat.reduceEqDiff], by simp only [f3, eES, Nat.reduceBEq, Int.reduceLE, Int.reduceLT, Int.reduceToNat, Int.reduceEq, ↓reduceIte, reduceCtorEq, Nat.reducePow, Nat.reduceAdd, Nat.reduceLeDiff, Nat.reduceLT, Nat.reduceSub, Nat.reduceEqDiff], by simp only [f4, eES, Nat.reduceBEq, Int.reduceLE, Int.reduceLT, Int.reduceToNat, Int.reduceEq, ↓reduceIte, reduceCtorEq, Nat.reducePow, Nat.reduceAdd, Nat.reduceLeDiff, Nat.reduceLT, Nat.reduceSub, Nat.reduceEqDiff], by simp only [f18, eES, Nat.reduceBEq, Int.reduceLE, Int.reduceLT, Int.reduceToNat, Int.reduceEq, ↓reduceIte, reduceCtorEq, Nat.reducePow, Nat.reduceAdd, Nat.reduceLeDiff, Nat.reduceLT, Nat.reduceSub, Nat.reduceEqDiff], by simp only [f19, eES, Nat.reduceBEq, Int.reduceLE, Int.reduceLT, Int.reduceToNat, Int.reduceEq, ↓reduceIte, reduceCtorEq, Nat.reducePow, Nat.reduceAdd, Nat.reduceLeDiff, Nat.reduceLT, Nat.reduceSub, Nat.reduceEqDiff], by simp only [f22, eES, Nat.reduceBEq, Int.reduceLE, Int.reduceLT, Int.reduceToNat, Int.reduceEq, ↓reduceIte, reduceCtorEq, Nat.reducePow, Nat.reduceAdd, Nat.reduceLeDiff, Nat.reduceLT, Nat.reduceSub, Nat.reduceEqDiff], by simp only [eES, Nat.reduceBEq, Int.reduceLE, Int.reduceLT, Int.reduceToNat, Int.reduceEq, ↓reduceIte, reduceCtorEq, Nat.reducePow, Nat.reduceAdd, Nat.reduceLeDiff, Nat.reduceLT, Nat.reduceSub, Nat.reduceEqDiff], by simp only [f21, eES, Nat.reduceBEq, Int.reduceLE, Int.reduceLT, Int.reduceToNat, Int.reduceEq, ↓reduceIte, reduceCtorEq, Nat.reducePow, Nat.reduceAdd, Nat.reduceLeDiff, Nat.reduceLT, Nat.reduceSub, Nat.reduceEqDiff]⟩
    · have d0 : decide ((i : Int) < (j : Int)) = false := by simp only [decide_eq_false_iff_not]; omega
      have hij' : j = i := by omega
      subst hij'
      simp only [d0, f0, f4, f20, f21, f22, eES, Nat.reduceBEq, Int.reduceLE, Int.reduceLT, Int.reduceToNat, Int.reduceEq, ↓reduceIte, reduceCtorEq, Nat.reducePow, Nat.reduceAdd, Nat.reduceLeDiff, Nat.reduceLT, Nat.reduceSub, Nat.reduceEqDiff]
      refine hQ _ j (by omega) (by omega) (two_fall hc.sw sX sY hsi hj (by omega) (by omega) hr hs hs2 hr2 hp hq) ?_ ?_ ?_ ?_ ?_ ?_ ?_ ?_
      · simp only [f0, eES, Nat.reduceBEq, Int.reduceLE, Int.reduceLT, Int.reduceToNat, Int.reduceEq, ↓reduceIte, reduceCtorEq, Nat.reducePow, Nat.reduceAdd, Nat.reduceLeDiff, Nat.reduceLT, Nat.reduceSub, Nat.reduceEqDiff]
      · simp only [f1, eES, Nat.reduceBEq, Int.reduceLE, Int.reduceLT, Int.reduceToNat, Int.reduceEq, ↓reduceIte, reduceCtorEq, Nat.reducePow, Nat.reduceAdd, Nat.reduceLeDiff, Nat.reduceLT, Nat.reduceSub, Nat.reduceEqDiff]
      · simp only [f2, eES, Nat.reduceBEq, Int.reduceLE, Int.reduceLT, Int.reduceToNat, Int.reduceEq, ↓reduceIte, reduceCtorEq, Nat.reducePow, Nat.reduceAdd, Nat.reduceLeDiff, Nat.reduceLT, Nat.reduceSub, Nat.reduceEqDiff]
      · simp only [f3, eES, Nat.reduceBEq, Int.reduceLE, Int.reduceLT, Int.reduceToNat, Int.reduceEq, ↓reduceIte, reduceCtorEq, Nat.reducePow, Nat.reduceAdd, Nat.reduceLeDiff, Nat.reduceLT, Nat.reduceSub, Nat.reduceEqDiff]
      · simp only [f4, eES, Nat.reduceBEq, Int.reduceLE, Int.reduceLT, Int.reduceToNat, Int.reduceEq, ↓reduceIte, reduceCtorEq, Nat.reducePow, Nat.reduceAdd, Nat.reduceLeDiff, Nat.reduceLT, Nat.reduceSub, Nat.reduceEqDiff]
      · simp only [f18, eES, Nat.reduceBEq, Int.reduceLE, Int.reduceLT, Int.reduceToNat, Int.reduceEq, ↓reduceIte, reduceCtorEq, Nat.reducePow, Nat.reduceAdd, Nat.reduceLeDiff, Nat.reduceLT, Nat.reduceSub, Nat.reduceEqDiff]
      · simp only [f19, eES, Nat.reduceBEq, Int.reduceLE, Int.reduceLT, Int.reduceToNat, Int.reduceEq, ↓reduceIte, reduceCtorEq, Nat.reducePow, Nat.reduceAdd, Nat.reduceLeDiff, Nat.reduceLT, Nat.reduceSub, Nat.reduceEqDiff]
      · simp only [f20, eES, Nat.reduceBEq, Int.reduceLE, Int.reduceLT, Int.reduceToNat, Int.reduceEq, ↓reduceIte, reduceCtorEq, Nat.reducePow, Nat.reduceAdd, Nat.reduceLeDiff, Nat.reduceLT, Nat.reduceSub, Nat.reduceEqDiff]
  have hb1 : mid ≤ P.length + X.length + Y.length := by omega
  have fin : ∀ (f : Fr) (t : Nat), P.length ≤ t → t ≤ mid → t ≤ P.length + X.length → mid - t ≤ Y.length → mg (lt c) X Y = mg (lt c) (X.take (t - P.length)) (Y.take (mid - t)) ++ mg (lt c) (X.drop (t - P.length)) (Y.drop (mid - t)) →
        f 0 = .vec (lv + 1) s g 0 N false → f 1 = .int .i64 (P.length : Nat) → f 2 = .int .i64 ((P.length + X.length : Nat) : Int) → f 3 = .int .i64 ((P.length + X.length + Y.length : Nat) : Int) → f 4 = .fn (.func kc) [] [] →
        f 18 = .int .i64 (mid : Nat) → f 19 = .int .i64 ((mid + (P.length + X.length) : Nat) : Int) → f 20 = .int .i64 (t : Nat) →
      awp Tryz.prog (.seq (.reg g51_38) (.seq (.seq (.reg g51_39) (.cond (.t 185) (.reg g51_40) (.skip))) (.seq (.seq (.reg g51_41) (.cond (.t 199) (.reg g51_42) (.skip))) (.seq (.reg g51_43) (.cond (.t 213) (.reg g51_44) (.skip)))))) ⟨f, noObs :: Am.put m lv s (.vec g 4 (P ++ X ++ Y ++ S)), []⟩
      (AEnds o51 m.length (fun v m1 => v = .tup [] ∧ m1 = Am.put m lv s (.vec g 4 (P ++ mg (lt c) X Y ++ S)))) := by
    intro f t h1 h2 h3 h4 hmg f0 f1 f2 f3 f4 f18 f19 f20
    have l1 : (X.take (t - P.length)).length = t - P.length := by rw [List.length_take]; omega
    have l2 : (X.drop (t - P.length)).length = P.length + X.length - t := by rw [List.length_drop]; omega
    have l3 : (Y.take (mid - t)).length = mid - t := by rw [List.length_take]; omega
    have l4 : (Y.drop (mid - t)).length = Y.length - (mid - t) := by rw [List.length_drop]
    have hrow : P ++ X.take (t - P.length) ++ X.drop (t - P.length) ++ Y.take (mid - t) ++ (Y.drop (mid - t) ++ S) = P ++ X ++ Y ++ S := by
      rw [List.append_assoc P, List.take_append_drop, ← List.append_assoc _ _ S, List.append_assoc (P ++ X), List.take_append_drop]
    have := tail1 (kc := kc) (c := c) (nn := nn) (lv := lv) (s := s) (g := g) (N := N) (P := P) (X1 := X.take (t - P.length)) (X2 := X.drop (t - P.length)) (Y1 := Y.take (mid - t)) (Y2 := Y.drop (mid - t)) (S := S) (m := m) (f := f) ih
      (by rw [l1, l3]; omega) (by rw [l2, l4]; omega) hlv (by rw [hrow]; exact he) (by rw [hrow, hN]) hn
      (List.Pairwise.sublist (List.take_sublist _ _) sX) (List.Pairwise.sublist (List.take_sublist _ _) sY) (List.Pairwise.sublist (List.drop_sublist _ _) sX) (List.Pairwise.sublist (List.drop_sublist _ _) sY)
      f0 f1 (by rw [f2, l1, l2]; congr 2; omega) (by rw [f3, l1, l2, l3, l4]; congr 2; omega) f4 (by rw [f18, l1, l3]; congr 2; omega) (by rw [f19, l1, l2, l3]; congr 2; omega) (by rw [f20, l1]; congr 2; omega)
    rw [hrow, ← hmg] at this
    exact this
  by_cases hgt : mid < P.length + X.length
  · have d0 : decide (((P.length + X.length : Nat) : Int) > (mid : Int)) = true := by simp only [decide_eq_true_eq]; omega
    have hmy : Y.length ≤ mid := by omega
    have e6' := e6.resolve_right (by omega)
    simp only [d0, e6', e7, eES, Nat.reduceBEq, Int.reduceLE, Int.reduceLT, Int.reduceToNat, Int.reduceEq, ↓reduceIte, reduceCtorEq, Nat.reducePow, Nat.reduceAdd, Nat.reduceLeDiff, Nat.reduceLT, Nat.reduceSub, Nat.reduceEqDiff]
    refine main _ _ (mid + (P.length + X.length) - (P.length + X.length + Y.length)) mid (by omega) (by omega) (.inl rfl) (.inl (by omega)) (by omega) (by omega) (by omega) ?_ ?_ ?_ ?_ ?_ ?_ ?_ ?_ ?_ ?_ ?_
    case refine_11 =>
      intro f t h1 h2 hmg f0 f1 f2 f3 f4 f18 f19 f20
      rw [e_kb_x, if_pos rfl, e_kc_n]
      exact fin f t (by omega) (by omega) (by omega) (by omega) hmg f0 f1 f2 f3 f4 f18 f19 f20
    all_goals simp only [eES, Nat.reduceBEq, Int.reduceLE, Int.reduceLT, Int.reduceToNat, Int.reduceEq, ↓reduceIte, reduceCtorEq, Nat.reducePow, Nat.reduceAdd, Nat.reduceLeDiff, Nat.reduceLT, Nat.reduceSub, Nat.reduceEqDiff]
  · have d0 : decide (((P.length + X.length : Nat) : Int) > (mid : Int)) = false := by simp only [decide_eq_false_iff_not]; omega
    simp only [d0, e7, eES, Nat.reduceBEq, Int.reduceLE, Int.reduceLT, Int.reduceToNat, Int.reduceEq, ↓reduceIte, reduceCtorEq, Nat.reducePow, Nat.reduceAdd, Nat.reduceLeDiff, Nat.reduceLT, Nat.reduceSub, Nat.reduceEqDiff]
    refine main _ _ P.length (P.length + X.length) (by omega) (by omega) (.inr rfl) (.inr rfl) (by omega) (by omega) (by omega) ?_ ?_ ?_ ?_ ?_ ?_ ?_ ?_ ?_ ?_ ?_
    case refine_11 =>
      intro f t h1 h2 hmg f0 f1 f2 f3 f4 f18 f19 f20
      rw [e_kb_x, if_pos rfl, e_kc_n]
      exact fin f t (by omega) (by omega) (by omega) (by omega) hmg f0 f1 f2 f3 f4 f18 f19 f20
    all_goals simp only [eES, Nat.reduceBEq, Int.reduceLE, Int.reduceLT, Int.reduceToNat, Int.reduceEq, ↓reduceIte, reduceCtorEq, Nat.reducePow, Nat.reduceAdd, Nat.reduceLeDiff, Nat.reduceLT, Nat.reduceSub, Nat.reduceEqDiff]

theorem sym {kc : Nat} {c : AV → AV → Int} (hc : Cp E kc c) : ∀ n, SymOk E kc c n := by
  intro n
  induction n using Nat.strongRecOn with
  | _ n ih =>
  intro lv s g P X Y S m hXY hX hY hl he hn sX sY
  by_cases h1 : X.length = 1
  · obtain ⟨x, rfl⟩ := List.length_eq_one_iff.1 h1
    exact symA hc lv s g P x Y S m hl he hn sY
  · by_cases h2 : Y.length = 1
    · obtain ⟨y, rfl⟩ := List.length_eq_one_iff.1 h2
      exact symB hc lv s g P X y S m hl he hn sX h1
    · exact symC hc n ih lv s g P X Y S m hXY (by omega) (by omega) hl he hn sX sY

end Go.Proofs.YtofcnjhnjagncaaGreat.Ta

/- A row that is sorted stably. -/
set_option linter.unusedSimpArgs false
namespace Go.Proofs.YtofcnjhnjagncaaGreat.Ta
open Go Am Rc Bt So

variable {E : AV → Prop}

theorem in_call {kc : Nat} {c : AV → AV → Int} (hc : Cp E kc c) {fr : Nat → Ob} {lv s g N a b : Nat} (P X S : List AV) {m : Mem} (hlv : lv < m.length) (he : ∀ x ∈ P ++ X ++ S, Ez E 4 x)
    (hn : (P ++ X ++ S).length < 4611686018427387904) (hN : N = (P ++ X ++ S).length) (ha : a = P.length) (hb : b = P.length + X.length) :
    ACalls Tryz.prog 50 [.vec (lv + 1) s g 0 N false, .int .i64 (a : Nat), .int .i64 (b : Nat), .fn (.func kc) [] []] (fr :: Am.put m lv s (.vec g 4 (P ++ X ++ S)))
      (fun x m1 => x = .tup [] ∧ m1 = fr :: Am.put m lv s (.vec g 4 (P ++ isort (lt c) X ++ S))) := by
  subst hN ha hb
  refine (c50 hc (lv + 1) s g P X S (fr :: Am.put m lv s (.vec g 4 (P ++ X ++ S))) (look_put_same (m := m) hlv) he hn).mono fun x m1 h => ⟨h.1, ?_⟩
  rw [h.2]
  simp only [Am.put, put_put]

def St1 (m : Mem) (lv s g : Nat) (kc : Nat) (c : AV → AV → Int) (xs : List AV) (k : Nat) (st : St) : Prop :=
  ∃ f i, st = ⟨f, [noObs] ++ Am.put m lv s (.vec g 4 (blk (lt c) 20 i xs ++ xs.drop (20 * i))), []⟩ ∧ k = xs.length - 20 * i ∧ 20 * i ≤ xs.length ∧
    f 0 = .vec (lv + 1) s g 0 xs.length false ∧ f 1 = .int .i64 (xs.length : Nat) ∧ f 2 = .fn (.func kc) [] [] ∧ f 6 = .int .i64 20 ∧ f 7 = .int .i64 ((20 * i : Nat) : Int) ∧ f 8 = .int .i64 ((20 * (i + 1) : Nat) : Int)

def St2 (m : Mem) (lv s g : Nat) (kc : Nat) (c : AV → AV → Int) (xs : List AV) (k : Nat) (st : St) : Prop :=
  ∃ f b n, st = ⟨f, [noObs] ++ Am.put m lv s (.vec g 4 (blk (lt c) b n xs)), []⟩ ∧ k = xs.length - b ∧ 0 < b ∧ b < 2305843009213693952 ∧ xs.length ≤ b * n ∧
    f 0 = .vec (lv + 1) s g 0 xs.length false ∧ f 1 = .int .i64 (xs.length : Nat) ∧ f 2 = .fn (.func kc) [] [] ∧ f 6 = .int .i64 (b : Nat)

def St3 (m : Mem) (lv s g : Nat) (kc : Nat) (c : AV → AV → Int) (xs : List AV) (b : Nat) (k : Nat) (st : St) : Prop :=
  ∃ f i n, st = ⟨f, [noObs] ++ Am.put m lv s (.vec g 4 (blk (lt c) (2 * b) i xs ++ blk (lt c) b n (xs.drop (2 * b * i)))), []⟩ ∧ k = xs.length - 2 * b * i ∧ 2 * b * i ≤ xs.length ∧ xs.length - 2 * b * i ≤ b * n ∧
    f 0 = .vec (lv + 1) s g 0 xs.length false ∧ f 1 = .int .i64 (xs.length : Nat) ∧ f 2 = .fn (.func kc) [] [] ∧ f 6 = .int .i64 (b : Nat) ∧ f 7 = .int .i64 ((2 * b * i : Nat) : Int) ∧ f 8 = .int .i64 ((2 * b * (i + 1) : Nat) : Int)

set_option maxHeartbeats 1000000 in
theorem c31 {kc : Nat} {c : AV → AV → Int} (hc : Cp E kc c) (lv s g : Nat) (xs : List AV) (m : Mem) (hl : Am.look m lv s = .vec g 4 xs) (he : ∀ x ∈ xs, Ez E 4 x)
    (hn : xs.length < 1152921504606846976) :
    ACalls Tryz.prog 31 [.vec lv s g 0 xs.length false, .int .i64 (xs.length : Nat), .fn (.func kc) [] []] m
      (fun x m1 => x = .tup [] ∧ m1 = Am.put m lv s (.vec g 4 (isort (lt c) xs))) := by
  have hlv : lv < m.length := look_lt (by rw [hl]; simp)
  refine acalls_of_awp (rc := r31) (rs := o31) Tryz.func31 rfl rfl Tryz.ntmps31 k31 q31 (by simp) ?_
  have h0 : m = Am.put m lv s (.vec g 4 xs) := (put_self hl).symm
  simp only [r31, g31_0, g31_1, eES, Nat.reduceBEq, Int.reduceLE, Int.reduceLT, Int.reduceToNat, Int.reduceEq, ↓reduceIte, reduceCtorEq, Nat.reducePow, Nat.reduceAdd, Nat.reduceLeDiff, Nat.reduceLT, Nat.reduceSub, Nat.reduceEqDiff]
  refine awp_loop (St1 m lv s g kc c xs) _ ⟨_, 0, by rw [show blk (lt c) 20 0 xs ++ xs.drop (20 * 0) = xs by simp [blk], ← h0] <;> rfl, rfl, by omega, by simp only [eES, Nat.reduceBEq, Int.reduceLE, Int.reduceLT, Int.reduceToNat, Int.reduceEq, ↓reduceIte, reduceCtorEq, Nat.reducePow, Nat.reduceAdd, Nat.reduceLeDiff, Nat.reduceLT, Nat.reduceSub, Nat.reduceEqDiff], by simp only [eES, Nat.reduceBEq, Int.reduceLE, Int.reduceLT, Int.reduceToNat, Int.reduceEq, ↓reduceIte, reduceCtorEq, Nat.reducePow, Nat.reduceAdd, Nat.reduceLeDiff, Nat.reduceLT, Nat.reduceSub, Nat.reduceEqDiff], by simp only [eES, Nat.reduceBEq, Int.reduceLE, Int.reduceLT, Int.reduceToNat, Int.reduceEq, ↓reduceIte, reduceCtorEq, Nat.reducePow, Nat.reduceAdd, Nat.reduceLeDiff, Nat.reduceLT, Nat.reduceSub, Nat.reduceEqDiff], by simp only [eES, Nat.reduceBEq, Int.reduceLE, Int.reduceLT, Int.reduceToNat, Int.reduceEq, ↓reduceIte, reduceCtorEq, Nat.reducePow, Nat.reduceAdd, Nat.reduceLeDiff, Nat.reduceLT, Nat.reduceSub, Nat.reduceEqDiff], by simp only [eES, Nat.reduceBEq, Int.reduceLE, Int.reduceLT, Int.reduceToNat, Int.reduceEq, ↓reduceIte, reduceCtorEq, Nat.reducePow, Nat.reduceAdd, Nat.reduceLeDiff, Nat.reduceLT, Nat.reduceSub, Nat.reduceEqDiff] <;> rfl, by simp only [eES, Nat.reduceBEq, Int.reduceLE, Int.reduceLT, Int.reduceToNat, Int.reduceEq, ↓reduceIte, reduceCtorEq, Nat.reducePow, Nat.reduceAdd, Nat.reduceLeDiff, Nat.reduceLT, Nat.reduceSub, Nat.reduceEqDiff] <;> rfl⟩ ?_
  clear h0
  rintro k st ⟨f, i, rfl, rfl, hi, f0, f1, f2, f6, f7, f8⟩
  simp only [l31_0, g31_2, f0, f1, f2, f6, f7, f8, List.singleton_append, eES, Nat.reduceBEq, Int.reduceLE, Int.reduceLT, Int.reduceToNat, Int.reduceEq, ↓reduceIte, reduceCtorEq, Nat.reducePow, Nat.reduceAdd, Nat.reduceLeDiff, Nat.reduceLT, Nat.reduceSub, Nat.reduceEqDiff]
  have hbl : (blk (lt c) 20 i xs).length = 20 * i := by rw [len_blk]; omega
  by_cases hlt : 20 * (i + 1) ≤ xs.length
  · have d0 : decide (((20 * (i + 1) : Nat) : Int) ≤ (xs.length : Int)) = true := by simp only [decide_eq_true_eq]; omega
    have e1 : IntKind.i64.wrap (((20 * (i + 1) : Nat) : Int) + 20) = ((20 * (i + 1 + 1) : Nat) : Int) := by rw [wi64]; omega
    have hcut : blk (lt c) 20 i xs ++ xs.drop (20 * i) = blk (lt c) 20 i xs ++ (xs.drop (20 * i)).take 20 ++ xs.drop (20 * (i + 1)) := by
      rw [List.append_assoc, show 20 * (i + 1) = 20 * i + 20 by omega, ← List.drop_drop, List.take_append_drop]
    have hx1 : ((xs.drop (20 * i)).take 20).length = 20 := by rw [List.length_take, List.length_drop]; omega
    have hee : ∀ x ∈ blk (lt c) 20 i xs ++ (xs.drop (20 * i)).take 20 ++ xs.drop (20 * (i + 1)), Ez E 4 x := by
      intro x hx
      refine he x ?_
      rcases List.mem_append.1 hx with hx | hx
      · rcases List.mem_append.1 hx with hx | hx
        · exact mem_blk hx
        · exact List.mem_of_mem_drop (List.mem_of_mem_take hx)
      · exact List.mem_of_mem_drop hx
    have hNN : (blk (lt c) 20 i xs ++ (xs.drop (20 * i)).take 20 ++ xs.drop (20 * (i + 1))).length = xs.length := by
      rw [List.length_append, List.length_append, hx1, hbl, List.length_drop]; omega
    simp only [d0, hcut, g31_3, f0, f1, f2, f6, f7, f8, eES, Nat.reduceBEq, Int.reduceLE, Int.reduceLT, Int.reduceToNat, Int.reduceEq, ↓reduceIte, reduceCtorEq, Nat.reducePow, Nat.reduceAdd, Nat.reduceLeDiff, Nat.reduceLT, Nat.reduceSub, Nat.reduceEqDiff]
    refine aops_callF (in_call hc (a := 20 * i) (b := 20 * (i + 1)) (blk (lt c) 20 i xs) ((xs.drop (20 * i)).take 20) (xs.drop (20 * (i + 1))) hlv hee (by omega) hNN.symm hbl.symm (by rw [hbl, hx1]; omega)) rfl ?_
    simp only [g31_4, g31_5, e1, f0, f1, f2, f6, f7, f8, eES, Nat.reduceBEq, Int.reduceLE, Int.reduceLT, Int.reduceToNat, Int.reduceEq, ↓reduceIte, reduceCtorEq, Nat.reducePow, Nat.reduceAdd, Nat.reduceLeDiff, Nat.reduceLT, Nat.reduceSub, Nat.reduceEqDiff]
    exact ⟨xs.length - 20 * (i + 1), by omega, _, i + 1, by rw [blk_snoc] <;> rfl, rfl, hlt, by simp only [f0, eES, Nat.reduceBEq, Int.reduceLE, Int.reduceLT, Int.reduceToNat, Int.reduceEq, ↓reduceIte, reduceCtorEq, Nat.reducePow, Nat.reduceAdd, Nat.reduceLeDiff, Nat.reduceLT, Nat.reduceSub, Nat.reduceEqDiff], by simp only [f1, eES, Nat.reduceBEq, Int.reduceLE, Int.reduceLT, Int.reduceToNat, Int.reduceEq, ↓reduceIte, reduceCtorEq, Nat.reducePow, Nat.reduceAdd, Nat.reduceLeDiff, Nat.reduceLT, Nat.reduceSub, Nat.reduceEqDiff], by simp only [f2, eES, Nat.reduceBEq, Int.reduceLE, Int.reduceLT, Int.reduceToNat, Int.reduceEq, ↓reduceIte, reduceCtorEq, Nat.reducePow, Nat.reduceAdd, Nat.reduceLeDiff, Nat.reduceLT, Nat.reduceSub, Nat.reduceEqDiff], by simp only [f6, eES, Nat.reduceBEq, Int.reduceLE, Int.reduceLT, Int.reduceToNat, Int.reduceEq, ↓reduceIte, reduceCtorEq, Nat.reducePow, Nat.reduceAdd, Nat.reduceLeDiff, Nat.reduceLT, Nat.reduceSub, Nat.reduceEqDiff], by simp only [eES, Nat.reduceBEq, Int.reduceLE, Int.reduceLT, Int.reduceToNat, Int.reduceEq, ↓reduceIte, reduceCtorEq, Nat.reducePow, Nat.reduceAdd, Nat.reduceLeDiff, Nat.reduceLT, Nat.reduceSub, Nat.reduceEqDiff], by simp only [eES, Nat.reduceBEq, Int.reduceLE, Int.reduceLT, Int.reduceToNat, Int.reduceEq, ↓reduceIte, reduceCtorEq, Nat.reducePow, Nat.reduceAdd, Nat.reduceLeDiff, Nat.reduceLT, Nat.reduceSub, Nat.reduceEqDiff]⟩
  · have d0 : decide (((20 * (i + 1) : Nat) : Int) ≤ (xs.length : Int)) = false := by simp only [decide_eq_false_iff_not]; omega
    have hee : ∀ x ∈ blk (lt c) 20 i xs ++ xs.drop (20 * i) ++ [], Ez E 4 x := by
      intro x hx
      refine he x ?_
      rw [List.append_nil] at hx
      rcases List.mem_append.1 hx with hx | hx
      · exact mem_blk hx
      · exact List.mem_of_mem_drop hx
    have hNN : (blk (lt c) 20 i xs ++ xs.drop (20 * i) ++ []).length = xs.length := by
      rw [List.append_nil, List.length_append, hbl, List.length_drop]; omega
    have hic := in_call hc (fr := noObs) (g := g) (s := s) (N := xs.length) (a := 20 * i) (b := xs.length) (blk (lt c) 20 i xs) (xs.drop (20 * i)) [] hlv hee (by omega) hNN.symm hbl.symm (by rw [hbl, List.length_drop]; omega)
    have hsn : blk (lt c) 20 i xs ++ isort (lt c) (xs.drop (20 * i)) = blk (lt c) 20 (i + 1) xs := by
      rw [blk_snoc, List.take_of_length_le (by rw [List.length_drop]; omega)]
    rw [List.append_nil, List.append_nil, hsn] at hic
    simp only [d0, g31_6, f0, f1, f2, f6, f7, f8, eES, Nat.reduceBEq, Int.reduceLE, Int.reduceLT, Int.reduceToNat, Int.reduceEq, ↓reduceIte, reduceCtorEq, Nat.reducePow, Nat.reduceAdd, Nat.reduceLeDiff, Nat.reduceLT, Nat.reduceSub, Nat.reduceEqDiff]
    refine aops_callF hic rfl ?_
    simp only [eES, Nat.reduceBEq, Int.reduceLE, Int.reduceLT, Int.reduceToNat, Int.reduceEq, ↓reduceIte, reduceCtorEq, Nat.reducePow, Nat.reduceAdd, Nat.reduceLeDiff, Nat.reduceLT, Nat.reduceSub, Nat.reduceEqDiff]
    refine awp_loop (St2 m lv s g kc c xs) _ ⟨_, 20, i + 1, rfl, rfl, by omega, by omega, by omega, by simp only [f0, eES, Nat.reduceBEq, Int.reduceLE, Int.reduceLT, Int.reduceToNat, Int.reduceEq, ↓reduceIte, reduceCtorEq, Nat.reducePow, Nat.reduceAdd, Nat.reduceLeDiff, Nat.reduceLT, Nat.reduceSub, Nat.reduceEqDiff], by simp only [f1, eES, Nat.reduceBEq, Int.reduceLE, Int.reduceLT, Int.reduceToNat, Int.reduceEq, ↓reduceIte, reduceCtorEq, Nat.reducePow, Nat.reduceAdd, Nat.reduceLeDiff, Nat.reduceLT, Nat.reduceSub, Nat.reduceEqDiff], by simp only [f2, eES, Nat.reduceBEq, Int.reduceLE, Int.reduceLT, Int.reduceToNat, Int.reduceEq, ↓reduceIte, reduceCtorEq, Nat.reducePow, Nat.reduceAdd, Nat.reduceLeDiff, Nat.reduceLT, Nat.reduceSub, Nat.reduceEqDiff], by simp only [f6, eES, Nat.reduceBEq, Int.reduceLE, Int.reduceLT, Int.reduceToNat, Int.reduceEq, ↓reduceIte, reduceCtorEq, Nat.reducePow, Nat.reduceAdd, Nat.reduceLeDiff, Nat.reduceLT, Nat.reduceSub, Nat.reduceEqDiff] <;> rfl⟩ ?_
    clear f0 f1 f2 f6 f7 f8 hic hsn hNN hee d0 hlt hbl hi f i
    rintro k st ⟨f, b, n, rfl, rfl, hb0, hb1, hbn, f0, f1, f2, f6⟩
    simp only [l31_2, g31_7, f0, f1, f2, f6, List.singleton_append, eES, Nat.reduceBEq, Int.reduceLE, Int.reduceLT, Int.reduceToNat, Int.reduceEq, ↓reduceIte, reduceCtorEq, Nat.reducePow, Nat.reduceAdd, Nat.reduceLeDiff, Nat.reduceLT, Nat.reduceSub, Nat.reduceEqDiff]
    by_cases hlt : b < xs.length
    · have d0 : decide ((b : Int) < (xs.length : Int)) = true := by simp only [decide_eq_true_eq]; omega
      have e1 : IntKind.i64.wrap (2 * (b : Int)) = ((2 * b : Nat) : Int) := by rw [wi64]; omega
      have e1' : IntKind.i64.wrap ((b : Int) * 2) = ((2 * b : Nat) : Int) := by rw [wi64]; omega
      simp only [d0, g31_8, e1, f0, f1, f2, f6, eES, Nat.reduceBEq, Int.reduceLE, Int.reduceLT, Int.reduceToNat, Int.reduceEq, ↓reduceIte, reduceCtorEq, Nat.reducePow, Nat.reduceAdd, Nat.reduceLeDiff, Nat.reduceLT, Nat.reduceSub, Nat.reduceEqDiff]
      refine awp_loop (St3 m lv s g kc c xs b) _ ⟨_, 0, n, by simp only [blk, Nat.mul_zero, List.drop_zero, List.nil_append] <;> rfl, rfl, by omega, by omega, by simp only [f0, eES, Nat.reduceBEq, Int.reduceLE, Int.reduceLT, Int.reduceToNat, Int.reduceEq, ↓reduceIte, reduceCtorEq, Nat.reducePow, Nat.reduceAdd, Nat.reduceLeDiff, Nat.reduceLT, Nat.reduceSub, Nat.reduceEqDiff], by simp only [f1, eES, Nat.reduceBEq, Int.reduceLE, Int.reduceLT, Int.reduceToNat, Int.reduceEq, ↓reduceIte, reduceCtorEq, Nat.reducePow, Nat.reduceAdd, Nat.reduceLeDiff, Nat.reduceLT, Nat.reduceSub, Nat.reduceEqDiff], by simp only [f2, eES, Nat.reduceBEq, Int.reduceLE, Int.reduceLT, Int.reduceToNat, Int.reduceEq, ↓reduceIte, reduceCtorEq, Nat.reducePow, Nat.reduceAdd, Nat.reduceLeDiff, Nat.reduceLT, Nat.reduceSub, Nat.reduceEqDiff], by simp only [f6, eES, Nat.reduceBEq, Int.reduceLE, Int.reduceLT, Int.reduceToNat, Int.reduceEq, ↓reduceIte, reduceCtorEq, Nat.reducePow, Nat.reduceAdd, Nat.reduceLeDiff, Nat.reduceLT, Nat.reduceSub, Nat.reduceEqDiff], by simp only [eES, Nat.reduceBEq, Int.reduceLE, Int.reduceLT, Int.reduceToNat, Int.reduceEq, ↓reduceIte, reduceCtorEq, Nat.reducePow, Nat.reduceAdd, Nat.reduceLeDiff, Nat.reduceLT, Nat.reduceSub, Nat.reduceEqDiff] <;> rfl, by simp only [Nat.zero_add, Nat.mul_one, eES, Nat.reduceBEq, Int.reduceLE, Int.reduceLT, Int.reduceToNat, Int.reduceEq, ↓reduceIte, reduceCtorEq, Nat.reducePow, Nat.reduceAdd, Nat.reduceLeDiff, Nat.reduceLT, Nat.reduceSub, Nat.reduceEqDiff]⟩ ?_
      clear f0 f1 f2 f6 f
      rintro k st ⟨f, i, n', rfl, rfl, hi, hn', f0, f1, f2, f6, f7, f8⟩
      have hA1 : 2 * b * (i + 1) = 2 * b * i + 2 * b := Nat.mul_succ _ _
      have hA2 : 2 * b * (i + 1 + 1) = 2 * b * i + 2 * b + 2 * b := by rw [Nat.mul_succ, hA1]
      have hbl : (blk (lt c) (2 * b) i xs).length = 2 * b * i := by rw [len_blk]; omega
      have hsnoc := blk_snoc (lt := lt c) (2 * b) i xs
      rw [hA1] at f8
      clear hbn
      generalize hA : 2 * b * i = A at *
      simp only [l31_1, g31_9, f0, f1, f2, f6, f7, f8, List.singleton_append, eES, Nat.reduceBEq, Int.reduceLE, Int.reduceLT, Int.reduceToNat, Int.reduceEq, ↓reduceIte, reduceCtorEq, Nat.reducePow, Nat.reduceAdd, Nat.reduceLeDiff, Nat.reduceLT, Nat.reduceSub, Nat.reduceEqDiff]
      generalize hL : xs.drop A = L at *
      have hLl : L.length = xs.length - A := by rw [← hL, List.length_drop]
      have hLe : ∀ z ∈ L, Ez E 4 z := fun z hz => he z (List.mem_of_mem_drop (by rw [hL]; exact hz))
      have hPe : ∀ z ∈ blk (lt c) (2 * b) i xs, Ez E 4 z := fun z hz => he z (mem_blk hz)
      have e2 : IntKind.i64.wrap (((A : Nat) : Int) + (b : Int)) = ((A + b : Nat) : Int) := by rw [wi64]; omega
      -- two blocks and the rest
      have two : b < L.length → ∃ n'', n' = n'' + 2 ∧ blk (lt c) b n' L = isort (lt c) (L.take b) ++ isort (lt c) ((L.drop b).take b) ++ blk (lt c) b n'' (L.drop (2 * b)) ∧ mg (lt c) (isort (lt c) (L.take b)) (isort (lt c) ((L.drop b).take b)) = isort (lt c) (L.take (2 * b)) := by
        intro h
        match n', hn' with
        | 0, hn' => omega
        | 1, hn' => omega
        | n'' + 2, _ =>
          refine ⟨n'', rfl, ?_, ?_⟩
          · rw [blk, blk, List.append_assoc, List.drop_drop, show b + b = 2 * b by omega]
          · rw [mg_isort hc.sw, take_two]
      by_cases hlt2 : A + 2 * b ≤ xs.length
      · have d1 : decide (((A + 2 * b : Nat) : Int) ≤ (xs.length : Int)) = true := by simp only [decide_eq_true_eq]; omega
        obtain ⟨n'', rfl, hrow, hmg⟩ := two (by omega)
        have hn2 : b * (n'' + 2) = b * n'' + 2 * b := by rw [Nat.mul_add, Nat.mul_comm b 2]
        rw [hn2] at hn'
        clear two
        generalize hZ : b * n'' = Z at *
        have e3 : IntKind.i64.wrap (((A + 2 * b : Nat) : Int) + ((2 * b : Nat) : Int)) = ((A + 2 * b + 2 * b : Nat) : Int) := by
          rw [wi64]; omega
        have l1 : (isort (lt c) (L.take b)).length = b := by rw [len_isort, List.length_take]; omega
        have l2 : (isort (lt c) ((L.drop b).take b)).length = b := by rw [len_isort, List.length_take, List.length_drop]; omega
        have l3 : (blk (lt c) b n'' (L.drop (2 * b))).length = L.length - 2 * b := by
          rw [len_blk, List.length_drop, hZ]
          omega
        have hcut : blk (lt c) (2 * b) i xs ++ blk (lt c) b (n'' + 2) L = blk (lt c) (2 * b) i xs ++ isort (lt c) (L.take b) ++ isort (lt c) ((L.drop b).take b) ++ blk (lt c) b n'' (L.drop (2 * b)) := by
          rw [hrow]; simp only [List.append_assoc]
        have hee : ∀ x ∈ blk (lt c) (2 * b) i xs ++ isort (lt c) (L.take b) ++ isort (lt c) ((L.drop b).take b) ++ blk (lt c) b n'' (L.drop (2 * b)), Ez E 4 x := by
          rw [← hcut]
          intro x hx
          rcases List.mem_append.1 hx with hx | hx
          · exact hPe x hx
          · exact hLe x (mem_blk hx)
        have hNN : (blk (lt c) (2 * b) i xs ++ isort (lt c) (L.take b) ++ isort (lt c) ((L.drop b).take b) ++ blk (lt c) b n'' (L.drop (2 * b))).length = xs.length := by
          rw [List.length_append, List.length_append, List.length_append, l1, l2, l3, hbl]; omega
        simp only [d1, hcut, e2, g31_10, f0, f1, f2, f6, f7, f8, eES, Nat.reduceBEq, Int.reduceLE, Int.reduceLT, Int.reduceToNat, Int.reduceEq, ↓reduceIte, reduceCtorEq, Nat.reducePow, Nat.reduceAdd, Nat.reduceLeDiff, Nat.reduceLT, Nat.reduceSub, Nat.reduceEqDiff]
        refine aops_callF (sym_call (sym hc _) (a := A) (b := A + b) (e := A + 2 * b) (blk (lt c) (2 * b) i xs) (isort (lt c) (L.take b)) (isort (lt c) ((L.drop b).take b)) (blk (lt c) b n'' (L.drop (2 * b))) hlv rfl (by omega) (by omega) hee (by omega) (srt_isort hc.sw _) (srt_isort hc.sw _) hNN.symm hbl.symm (by rw [hbl, l1]) (by rw [hbl, l1, l2]; omega)) rfl ?_
        simp only [g31_11, g31_12, e1, e3, f0, f1, f2, f6, f7, f8, eES, Nat.reduceBEq, Int.reduceLE, Int.reduceLT, Int.reduceToNat, Int.reduceEq, ↓reduceIte, reduceCtorEq, Nat.reducePow, Nat.reduceAdd, Nat.reduceLeDiff, Nat.reduceLT, Nat.reduceSub, Nat.reduceEqDiff]
        refine ⟨xs.length - (A + 2 * b), by omega, _, i + 1, n'', by rw [hsnoc, hmg, hA1, ← List.drop_drop, hL] <;> rfl, by rw [hA1], by rw [hA1]; exact hlt2, ?_, by simp only [f0, eES, Nat.reduceBEq, Int.reduceLE, Int.reduceLT, Int.reduceToNat, Int.reduceEq, ↓reduceIte, reduceCtorEq, Nat.reducePow, Nat.reduceAdd, Nat.reduceLeDiff, Nat.reduceLT, Nat.reduceSub, Nat.reduceEqDiff], by simp only [f1, eES, Nat.reduceBEq, Int.reduceLE, Int.reduceLT, Int.reduceToNat, Int.reduceEq, ↓reduceIte, reduceCtorEq, Nat.reducePow, Nat.reduceAdd, Nat.reduceLeDiff, Nat.reduceLT, Nat.reduceSub, Nat.reduceEqDiff], by simp only [f2, eES, Nat.reduceBEq, Int.reduceLE, Int.reduceLT, Int.reduceToNat, Int.reduceEq, ↓reduceIte, reduceCtorEq, Nat.reducePow, Nat.reduceAdd, Nat.reduceLeDiff, Nat.reduceLT, Nat.reduceSub, Nat.reduceEqDiff], by simp only [f6, eES, Nat.reduceBEq, Int.reduceLE, Int.reduceLT, Int.reduceToNat, Int.reduceEq, ↓reduceIte, reduceCtorEq, Nat.reducePow, Nat.reduceAdd, Nat.reduceLeDiff, Nat.reduceLT, Nat.reduceSub, Nat.reduceEqDiff], by simp only [hA1, eES, Nat.reduceBEq, Int.reduceLE, Int.reduceLT, Int.reduceToNat, Int.reduceEq, ↓reduceIte, reduceCtorEq, Nat.reducePow, Nat.reduceAdd, Nat.reduceLeDiff, Nat.reduceLT, Nat.reduceSub, Nat.reduceEqDiff], by simp only [hA2, eES, Nat.reduceBEq, Int.reduceLE, Int.reduceLT, Int.reduceToNat, Int.reduceEq, ↓reduceIte, reduceCtorEq, Nat.reducePow, Nat.reduceAdd, Nat.reduceLeDiff, Nat.reduceLT, Nat.reduceSub, Nat.reduceEqDiff]⟩
        · rw [hA1, hZ]
          omega
      · have d1 : decide (((A + 2 * b : Nat) : Int) ≤ (xs.length : Int)) = false := by simp only [decide_eq_false_iff_not]; omega
        have hfin : blk (lt c) (2 * b) i xs ++ isort (lt c) L = blk (lt c) (2 * b) (i + 1) xs := by
          rw [hsnoc, List.take_of_length_le (by omega)]
        simp only [d1, e2, g31_13, g31_14, f0, f1, f2, f6, f7, f8, eES, Nat.reduceBEq, Int.reduceLE, Int.reduceLT, Int.reduceToNat, Int.reduceEq, ↓reduceIte, reduceCtorEq, Nat.reducePow, Nat.reduceAdd, Nat.reduceLeDiff, Nat.reduceLT, Nat.reduceSub, Nat.reduceEqDiff]
        by_cases hm : A + b < xs.length
        · have d2 : decide (((A + b : Nat) : Int) < (xs.length : Int)) = true := by simp only [decide_eq_true_eq]; omega
          obtain ⟨n'', rfl, hrow, hmg⟩ := two (by omega)
          clear two hn'
          have hr0 : L.drop (2 * b) = [] := List.drop_of_length_le (by omega)
          have hr1 : (L.drop b).take b = L.drop b := List.take_of_length_le (by rw [List.length_drop]; omega)
          have hr2 : L.take (2 * b) = L := List.take_of_length_le (by omega)
          rw [hr0, blk_nil, List.append_nil, hr1] at hrow
          rw [hr1, hr2] at hmg
          have l1 : (isort (lt c) (L.take b)).length = b := by rw [len_isort, List.length_take]; omega
          have l2 : (isort (lt c) (L.drop b)).length = L.length - b := by rw [len_isort, List.length_drop]
          have hee : ∀ x ∈ blk (lt c) (2 * b) i xs ++ isort (lt c) (L.take b) ++ isort (lt c) (L.drop b) ++ [], Ez E 4 x := by
            intro x hx
            rw [List.append_nil, List.append_assoc, ← hrow] at hx
            rcases List.mem_append.1 hx with hx | hx
            · exact hPe x hx
            · exact hLe x (mem_blk hx)
          have hNN : (blk (lt c) (2 * b) i xs ++ isort (lt c) (L.take b) ++ isort (lt c) (L.drop b) ++ []).length = xs.length := by
            rw [List.append_nil, List.length_append, List.length_append, l1, l2, hbl]; omega
          have hsc := sym_call (sym hc _) (fr := noObs) (s := s) (g := g) (N := xs.length) (a := A) (b := A + b) (e := xs.length) (blk (lt c) (2 * b) i xs) (isort (lt c) (L.take b)) (isort (lt c) (L.drop b)) [] hlv rfl (by omega) (by omega) hee (by omega) (srt_isort hc.sw _) (srt_isort hc.sw _) hNN.symm hbl.symm (by rw [hbl, l1]) (by rw [hbl, l1, l2]; omega)
          rw [List.append_nil, List.append_nil, hmg, hfin, List.append_assoc, ← hrow] at hsc
          simp only [d2, g31_15, f0, f1, f2, f6, f7, f8, eES, Nat.reduceBEq, Int.reduceLE, Int.reduceLT, Int.reduceToNat, Int.reduceEq, ↓reduceIte, reduceCtorEq, Nat.reducePow, Nat.reduceAdd, Nat.reduceLeDiff, Nat.reduceLT, Nat.reduceSub, Nat.reduceEqDiff]
          refine aops_callF hsc rfl ?_
          simp only [g31_16, e1', f0, f1, f2, f6, f7, f8, eES, Nat.reduceBEq, Int.reduceLE, Int.reduceLT, Int.reduceToNat, Int.reduceEq, ↓reduceIte, reduceCtorEq, Nat.reducePow, Nat.reduceAdd, Nat.reduceLeDiff, Nat.reduceLT, Nat.reduceSub, Nat.reduceEqDiff]
          exact ⟨xs.length - 2 * b, by omega, _, 2 * b, i + 1, rfl, rfl, by omega, by omega, by rw [hA1]; omega, by simp only [f0, eES, Nat.reduceBEq, Int.reduceLE, Int.reduceLT, Int.reduceToNat, Int.reduceEq, ↓reduceIte, reduceCtorEq, Nat.reducePow, Nat.reduceAdd, Nat.reduceLeDiff, Nat.reduceLT, Nat.reduceSub, Nat.reduceEqDiff], by simp only [f1, eES, Nat.reduceBEq, Int.reduceLE, Int.reduceLT, Int.reduceToNat, Int.reduceEq, ↓reduceIte, reduceCtorEq, Nat.reducePow, Nat.reduceAdd, Nat.reduceLeDiff, Nat.reduceLT, Nat.reduceSub, Nat.reduceEqDiff], by simp only [f2, eES, Nat.reduceBEq, Int.reduceLE, Int.reduceLT, Int.reduceToNat, Int.reduceEq, ↓reduceIte, reduceCtorEq, Nat.reducePow, Nat.reduceAdd, Nat.reduceLeDiff, Nat.reduceLT, Nat.reduceSub, Nat.reduceEqDiff], by simp only [eES, Nat.reduceBEq, Int.reduceLE, Int.reduceLT, Int.reduceToNat, Int.reduceEq, ↓reduceIte, reduceCtorEq, Nat.reducePow, Nat.reduceAdd, Nat.reduceLeDiff, Nat.reduceLT, Nat.reduceSub, Nat.reduceEqDiff]⟩
        · have d2 : decide (((A + b : Nat) : Int) < (xs.length : Int)) = false := by simp only [decide_eq_false_iff_not]; omega
          have hrow : blk (lt c) b n' L = isort (lt c) L := blk_big (by omega) (by omega)
          simp only [d2, hrow, hfin, g31_16, e1', f0, f1, f2, f6, f7, f8, eES, Nat.reduceBEq, Int.reduceLE, Int.reduceLT, Int.reduceToNat, Int.reduceEq, ↓reduceIte, reduceCtorEq, Nat.reducePow, Nat.reduceAdd, Nat.reduceLeDiff, Nat.reduceLT, Nat.reduceSub, Nat.reduceEqDiff]
          exact ⟨xs.length - 2 * b, by omega, _, 2 * b, i + 1, rfl, rfl, by omega, by omega, by rw [hA1]; omega, by simp only [f0, eES, Nat.reduceBEq, Int.reduceLE, Int.reduceLT, Int.reduceToNat, Int.reduceEq, ↓reduceIte, reduceCtorEq, Nat.reducePow, Nat.reduceAdd, Nat.reduceLeDiff, Nat.reduceLT, Nat.reduceSub, Nat.reduceEqDiff], by simp only [f1, eES, Nat.reduceBEq, Int.reduceLE, Int.reduceLT, Int.reduceToNat, Int.reduceEq, ↓reduceIte, reduceCtorEq, Nat.reducePow, Nat.reduceAdd, Nat.reduceLeDiff, Nat.reduceLT, Nat.reduceSub, Nat.reduceEqDiff], by simp only [f2, eES, Nat.reduceBEq, Int.reduceLE, Int.reduceLT, Int.reduceToNat, Int.reduceEq, ↓reduceIte, reduceCtorEq, Nat.reducePow, Nat.reduceAdd, Nat.reduceLeDiff, Nat.reduceLT, Nat.reduceSub, Nat.reduceEqDiff], by simp only [eES, Nat.reduceBEq, Int.reduceLE, Int.reduceLT, Int.reduceToNat, Int.reduceEq, ↓reduceIte, reduceCtorEq, Nat.reducePow, Nat.reduceAdd, Nat.reduceLeDiff, Nat.reduceLT, Nat.reduceSub, Nat.reduceEqDiff]⟩
    · have d0 : decide ((b : Int) < (xs.length : Int)) = false := by simp only [decide_eq_false_iff_not]; omega
      have hfin : blk (lt c) b n xs = isort (lt c) xs := blk_big (by omega) hbn
      simp only [d0, f0, f1, f2, f6, hfin, put_len, o31, eES, Nat.reduceBEq, Int.reduceLE, Int.reduceLT, Int.reduceToNat, Int.reduceEq, ↓reduceIte, reduceCtorEq, Nat.reducePow, Nat.reduceAdd, Nat.reduceLeDiff, Nat.reduceLT, Nat.reduceSub, Nat.reduceEqDiff]

theorem c18 {kc : Nat} {c : AV → AV → Int} (hc : Cp E kc c) (lv s g : Nat) (xs : List AV) (m : Mem) (hl : Am.look m lv s = .vec g 4 xs) (he : ∀ x ∈ xs, Ez E 4 x)
    (hn : xs.length < 1152921504606846976) :
    ACalls Tryz.prog 18 [.vec lv s g 0 xs.length false, .fn (.func kc) [] []] m
      (fun x m1 => x = .tup [] ∧ m1 = Am.put m lv s (.vec g 4 (isort (lt c) xs))) := by
  have hlv : lv < m.length := look_lt (by rw [hl]; simp)
  refine acalls_of_awp (rc := r18) (rs := o18) Tryz.func18 rfl rfl Tryz.ntmps18 k18 q18 (by simp) ?_
  have hl2 : Am.look (noObs :: m) (lv + 1) s = .vec g 4 xs := hl
  simp only [g18_0, r18, o18, hl2, eES, Nat.reduceBEq, Int.reduceLE, Int.reduceLT, Int.reduceToNat, Int.reduceEq, ↓reduceIte, reduceCtorEq, Nat.reducePow, Nat.reduceAdd, Nat.reduceLeDiff, Nat.reduceLT, Nat.reduceSub, Nat.reduceEqDiff]
  refine aops_callF ((c31 hc (lv + 1) s g xs (noObs :: m) hl he hn).mono fun x m1 h => ⟨h.1, h.2.trans rfl⟩) rfl ?_
  simp only [Am.put, put_len, eES, Nat.reduceBEq, Int.reduceLE, Int.reduceLT, Int.reduceToNat, Int.reduceEq, ↓reduceIte, reduceCtorEq, Nat.reducePow, Nat.reduceAdd, Nat.reduceLeDiff, Nat.reduceLT, Nat.reduceSub, Nat.reduceEqDiff]

end Go.Proofs.YtofcnjhnjagncaaGreat.Ta

/- slices.Clone: a row of the caller's own. -/
set_option linter.unusedSimpArgs false
namespace Go.Proofs.YtofcnjhnjagncaaGreat.Cl
open Go Am Rc Bt

theorem flat_nil0 {sz : Nat} (h0 : sz ≠ 0) {xs : List AV} (h : xs.all (fun e => e.cells.length == sz) = true) (hf : flat xs = []) : xs = [] := by
  cases xs with
  | nil => rfl
  | cons x xs =>
    have hl : x.cells.length = sz := by simpa using List.all_eq_true.1 h x (by simp)
    have : x.cells = [] := (List.append_eq_nil_iff.1 hf).1
    rw [this] at hl
    exact absurd hl.symm h0

/-- What a cloning is, as the run takes it. -/
def cloned (sz : Nat) (args : List AV) (m : Mem) : Option (AV × Mem) :=
  match args, m with
  | [.list xs], fr :: m => bif xs.all (fun e => e.cells.length == sz) && Nat.ble xs.length 1000000 && rowOrNone (fr 1000) then some (.vec 0 1000 (ngen (fr 1000)) 0 xs.length false, upd fr 1000 (.vec (ngen (fr 1000)) sz xs) :: m) else none
  | _, _ => none

theorem cloned_ok {P : Program} {k sz : Nat} (hk : ∀ (xs : List AV) (fr : Nat → Ob) (m : Mem), xs.all (fun e => e.cells.length == sz) = true → xs.length ≤ 1000000 → rowOrNone (fr 1000) = true →
    ACalls P k [.list xs] (fr :: m) (fun x m1 => x = .vec 0 1000 (ngen (fr 1000)) 0 xs.length false ∧ m1 = upd fr 1000 (.vec (ngen (fr 1000)) sz xs) :: m)) {args : List AV} {m m' : Mem} {v : AV} (h : cloned sz args m = some (v, m')) : ACalls P k args m fun x m1 => x = v ∧ m1 = m' := by
  unfold cloned at h
  split at h
  · rename_i xs fr m0
    cases hb : (xs.all (fun e => e.cells.length == sz) && Nat.ble xs.length 1000000 && rowOrNone (fr 1000)) with
    | false => rw [hb] at h; cases h
    | true =>
      rw [hb] at h
      simp only [cond_true, Option.some.injEq, Prod.mk.injEq] at h
      simp only [Bool.and_eq_true] at hb
      obtain ⟨rfl, rfl⟩ := h
      exact hk xs fr m0 hb.1.1 (Nat.le_of_ble_eq_true hb.1.2) hb.2
  · cases h

theorem c17 (xs : List AV) (fr : Nat → Ob) (m : Mem) (h : xs.all (fun e => e.cells.length == 4) = true) (hn : xs.length ≤ 1000000) (hr : rowOrNone (fr 1000) = true) :
    ACalls Tryz.prog 17 [.list xs] (fr :: m) (fun x m1 => x = .vec 0 1000 (ngen (fr 1000)) 0 xs.length false ∧ m1 = upd fr 1000 (.vec (ngen (fr 1000)) 4 xs) :: m) := by
  have hng : newGen (fr :: m) 0 1000 = ngen (fr 1000) := newGen_fr
  refine acalls_of_awp (rc := r17) (rs := o17) Tryz.func17 rfl rfl Tryz.ntmps17 k17 q17 (by simp) ?_
  simp only [r17, g17_0, g17_1, eES, eEX, Nat.reduceBEq, Int.reduceLE, Int.reduceLT, Int.reduceToNat, Int.reduceEq, ↓reduceIte, reduceCtorEq, Nat.reducePow, Nat.reduceAdd, Nat.reduceLeDiff, Nat.reduceLT, Nat.reduceSub, Nat.reduceEqDiff]
  refine aops_isnil (ys := xs) (by simp only [eES, eEX, Nat.reduceBEq, Int.reduceLE, Int.reduceLT, Int.reduceToNat, Int.reduceEq, ↓reduceIte, reduceCtorEq, Nat.reducePow, Nat.reduceAdd, Nat.reduceLeDiff, Nat.reduceLT, Nat.reduceSub, Nat.reduceEqDiff]) ?_ ?_
  · simp only [g17_3, eES, eEX, Nat.reduceBEq, Int.reduceLE, Int.reduceLT, Int.reduceToNat, Int.reduceEq, ↓reduceIte, reduceCtorEq, Nat.reducePow, Nat.reduceAdd, Nat.reduceLeDiff, Nat.reduceLT, Nat.reduceSub, Nat.reduceEqDiff]
    refine aops_bsl0 rfl ?_
    simp only [eES, eEX, Nat.reduceBEq, Int.reduceLE, Int.reduceLT, Int.reduceToNat, Int.reduceEq, ↓reduceIte, reduceCtorEq, Nat.reducePow, Nat.reduceAdd, Nat.reduceLeDiff, Nat.reduceLT, Nat.reduceSub, Nat.reduceEqDiff]
    refine aops_app (site := 5) (g := 1) (xs := []) (ys := xs) rfl rfl rfl rfl rfl h (by simp [maxLen]; omega) (by simp; omega) ?_
    simp only [eES, eEX, Nat.reduceBEq, Int.reduceLE, Int.reduceLT, Int.reduceToNat, Int.reduceEq, ↓reduceIte, reduceCtorEq, Nat.reducePow, Nat.reduceAdd, Nat.reduceLeDiff, Nat.reduceLT, Nat.reduceSub, Nat.reduceEqDiff]
    refine awp_give (l := 0) (site := 5) (g := 2) (o := 0) (n := xs.length) (q := false) (sz := 4) (xs := xs) (by simp only [Nat.zero_add, eES, eEX, Nat.reduceBEq, Int.reduceLE, Int.reduceLT, Int.reduceToNat, Int.reduceEq, ↓reduceIte, reduceCtorEq, Nat.reducePow, Nat.reduceAdd, Nat.reduceLeDiff, Nat.reduceLT, Nat.reduceSub, Nat.reduceEqDiff]) (by simp only [eES, eEX, Nat.reduceBEq, Int.reduceLE, Int.reduceLT, Int.reduceToNat, Int.reduceEq, ↓reduceIte, reduceCtorEq, Nat.reducePow, Nat.reduceAdd, Nat.reduceLeDiff, Nat.reduceLT, Nat.reduceSub, Nat.reduceEqDiff]) (by simp) (by decide) hr ?_
    simp only [hng, o17, eES, eEX, Nat.reduceBEq, Int.reduceLE, Int.reduceLT, Int.reduceToNat, Int.reduceEq, ↓reduceIte, reduceCtorEq, Nat.reducePow, Nat.reduceAdd, Nat.reduceLeDiff, Nat.reduceLT, Nat.reduceSub, Nat.reduceEqDiff]
    simp [AV.still, AV.un, isV, vget]
  · intro he
    have hx : xs = [] := by
      rcases he with he | he
      · exact he
      · exact flat_nil0 (by decide) h he
    subst hx
    simp only [g17_2, eES, eEX, Nat.reduceBEq, Int.reduceLE, Int.reduceLT, Int.reduceToNat, Int.reduceEq, ↓reduceIte, reduceCtorEq, Nat.reducePow, Nat.reduceAdd, Nat.reduceLeDiff, Nat.reduceLT, Nat.reduceSub, Nat.reduceEqDiff]
    refine awp_vec (by simp only [eES, eEX, Nat.reduceBEq, Int.reduceLE, Int.reduceLT, Int.reduceToNat, Int.reduceEq, ↓reduceIte, reduceCtorEq, Nat.reducePow, Nat.reduceAdd, Nat.reduceLeDiff, Nat.reduceLT, Nat.reduceSub, Nat.reduceEqDiff]) rfl ?_
    simp only [eES, eEX, Nat.reduceBEq, Int.reduceLE, Int.reduceLT, Int.reduceToNat, Int.reduceEq, ↓reduceIte, reduceCtorEq, Nat.reducePow, Nat.reduceAdd, Nat.reduceLeDiff, Nat.reduceLT, Nat.reduceSub, Nat.reduceEqDiff]
    refine awp_give (l := 0) (site := 2) (g := 1) (o := 0) (n := 0) (q := false) (sz := 4) (xs := []) (by simp only [eES, eEX, Nat.reduceBEq, Int.reduceLE, Int.reduceLT, Int.reduceToNat, Int.reduceEq, ↓reduceIte, reduceCtorEq, Nat.reducePow, Nat.reduceAdd, Nat.reduceLeDiff, Nat.reduceLT, Nat.reduceSub, Nat.reduceEqDiff]) (by simp only [eES, eEX, Nat.reduceBEq, Int.reduceLE, Int.reduceLT, Int.reduceToNat, Int.reduceEq, ↓reduceIte, reduceCtorEq, Nat.reducePow, Nat.reduceAdd, Nat.reduceLeDiff, Nat.reduceLT, Nat.reduceSub, Nat.reduceEqDiff]) (by simp) (by decide) hr ?_
    simp only [hng, o17, eES, eEX, Nat.reduceBEq, Int.reduceLE, Int.reduceLT, Int.reduceToNat, Int.reduceEq, ↓reduceIte, reduceCtorEq, Nat.reducePow, Nat.reduceAdd, Nat.reduceLeDiff, Nat.reduceLT, Nat.reduceSub, Nat.reduceEqDiff]
    simp [AV.still, AV.un, isV, vget]

theorem c62 (xs : List AV) (fr : Nat → Ob) (m : Mem) (h : xs.all (fun e => e.cells.length == 8) = true) (hn : xs.length ≤ 1000000) (hr : rowOrNone (fr 1000) = true) :
    ACalls Tryz.prog 62 [.list xs] (fr :: m) (fun x m1 => x = .vec 0 1000 (ngen (fr 1000)) 0 xs.length false ∧ m1 = upd fr 1000 (.vec (ngen (fr 1000)) 8 xs) :: m) := by
  have hng : newGen (fr :: m) 0 1000 = ngen (fr 1000) := newGen_fr
  refine acalls_of_awp (rc := r62) (rs := o62) Tryz.func62 rfl rfl Tryz.ntmps62 k62 q62 (by simp) ?_
  simp only [r62, g62_0, g62_1, eES, eEX, Nat.reduceBEq, Int.reduceLE, Int.reduceLT, Int.reduceToNat, Int.reduceEq, ↓reduceIte, reduceCtorEq, Nat.reducePow, Nat.reduceAdd, Nat.reduceLeDiff, Nat.reduceLT, Nat.reduceSub, Nat.reduceEqDiff]
  refine aops_isnil (ys := xs) (by simp only [eES, eEX, Nat.reduceBEq, Int.reduceLE, Int.reduceLT, Int.reduceToNat, Int.reduceEq, ↓reduceIte, reduceCtorEq, Nat.reducePow, Nat.reduceAdd, Nat.reduceLeDiff, Nat.reduceLT, Nat.reduceSub, Nat.reduceEqDiff]) ?_ ?_
  · simp only [g62_3, eES, eEX, Nat.reduceBEq, Int.reduceLE, Int.reduceLT, Int.reduceToNat, Int.reduceEq, ↓reduceIte, reduceCtorEq, Nat.reducePow, Nat.reduceAdd, Nat.reduceLeDiff, Nat.reduceLT, Nat.reduceSub, Nat.reduceEqDiff]
    refine aops_bsl0 rfl ?_
    simp only [eES, eEX, Nat.reduceBEq, Int.reduceLE, Int.reduceLT, Int.reduceToNat, Int.reduceEq, ↓reduceIte, reduceCtorEq, Nat.reducePow, Nat.reduceAdd, Nat.reduceLeDiff, Nat.reduceLT, Nat.reduceSub, Nat.reduceEqDiff]
    refine aops_app (site := 5) (g := 1) (xs := []) (ys := xs) rfl rfl rfl rfl rfl h (by simp [maxLen]; omega) (by simp; omega) ?_
    simp only [eES, eEX, Nat.reduceBEq, Int.reduceLE, Int.reduceLT, Int.reduceToNat, Int.reduceEq, ↓reduceIte, reduceCtorEq, Nat.reducePow, Nat.reduceAdd, Nat.reduceLeDiff, Nat.reduceLT, Nat.reduceSub, Nat.reduceEqDiff]
    refine awp_give (l := 0) (site := 5) (g := 2) (o := 0) (n := xs.length) (q := false) (sz := 8) (xs := xs) (by simp only [Nat.zero_add, eES, eEX, Nat.reduceBEq, Int.reduceLE, Int.reduceLT, Int.reduceToNat, Int.reduceEq, ↓reduceIte, reduceCtorEq, Nat.reducePow, Nat.reduceAdd, Nat.reduceLeDiff, Nat.reduceLT, Nat.reduceSub, Nat.reduceEqDiff]) (by simp only [eES, eEX, Nat.reduceBEq, Int.reduceLE, Int.reduceLT, Int.reduceToNat, Int.reduceEq, ↓reduceIte, reduceCtorEq, Nat.reducePow, Nat.reduceAdd, Nat.reduceLeDiff, Nat.reduceLT, Nat.reduceSub, Nat.reduceEqDiff]) (by simp) (by decide) hr ?_
    simp only [hng, o62, eES, eEX, Nat.reduceBEq, Int.reduceLE, Int.reduceLT, Int.reduceToNat, Int.reduceEq, ↓reduceIte, reduceCtorEq, Nat.reducePow, Nat.reduceAdd, Nat.reduceLeDiff, Nat.reduceLT, Nat.reduceSub, Nat.reduceEqDiff]
    simp [AV.still, AV.un, isV, vget]
  · intro he
    have hx : xs = [] := by
      rcases he with he | he
      · exact he
      · exact flat_nil0 (by decide) h he
    subst hx
    simp only [g62_2, eES, eEX, Nat.reduceBEq, Int.reduceLE, Int.reduceLT, Int.reduceToNat, Int.reduceEq, ↓reduceIte, reduceCtorEq, Nat.reducePow, Nat.reduceAdd, Nat.reduceLeDiff, Nat.reduceLT, Nat.reduceSub, Nat.reduceEqDiff]
    refine awp_vec (by simp only [eES, eEX, Nat.reduceBEq, Int.reduceLE, Int.reduceLT, Int.reduceToNat, Int.reduceEq, ↓reduceIte, reduceCtorEq, Nat.reducePow, Nat.reduceAdd, Nat.reduceLeDiff, Nat.reduceLT, Nat.reduceSub, Nat.reduceEqDiff]) rfl ?_
    simp only [eES, eEX, Nat.reduceBEq, Int.reduceLE, Int.reduceLT, Int.reduceToNat, Int.reduceEq, ↓reduceIte, reduceCtorEq, Nat.reducePow, Nat.reduceAdd, Nat.reduceLeDiff, Nat.reduceLT, Nat.reduceSub, Nat.reduceEqDiff]
    refine awp_give (l := 0) (site := 2) (g := 1) (o := 0) (n := 0) (q := false) (sz := 8) (xs := []) (by simp only [eES, eEX, Nat.reduceBEq, Int.reduceLE, Int.reduceLT, Int.reduceToNat, Int.reduceEq, ↓reduceIte, reduceCtorEq, Nat.reducePow, Nat.reduceAdd, Nat.reduceLeDiff, Nat.reduceLT, Nat.reduceSub, Nat.reduceEqDiff]) (by simp only [eES, eEX, Nat.reduceBEq, Int.reduceLE, Int.reduceLT, Int.reduceToNat, Int.reduceEq, ↓reduceIte, reduceCtorEq, Nat.reducePow, Nat.reduceAdd, Nat.reduceLeDiff, Nat.reduceLT, Nat.reduceSub, Nat.reduceEqDiff]) (by simp) (by decide) hr ?_
    simp only [hng, o62, eES, eEX, Nat.reduceBEq, Int.reduceLE, Int.reduceLT, Int.reduceToNat, Int.reduceEq, ↓reduceIte, reduceCtorEq, Nat.reducePow, Nat.reduceAdd, Nat.reduceLeDiff, Nat.reduceLT, Nat.reduceSub, Nat.reduceEqDiff]
    simp [AV.still, AV.un, isV, vget]

theorem c93 (xs : List AV) (fr : Nat → Ob) (m : Mem) (h : xs.all (fun e => e.cells.length == 14) = true) (hn : xs.length ≤ 1000000) (hr : rowOrNone (fr 1000) = true) :
    ACalls Tryz.prog 93 [.list xs] (fr :: m) (fun x m1 => x = .vec 0 1000 (ngen (fr 1000)) 0 xs.length false ∧ m1 = upd fr 1000 (.vec (ngen (fr 1000)) 14 xs) :: m) := by
  have hng : newGen (fr :: m) 0 1000 = ngen (fr 1000) := newGen_fr
  refine acalls_of_awp (rc := r93) (rs := o93) Tryz.func93 rfl rfl Tryz.ntmps93 k93 q93 (by simp) ?_
  simp only [r93, g93_0, g93_1, eES, eEX, Nat.reduceBEq, Int.reduceLE, Int.reduceLT, Int.reduceToNat, Int.reduceEq, ↓reduceIte, reduceCtorEq, Nat.reducePow, Nat.reduceAdd, Nat.reduceLeDiff, Nat.reduceLT, Nat.reduceSub, Nat.reduceEqDiff]
  refine aops_isnil (ys := xs) (by simp only [eES, eEX, Nat.reduceBEq, Int.reduceLE, Int.reduceLT, Int.reduceToNat, Int.reduceEq, ↓reduceIte, reduceCtorEq, Nat.reducePow, Nat.reduceAdd, Nat.reduceLeDiff, Nat.reduceLT, Nat.reduceSub, Nat.reduceEqDiff]) ?_ ?_
  · simp only [g93_3, eES, eEX, Nat.reduceBEq, Int.reduceLE, Int.reduceLT, Int.reduceToNat, Int.reduceEq, ↓reduceIte, reduceCtorEq, Nat.reducePow, Nat.reduceAdd, Nat.reduceLeDiff, Nat.reduceLT, Nat.reduceSub, Nat.reduceEqDiff]
    refine aops_bsl0 rfl ?_
    simp only [eES, eEX, Nat.reduceBEq, Int.reduceLE, Int.reduceLT, Int.reduceToNat, Int.reduceEq, ↓reduceIte, reduceCtorEq, Nat.reducePow, Nat.reduceAdd, Nat.reduceLeDiff, Nat.reduceLT, Nat.reduceSub, Nat.reduceEqDiff]
    refine aops_app (site := 5) (g := 1) (xs := []) (ys := xs) rfl rfl rfl rfl rfl h (by simp [maxLen]; omega) (by simp; omega) ?_
    simp only [eES, eEX, Nat.reduceBEq, Int.reduceLE, Int.reduceLT, Int.reduceToNat, Int.reduceEq, ↓reduceIte, reduceCtorEq, Nat.reducePow, Nat.reduceAdd, Nat.reduceLeDiff, Nat.reduceLT, Nat.reduceSub, Nat.reduceEqDiff]
    refine awp_give (l := 0) (site := 5) (g := 2) (o := 0) (n := xs.length) (q := false) (sz := 14) (xs := xs) (by simp only [Nat.zero_add, eES, eEX, Nat.reduceBEq, Int.reduceLE, Int.reduceLT, Int.reduceToNat, Int.reduceEq, ↓reduceIte, reduceCtorEq, Nat.reducePow, Nat.reduceAdd, Nat.reduceLeDiff, Nat.reduceLT, Nat.reduceSub, Nat.reduceEqDiff]) (by simp only [eES, eEX, Nat.reduceBEq, Int.reduceLE, Int.reduceLT, Int.reduceToNat, Int.reduceEq, ↓reduceIte, reduceCtorEq, Nat.reducePow, Nat.reduceAdd, Nat.reduceLeDiff, Nat.reduceLT, Nat.reduceSub, Nat.reduceEqDiff]) (by simp) (by decide) hr ?_
    simp only [hng, o93, eES, eEX, Nat.reduceBEq, Int.reduceLE, Int.reduceLT, Int.reduceToNat, Int.reduceEq, ↓reduceIte, reduceCtorEq, Nat.reducePow, Nat.reduceAdd, Nat.reduceLeDiff, Nat.reduceLT, Nat.reduceSub, Nat.reduceEqDiff]
    simp [AV.still, AV.un, isV, vget]
  · intro he
    have hx : xs = [] := by
      rcases he with he | he
      · exact he
      · exact flat_nil0 (by decide) h he
    subst hx
    simp only [g93_2, eES, eEX, Nat.reduceBEq, Int.reduceLE, Int.reduceLT, Int.reduceToNat, Int.reduceEq, ↓reduceIte, reduceCtorEq, Nat.reducePow, Nat.reduceAdd, Nat.reduceLeDiff, Nat.reduceLT, Nat.reduceSub, Nat.reduceEqDiff]
    refine awp_vec (by simp only [eES, eEX, Nat.reduceBEq, Int.reduceLE, Int.reduceLT, Int.reduceToNat, Int.reduceEq, ↓reduceIte, reduceCtorEq, Nat.reducePow, Nat.reduceAdd, Nat.reduceLeDiff, Nat.reduceLT, Nat.reduceSub, Nat.reduceEqDiff]) rfl ?_
    simp only [eES, eEX, Nat.reduceBEq, Int.reduceLE, Int.reduceLT, Int.reduceToNat, Int.reduceEq, ↓reduceIte, reduceCtorEq, Nat.reducePow, Nat.reduceAdd, Nat.reduceLeDiff, Nat.reduceLT, Nat.reduceSub, Nat.reduceEqDiff]
    refine awp_give (l := 0) (site := 2) (g := 1) (o := 0) (n := 0) (q := false) (sz := 14) (xs := []) (by simp only [eES, eEX, Nat.reduceBEq, Int.reduceLE, Int.reduceLT, Int.reduceToNat, Int.reduceEq, ↓reduceIte, reduceCtorEq, Nat.reducePow, Nat.reduceAdd, Nat.reduceLeDiff, Nat.reduceLT, Nat.reduceSub, Nat.reduceEqDiff]) (by simp only [eES, eEX, Nat.reduceBEq, Int.reduceLE, Int.reduceLT, Int.reduceToNat, Int.reduceEq, ↓reduceIte, reduceCtorEq, Nat.reducePow, Nat.reduceAdd, Nat.reduceLeDiff, Nat.reduceLT, Nat.reduceSub, Nat.reduceEqDiff]) (by simp) (by decide) hr ?_
    simp only [hng, o93, eES, eEX, Nat.reduceBEq, Int.reduceLE, Int.reduceLT, Int.reduceToNat, Int.reduceEq, ↓reduceIte, reduceCtorEq, Nat.reducePow, Nat.reduceAdd, Nat.reduceLeDiff, Nat.reduceLT, Nat.reduceSub, Nat.reduceEqDiff]
    simp [AV.still, AV.un, isV, vget]

end Go.Proofs.YtofcnjhnjagncaaGreat.Cl

/- Fields sorted by number. -/
set_option linter.unusedSimpArgs false
namespace Go.Proofs.YtofcnjhnjagncaaGreat.Va
open Go Am Rc Bt Vp Cp Up So

/-- A raw field's value. -/
def Er (x : AV) : Prop := ∃ f : R, x = f.av

theorem er_ez {x : AV} (h : Er x) : Ez Er 4 x := by
  refine ⟨h, ?_⟩
  obtain ⟨f, rfl⟩ := h
  exact ⟨_, rfl, rfl, rfl, rfl, fun m => rfl⟩

def numA : AV → Int
  | .agg (.int _ n :: _) => n
  | _ => 0

/-- How two fields compare. -/
def cmpN (a b : Int) : Int := if a < b then -1 else if b < a then 1 else 0
def cR (x y : AV) : Int := cmpN (numA x) (numA y)

theorem cmpN_lt (a b : Int) : decide (cmpN a b < 0) = decide (a < b) := by
  unfold cmpN
  split
  · rename_i h; simp [h]
  · rename_i h
    split <;> simp [h]

theorem cR_lt (x y : AV) : Ta.lt cR x y = decide (numA x < numA y) := cmpN_lt _ _

theorem cR_sw : SW (Ta.lt cR) where
  irr x := by rw [cR_lt]; simp
  tr x y z h k := by rw [cR_lt] at *; simp only [decide_eq_true_eq] at *; omega
  nt x y z h k := by rw [cR_lt] at *; simp only [decide_eq_false_iff_not] at *; omega

theorem c32 (a : Int) : Fn1 Tryz.prog 32 [.int .i64 a] (.bool false) := by
  refine fn1_of_awp (rc := r32) (rs := o32) Tryz.func32 rfl rfl Tryz.ntmps32 k32 q32 (by simp) ?_
  simp only [g32_0, g32_1, r32, o32, bne_self_eq_false, eES, eEX, Nat.reduceBEq, Int.reduceLE, Int.reduceLT, Int.reduceToNat, Int.reduceEq, ↓reduceIte, reduceCtorEq, Nat.reducePow, Nat.reduceAdd, Nat.reduceLeDiff, Nat.reduceLT, Nat.reduceSub, Nat.reduceEqDiff]

theorem c20 (a b : Int) : Fn1 Tryz.prog 20 [.int .i64 a, .int .i64 b] (.int .i64 (cmpN a b)) := by
  refine fn1_of_awp (rc := r20) (rs := o20) Tryz.func20 rfl rfl Tryz.ntmps20 k20 q20 (by simp) ?_
  simp only [g20_0, g20_1, g20_2, g20_3, g20_4, g20_5, g20_6, g20_7, g20_8, g20_9, g20_10, g20_11, g20_12, g20_13, r20, o20, eES, eEX, Nat.reduceBEq, Int.reduceLE, Int.reduceLT, Int.reduceToNat, Int.reduceEq, ↓reduceIte, reduceCtorEq, Nat.reducePow, Nat.reduceAdd, Nat.reduceLeDiff, Nat.reduceLT, Nat.reduceSub, Nat.reduceEqDiff]
  refine aops_call (c32 a) rfl rfl rfl (.inl rfl) ?_
  simp only [eES, eEX, Nat.reduceBEq, Int.reduceLE, Int.reduceLT, Int.reduceToNat, Int.reduceEq, ↓reduceIte, reduceCtorEq, Nat.reducePow, Nat.reduceAdd, Nat.reduceLeDiff, Nat.reduceLT, Nat.reduceSub, Nat.reduceEqDiff]
  refine aops_call (c32 b) rfl rfl rfl (.inl rfl) ?_
  simp only [eES, eEX, Nat.reduceBEq, Int.reduceLE, Int.reduceLT, Int.reduceToNat, Int.reduceEq, ↓reduceIte, reduceCtorEq, Nat.reducePow, Nat.reduceAdd, Nat.reduceLeDiff, Nat.reduceLT, Nat.reduceSub, Nat.reduceEqDiff]
  by_cases h1 : a < b
  · have d1 : decide (a < b) = true := by simpa using h1
    simp only [d1, cmpN, if_pos h1, eES, eEX, Nat.reduceBEq, Int.reduceLE, Int.reduceLT, Int.reduceToNat, Int.reduceEq, ↓reduceIte, reduceCtorEq, Nat.reducePow, Nat.reduceAdd, Nat.reduceLeDiff, Nat.reduceLT, Nat.reduceSub, Nat.reduceEqDiff]
  · have d1 : decide (a < b) = false := by simpa using h1
    by_cases h2 : b < a
    · have d2 : decide (a > b) = true := by simpa using h2
      simp only [d1, d2, cmpN, if_neg h1, if_pos h2, eES, eEX, Nat.reduceBEq, Int.reduceLE, Int.reduceLT, Int.reduceToNat, Int.reduceEq, ↓reduceIte, reduceCtorEq, Nat.reducePow, Nat.reduceAdd, Nat.reduceLeDiff, Nat.reduceLT, Nat.reduceSub, Nat.reduceEqDiff]
    · have d2 : decide (a > b) = false := by simpa using h2
      simp only [d1, d2, cmpN, if_neg h1, if_neg h2, eES, eEX, Nat.reduceBEq, Int.reduceLE, Int.reduceLT, Int.reduceToNat, Int.reduceEq, ↓reduceIte, reduceCtorEq, Nat.reducePow, Nat.reduceAdd, Nat.reduceLeDiff, Nat.reduceLT, Nat.reduceSub, Nat.reduceEqDiff]

theorem c19 (x y : R) : Fn1 Tryz.prog 19 [x.av, y.av] (.int .i64 (cmpN x.num y.num)) := by
  refine fn1_of_awp (rc := r19) (rs := o19) Tryz.func19 rfl rfl Tryz.ntmps19 k19 q19 (by simp) ?_
  simp only [g19_0, g19_1, r19, o19, R.av, eES, eEX, Nat.reduceBEq, Int.reduceLE, Int.reduceLT, Int.reduceToNat, Int.reduceEq, ↓reduceIte, reduceCtorEq, Nat.reducePow, Nat.reduceAdd, Nat.reduceLeDiff, Nat.reduceLT, Nat.reduceSub, Nat.reduceEqDiff]
  refine aops_call (c20 x.num y.num) rfl rfl rfl (.inl rfl) ?_
  simp only [eES, eEX, Nat.reduceBEq, Int.reduceLE, Int.reduceLT, Int.reduceToNat, Int.reduceEq, ↓reduceIte, reduceCtorEq, Nat.reducePow, Nat.reduceAdd, Nat.reduceLeDiff, Nat.reduceLT, Nat.reduceSub, Nat.reduceEqDiff]

theorem cp_R : Ta.Cp Er 19 cR where
  call x y hx hy := by
    obtain ⟨⟨f, rfl⟩, _⟩ := hx
    obtain ⟨⟨g, rfl⟩, _⟩ := hy
    exact c19 f g
  sw := cR_sw

/-- Sorted by number, stably. -/
def srt (l : List R) : List R := isort (fun x y => decide (x.num < y.num)) l

theorem ins_map (a : R) : ∀ l : List R, ins (Ta.lt cR) a.av (l.map R.av) = (ins (fun x y => decide (x.num < y.num)) a l).map R.av
  | [] => rfl
  | x :: l => by
    have e : Ta.lt cR x.av a.av = decide (x.num < a.num) := cR_lt _ _
    cases hx : decide (x.num < a.num) with
    | true =>
      rw [List.map_cons, ins_t (by rw [e, hx]), ins_map a l, ins_t (lt := fun x y : R => decide (x.num < y.num)) hx] <;> rfl
    | false =>
      rw [List.map_cons, ins_f (by rw [e, hx]), ins_f (lt := fun x y : R => decide (x.num < y.num)) hx] <;> rfl

theorem isort_map : ∀ l : List R, isort (Ta.lt cR) (l.map R.av) = (srt l).map R.av
  | [] => rfl
  | a :: l => by
    show ins (Ta.lt cR) a.av (isort (Ta.lt cR) (l.map R.av)) = (ins _ a (isort _ l)).map R.av
    rw [isort_map l, ins_map] <;> rfl

theorem rsv_ez (l : List R) : ∀ x ∈ rsv l, Ez Er 4 x := by
  intro x hx
  obtain ⟨f, _, rfl⟩ := List.mem_map.1 hx
  exact er_ez ⟨f, rfl⟩

theorem rsv_four (l : List R) : (rsv l).all (fun e => e.cells.length == 4) = true := by
  rw [List.all_eq_true]
  intro x hx
  obtain ⟨f, _, rfl⟩ := List.mem_map.1 hx
  rfl

theorem c8 (l : List R) (hn : l.length ≤ 1000000) : Fn1 Tryz.prog 8 [.list (rsv l)] (.list (rsv (srt l))) := by
  refine fn1_of_awp (rc := r8) (rs := o8) Tryz.func8 rfl rfl Tryz.ntmps8 k8 q8 (by simp) ?_
  have hng : ngen Ob.none = 1 := rfl
  simp only [g8_0, g8_1, g8_2, g8_3, r8, o8, eES, eEX, Nat.reduceBEq, Int.reduceLE, Int.reduceLT, Int.reduceToNat, Int.reduceEq, ↓reduceIte, reduceCtorEq, Nat.reducePow, Nat.reduceAdd, Nat.reduceLeDiff, Nat.reduceLT, Nat.reduceSub, Nat.reduceEqDiff]
  refine aops_callF (Cl.c17 (rsv l) noObs [] (rsv_four l) (by rw [rsv_len]; omega) rfl) (by simp only [List.map_cons, List.map_nil, eES, eEX, Nat.reduceBEq, Int.reduceLE, Int.reduceLT, Int.reduceToNat, Int.reduceEq, ↓reduceIte, reduceCtorEq, Nat.reducePow, Nat.reduceAdd, Nat.reduceLeDiff, Nat.reduceLT, Nat.reduceSub, Nat.reduceEqDiff]) ?_
  simp only [eES, eEX, Nat.reduceBEq, Int.reduceLE, Int.reduceLT, Int.reduceToNat, Int.reduceEq, ↓reduceIte, reduceCtorEq, Nat.reducePow, Nat.reduceAdd, Nat.reduceLeDiff, Nat.reduceLT, Nat.reduceSub, Nat.reduceEqDiff]
  refine aops_callF (Ta.c18 cp_R 0 1000 1 (rsv l) [upd noObs 1000 (.vec 1 4 (rsv l))] rfl (rsv_ez l) (by rw [rsv_len]; omega)) (by simp only [List.map_cons, List.map_nil, noObs, hng, eES, eEX, Nat.reduceBEq, Int.reduceLE, Int.reduceLT, Int.reduceToNat, Int.reduceEq, ↓reduceIte, reduceCtorEq, Nat.reducePow, Nat.reduceAdd, Nat.reduceLeDiff, Nat.reduceLT, Nat.reduceSub, Nat.reduceEqDiff]) ?_
  have hi : isort (Ta.lt cR) (rsv l) = rsv (srt l) := isort_map l
  have hl : (rsv (srt l)).length = (rsv l).length := by rw [← hi, len_isort]
  simp only [hi, eES, eEX, Nat.reduceBEq, Int.reduceLE, Int.reduceLT, Int.reduceToNat, Int.reduceEq, ↓reduceIte, reduceCtorEq, Nat.reducePow, Nat.reduceAdd, Nat.reduceLeDiff, Nat.reduceLT, Nat.reduceSub, Nat.reduceEqDiff]
  have ht : List.take (rsv l).length (rsv (srt l)) = rsv (srt l) := List.take_of_length_le (by rw [hl]; exact Nat.le_refl _)
  simp [AV.still, Am.look, Am.put, hng, hl, upd, ht, AV.un, isV, vget]

end Go.Proofs.YtofcnjhnjagncaaGreat.Va

/- The specification's comparison of messages of raw fields alone. -/
set_option linter.unusedSimpArgs false
namespace Go.Proofs.YtofcnjhnjagncaaGreat.Va
open Go Am Rc Bt Vp Cp Up So

/-- A message of raw fields. -/
def mv (r : List R) : AV := .agg [.int .i64 10, .int .u64 0, .str [], .list [], .list [], .list [], .list (rsv r)]

theorem c44 (a : Int) : Fn1 Tryz.prog 44 [.int .i64 a, .int .i64 a] (.int .i64 0) := by
  refine fn1_of_awp (rc := r44) (rs := o44) Tryz.func44 rfl rfl Tryz.ntmps44 k44 q44 (by simp) ?_
  have d1 : decide (a < a) = false := by simp
  have d2 : decide (a > a) = false := by simp
  simp only [g44_0, g44_1, g44_2, g44_3, g44_4, g44_5, r44, o44, d1, d2, eES, eEX, Nat.reduceBEq, Int.reduceLE, Int.reduceLT, Int.reduceToNat, Int.reduceEq, ↓reduceIte, reduceCtorEq, Nat.reducePow, Nat.reduceAdd, Nat.reduceLeDiff, Nat.reduceLT, Nat.reduceSub, Nat.reduceEqDiff]

theorem bl_self : ∀ s : List UInt8, Op.bytesLess s s = false
  | [] => rfl
  | a :: l => by simp [Op.bytesLess, bl_self l]

theorem c71 (x : R) : Fn1 Tryz.prog 71 [x.av, x.av] (.int .i64 0) := by
  refine fn1_of_awp (rc := r71) (rs := o71) Tryz.func71 rfl rfl Tryz.ntmps71 k71 q71 (by simp) ?_
  have d1 : decide ((x.bits : Int) < (x.bits : Int)) = false := by simp
  have d2 : decide ((x.bits : Int) > (x.bits : Int)) = false := by simp
  have s1 : astr .lss x.data x.data = some (.bool false) := by simp [astr, bl_self]
  have s2 : astr .gtr x.data x.data = some (.bool false) := by simp [astr, bl_self]
  simp only [g71_0, g71_1, g71_2, g71_3, g71_4, g71_5, g71_6, g71_7, g71_8, g71_9, g71_10, g71_11, g71_12, g71_13, r71, o71, R.av, bne_self_eq_false, d1, d2, s1, s2, eES, eEX, Nat.reduceBEq, Int.reduceLE, Int.reduceLT, Int.reduceToNat, Int.reduceEq, ↓reduceIte, reduceCtorEq, Nat.reducePow, Nat.reduceAdd, Nat.reduceLeDiff, Nat.reduceLT, Nat.reduceSub, Nat.reduceEqDiff]

def RawsI (l : List R) (k : Nat) (st : St) : Prop :=
  ∃ f i, st = ⟨f, [noObs], []⟩ ∧ k = l.length - i ∧ i ≤ l.length ∧ f 0 = .list (rsv l) ∧ f 1 = .list (rsv l) ∧ f 5 = .int .i64 (i : Nat)

theorem c48 (l : List R) (hn : l.length < 9223372036854775807) : Fn1 Tryz.prog 48 [.list (rsv l), .list (rsv l)] (.int .i64 0) := by
  refine fn1_of_awp (rc := r48) (rs := o48) Tryz.func48 rfl rfl Tryz.ntmps48 k48 q48 (by simp) ?_
  simp only [g48_0, g48_1, g48_2, g48_4, g48_5, g48_6, g48_3, g48_7, r48, o48, bne_self_eq_false, eES, eEX, Nat.reduceBEq, Int.reduceLE, Int.reduceLT, Int.reduceToNat, Int.reduceEq, ↓reduceIte, reduceCtorEq, Nat.reducePow, Nat.reduceAdd, Nat.reduceLeDiff, Nat.reduceLT, Nat.reduceSub, Nat.reduceEqDiff]
  refine awp_loop (RawsI l) _ ⟨_, 0, rfl, rfl, Nat.zero_le _, rfl, rfl, rfl⟩ ?_
  rintro n st ⟨f, i, rfl, rfl, hi, h0, h1, h5⟩
  simp only [l48_0, g48_0, g48_1, g48_2, g48_4, g48_5, g48_6, g48_3, g48_7, r48, o48, h0, h1, h5, rsv_len, eES, eEX, Nat.reduceBEq, Int.reduceLE, Int.reduceLT, Int.reduceToNat, Int.reduceEq, ↓reduceIte, reduceCtorEq, Nat.reducePow, Nat.reduceAdd, Nat.reduceLeDiff, Nat.reduceLT, Nat.reduceSub, Nat.reduceEqDiff]
  by_cases hlt : i < l.length
  · obtain ⟨fd, hfd⟩ : ∃ fd, l[i]? = some fd := ⟨l[i], List.getElem?_eq_getElem hlt⟩
    have hfa : (rsv l)[i]? = some fd.av := by simp [rsv, hfd]
    have d0 : decide ((i : Int) < (l.length : Int)) = true := by simp; omega
    have n0 : (0 ≤ (i : Int)) = True := by simp
    have e1 : IntKind.i64.wrap ((i : Int) + 1) = ((i + 1 : Nat) : Int) := by rw [wi64]; omega
    simp only [d0, n0, e1, Int.toNat_natCast, aiaddr, hfa, R.av, h0, h1, h5, rsv_len, eES, eEX, Nat.reduceBEq, Int.reduceLE, Int.reduceLT, Int.reduceToNat, Int.reduceEq, ↓reduceIte, reduceCtorEq, Nat.reducePow, Nat.reduceAdd, Nat.reduceLeDiff, Nat.reduceLT, Nat.reduceSub, Nat.reduceEqDiff]
    refine aops_call (c71 fd) rfl rfl rfl (.inl rfl) ?_
    simp only [bne_self_eq_false, e1, h0, h1, h5, eES, eEX, Nat.reduceBEq, Int.reduceLE, Int.reduceLT, Int.reduceToNat, Int.reduceEq, ↓reduceIte, reduceCtorEq, Nat.reducePow, Nat.reduceAdd, Nat.reduceLeDiff, Nat.reduceLT, Nat.reduceSub, Nat.reduceEqDiff]
    exact ⟨l.length - (i + 1), by omega, _, i + 1, rfl, rfl, by omega, by simp only [h0, eES, eEX, Nat.reduceBEq, Int.reduceLE, Int.reduceLT, Int.reduceToNat, Int.reduceEq, ↓reduceIte, reduceCtorEq, Nat.reducePow, Nat.reduceAdd, Nat.reduceLeDiff, Nat.reduceLT, Nat.reduceSub, Nat.reduceEqDiff], by simp only [h1, eES, eEX, Nat.reduceBEq, Int.reduceLE, Int.reduceLT, Int.reduceToNat, Int.reduceEq, ↓reduceIte, reduceCtorEq, Nat.reducePow, Nat.reduceAdd, Nat.reduceLeDiff, Nat.reduceLT, Nat.reduceSub, Nat.reduceEqDiff], by simp only [eES, eEX, Nat.reduceBEq, Int.reduceLE, Int.reduceLT, Int.reduceToNat, Int.reduceEq, ↓reduceIte, reduceCtorEq, Nat.reducePow, Nat.reduceAdd, Nat.reduceLeDiff, Nat.reduceLT, Nat.reduceSub, Nat.reduceEqDiff]⟩
  · have d0 : decide ((i : Int) < (l.length : Int)) = false := by simp; omega
    simp only [d0, h0, h1, h5, rsv_len, eES, eEX, Nat.reduceBEq, Int.reduceLE, Int.reduceLT, Int.reduceToNat, Int.reduceEq, ↓reduceIte, reduceCtorEq, Nat.reducePow, Nat.reduceAdd, Nat.reduceLeDiff, Nat.reduceLT, Nat.reduceSub, Nat.reduceEqDiff]
    refine aops_call (c44 (l.length : Int)) rfl rfl rfl (.inl rfl) ?_
    simp only [eES, eEX, Nat.reduceBEq, Int.reduceLE, Int.reduceLT, Int.reduceToNat, Int.reduceEq, ↓reduceIte, reduceCtorEq, Nat.reducePow, Nat.reduceAdd, Nat.reduceLeDiff, Nat.reduceLT, Nat.reduceSub, Nat.reduceEqDiff]

theorem c47 : Fn1 Tryz.prog 47 [.list [], .list []] (.int .i64 0) := by
  refine fn1_of_awp (rc := r47) (rs := o47) Tryz.func47 rfl rfl Tryz.ntmps47 k47 q47 (by simp) ?_
  simp only [g47_0, g47_1, g47_2, g47_4, g47_5, g47_6, g47_7, g47_8, g47_9, g47_3, g47_10, r47, o47, eES, eEX, Nat.reduceBEq, Int.reduceLE, Int.reduceLT, Int.reduceToNat, Int.reduceEq, ↓reduceIte, reduceCtorEq, Nat.reducePow, Nat.reduceAdd, Nat.reduceLeDiff, Nat.reduceLT, Nat.reduceSub, Nat.reduceEqDiff]
  refine awp_loop (fun k st => ∃ f, st = ⟨f, [noObs], []⟩ ∧ f 0 = .list [] ∧ f 1 = .list [] ∧ f 5 = .int .i64 0) 0 ⟨_, rfl, rfl, rfl, rfl⟩ ?_
  rintro n st ⟨f, rfl, h0, h1, h5⟩
  have d0 : decide ((0 : Int) < ((0 : Nat) : Int)) = false := rfl
  simp only [l47_0, g47_0, g47_1, g47_2, g47_4, g47_5, g47_6, g47_7, g47_8, g47_9, g47_3, g47_10, r47, o47, h0, h1, h5, d0, eES, eEX, Nat.reduceBEq, Int.reduceLE, Int.reduceLT, Int.reduceToNat, Int.reduceEq, ↓reduceIte, reduceCtorEq, Nat.reducePow, Nat.reduceAdd, Nat.reduceLeDiff, Nat.reduceLT, Nat.reduceSub, Nat.reduceEqDiff]
  refine aops_call (c44 0) rfl rfl rfl (.inl rfl) ?_
  simp only [eES, eEX, Nat.reduceBEq, Int.reduceLE, Int.reduceLT, Int.reduceToNat, Int.reduceEq, ↓reduceIte, reduceCtorEq, Nat.reducePow, Nat.reduceAdd, Nat.reduceLeDiff, Nat.reduceLT, Nat.reduceSub, Nat.reduceEqDiff]

theorem c30 (l : List R) (hn : l.length < 9223372036854775807) : Fn1 Tryz.prog 30 [mv l, mv l] (.int .i64 0) := by
  refine fn1_of_awp (rc := r30) (rs := o30) Tryz.func30 rfl rfl Tryz.ntmps30 k30 q30 (by simp) ?_
  have b1 : ((10 : Int) == 11) = false := rfl
  have b2 : ((10 : Int) == 12) = false := rfl
  have b3 : ((10 : Int) == 10) = true := rfl
  simp only [g30_0, g30_1, g30_2, g30_3, g30_4, g30_5, g30_6, g30_7, g30_8, g30_9, g30_10, g30_11, g30_12, g30_13, r30, o30, mv, bne_self_eq_false, b1, b2, b3, eES, eEX, Nat.reduceBEq, Int.reduceLE, Int.reduceLT, Int.reduceToNat, Int.reduceEq, ↓reduceIte, reduceCtorEq, Nat.reducePow, Nat.reduceAdd, Nat.reduceLeDiff, Nat.reduceLT, Nat.reduceSub, Nat.reduceEqDiff]
  refine aops_call c47 rfl rfl rfl (.inl rfl) ?_
  simp only [bne_self_eq_false, eES, eEX, Nat.reduceBEq, Int.reduceLE, Int.reduceLT, Int.reduceToNat, Int.reduceEq, ↓reduceIte, reduceCtorEq, Nat.reducePow, Nat.reduceAdd, Nat.reduceLeDiff, Nat.reduceLT, Nat.reduceSub, Nat.reduceEqDiff]
  refine aops_call (c48 l hn) rfl rfl rfl (.inl rfl) ?_
  simp only [eES, eEX, Nat.reduceBEq, Int.reduceLE, Int.reduceLT, Int.reduceToNat, Int.reduceEq, ↓reduceIte, reduceCtorEq, Nat.reducePow, Nat.reduceAdd, Nat.reduceLeDiff, Nat.reduceLT, Nat.reduceSub, Nat.reduceEqDiff]

theorem c16 (l : List R) (hn : l.length < 9223372036854775807) : Fn1 Tryz.prog 16 [mv l, mv l] (.bool true) := by
  refine fn1_of_awp (rc := r16) (rs := o16) Tryz.func16 rfl rfl Tryz.ntmps16 k16 q16 (by simp) ?_
  have b0 : ((0 : Int) == 0) = true := rfl
  simp only [g16_0, g16_1, r16, o16, mv, eES, eEX, Nat.reduceBEq, Int.reduceLE, Int.reduceLT, Int.reduceToNat, Int.reduceEq, ↓reduceIte, reduceCtorEq, Nat.reducePow, Nat.reduceAdd, Nat.reduceLeDiff, Nat.reduceLT, Nat.reduceSub, Nat.reduceEqDiff]
  refine aops_call (c30 l hn) rfl rfl rfl (.inl rfl) ?_
  simp only [b0, eES, eEX, Nat.reduceBEq, Int.reduceLE, Int.reduceLT, Int.reduceToNat, Int.reduceEq, ↓reduceIte, reduceCtorEq, Nat.reducePow, Nat.reduceAdd, Nat.reduceLeDiff, Nat.reduceLT, Nat.reduceSub, Nat.reduceEqDiff]

theorem c7 (l : List R) (hn : l.length < 9223372036854775807) : Fn1 Tryz.prog 7 [mv l, mv l] (.bool true) := by
  refine fn1_of_awp (rc := r7) (rs := o7) Tryz.func7 rfl rfl Tryz.ntmps7 k7 q7 (by simp) ?_
  simp only [g7_0, g7_1, r7, o7, mv, eES, eEX, Nat.reduceBEq, Int.reduceLE, Int.reduceLT, Int.reduceToNat, Int.reduceEq, ↓reduceIte, reduceCtorEq, Nat.reducePow, Nat.reduceAdd, Nat.reduceLeDiff, Nat.reduceLT, Nat.reduceSub, Nat.reduceEqDiff]
  refine aops_call (c16 l hn) rfl rfl rfl (.inl rfl) ?_
  simp only [eES, eEX, Nat.reduceBEq, Int.reduceLE, Int.reduceLT, Int.reduceToNat, Int.reduceEq, ↓reduceIte, reduceCtorEq, Nat.reducePow, Nat.reduceAdd, Nat.reduceLeDiff, Nat.reduceLT, Nat.reduceSub, Nat.reduceEqDiff]

end Go.Proofs.YtofcnjhnjagncaaGreat.Va

/- The table of the functions that are run. -/
namespace Go.Proofs.YtofcnjhnjagncaaGreat.Ev
open Go Am Rc

def tab : Tab := fun k => match k with
  | 5 => some (r5, o5, 40)
  | 6 => some (r6, o6, 48)
  | 9 => some (r9, o9, 43)
  | 11 => some (r11, o11, 74)
  | 12 => some (r12, o12, 15)
  | 13 => some (r13, o13, 54)
  | 14 => some (r14, o14, 2)
  | 15 => some (r15, o15, 2)
  | 17 => some (r17, o17, 8)
  | 18 => some (r18, o18, 9)
  | 20 => some (r20, o20, 20)
  | 22 => some (r22, o22, 47)
  | 23 => some (r23, o23, 21)
  | 24 => some (r24, o24, 93)
  | 25 => some (r25, o25, 86)
  | 26 => some (r26, o26, 19)
  | 27 => some (r27, o27, 8)
  | 28 => some (r28, o28, 23)
  | 29 => some (r29, o29, 30)
  | 31 => some (r31, o31, 63)
  | 32 => some (r32, o32, 6)
  | 33 => some (r33, o33, 42)
  | 34 => some (r34, o34, 22)
  | 35 => some (r35, o35, 49)
  | 36 => some (r36, o36, 11)
  | 37 => some (r37, o37, 64)
  | 38 => some (r38, o38, 19)
  | 39 => some (r39, o39, 40)
  | 40 => some (r40, o40, 12)
  | 41 => some (r41, o41, 67)
  | 42 => some (r42, o42, 27)
  | 43 => some (r43, o43, 10)
  | 50 => some (r50, o50, 53)
  | 51 => some (r51, o51, 220)
  | 52 => some (r52, o52, 23)
  | 53 => some (r53, o53, 20)
  | 54 => some (r54, o54, 53)
  | 55 => some (r55, o55, 21)
  | 56 => some (r56, o56, 153)
  | 57 => some (r57, o57, 21)
  | 58 => some (r58, o58, 95)
  | 59 => some (r59, o59, 6)
  | 60 => some (r60, o60, 71)
  | 61 => some (r61, o61, 87)
  | 62 => some (r62, o62, 8)
  | 63 => some (r63, o63, 9)
  | 64 => some (r64, o64, 10)
  | 65 => some (r65, o65, 8)
  | 66 => some (r66, o66, 20)
  | 67 => some (r67, o67, 17)
  | 68 => some (r68, o68, 41)
  | 69 => some (r69, o69, 14)
  | 70 => some (r70, o70, 20)
  | 75 => some (r75, o75, 58)
  | 76 => some (r76, o76, 36)
  | 77 => some (r77, o77, 20)
  | 78 => some (r78, o78, 11)
  | 79 => some (r79, o79, 23)
  | 80 => some (r80, o80, 30)
  | 81 => some (r81, o81, 22)
  | 82 => some (r82, o82, 44)
  | 83 => some (r83, o83, 20)
  | 84 => some (r84, o84, 66)
  | 85 => some (r85, o85, 16)
  | 86 => some (r86, o86, 27)
  | 87 => some (r87, o87, 68)
  | 88 => some (r88, o88, 18)
  | 89 => some (r89, o89, 68)
  | 90 => some (r90, o90, 72)
  | 91 => some (r91, o91, 63)
  | 92 => some (r92, o92, 19)
  | 93 => some (r93, o93, 8)
  | 94 => some (r94, o94, 9)
  | 95 => some (r95, o95, 10)
  | 97 => some (r97, o97, 9)
  | 98 => some (r98, o98, 29)
  | 99 => some (r99, o99, 9)
  | 100 => some (r100, o100, 28)
  | 103 => some (r103, o103, 38)
  | 104 => some (r104, o104, 31)
  | 105 => some (r105, o105, 42)
  | 106 => some (r106, o106, 33)
  | 107 => some (r107, o107, 6)
  | 108 => some (r108, o108, 11)
  | 109 => some (r109, o109, 39)
  | 110 => some (r110, o110, 34)
  | 111 => some (r111, o111, 53)
  | 112 => some (r112, o112, 220)
  | 113 => some (r113, o113, 63)
  | 115 => some (r115, o115, 62)
  | 116 => some (r116, o116, 39)
  | 117 => some (r117, o117, 39)
  | 118 => some (r118, o118, 17)
  | 119 => some (r119, o119, 18)
  | 120 => some (r120, o120, 39)
  | 121 => some (r121, o121, 17)
  | 122 => some (r122, o122, 39)
  | 123 => some (r123, o123, 27)
  | 124 => some (r124, o124, 9)
  | 125 => some (r125, o125, 20)
  | 127 => some (r127, o127, 28)
  | 128 => some (r128, o128, 9)
  | 129 => some (r129, o129, 9)
  | 130 => some (r130, o130, 58)
  | 131 => some (r131, o131, 53)
  | 132 => some (r132, o132, 220)
  | 133 => some (r133, o133, 20)
  | 134 => some (r134, o134, 20)
  | 135 => some (r135, o135, 15)
  | 136 => some (r136, o136, 16)
  | 137 => some (r137, o137, 19)
  | 138 => some (r138, o138, 38)
  | 139 => some (r139, o139, 58)
  | 140 => some (r140, o140, 6)
  | 141 => some (r141, o141, 6)
  | 142 => some (r142, o142, 8)
  | 143 => some (r143, o143, 38)
  | 144 => some (r144, o144, 18)
  | 4 => some (r4, o4, 44)
  | 10 => some (r10, o10, 25)
  | 21 => some (r21, o21, 16)
  | 8 => some (r8, o8, 9)
  | 19 => some (r19, o19, 10)
  | 44 => some (r44, o44, 11)
  | 71 => some (r71, o71, 51)
  | 48 => some (r48, o48, 36)
  | 47 => some (r47, o47, 53)
  | 30 => some (r30, o30, 50)
  | 16 => some (r16, o16, 9)
  | 7 => some (r7, o7, 8)
  | 3 => some (r3, o3, 74)
  | _ => none

theorem tab_ok : TabOk Tryz.prog tab := by
  intro k c rs N h
  unfold tab at h
  split at h
  · cases h; exact ⟨Tryz.f5, _, Tryz.func5, rfl, rfl, Tryz.ntmps5, k5, q5⟩
  · cases h; exact ⟨Tryz.f6, _, Tryz.func6, rfl, rfl, Tryz.ntmps6, k6, q6⟩
  · cases h; exact ⟨Tryz.f9, _, Tryz.func9, rfl, rfl, Tryz.ntmps9, k9, q9⟩
  · cases h; exact ⟨Tryz.f11, _, Tryz.func11, rfl, rfl, Tryz.ntmps11, k11, q11⟩
  · cases h; exact ⟨Tryz.f12, _, Tryz.func12, rfl, rfl, Tryz.ntmps12, k12, q12⟩
  · cases h; exact ⟨Tryz.f13, _, Tryz.func13, rfl, rfl, Tryz.ntmps13, k13, q13⟩
  · cases h; exact ⟨Tryz.f14, _, Tryz.func14, rfl, rfl, Tryz.ntmps14, k14, q14⟩
  · cases h; exact ⟨Tryz.f15, _, Tryz.func15, rfl, rfl, Tryz.ntmps15, k15, q15⟩
  · cases h; exact ⟨Tryz.f17, _, Tryz.func17, rfl, rfl, Tryz.ntmps17, k17, q17⟩
  · cases h; exact ⟨Tryz.f18, _, Tryz.func18, rfl, rfl, Tryz.ntmps18, k18, q18⟩
  · cases h; exact ⟨Tryz.f20, _, Tryz.func20, rfl, rfl, Tryz.ntmps20, k20, q20⟩
  · cases h; exact ⟨Tryz.f22, _, Tryz.func22, rfl, rfl, Tryz.ntmps22, k22, q22⟩
  · cases h; exact ⟨Tryz.f23, _, Tryz.func23, rfl, rfl, Tryz.ntmps23, k23, q23⟩
  · cases h; exact ⟨Tryz.f24, _, Tryz.func24, rfl, rfl, Tryz.ntmps24, k24, q24⟩
  · cases h; exact ⟨Tryz.f25, _, Tryz.func25, rfl, rfl, Tryz.ntmps25, k25, q25⟩
  · cases h; exact ⟨Tryz.f26, _, Tryz.func26, rfl, rfl, Tryz.ntmps26, k26, q26⟩
  · cases h; exact ⟨Tryz.f27, _, Tryz.func27, rfl, rfl, Tryz.ntmps27, k27, q27⟩
  · cases h; exact ⟨Tryz.f28, _, Tryz.func28, rfl, rfl, Tryz.ntmps28, k28, q28⟩
  · cases h; exact ⟨Tryz.f29, _, Tryz.func29, rfl, rfl, Tryz.ntmps29, k29, q29⟩
  · cases h; exact ⟨Tryz.f31, _, Tryz.func31, rfl, rfl, Tryz.ntmps31, k31, q31⟩
  · cases h; exact ⟨Tryz.f32, _, Tryz.func32, rfl, rfl, Tryz.ntmps32, k32, q32⟩
  · cases h; exact ⟨Tryz.f33, _, Tryz.func33, rfl, rfl, Tryz.ntmps33, k33, q33⟩
  · cases h; exact ⟨Tryz.f34, _, Tryz.func34, rfl, rfl, Tryz.ntmps34, k34, q34⟩
  · cases h; exact ⟨Tryz.f35, _, Tryz.func35, rfl, rfl, Tryz.ntmps35, k35, q35⟩
  · cases h; exact ⟨Tryz.f36, _, Tryz.func36, rfl, rfl, Tryz.ntmps36, k36, q36⟩
  · cases h; exact ⟨Tryz.f37, _, Tryz.func37, rfl, rfl, Tryz.ntmps37, k37, q37⟩
  · cases h; exact ⟨Tryz.f38, _, Tryz.func38, rfl, rfl, Tryz.ntmps38, k38, q38⟩
  · cases h; exact ⟨Tryz.f39, _, Tryz.func39, rfl, rfl, Tryz.ntmps39, k39, q39⟩
  · cases h; exact ⟨Tryz.f40, _, Tryz.func40, rfl, rfl, Tryz.ntmps40, k40, q40⟩
  · cases h; exact ⟨Tryz.f41, _, Tryz.func41, rfl, rfl, Tryz.ntmps41, k41, q41⟩
  · cases h; exact ⟨Tryz.f42, _, Tryz.func42, rfl, rfl, Tryz.ntmps42, k42, q42⟩
  · cases h; exact ⟨Tryz.f43, _, Tryz.func43, rfl, rfl, Tryz.ntmps43, k43, q43⟩
  · cases h; exact ⟨Tryz.f50, _, Tryz.func50, rfl, rfl, Tryz.ntmps50, k50, q50⟩
  · cases h; exact ⟨Tryz.f51, _, Tryz.func51, rfl, rfl, Tryz.ntmps51, k51, q51⟩
  · cases h; exact ⟨Tryz.f52, _, Tryz.func52, rfl, rfl, Tryz.ntmps52, k52, q52⟩
  · cases h; exact ⟨Tryz.f53, _, Tryz.func53, rfl, rfl, Tryz.ntmps53, k53, q53⟩
  · cases h; exact ⟨Tryz.f54, _, Tryz.func54, rfl, rfl, Tryz.ntmps54, k54, q54⟩
  · cases h; exact ⟨Tryz.f55, _, Tryz.func55, rfl, rfl, Tryz.ntmps55, k55, q55⟩
  · cases h; exact ⟨Tryz.f56, _, Tryz.func56, rfl, rfl, Tryz.ntmps56, k56, q56⟩
  · cases h; exact ⟨Tryz.f57, _, Tryz.func57, rfl, rfl, Tryz.ntmps57, k57, q57⟩
  · cases h; exact ⟨Tryz.f58, _, Tryz.func58, rfl, rfl, Tryz.ntmps58, k58, q58⟩
  · cases h; exact ⟨Tryz.f59, _, Tryz.func59, rfl, rfl, Tryz.ntmps59, k59, q59⟩
  · cases h; exact ⟨Tryz.f60, _, Tryz.func60, rfl, rfl, Tryz.ntmps60, k60, q60⟩
  · cases h; exact ⟨Tryz.f61, _, Tryz.func61, rfl, rfl, Tryz.ntmps61, k61, q61⟩
  · cases h; exact ⟨Tryz.f62, _, Tryz.func62, rfl, rfl, Tryz.ntmps62, k62, q62⟩
  · cases h; exact ⟨Tryz.f63, _, Tryz.func63, rfl, rfl, Tryz.ntmps63, k63, q63⟩
  · cases h; exact ⟨Tryz.f64, _, Tryz.func64, rfl, rfl, Tryz.ntmps64, k64, q64⟩
  · cases h; exact ⟨Tryz.f65, _, Tryz.func65, rfl, rfl, Tryz.ntmps65, k65, q65⟩
  · cases h; exact ⟨Tryz.f66, _, Tryz.func66, rfl, rfl, Tryz.ntmps66, k66, q66⟩
  · cases h; exact ⟨Tryz.f67, _, Tryz.func67, rfl, rfl, Tryz.ntmps67, k67, q67⟩
  · cases h; exact ⟨Tryz.f68, _, Tryz.func68, rfl, rfl, Tryz.ntmps68, k68, q68⟩
  · cases h; exact ⟨Tryz.f69, _, Tryz.func69, rfl, rfl, Tryz.ntmps69, k69, q69⟩
  · cases h; exact ⟨Tryz.f70, _, Tryz.func70, rfl, rfl, Tryz.ntmps70, k70, q70⟩
  · cases h; exact ⟨Tryz.f75, _, Tryz.func75, rfl, rfl, Tryz.ntmps75, k75, q75⟩
  · cases h; exact ⟨Tryz.f76, _, Tryz.func76, rfl, rfl, Tryz.ntmps76, k76, q76⟩
  · cases h; exact ⟨Tryz.f77, _, Tryz.func77, rfl, rfl, Tryz.ntmps77, k77, q77⟩
  · cases h; exact ⟨Tryz.f78, _, Tryz.func78, rfl, rfl, Tryz.ntmps78, k78, q78⟩
  · cases h; exact ⟨Tryz.f79, _, Tryz.func79, rfl, rfl, Tryz.ntmps79, k79, q79⟩
  · cases h; exact ⟨Tryz.f80, _, Tryz.func80, rfl, rfl, Tryz.ntmps80, k80, q80⟩
  · cases h; exact ⟨Tryz.f81, _, Tryz.func81, rfl, rfl, Tryz.ntmps81, k81, q81⟩
  · cases h; exact ⟨Tryz.f82, _, Tryz.func82, rfl, rfl, Tryz.ntmps82, k82, q82⟩
  · cases h; exact ⟨Tryz.f83, _, Tryz.func83, rfl, rfl, Tryz.ntmps83, k83, q83⟩
  · cases h; exact ⟨Tryz.f84, _, Tryz.func84, rfl, rfl, Tryz.ntmps84, k84, q84⟩
  · cases h; exact ⟨Tryz.f85, _, Tryz.func85, rfl, rfl, Tryz.ntmps85, k85, q85⟩
  · cases h; exact ⟨Tryz.f86, _, Tryz.func86, rfl, rfl, Tryz.ntmps86, k86, q86⟩
  · cases h; exact ⟨Tryz.f87, _, Tryz.func87, rfl, rfl, Tryz.ntmps87, k87, q87⟩
  · cases h; exact ⟨Tryz.f88, _, Tryz.func88, rfl, rfl, Tryz.ntmps88, k88, q88⟩
  · cases h; exact ⟨Tryz.f89, _, Tryz.func89, rfl, rfl, Tryz.ntmps89, k89, q89⟩
  · cases h; exact ⟨Tryz.f90, _, Tryz.func90, rfl, rfl, Tryz.ntmps90, k90, q90⟩
  · cases h; exact ⟨Tryz.f91, _, Tryz.func91, rfl, rfl, Tryz.ntmps91, k91, q91⟩
  · cases h; exact ⟨Tryz.f92, _, Tryz.func92, rfl, rfl, Tryz.ntmps92, k92, q92⟩
  · cases h; exact ⟨Tryz.f93, _, Tryz.func93, rfl, rfl, Tryz.ntmps93, k93, q93⟩
  · cases h; exact ⟨Tryz.f94, _, Tryz.func94, rfl, rfl, Tryz.ntmps94, k94, q94⟩
  · cases h; exact ⟨Tryz.f95, _, Tryz.func95, rfl, rfl, Tryz.ntmps95, k95, q95⟩
  · cases h; exact ⟨Tryz.f97, _, Tryz.func97, rfl, rfl, Tryz.ntmps97, k97, q97⟩
  · cases h; exact ⟨Tryz.f98, _, Tryz.func98, rfl, rfl, Tryz.ntmps98, k98, q98⟩
  · cases h; exact ⟨Tryz.f99, _, Tryz.func99, rfl, rfl, Tryz.ntmps99, k99, q99⟩
  · cases h; exact ⟨Tryz.f100, _, Tryz.func100, rfl, rfl, Tryz.ntmps100, k100, q100⟩
  · cases h; exact ⟨Tryz.f103, _, Tryz.func103, rfl, rfl, Tryz.ntmps103, k103, q103⟩
  · cases h; exact ⟨Tryz.f104, _, Tryz.func104, rfl, rfl, Tryz.ntmps104, k104, q104⟩
  · cases h; exact ⟨Tryz.f105, _, Tryz.func105, rfl, rfl, Tryz.ntmps105, k105, q105⟩
  · cases h; exact ⟨Tryz.f106, _, Tryz.func106, rfl, rfl, Tryz.ntmps106, k106, q106⟩
  · cases h; exact ⟨Tryz.f107, _, Tryz.func107, rfl, rfl, Tryz.ntmps107, k107, q107⟩
  · cases h; exact ⟨Tryz.f108, _, Tryz.func108, rfl, rfl, Tryz.ntmps108, k108, q108⟩
  · cases h; exact ⟨Tryz.f109, _, Tryz.func109, rfl, rfl, Tryz.ntmps109, k109, q109⟩
  · cases h; exact ⟨Tryz.f110, _, Tryz.func110, rfl, rfl, Tryz.ntmps110, k110, q110⟩
  · cases h; exact ⟨Tryz.f111, _, Tryz.func111, rfl, rfl, Tryz.ntmps111, k111, q111⟩
  · cases h; exact ⟨Tryz.f112, _, Tryz.func112, rfl, rfl, Tryz.ntmps112, k112, q112⟩
  · cases h; exact ⟨Tryz.f113, _, Tryz.func113, rfl, rfl, Tryz.ntmps113, k113, q113⟩
  · cases h; exact ⟨Tryz.f115, _, Tryz.func115, rfl, rfl, Tryz.ntmps115, k115, q115⟩
  · cases h; exact ⟨Tryz.f116, _, Tryz.func116, rfl, rfl, Tryz.ntmps116, k116, q116⟩
  · cases h; exact ⟨Tryz.f117, _, Tryz.func117, rfl, rfl, Tryz.ntmps117, k117, q117⟩
  · cases h; exact ⟨Tryz.f118, _, Tryz.func118, rfl, rfl, Tryz.ntmps118, k118, q118⟩
  · cases h; exact ⟨Tryz.f119, _, Tryz.func119, rfl, rfl, Tryz.ntmps119, k119, q119⟩
  · cases h; exact ⟨Tryz.f120, _, Tryz.func120, rfl, rfl, Tryz.ntmps120, k120, q120⟩
  · cases h; exact ⟨Tryz.f121, _, Tryz.func121, rfl, rfl, Tryz.ntmps121, k121, q121⟩
  · cases h; exact ⟨Tryz.f122, _, Tryz.func122, rfl, rfl, Tryz.ntmps122, k122, q122⟩
  · cases h; exact ⟨Tryz.f123, _, Tryz.func123, rfl, rfl, Tryz.ntmps123, k123, q123⟩
  · cases h; exact ⟨Tryz.f124, _, Tryz.func124, rfl, rfl, Tryz.ntmps124, k124, q124⟩
  · cases h; exact ⟨Tryz.f125, _, Tryz.func125, rfl, rfl, Tryz.ntmps125, k125, q125⟩
  · cases h; exact ⟨Tryz.f127, _, Tryz.func127, rfl, rfl, Tryz.ntmps127, k127, q127⟩
  · cases h; exact ⟨Tryz.f128, _, Tryz.func128, rfl, rfl, Tryz.ntmps128, k128, q128⟩
  · cases h; exact ⟨Tryz.f129, _, Tryz.func129, rfl, rfl, Tryz.ntmps129, k129, q129⟩
  · cases h; exact ⟨Tryz.f130, _, Tryz.func130, rfl, rfl, Tryz.ntmps130, k130, q130⟩
  · cases h; exact ⟨Tryz.f131, _, Tryz.func131, rfl, rfl, Tryz.ntmps131, k131, q131⟩
  · cases h; exact ⟨Tryz.f132, _, Tryz.func132, rfl, rfl, Tryz.ntmps132, k132, q132⟩
  · cases h; exact ⟨Tryz.f133, _, Tryz.func133, rfl, rfl, Tryz.ntmps133, k133, q133⟩
  · cases h; exact ⟨Tryz.f134, _, Tryz.func134, rfl, rfl, Tryz.ntmps134, k134, q134⟩
  · cases h; exact ⟨Tryz.f135, _, Tryz.func135, rfl, rfl, Tryz.ntmps135, k135, q135⟩
  · cases h; exact ⟨Tryz.f136, _, Tryz.func136, rfl, rfl, Tryz.ntmps136, k136, q136⟩
  · cases h; exact ⟨Tryz.f137, _, Tryz.func137, rfl, rfl, Tryz.ntmps137, k137, q137⟩
  · cases h; exact ⟨Tryz.f138, _, Tryz.func138, rfl, rfl, Tryz.ntmps138, k138, q138⟩
  · cases h; exact ⟨Tryz.f139, _, Tryz.func139, rfl, rfl, Tryz.ntmps139, k139, q139⟩
  · cases h; exact ⟨Tryz.f140, _, Tryz.func140, rfl, rfl, Tryz.ntmps140, k140, q140⟩
  · cases h; exact ⟨Tryz.f141, _, Tryz.func141, rfl, rfl, Tryz.ntmps141, k141, q141⟩
  · cases h; exact ⟨Tryz.f142, _, Tryz.func142, rfl, rfl, Tryz.ntmps142, k142, q142⟩
  · cases h; exact ⟨Tryz.f143, _, Tryz.func143, rfl, rfl, Tryz.ntmps143, k143, q143⟩
  · cases h; exact ⟨Tryz.f144, _, Tryz.func144, rfl, rfl, Tryz.ntmps144, k144, q144⟩
  · cases h; exact ⟨Tryz.f4, _, Tryz.func4, rfl, rfl, Tryz.ntmps4, k4, q4⟩
  · cases h; exact ⟨Tryz.f10, _, Tryz.func10, rfl, rfl, Tryz.ntmps10, k10, q10⟩
  · cases h; exact ⟨Tryz.f21, _, Tryz.func21, rfl, rfl, Tryz.ntmps21, k21, q21⟩
  · cases h; exact ⟨Tryz.f8, _, Tryz.func8, rfl, rfl, Tryz.ntmps8, k8, q8⟩
  · cases h; exact ⟨Tryz.f19, _, Tryz.func19, rfl, rfl, Tryz.ntmps19, k19, q19⟩
  · cases h; exact ⟨Tryz.f44, _, Tryz.func44, rfl, rfl, Tryz.ntmps44, k44, q44⟩
  · cases h; exact ⟨Tryz.f71, _, Tryz.func71, rfl, rfl, Tryz.ntmps71, k71, q71⟩
  · cases h; exact ⟨Tryz.f48, _, Tryz.func48, rfl, rfl, Tryz.ntmps48, k48, q48⟩
  · cases h; exact ⟨Tryz.f47, _, Tryz.func47, rfl, rfl, Tryz.ntmps47, k47, q47⟩
  · cases h; exact ⟨Tryz.f30, _, Tryz.func30, rfl, rfl, Tryz.ntmps30, k30, q30⟩
  · cases h; exact ⟨Tryz.f16, _, Tryz.func16, rfl, rfl, Tryz.ntmps16, k16, q16⟩
  · cases h; exact ⟨Tryz.f7, _, Tryz.func7, rfl, rfl, Tryz.ntmps7, k7, q7⟩
  · cases h; exact ⟨Tryz.f3, _, Tryz.func3, rfl, rfl, Tryz.ntmps3, k3, q3⟩
  · cases h

end Go.Proofs.YtofcnjhnjagncaaGreat.Ev

/- What the run takes as done: clonings. -/
namespace Go.Proofs.YtofcnjhnjagncaaGreat.Ev
open Go Am Rc Cl

def nat : Cal := fun k args m =>
  if k = 17 then cloned 4 args m
  else if k = 62 then cloned 8 args m
  else if k = 93 then cloned 14 args m
  else none

theorem nat_ok : CalOk Tryz.prog nat := by
  intro k args m v m' h
  unfold nat at h
  split at h
  · rename_i e; subst e; exact cloned_ok c17 h
  split at h
  · rename_i e; subst e; exact cloned_ok c62 h
  split at h
  · rename_i e; subst e; exact cloned_ok c93 h
  · cases h

end Go.Proofs.YtofcnjhnjagncaaGreat.Ev

/- tagdec: messages of fields that the plan does not know. -/
set_option linter.unusedSimpArgs false
namespace Go.Proofs.YtofcnjhnjagncaaGreat.Va
open Go Am Rc Bt Vp Cp Up So

theorem c23 (p1 p2 : AV) (c : C) (n : Int) (s : Nat) (fr : Nat → Ob) (m : Mem) (hs : fr s = .cells (p1 :: p2 :: c.av.cells)) :
    ACalls Tryz.prog 23 [.ptr 0 s 0, .int .i64 n] (fr :: m) fun x m1 => x = .int .i64 ((c.spend n).2 : Nat) ∧ m1 = upd fr s (.cells (p1 :: p2 :: (c.spend n).1.av.cells)) :: m := by
  refine acalls_of_awp (rc := r23) (rs := o23) Tryz.func23 rfl rfl Tryz.ntmps23 k23 q23 (by simp) ?_
  simp only [C.av, AV.cells] at hs
  simp only [g23_0, g23_1, g23_2, g23_3, r23, o23, hs, eES, eEX, Nat.reduceBEq, Int.reduceLE, Int.reduceLT, Int.reduceToNat, Int.reduceEq, ↓reduceIte, reduceCtorEq, Nat.reducePow, Nat.reduceAdd, Nat.reduceLeDiff, Nat.reduceLT, Nat.reduceSub, Nat.reduceEqDiff]
  refine aops_call (c34 c n) rfl rfl rfl (.inl rfl) ?_
  generalize c.spend n = r
  obtain ⟨c', e⟩ := r
  simp only [cav, C.av, hs, eES, eEX, Nat.reduceBEq, Int.reduceLE, Int.reduceLT, Int.reduceToNat, Int.reduceEq, ↓reduceIte, reduceCtorEq, Nat.reducePow, Nat.reduceAdd, Nat.reduceLeDiff, Nat.reduceLT, Nat.reduceSub, Nat.reduceEqDiff]

theorem c38 (l : List R) (x : R) (hn : l.length ≤ 1000000) : Fn1 Tryz.prog 38 [mv l, x.av] (mv (l ++ [x])) := by
  refine fn1_of_awp (rc := r38) (rs := o38) Tryz.func38 rfl rfl Tryz.ntmps38 k38 q38 (by simp) ?_
  have t1 : ((l.length : Int) = (l.length : Int) ∧ (l.length : Int) = (l.length : Int)) = True := by simp
  simp only [g38_0, g38_1, g38_2, g38_3, r38, o38, mv, R.av, rsv_len, t1, eES, eEX, Nat.reduceBEq, Int.reduceLE, Int.reduceLT, Int.reduceToNat, Int.reduceEq, ↓reduceIte, reduceCtorEq, Nat.reducePow, Nat.reduceAdd, Nat.reduceLeDiff, Nat.reduceLT, Nat.reduceSub, Nat.reduceEqDiff]
  refine aops_bslA rfl rfl (by decide) rfl rfl ?_
  refine aops_appc (xs := rsv l) (ys := [x.av]) rfl (by rfl) (by simp) (rsv_four l) (by rfl) (by simp [rsv_len, maxLen]; omega) (by simp [rsv_len]; omega) (by rfl) ?_
  simp only [eES, eEX, Nat.reduceBEq, Int.reduceLE, Int.reduceLT, Int.reduceToNat, Int.reduceEq, ↓reduceIte, reduceCtorEq, Nat.reducePow, Nat.reduceAdd, Nat.reduceLeDiff, Nat.reduceLT, Nat.reduceSub, Nat.reduceEqDiff]
  have ht : rsv (l ++ [x]) = rsv l ++ [x.av] := rsv_append l [x]
  have hk : List.take ((rsv l).length + 1) (rsv l ++ [x.av]) = rsv l ++ [x.av] := List.take_of_length_le (by simp)
  simp [ht, hk, AV.un, AV.unL, AV.still, AV.stillL, isV, vget]

/-- The plan of one message without operations. -/
def pl : AV := .agg [.list [.agg [.str [77], .list [], .int .i64 0]], .list []]

def pFind : Option (AV × Mem) → Bool
  | some (.tup [.int .i64 (.ofNat 0), .bool true], []) => true
  | _ => false

theorem find_run : pFind (evcall Ev.nat Ev.tab (evC Ev.nat Ev.tab 300) 12 [pl, .str [77]] []) = true := by decide +kernel

theorem c12 : Fn1 Tryz.prog 12 [pl, .str [77]] (.tup [.int .i64 0, .bool true]) := by
  have h := find_run
  unfold pFind at h
  split at h
  · rename_i h1
    exact (evcall_ok Ev.nat_ok Ev.tab_ok (evC_ok Ev.nat_ok Ev.tab_ok 300) _ _ _ _ _ h1).mono fun _ _ e => e.1
  · cases h

def pNil : Option (AV × Mem) → Bool
  | some (.list [], []) => true
  | _ => false

theorem slots_run : pNil (evcall Ev.nat Ev.tab (evC Ev.nat Ev.tab 300) 39 [.list []] []) = true := by decide +kernel

theorem c39 : Fn1 Tryz.prog 39 [.list []] (.list []) := by
  have h := slots_run
  unfold pNil at h
  split at h
  · rename_i h1
    exact (evcall_ok Ev.nat_ok Ev.tab_ok (evC_ok Ev.nat_ok Ev.tab_ok 300) _ _ _ _ _ h1).mono fun _ _ e => e.1
  · cases h

theorem c13 (l : List R) : Fn1 Tryz.prog 13 [pl, .int .i64 0, mv l] (.bool true) := by
  refine fn1_of_awp (rc := r13) (rs := o13) Tryz.func13 rfl rfl Tryz.ntmps13 k13 q13 (by simp) ?_
  have n0 : (0 ≤ (0 : Int)) = True := by simp
  have z0 : Int.toNat 0 = 0 := rfl
  simp only [g13_0, g13_1, g13_2, g13_3, g13_4, g13_5, g13_6, g13_7, g13_8, g13_9, g13_10, g13_11, g13_12, g13_13, g13_14, g13_15, g13_16, r13, o13, pl, mv, n0, z0, aiaddr, eES, eEX, Nat.reduceBEq, Int.reduceLE, Int.reduceLT, Int.reduceToNat, Int.reduceEq, ↓reduceIte, reduceCtorEq, Nat.reducePow, Nat.reduceAdd, Nat.reduceLeDiff, Nat.reduceLT, Nat.reduceSub, Nat.reduceEqDiff]
  refine awp_loop (fun k st => ∃ f fr, st = ⟨f, [fr], []⟩ ∧ f 20 = .int .i64 0 ∧ f 19 = .int .i64 0 ∧ ∀ s ∈ [12, 9, 8], (fr s).isRow = false) 0 ⟨_, _, rfl, rfl, rfl, by simp; exact ⟨rfl, rfl, rfl⟩⟩ ?_
  rintro n st ⟨f0, fr0, rfl, h0, h1, hrow⟩
  refine awp_drops (a := _) [12, 9, 8] hrow ?_
  intro f fr hf hm hn
  replace h0 : f 20 = .int .i64 0 := by rw [hf, h0] <;> rfl
  replace h1 : f 19 = .int .i64 0 := by rw [hf, h1] <;> rfl
  have d0 : decide ((0 : Int) < 0) = false := rfl
  simp only [g13_0, g13_1, g13_2, g13_3, g13_4, g13_5, g13_6, g13_7, g13_8, g13_9, g13_10, g13_11, g13_12, g13_13, g13_14, g13_15, g13_16, r13, o13, h0, h1, d0, eES, eEX, Nat.reduceBEq, Int.reduceLE, Int.reduceLT, Int.reduceToNat, Int.reduceEq, ↓reduceIte, reduceCtorEq, Nat.reducePow, Nat.reduceAdd, Nat.reduceLeDiff, Nat.reduceLT, Nat.reduceSub, Nat.reduceEqDiff]

theorem c43 (x y : R) : Fn1 Tryz.prog 43 [x.av, y.av] (.int .i64 (cmpN x.num y.num)) := by
  refine fn1_of_awp (rc := r43) (rs := o43) Tryz.func43 rfl rfl Tryz.ntmps43 k43 q43 (by simp) ?_
  simp only [g43_0, g43_1, r43, o43, R.av, eES, eEX, Nat.reduceBEq, Int.reduceLE, Int.reduceLT, Int.reduceToNat, Int.reduceEq, ↓reduceIte, reduceCtorEq, Nat.reducePow, Nat.reduceAdd, Nat.reduceLeDiff, Nat.reduceLT, Nat.reduceSub, Nat.reduceEqDiff]
  refine aops_call (c20 x.num y.num) rfl rfl rfl (.inl rfl) ?_
  simp only [eES, eEX, Nat.reduceBEq, Int.reduceLE, Int.reduceLT, Int.reduceToNat, Int.reduceEq, ↓reduceIte, reduceCtorEq, Nat.reducePow, Nat.reduceAdd, Nat.reduceLeDiff, Nat.reduceLT, Nat.reduceSub, Nat.reduceEqDiff]

theorem cp_N : Ta.Cp Er 43 cR where
  call x y hx hy := by
    obtain ⟨⟨f, rfl⟩, _⟩ := hx
    obtain ⟨⟨g, rfl⟩, _⟩ := hy
    exact c43 f g
  sw := cR_sw

def NormI (l : List R) (_ : Nat) (st : St) : Prop :=
  ∃ f fr, st = ⟨f, [fr], []⟩ ∧ f 6 = .ptr 0 6 0 ∧ f 7 = .ptr 0 7 0 ∧ f 31 = .int .i64 0 ∧ f 32 = .int .i64 0 ∧ fr 6 = .cells [.int .i64 0, .int .u64 0, .str [], .nils, .nils, .nils, .nils] ∧ fr 7 = .cells [.int .i64 10, .int .u64 0, .str [], .nils, .nils, .vec 0 1100 1 0 0 false, .vec 0 1000 1 0 (rsv l).length false] ∧ fr 1000 = .vec 1 4 (rsv l) ∧ fr 1100 = .vec 1 8 [] ∧ ∀ s ∈ [13, 10, 9], (fr s).isRow = false

theorem c25 (l : List R) (hn : l.length ≤ 1000000) : Fn1 Tryz.prog 25 [pl, .int .i64 0, mv l] (mv (srt l)) := by
  refine fn1_of_awp (rc := r25) (rs := o25) Tryz.func25 rfl rfl Tryz.ntmps25 k25 q25 (by simp) ?_
  simp only [g25_0, g25_1, g25_2, g25_3, g25_4, g25_5, g25_6, g25_7, g25_8, g25_9, g25_10, g25_11, g25_12, g25_13, g25_14, r25, o25, pl, mv, eES, eEX, Nat.reduceBEq, Int.reduceLE, Int.reduceLT, Int.reduceToNat, Int.reduceEq, ↓reduceIte, reduceCtorEq, Nat.reducePow, Nat.reduceAdd, Nat.reduceLeDiff, Nat.reduceLT, Nat.reduceSub, Nat.reduceEqDiff]
  refine aops_callF (Cl.c17 (rsv l) _ [] (rsv_four l) (by rw [rsv_len]; omega) rfl) (by simp only [List.map_cons, List.map_nil, eES, eEX, Nat.reduceBEq, Int.reduceLE, Int.reduceLT, Int.reduceToNat, Int.reduceEq, ↓reduceIte, reduceCtorEq, Nat.reducePow, Nat.reduceAdd, Nat.reduceLeDiff, Nat.reduceLT, Nat.reduceSub, Nat.reduceEqDiff]) ?_
  simp only [eES, eEX, Nat.reduceBEq, Int.reduceLE, Int.reduceLT, Int.reduceToNat, Int.reduceEq, ↓reduceIte, reduceCtorEq, Nat.reducePow, Nat.reduceAdd, Nat.reduceLeDiff, Nat.reduceLT, Nat.reduceSub, Nat.reduceEqDiff]
  have hng : ngen Ob.none = 1 := rfl
  have d1 : decide (((1 : Nat) : Int) ≤ 0) = false := rfl
  refine awp_vecc rfl rfl rfl rfl ?_
  simp only [hng, noObs, d1, List.set_cons_succ, List.set_cons_zero, eES, eEX, Nat.reduceBEq, Int.reduceLE, Int.reduceLT, Int.reduceToNat, Int.reduceEq, ↓reduceIte, reduceCtorEq, Nat.reducePow, Nat.reduceAdd, Nat.reduceLeDiff, Nat.reduceLT, Nat.reduceSub, Nat.reduceEqDiff]
  refine aops_call c39 rfl rfl rfl (.inl rfl) ?_
  simp only [eES, eEX, Nat.reduceBEq, Int.reduceLE, Int.reduceLT, Int.reduceToNat, Int.reduceEq, ↓reduceIte, reduceCtorEq, Nat.reducePow, Nat.reduceAdd, Nat.reduceLeDiff, Nat.reduceLT, Nat.reduceSub, Nat.reduceEqDiff]
  refine awp_loop (NormI l) 0 ⟨_, _, rfl, rfl, rfl, rfl, rfl, rfl, rfl, rfl, rfl, by simp; exact ⟨rfl, rfl, rfl⟩⟩ ?_
  rintro n st ⟨f0, fr0, rfl, h6, h7, h31, h32, m6, m7, mr, ms, hrow⟩
  refine awp_drops (a := _) [13, 10, 9] hrow ?_
  intro f fr hf hm hn'
  replace h6 : f 6 = .ptr 0 6 0 := by rw [hf, h6] <;> rfl
  replace h7 : f 7 = .ptr 0 7 0 := by rw [hf, h7] <;> rfl
  replace h31 : f 31 = .int .i64 0 := by rw [hf, h31] <;> rfl
  replace h32 : f 32 = .int .i64 0 := by rw [hf, h32] <;> rfl
  replace m6 : fr 6 = .cells [.int .i64 0, .int .u64 0, .str [], .nils, .nils, .nils, .nils] := by rw [hm 6 (by decide), m6] <;> rfl
  replace m7 : fr 7 = .cells [.int .i64 10, .int .u64 0, .str [], .nils, .nils, .vec 0 1100 1 0 0 false, .vec 0 1000 1 0 (rsv l).length false] := by rw [hm 7 (by decide), m7] <;> rfl
  replace mr : fr 1000 = .vec 1 4 (rsv l) := by rw [hm 1000 (by decide), mr] <;> rfl
  replace ms : fr 1100 = .vec 1 8 [] := by rw [hm 1100 (by decide), ms] <;> rfl
  have d0 : decide ((0 : Int) < 0) = false := rfl
  simp only [g25_0, g25_1, g25_2, g25_3, g25_4, g25_5, g25_6, g25_7, g25_8, g25_9, g25_10, g25_11, g25_12, g25_13, g25_14, r25, o25, h6, h7, h31, h32, m6, m7, mr, ms, d0, eES, eEX, Nat.reduceBEq, Int.reduceLE, Int.reduceLT, Int.reduceToNat, Int.reduceEq, ↓reduceIte, reduceCtorEq, Nat.reducePow, Nat.reduceAdd, Nat.reduceLeDiff, Nat.reduceLT, Nat.reduceSub, Nat.reduceEqDiff]
  refine aops_callF (Ta.c18 cp_N 0 1000 1 (rsv l) [fr] mr (rsv_ez l) (by rw [rsv_len]; omega)) (by simp only [List.map_cons, List.map_nil, h6, h7, h31, h32, m6, m7, mr, ms, eES, eEX, Nat.reduceBEq, Int.reduceLE, Int.reduceLT, Int.reduceToNat, Int.reduceEq, ↓reduceIte, reduceCtorEq, Nat.reducePow, Nat.reduceAdd, Nat.reduceLeDiff, Nat.reduceLT, Nat.reduceSub, Nat.reduceEqDiff]) ?_
  have hi : isort (Ta.lt cR) (rsv l) = rsv (srt l) := isort_map l
  have hl : (rsv (srt l)).length = (rsv l).length := by rw [← hi, len_isort]
  simp only [hi, h6, h7, h31, h32, m6, m7, mr, ms, eES, eEX, Nat.reduceBEq, Int.reduceLE, Int.reduceLT, Int.reduceToNat, Int.reduceEq, ↓reduceIte, reduceCtorEq, Nat.reducePow, Nat.reduceAdd, Nat.reduceLeDiff, Nat.reduceLT, Nat.reduceSub, Nat.reduceEqDiff]
  have ht : List.take (rsv l).length (rsv (srt l)) = rsv (srt l) := List.take_of_length_le (by rw [hl]; exact Nat.le_refl _)
  simp [AV.still, AV.stillL, Am.look, Am.put, hl, upd, ht, AV.un, AV.unL, isV, vget, mr, ms]

end Go.Proofs.YtofcnjhnjagncaaGreat.Va
