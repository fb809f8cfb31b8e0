/- How the reading of values and of memory is kept. -/
import Derived.Test.YtcmdlmcmefbkeaaAma
namespace Go.Proofs.Ytcmdlmcmefbkeaa.Am
open Go

theorem Gh.dn_zero (G : Gh) : G.dn 0 = G := rfl
theorem Gh.dn_dn (G : Gh) (a b : Nat) : (G.dn a).dn b = G.dn (b + a) := by
  simp only [Gh.dn, Nat.add_assoc]

/-- What was known is known still. -/
structure Gle (G G' : Gh) : Prop where
  stab : ∀ b o v, G.stab b o = some v → G'.stab b o = some v
  nm : ∀ l s b, G.nm l s = some b → G'.nm l s = some b
  vg : ∀ l s, G.vg l s ≤ G'.vg l s
  vs : ∀ l s, G'.vg l s = G.vg l s → G'.vm l s = G.vm l s ∧ G'.vc l s = G.vc l s ∧ G'.vz l s = G.vz l s

theorem Gle.refl (G : Gh) : Gle G G := ⟨fun _ _ _ h => h, fun _ _ _ h => h, fun _ _ => Nat.le_refl _, fun _ _ _ => ⟨rfl, rfl, rfl⟩⟩
theorem Gle.trans {a b c : Gh} (h : Gle a b) (k : Gle b c) : Gle a c :=
  ⟨fun x o v e => k.stab x o v (h.stab x o v e), fun l s b e => k.nm l s b (h.nm l s b e), fun l s => Nat.le_trans (h.vg l s) (k.vg l s), fun l s e => by
    have h1 := h.vg l s
    have h2 := k.vg l s
    obtain ⟨a1, a2, a3⟩ := h.vs l s (by omega)
    obtain ⟨b1, b2, b3⟩ := k.vs l s (by omega)
    exact ⟨b1.trans a1, b2.trans a2, b3.trans a3⟩⟩
theorem Gle.dn {G G' : Gh} (h : Gle G G') (l : Nat) : Gle (G.dn l) (G'.dn l) :=
  ⟨h.stab, fun i s b e => h.nm (i + l) s b e, fun i s => h.vg (i + l) s, fun i s e => h.vs (i + l) s e⟩

mutual
theorem Rep.mono {G G' : Gh} (hg : Gle G G') : ∀ {x : AV} {v : Value}, Rep G x v → Rep G' x v
  | _, _, .top v => .top v
  | _, _, .int k n => .int k n
  | _, _, .bool b => .bool b
  | _, _, .str s => .str s
  | _, _, .nils => .nils
  | _, _, .nilp => .nilp
  | _, _, .nilf => .nilf
  | _, _, .nili => .nili
  | _, _, .nilm => .nilm
  | _, _, .anyp p => .anyp p
  | _, _, .list hc hz hf hl hs hn hcap hm => .list (RepL.mono hg hc) hz hf hl (fun j u h => by
      obtain ⟨b, o, e, h'⟩ := hs j u h
      exact ⟨b, o, e, hg.stab _ _ _ h'⟩) hn hcap hm
  | _, _, .agg h => .agg (RepL.mono hg h)
  | _, _, .tup h => .tup (RepL.mono hg h)
  | _, _, .iface h => .iface (Rep.mono hg h)
  | _, _, .fn ha hb => .fn (RepL.mono hg ha) (RepL.mono hg hb)
  | _, _, .ptr h => .ptr (hg.nm _ _ _ h)
  | _, _, .vec (l := l) (s := s) hv hl h => .vec hv (Nat.le_trans hl (hg.vg _ _)) (fun e => by
      have h1 := hg.vg l s
      obtain ⟨a1, a2, a3⟩ := hg.vs l s (by omega)
      rw [a1, a2, a3]
      exact h (by omega))
  | _, _, .vptr (l := l) (s := s) hv hl h => .vptr hv (Nat.le_trans hl (hg.vg _ _)) (fun e => by
      have h1 := hg.vg l s
      obtain ⟨a1, _, a3⟩ := hg.vs l s (by omega)
      rw [a1, a3]
      exact h (by omega))
  | _, _, .rptr hc hf hl hs => .rptr (RepL.mono hg hc) hf hl (fun j u h => hg.stab _ _ _ (hs j u h))
theorem RepL.mono {G G' : Gh} (hg : Gle G G') : ∀ {x : List AV} {v : List Value}, RepL G x v → RepL G' x v
  | _, _, .nil => .nil
  | _, _, .cons h t => .cons (Rep.mono hg h) (RepL.mono hg t)
end

theorem RepL.length {G : Gh} {l : List AV} {vs : List Value} (h : RepL G l vs) : vs.length = l.length := by
  induction l generalizing vs with
  | nil => cases h; rfl
  | cons x l ih => cases h with | cons h t => simp [ih t]

theorem RepL.at_ {G : Gh} {l : List AV} {vs : List Value} (h : RepL G l vs) {i : Nat} {x : AV} (hx : l[i]? = some x) : ∃ v, vs[i]? = some v ∧ Rep G x v := by
  induction l generalizing vs i with
  | nil => simp at hx
  | cons y l ih =>
    cases h with
    | cons h t =>
      cases i with
      | zero => simp at hx; subst hx; exact ⟨_, rfl, h⟩
      | succ i => simp at hx; simpa using ih t hx

theorem RepL.back {G : Gh} {l : List AV} {vs : List Value} (h : RepL G l vs) {i : Nat} {v : Value} (hx : vs[i]? = some v) : ∃ x, l[i]? = some x ∧ Rep G x v := by
  have hl := h.length
  have : i < l.length := by rw [← hl]; exact (List.getElem?_eq_some_iff.1 hx).1
  obtain ⟨v', e, r⟩ := h.at_ (List.getElem?_eq_getElem this)
  rw [hx] at e
  injection e with e
  subst e
  exact ⟨_, List.getElem?_eq_getElem this, r⟩

theorem RepL.append {G : Gh} {l l' : List AV} {vs vs' : List Value} (h : RepL G l vs) (h' : RepL G l' vs') : RepL G (l ++ l') (vs ++ vs') := by
  induction l generalizing vs with
  | nil => cases h; exact h'
  | cons x l ih => cases h with | cons h t => exact .cons h (ih t)

theorem RepL.take {G : Gh} {l : List AV} {vs : List Value} (h : RepL G l vs) (n : Nat) : RepL G (l.take n) (vs.take n) := by
  induction l generalizing vs n with
  | nil => cases h; simp; exact .nil
  | cons x l ih =>
    cases h with
    | cons h t =>
      cases n with
      | zero => simp; exact .nil
      | succ n => simp; exact .cons h (ih t n)

theorem RepL.drop {G : Gh} {l : List AV} {vs : List Value} (h : RepL G l vs) (n : Nat) : RepL G (l.drop n) (vs.drop n) := by
  induction l generalizing vs n with
  | nil => cases h; simp; exact .nil
  | cons x l ih =>
    cases h with
    | cons h t =>
      cases n with
      | zero => simp; exact .cons h t
      | succ n => simp; exact ih t n

theorem RepL.set {G : Gh} {l : List AV} {vs : List Value} (h : RepL G l vs) (n : Nat) {x : AV} {v : Value} (hx : Rep G x v) : RepL G (l.set n x) (vs.set n v) := by
  induction l generalizing vs n with
  | nil => cases h; simp; exact .nil
  | cons y l ih =>
    cases h with
    | cons h t =>
      cases n with
      | zero => simp; exact .cons hx t
      | succ n => simp; exact .cons h (ih t n)

theorem RepL.of_all {G : Gh} {l : List AV} {vs : List Value} (hl : vs.length = l.length) (h : ∀ (i : Nat) x v, l[i]? = some x → vs[i]? = some v → Rep G x v) : RepL G l vs := by
  induction l generalizing vs with
  | nil => cases vs with | nil => exact .nil | cons _ _ => simp at hl
  | cons x l ih =>
    cases vs with
    | nil => simp at hl
    | cons v vs => exact .cons (h 0 x v rfl rfl) (ih (by simpa using hl) (fun i y u hy hu => h (i + 1) y u (by simpa using hy) (by simpa using hu)))

/-- A value of one cell. -/
theorem Rep.leaf {G : Gh} {x : AV} {v : Value} (h : Rep G x v) (hl : x.leaf = true) : v.oneCell' = true := by
  cases h with
  | top => simp [AV.leaf] at hl
  | agg => simp [AV.leaf] at hl
  | tup => simp [AV.leaf] at hl
  | vec hv => exact hv
  | vptr hv => exact hv
  | _ => rfl

/-- Two ghosts that agree on the cells that stay. -/
def Gh.sameStab (G G' : Gh) : Prop := ∀ b o v, G.stab b o = some v → G'.stab b o = some v

mutual
theorem Rep.rfd {G G' : Gh} (hg : G.sameStab G') : ∀ {x : AV} {v : Value}, x.rf = true → Rep G x v → Rep G' x v
  | _, _, _, .top v => .top v
  | _, _, _, .int k n => .int k n
  | _, _, _, .bool b => .bool b
  | _, _, _, .str s => .str s
  | _, _, _, .nils => .nils
  | _, _, _, .nilp => .nilp
  | _, _, _, .nilf => .nilf
  | _, _, _, .nili => .nili
  | _, _, _, .nilm => .nilm
  | _, _, _, .anyp p => .anyp p
  | _, _, _, .list hc hz hf hl hs hn hcap hm => .list (RepL.rfd hg hf hc) hz hf hl (fun j u h => by
      obtain ⟨b, o, e, h'⟩ := hs j u h
      exact ⟨b, o, e, hg _ _ _ h'⟩) hn hcap hm
  | _, _, hr, .agg h => .agg (RepL.rfd hg hr h)
  | _, _, hr, .tup h => .tup (RepL.rfd hg hr h)
  | _, _, hr, .iface h => .iface (Rep.rfd hg hr h)
  | _, _, hr, .fn ha hb => by
      have h2 := Bool.and_eq_true_iff.1 hr
      exact .fn (RepL.rfd hg h2.1 ha) (RepL.rfd hg h2.2 hb)
  | _, _, hr, .ptr h => by cases hr
  | _, _, hr, .vec hv hl h => by cases hr
  | _, _, hr, .vptr hv hl h => by cases hr
  | _, _, hr, .rptr hc hf hl hs => by cases hr
theorem RepL.rfd {G G' : Gh} (hg : G.sameStab G') : ∀ {x : List AV} {v : List Value}, AV.rfL x = true → RepL G x v → RepL G' x v
  | _, _, _, .nil => .nil
  | _, _, hr, .cons h t => by
      have h2 := Bool.and_eq_true_iff.1 hr
      exact .cons (Rep.rfd hg h2.1 h) (RepL.rfd hg h2.2 t)
end

theorem RepL.ofrf {G : Gh} {l : Nat} {x : List AV} {v : List Value} (hr : AV.rfL x = true) (h : RepL (G.dn l) x v) : RepL G x v := RepL.rfd (G := G.dn l) (G' := G) (fun _ _ _ h => h) hr h
theorem RepL.torf {G : Gh} {l : Nat} {x : List AV} {v : List Value} (hr : AV.rfL x = true) (h : RepL G x v) : RepL (G.dn l) x v := RepL.rfd (G := G) (G' := G.dn l) (fun _ _ _ h => h) hr h

mutual
theorem Rep.sh {G : Gh} : ∀ {x : AV} {v : Value}, Rep (G.dn 1) x v → Rep G x.sh v
  | _, _, .top v => .top v
  | _, _, .int k n => .int k n
  | _, _, .bool b => .bool b
  | _, _, .str s => .str s
  | _, _, .nils => .nils
  | _, _, .nilp => .nilp
  | _, _, .nilf => .nilf
  | _, _, .nili => .nili
  | _, _, .nilm => .nilm
  | _, _, .anyp p => .anyp p
  | _, _, .list hc hz hf hl hs hn hcap hm => .list (RepL.ofrf hf hc) hz hf hl hs hn hcap hm
  | _, _, .agg h => .agg (RepL.sh h)
  | _, _, .tup h => .tup (RepL.sh h)
  | _, _, .iface h => .iface (Rep.sh h)
  | _, _, .fn ha hb => .fn (RepL.sh ha) (RepL.sh hb)
  | _, _, .ptr h => .ptr h
  | _, _, .vec hv hl h => .vec hv hl h
  | _, _, .vptr hv hl h => .vptr hv hl h
  | _, _, .rptr hc hf hl hs => .rptr (RepL.ofrf hf hc) hf hl hs
theorem RepL.sh {G : Gh} : ∀ {x : List AV} {v : List Value}, RepL (G.dn 1) x v → RepL G (AV.shL x) v
  | _, _, .nil => .nil
  | _, _, .cons h t => .cons (Rep.sh h) (RepL.sh t)
end

theorem Rep.shN (n : Nat) : ∀ {G : Gh} {x : AV} {v : Value}, Rep (G.dn n) x v → Rep G (x.shN n) v := by
  induction n with
  | zero => intro G x v h; exact h
  | succ n ih =>
    intro G x v h
    show Rep G ((x.shN n).sh) v
    refine Rep.sh (ih ?_)
    rw [Gh.dn_dn]
    exact h

mutual
theorem Rep.un {G : Gh} : ∀ {x : AV} {v : Value}, Rep G x v → ∀ y, x.un = some y → Rep (G.dn 1) y v
  | _, _, .top v, y, e => by cases e; exact .top v
  | _, _, .int k n, y, e => by cases e; exact .int k n
  | _, _, .bool b, y, e => by cases e; exact .bool b
  | _, _, .str s, y, e => by cases e; exact .str s
  | _, _, .nils, y, e => by cases e; exact .nils
  | _, _, .nilp, y, e => by cases e; exact .nilp
  | _, _, .nilf, y, e => by cases e; exact .nilf
  | _, _, .nili, y, e => by cases e; exact .nili
  | _, _, .nilm, y, e => by cases e; exact .nilm
  | _, _, .anyp p, y, e => by cases e; exact .anyp p
  | _, _, .list hc hz hf hl hs hn hcap hm, y, e => by cases e; exact .list (RepL.torf hf hc) hz hf hl hs hn hcap hm
  | _, _, .agg (l := l) h, y, e => by
      simp only [AV.un, Option.map_eq_some_iff] at e
      obtain ⟨l', e1, rfl⟩ := e
      exact .agg (RepL.un h l' e1)
  | _, _, .tup (l := l) h, y, e => by
      simp only [AV.un, Option.map_eq_some_iff] at e
      obtain ⟨l', e1, rfl⟩ := e
      exact .tup (RepL.un h l' e1)
  | _, _, .iface (x := x) h, y, e => by
      simp only [AV.un, Option.map_eq_some_iff] at e
      obtain ⟨l', e1, rfl⟩ := e
      exact .iface (Rep.un h l' e1)
  | _, _, .fn (a := a) (b := b) ha hb, y, e => by
      simp only [AV.un] at e
      split at e
      · rename_i a' b' ea eb
        cases e
        exact .fn (RepL.un ha a' ea) (RepL.un hb b' eb)
      · cases e
  | .ptr l s o, _, .ptr h, y, e => by
      cases l with
      | zero => cases e
      | succ l => cases e; exact .ptr h
  | .vec l s g o n q, _, .vec hv hl h, y, e => by
      cases l with
      | zero => cases e
      | succ l => cases e; exact .vec hv hl h
  | .vptr l s g i o, _, .vptr hv hl h, y, e => by
      cases l with
      | zero => cases e
      | succ l => cases e; exact .vptr hv hl h
  | _, _, .rptr hc hf hl hs, y, e => by cases e; exact .rptr (RepL.torf hf hc) hf hl hs
theorem RepL.un {G : Gh} : ∀ {x : List AV} {v : List Value}, RepL G x v → ∀ y, AV.unL x = some y → RepL (G.dn 1) y v
  | _, _, .nil, y, e => by cases e; exact .nil
  | _, _, .cons (x := x) (l := l) h t, y, e => by
      simp only [AV.unL] at e
      split at e
      · rename_i a' b' ea eb
        cases e
        exact .cons (Rep.un h a' ea) (RepL.un t b' eb)
      · cases e
end

theorem Rep.unN (n : Nat) : ∀ {G : Gh} {x y : AV} {v : Value}, Rep G x v → x.unN n = some y → Rep (G.dn n) y v := by
  induction n with
  | zero => intro G x y v h e; cases e; exact h
  | succ n ih =>
    intro G x y v h e
    simp only [AV.unN, Option.bind_eq_some_iff] at e
    obtain ⟨z, e1, e2⟩ := e
    have := ih (h.un z e1) e2
    rw [Gh.dn_dn] at this
    exact this

/-- What stands of a ghost when variable s of the frame is made anew. -/
structure Gnew (s : Nat) (G G' : Gh) : Prop where
  stab : ∀ b o v, G.stab b o = some v → G'.stab b o = some v
  nm : ∀ l t b, (l = 0 → t ≠ s) → G.nm l t = some b → G'.nm l t = some b
  vg : ∀ l t, G.vg l t ≤ G'.vg l t
  vs : ∀ l t, G'.vg l t = G.vg l t → G'.vm l t = G.vm l t ∧ G'.vc l t = G.vc l t ∧ G'.vz l t = G.vz l t

mutual
theorem Rep.scrub {G G' : Gh} {s : Nat} (hg : Gnew s G G') : ∀ {x : AV} {v : Value}, Rep G x v → Rep G' (x.scrub s) v
  | _, _, .top v => .top v
  | _, _, .int k n => .int k n
  | _, _, .bool b => .bool b
  | _, _, .str s => .str s
  | _, _, .nils => .nils
  | _, _, .nilp => .nilp
  | _, _, .nilf => .nilf
  | _, _, .nili => .nili
  | _, _, .nilm => .nilm
  | _, _, .anyp p => .anyp p
  | _, _, .list hc hz hf hl hs hn hcap hm => .list (RepL.rfd hg.stab hf hc) hz hf hl (fun j u h => by
      obtain ⟨b, o, e, h'⟩ := hs j u h
      exact ⟨b, o, e, hg.stab _ _ _ h'⟩) hn hcap hm
  | _, _, .agg h => .agg (RepL.scrub hg h)
  | _, _, .tup h => .tup (RepL.scrub hg h)
  | _, _, .iface h => .iface (Rep.scrub hg h)
  | _, _, .fn ha hb => .fn (RepL.scrub hg ha) (RepL.scrub hg hb)
  | .ptr l t o, _, .ptr h => by
      cases l with
      | zero =>
        show Rep G' (bif Nat.beq t s then .top else .ptr 0 t o) _
        cases hb : Nat.beq t s with
        | true => exact .top _
        | false => exact .ptr (hg.nm 0 t _ (fun _ e => by subst e; simp at hb) h)
      | succ l => exact .ptr (hg.nm _ _ _ (fun e => by cases e) h)
  | _, _, .vec (l := l) (s := s) hv hl h => .vec hv (Nat.le_trans hl (hg.vg _ _)) (fun e => by
      have h1 := hg.vg l s
      obtain ⟨a1, a2, a3⟩ := hg.vs l s (by omega)
      rw [a1, a2, a3]
      exact h (by omega))
  | _, _, .vptr (l := l) (s := s) hv hl h => .vptr hv (Nat.le_trans hl (hg.vg _ _)) (fun e => by
      have h1 := hg.vg l s
      obtain ⟨a1, _, a3⟩ := hg.vs l s (by omega)
      rw [a1, a3]
      exact h (by omega))
  | _, _, .rptr hc hf hl hs => .rptr (RepL.rfd hg.stab hf hc) hf hl (fun j u h => hg.stab _ _ _ (hs j u h))
theorem RepL.scrub {G G' : Gh} {s : Nat} (hg : Gnew s G G') : ∀ {x : List AV} {v : List Value}, RepL G x v → RepL G' (AV.scrubL s x) v
  | _, _, .nil => .nil
  | _, _, .cons h t => .cons (Rep.scrub hg h) (RepL.scrub hg t)
end

end Go.Proofs.Ytcmdlmcmefbkeaa.Am
