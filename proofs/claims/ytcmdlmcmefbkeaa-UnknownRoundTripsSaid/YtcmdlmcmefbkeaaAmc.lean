/- How an abstract state stands for a state of the model; what a new variable, a store, a new value do to it. -/
import Derived.Test.YtcmdlmcmefbkeaaAmb
namespace Go.Proofs.Ytcmdlmcmefbkeaa.Am
open Go

def Gh.mine (G : Gh) (b : Nat) : Prop := (∃ l s, G.nm l s = some b) ∨ ∃ l s, G.vm l s = some b

/-- A site from 2000 on bears the type of what lies there. -/
def tyOk (s t : Nat) : Bool := decide (s < 2000) || t + 2000 == s

theorem tyOk_eq {s t e : Nat} (h : tyOk s t = true) (h' : tyOk s e = true) (hs : 2000 ≤ s) : t = e := by
  simp only [tyOk, Bool.or_eq_true, decide_eq_true_eq, beq_iff_eq] at h h'
  omega

/-- A row of cells that may be written (what lies at site s). -/
def Soft (s : Nat) (w : World) (b : Nat) (cs : Array Value) : Prop := ∃ t lo hi, w.heap[b]? = some (.cells cs t (lo, hi)) ∧ tyOk s t = true ∧ ∀ o, o < cs.size → ¬ (lo ≤ o ∧ o < hi)

theorem Soft.cell {s : Nat} {w : World} {b : Nat} {cs : Array Value} (h : Soft s w b cs) (i : Nat) : w.cell? ⟨b, i, none⟩ = cs[i]? := by
  obtain ⟨t, lo, hi, hh, _⟩ := h
  exact cell_of_row w b i cs t (lo, hi) hh
theorem Soft.lt {s : Nat} {w : World} {b : Nat} {cs : Array Value} (h : Soft s w b cs) : b < w.heap.size := by
  obtain ⟨t, lo, hi, hh, _⟩ := h
  exact (Array.getElem?_eq_some_iff.1 hh).1
theorem Soft.frozen {s : Nat} {w : World} {b : Nat} {cs : Array Value} (h : Soft s w b cs) {i : Nat} (hi' : i < cs.size) : w.frozen? ⟨b, i, none⟩ = false := by
  obtain ⟨t, lo, hi, hh, _, hf⟩ := h
  have := hf i hi'
  simp [World.frozen?, hh]
  omega
theorem Soft.of {s : Nat} {w w' : World} {b : Nat} {cs : Array Value} (h : Soft s w b cs) (e : w'.heap[b]? = w.heap[b]?) : Soft s w' b cs := by
  obtain ⟨t, lo, hi, hh, hf⟩ := h
  exact ⟨t, lo, hi, e.trans hh, hf⟩
theorem Soft.uniq {s s' : Nat} {w : World} {b : Nat} {cs cs' : Array Value} (h : Soft s w b cs) (h' : Soft s' w b cs') : cs = cs' := by
  obtain ⟨t, lo, hi, hh, hf⟩ := h
  obtain ⟨t', lo', hi', hh', hf'⟩ := h'
  rw [hh] at hh'
  cases hh'
  rfl
theorem Soft.set {s : Nat} {w : World} {b : Nat} {cs : Array Value} (h : Soft s w b cs) (i : Nat) (v : Value) : Soft s (w.setCell ⟨b, i, none⟩ v) b (cs.setIfInBounds i v) := by
  obtain ⟨t, lo, hi, hh, hf⟩ := h
  refine ⟨t, lo, hi, ?_, by simpa using hf⟩
  simp [World.setCell, Array.getElem?_modify, hh]
theorem Soft.new {s : Nat} (w : World) (cs : Array Value) (t : TypeId) (ht : tyOk s t = true) : Soft s (w.alloc (.cells cs t)) w.heap.size cs :=
  ⟨t, 0, 0, heap_alloc_new w _, ht, fun _ _ => by omega⟩

/-- A row of ours: its elements are the abstract ones. -/
structure RowIs (G : Gh) (s : Nat) (w : World) (b cap sz : Nat) (xs : List AV) : Prop where
  cur : ∃ cur, Soft s w b cur ∧ cur.size = cap * sz ∧ RepL G (flat xs) (cur.toList.take (xs.length * sz))
  le : xs.length ≤ cap
  max : cap ≤ maxLen

theorem RowIs.of {G G' : Gh} {s : Nat} {w w' : World} {b cap sz : Nat} {xs : List AV} (h : RowIs G s w b cap sz xs) (e : w'.heap[b]? = w.heap[b]?) (hr : ∀ vs, RepL G (flat xs) vs → RepL G' (flat xs) vs) : RowIs G' s w' b cap sz xs := by
  obtain ⟨⟨cur, hc, hz, hx⟩, hl, hm⟩ := h
  exact ⟨⟨cur, hc.of e, hz, hr _ hx⟩, hl, hm⟩

/-- The elements of a row or a list. -/
structure Elems (sz : Nat) (xs : List AV) : Prop where
  size : ∀ x ∈ xs, x.cells.length = sz
  rf : AV.rfL (flat xs) = true
  leaf : (flat xs).all AV.leaf = true

def Ob.isRow : Ob → Bool
  | .vec .. => true
  | _ => false

structure MR (G : Gh) (m : Mem) (w : World) : Prop where
  stab : ∀ b o v, G.stab b o = some v → w.cell? ⟨b, o, none⟩ = some v
  cells : ∀ l s xs, look m l s = .cells xs → ∃ b cs, G.nm l s = some b ∧ Soft s w b cs ∧ RepL (G.dn l) xs cs.toList
  nm : ∀ l s b, G.nm l s = some b → (∃ xs, look m l s = .cells xs) ∧ ∀ o, G.stab b o = none
  vec : ∀ l s g sz xs, look m l s = .vec g sz xs → G.vg l s = g ∧ G.vz l s = sz ∧ Elems sz xs ∧ ((G.vm l s = none ∧ xs = []) ∨ ∃ b, G.vm l s = some b ∧ RowIs G s w b (G.vc l s) sz xs)
  vm : ∀ l s b, G.vm l s = some b → (∃ g sz xs, look m l s = .vec g sz xs) ∧ ∀ o, G.stab b o = none
  gone : ∀ l s, (look m l s).isRow = false → G.vg l s = 0
  inj1 : ∀ l s l' s' b, G.nm l s = some b → G.nm l' s' = some b → l = l' ∧ s = s'
  inj2 : ∀ l s l' s' b, G.vm l s = some b → G.vm l' s' = some b → l = l' ∧ s = s'
  inj3 : ∀ l s l' s' b, G.nm l s = some b → G.vm l' s' ≠ some b

theorem MR.mine {G : Gh} {m : Mem} {w : World} (h : MR G m w) {b : Nat} (hb : G.mine b) : b < w.heap.size ∧ ∀ o, G.stab b o = none := by
  rcases hb with ⟨l, s, e⟩ | ⟨l, s, e⟩
  · obtain ⟨⟨xs, hx⟩, hs⟩ := h.nm l s b e
    obtain ⟨b', cs, e', hc, _⟩ := h.cells l s xs hx
    rw [e] at e'; cases e'
    exact ⟨hc.lt, hs⟩
  · obtain ⟨⟨g, sz, xs, hx⟩, hs⟩ := h.vm l s b e
    obtain ⟨_, _, _, hv⟩ := h.vec l s g sz xs hx
    rcases hv with ⟨e', _⟩ | ⟨b', e', hr⟩
    · rw [e] at e'; cases e'
    · rw [e] at e'; cases e'
      obtain ⟨cur, hc, _⟩ := hr.cur
      exact ⟨hc.lt, hs⟩

/-- What a run leaves: from level k on the variables stand, nothing else that was there has turned. -/
structure Ext (k : Nat) (G : Gh) (w : World) (G' : Gh) (w' : World) : Prop where
  os : w'.os = w.os
  tape : w'.tape = w.tape
  output : w'.output = w.output
  size : w.heap.size ≤ w'.heap.size
  stab : ∀ b o v, G.stab b o = some v → G'.stab b o = some v
  nm : ∀ l s, k ≤ l → G'.nm l s = G.nm l s
  vg : ∀ l s, G.vg l s ≤ G'.vg l s
  vs : ∀ l s, G'.vg l s = G.vg l s → G'.vm l s = G.vm l s ∧ G'.vc l s = G.vc l s ∧ G'.vz l s = G.vz l s
  old : ∀ b, b < w.heap.size → ¬ G.mine b → w'.heap[b]? = w.heap[b]? ∧ ∀ o, G'.stab b o = G.stab b o
  mine : ∀ b, G'.mine b → G.mine b ∨ w.heap.size ≤ b
  mv : ∀ l s b, G'.vm l s = some b → G.vm l s = some b ∨ w.heap.size ≤ b

theorem Ext.refl (k : Nat) (G : Gh) (w : World) : Ext k G w G w :=
  ⟨rfl, rfl, rfl, Nat.le_refl _, fun _ _ _ h => h, fun _ _ _ => rfl, fun _ _ => Nat.le_refl _, fun _ _ _ => ⟨rfl, rfl, rfl⟩, fun _ _ _ => ⟨rfl, fun _ => rfl⟩, fun _ h => .inl h, fun _ _ _ h => .inl h⟩

theorem Ext.trans {k : Nat} {G G1 G2 : Gh} {w w1 w2 : World} (h : Ext k G w G1 w1) (j : Ext k G1 w1 G2 w2) : Ext k G w G2 w2 where
  os := j.os.trans h.os
  tape := j.tape.trans h.tape
  output := j.output.trans h.output
  size := Nat.le_trans h.size j.size
  stab _ _ _ e := j.stab _ _ _ (h.stab _ _ _ e)
  nm l s hl := (j.nm l s hl).trans (h.nm l s hl)
  vg l s := Nat.le_trans (h.vg l s) (j.vg l s)
  vs l s e := by
    have h1 := h.vg l s
    have h2 := j.vg l s
    obtain ⟨a1, a2, a3⟩ := h.vs l s (by omega)
    obtain ⟨b1, b2, b3⟩ := j.vs l s (by omega)
    exact ⟨b1.trans a1, b2.trans a2, b3.trans a3⟩
  old b hb hm := by
    obtain ⟨a1, a2⟩ := h.old b hb hm
    have hm1 : ¬ G1.mine b := fun hx => by
      rcases h.mine b hx with h' | h'
      · exact hm h'
      · omega
    obtain ⟨b1, b2⟩ := j.old b (Nat.lt_of_lt_of_le hb h.size) hm1
    exact ⟨b1.trans a1, fun o => (b2 o).trans (a2 o)⟩
  mine := fun b hb => by
    rcases j.mine b hb with h' | h'
    · exact h.mine b h'
    · exact .inr (Nat.le_trans h.size h')
  mv := fun l s b hb => by
    rcases j.mv l s b hb with h' | h'
    · exact h.mv l s b h'
    · exact .inr (Nat.le_trans h.size h')

theorem Ext.mono {k k' : Nat} {G G' : Gh} {w w' : World} (h : Ext k G w G' w') (hk : k ≤ k') : Ext k' G w G' w' :=
  { h with nm := fun l s hl => h.nm l s (Nat.le_trans hk hl) }

theorem Ext.gle {G G' : Gh} {w w' : World} (h : Ext 0 G w G' w') : Gle G G' :=
  ⟨h.stab, fun l s _ e => (h.nm l s (Nat.zero_le _)).trans e, h.vg, h.vs⟩

/-- A deferred call. -/
inductive RepD (G : Gh) : DF → Deferred → Prop
  | mk {fn : Fn} {cap args : List AV} {vc va : List Value} (hc : RepL G cap vc) (ha : RepL G args va) : RepD G ⟨fn, cap, args⟩ { target := .fn fn ⟨vc⟩, args := ⟨va⟩ }
inductive RepDs (G : Gh) : List DF → List Deferred → Prop
  | nil : RepDs G [] []
  | cons {d : DF} {v : Deferred} {l : List DF} {vs : List Deferred} (h : RepD G d v) (t : RepDs G l vs) : RepDs G (d :: l) (v :: vs)

theorem RepDs.mono {G G' : Gh} (hg : Gle G G') {l : List DF} {vs : List Deferred} (h : RepDs G l vs) : RepDs G' l vs := by
  induction h with
  | nil => exact .nil
  | cons h _ ih => cases h with | mk hc ha => exact .cons (.mk (hc.mono hg) (ha.mono hg)) ih

theorem RepDs.scrub {G G' : Gh} {s : Nat} (hg : Gnew s G G') {l : List DF} {vs : List Deferred} (h : RepDs G l vs) : RepDs G' (l.map (DF.scrub s)) vs := by
  induction h with
  | nil => exact .nil
  | cons h _ ih => cases h with | mk hc ha => exact .cons (.mk (hc.scrub hg) (ha.scrub hg)) ih

/-- The abstract state st stands for the frame's state a in the world w; the frame's own blocks lie from B on. -/
structure Rel (G : Gh) (B N : Nat) (st : St) (a : Act) (w : World) : Prop where
  mr : MR G st.m w
  size : a.tmps.size = N
  slots : ∀ i, Rep G (st.f i) (a.tmps.getD i undef)
  ds : RepDs G st.ds a.defers
  base : ∀ s b, G.nm 0 s = some b ∨ G.vm 0 s = some b → B ≤ b
  top : B ≤ w.heap.size
  ne : st.m ≠ []

/-- A world that differs in its draws alone. -/
theorem MR.drew {G : Gh} {m : Mem} {w : World} (h : MR G m w) : MR G m w.drew := ⟨h.stab, h.cells, h.nm, fun l s g sz xs e => by
    obtain ⟨a, b, c, d⟩ := h.vec l s g sz xs e
    exact ⟨a, b, c, d.imp id fun ⟨b', e', r⟩ => ⟨b', e', r.of rfl fun _ h => h⟩⟩, h.vm, h.gone, h.inj1, h.inj2, h.inj3⟩
theorem Rel.drew {G : Gh} {B N : Nat} {st : St} {a : Act} {w : World} (h : Rel G B N st a w) : Rel G B N st a w.drew :=
  ⟨h.mr.drew, h.size, h.slots, h.ds, h.base, h.top, h.ne⟩
theorem Ext.drew {k : Nat} (G : Gh) (w : World) : Ext k G w G w.drew :=
  ⟨rfl, rfl, rfl, Nat.le_refl _, fun _ _ _ h => h, fun _ _ _ => rfl, fun _ _ => Nat.le_refl _, fun _ _ _ => ⟨rfl, rfl, rfl⟩, fun _ _ _ => ⟨rfl, fun _ => rfl⟩, fun _ h => .inl h, fun _ _ _ h => .inl h⟩

def updO (f : Fr) (d : Option Nat) (x : AV) : Fr :=
  match d with
  | some d => upd f d x
  | none => f

theorem Act.put_size (a : Act) (d : Option Tmp) (v : Value) : (a.put d v).tmps.size = a.tmps.size := by
  cases d <;> simp [Act.put]
theorem Act.put_defers' (a : Act) (d : Option Tmp) (v : Value) : (a.put d v).defers = a.defers := by
  cases d <;> rfl

theorem slots_put {G : Gh} {f : Fr} {a : Act} (hs : ∀ i, Rep G (f i) (a.tmps.getD i undef)) {d : Option Nat} (hd : ∀ k, d = some k → k < a.tmps.size) {x : AV} {v : Value} (hx : Rep G x v) :
    ∀ i, Rep G (updO f d x i) ((a.put d v).tmps.getD i undef) := by
  intro i
  cases d with
  | none => exact hs i
  | some d =>
    have hlt := hd d rfl
    by_cases hi : i = d
    · subst hi
      simp only [updO, upd_same, Act.put, Array.getD_eq_getD_getElem?, Array.getElem?_setIfInBounds_self]
      simpa [hlt] using hx
    · simp only [updO, upd_ne _ _ hi, Act.put, Array.getD_eq_getD_getElem?]
      rw [Array.getElem?_setIfInBounds_ne (fun e => hi e.symm)]
      simpa [Array.getD_eq_getD_getElem?] using hs i

/-- A new value in a slot. -/
theorem Rel.put {G : Gh} {B N : Nat} {st : St} {a : Act} {w : World} (h : Rel G B N st a w) {d : Option Nat} (hd : ∀ k, d = some k → k < N) {x : AV} {v : Value} (hx : Rep G x v) :
    Rel G B N { st with f := updO st.f d x } (a.put d v) w :=
  ⟨h.mr, by rw [Act.put_size]; exact h.size, slots_put h.slots (by rw [h.size]; exact hd) hx, by rw [Act.put_defers']; exact h.ds, h.base, h.top, h.ne⟩

/-- The same frame, more known. -/
theorem Rel.slots_mono {G G' : Gh} {f : Fr} {a : Act} (hg : Gle G G') (hs : ∀ i, Rep G (f i) (a.tmps.getD i undef)) : ∀ i, Rep G' (f i) (a.tmps.getD i undef) := fun i => (hs i).mono hg

theorem look_put_same {m : Mem} {l s : Nat} {o : Ob} (h : l < m.length) : look (Am.put m l s o) l s = o := by
  induction m generalizing l with
  | nil => simp at h
  | cons fr m ih =>
    cases l with
    | zero => exact upd_same _ _ _
    | succ l => exact ih (by simpa using h)
theorem look_put_ne {m : Mem} {l s l' s' : Nat} {o : Ob} (h : l' ≠ l ∨ s' ≠ s) : look (Am.put m l s o) l' s' = look m l' s' := by
  induction m generalizing l l' with
  | nil => rfl
  | cons fr m ih =>
    cases l with
    | zero =>
      cases l' with
      | zero => exact upd_ne _ _ (by simpa using h)
      | succ l' => rfl
    | succ l =>
      cases l' with
      | zero => rfl
      | succ l' => exact ih (by simpa using h)
theorem look_lt {m : Mem} {l s : Nat} (h : look m l s ≠ .none) : l < m.length := by
  induction m generalizing l with
  | nil => exact absurd rfl h
  | cons fr m ih =>
    cases l with
    | zero => simp
    | succ l => have := ih (l := l) h; simp; omega
theorem put_ne {m : Mem} {l s : Nat} {o : Ob} (h : m ≠ []) : Am.put m l s o ≠ [] := by
  cases m with
  | nil => exact absurd rfl h
  | cons fr m => cases l <;> simp [Am.put]

end Go.Proofs.Ytcmdlmcmefbkeaa.Am
