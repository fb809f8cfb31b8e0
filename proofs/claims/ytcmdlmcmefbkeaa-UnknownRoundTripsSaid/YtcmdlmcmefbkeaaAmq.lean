/- Operations that may change places do; a region whose order is drawn comes to what it comes to in the order of its text. -/
import Derived.Test.YtcmdlmcmefbkeaaAmp
import Derived.Orders
namespace Go.Proofs.Ytcmdlmcmefbkeaa.Am
open Go

theorem Agree.symm {c : MC} {m m' : Mem} (h : Agree c m m') : Agree c m' m := by
  cases c with
  | no => trivial
  | shape => exact fun l s => (h l s).symm
  | rows => exact fun l s => (h l s).symm
  | cell l s => exact Eq.symm h
  | all => exact Eq.symm h

theorem astore_shape {m m' : Mem} {p : AV} {ys : List AV} (h : astore m p ys = some m') : Agree .shape m m' := by
  cases p with
  | ptr l s o =>
    simp only [astore] at h
    split at h
    · rename_i xs hlk
      split at h
      · split at h
        · cases h
          exact agree_cells (c := .shape) hlk rfl rfl (look_lt (by rw [hlk]; simp)) trivial
        · cases h
      · cases h
    · cases h
  | vptr l s g i o =>
    simp only [astore] at h
    split at h
    · rename_i g' sz xs hlk
      split at h
      · rename_i hg
        subst hg
        split at h
        · split at h
          · cases h
            intro l' s'
            by_cases hh : l' = l ∧ s' = s
            · obtain ⟨rfl, rfl⟩ := hh
              rw [look_put_same (look_lt (by rw [hlk]; simp)), hlk]
              rfl
            · rw [look_put_ne (by omega)]
          · cases h
        · cases h
      · cases h
    · cases h
  | _ => simp [astore] at h

section
variable {P : Program} {N : Nat}

theorem put_none {m : Mem} {s : Nat} {xs : List AV} (h : noOb m s = true) {c : MC} (hc : match c with
    | .cell l' s' => (l' != 0 || s' != s) = true
    | .all => False
    | _ => True) : Agree c m (Am.put m 0 s (.cells xs)) := by
  cases m with
  | nil => exact Agree.refl c _
  | cons fr m => exact agree_cells (noOb_look h) rfl rfl (by simp) hc

theorem mgood_lets {op : RO} {c : MC} (hc : op.lets c = true) {st : St} {x : AV} {m : Mem} (h : mgood P op st x m) : Agree c st.m m := by
  cases op with
  | val vo => rw [h.2]; exact Agree.refl c _
  | call f args => rw [h.2]; exact Agree.refl c _
  | usd r => rw [h.2]; exact Agree.refl c _
  | ustr el p r =>
    simp only [RO.lets, beq_iff_eq] at hc
    subst hc; trivial
  | store n p r =>
    simp only [RO.lets, Bool.or_eq_true, beq_iff_eq] at hc
    rcases hc with rfl | rfl
    · trivial
    · exact astore_shape h.2.2.1
  | storev l s n p r =>
    obtain ⟨⟨o, ho⟩, h1, h2, h3, h4⟩ := h
    rw [ho] at h3
    simp only [astore] at h3
    split at h3
    · rename_i xs hlk
      split at h3
      · split at h3
        · cases h3
          refine agree_cells hlk rfl rfl (look_lt (by rw [hlk]; simp)) ?_
          cases c <;> first | trivial | exact hc | cases hc
        · cases h3
      · cases h3
    · cases h3
  | allocN s z =>
    rw [h.2.2]
    refine put_none h.1 ?_
    cases c <;> first | trivial | exact hc | cases hc
  | boxN s r =>
    rw [h.2.2.2]
    refine put_none h.1 ?_
    cases c <;> first | trivial | exact hc | cases hc
  | app sz bytes el s r =>
    simp only [RO.lets, beq_iff_eq] at hc
    subst hc; trivial
  | callF f args =>
    simp only [RO.lets, beq_iff_eq] at hc
    subst hc; trivial
  | _ => exact h.elim

theorem sgood_lets {it : Item} {c : MC} (hc : it.op.lets c = true) {st : St} {x : AV} {m : Mem} (h : sgood P it st x m) : Agree c st.m m := by
  obtain ⟨d, op, g⟩ := it
  cases g with
  | none => exact mgood_lets hc h
  | some p =>
    obtain ⟨j, want⟩ := p
    simp only [sgood] at h
    cases he : st.f j with
    | bool b =>
      rw [he] at h
      rcases h with ⟨_, h⟩ | ⟨_, _, h⟩
      · exact mgood_lets hc h
      · rw [h]; exact Agree.refl c _
    | tup l => rw [he] at h; rw [h.2.2]; exact Agree.refl c _
    | _ => rw [he] at h; exact h.elim

/-- Neither writes what the other looks at. -/
def apart (a b : Item) : Bool :=
  (match a.dst with
   | some d => !(b.sl.contains d) && b.dst != some d
   | none => true) &&
  (match b.dst with
   | some d => !(a.sl.contains d)
   | none => true)

def indep (a b : Item) : Bool :=
  a.op.keeps && b.op.keeps && apart a b && ((a.op.pure && b.op.lets a.op.mc) || (b.op.pure && a.op.lets b.op.mc))

theorem updO_same {l : List Nat} {f : Fr} {d : Option Nat} {x : AV} (h : ∀ k, d = some k → k ∉ l) : Same l f (updO f d x) := by
  intro t ht
  cases d with
  | none => rfl
  | some k =>
    have : t ≠ k := fun e => h k rfl (e ▸ ht)
    show f t = upd f k x t
    rw [upd_ne _ _ this]

theorem updO_comm {f : Fr} {d e : Option Nat} {x y : AV} (h : ∀ k, d = some k → e ≠ some k) : updO (updO f d x) e y = updO (updO f e y) d x := by
  cases d with
  | none => rfl
  | some d =>
    cases e with
    | none => rfl
    | some e =>
      have hne : d ≠ e := fun hh => h d rfl (hh ▸ rfl)
      funext i
      show upd (upd f d x) e y i = upd (upd f e y) d x i
      by_cases h1 : i = e
      · subst h1
        rw [upd_same, upd_ne _ _ (Ne.symm hne), upd_same]
      · rw [upd_ne _ _ h1]
        by_cases h2 : i = d
        · subst h2; rw [upd_same, upd_same]
        · rw [upd_ne _ _ h2, upd_ne _ _ h2, upd_ne _ _ h1]

theorem apart_spec {a b : Item} (h : apart a b = true) : (∀ k, a.dst = some k → k ∉ b.sl) ∧ (∀ k, a.dst = some k → b.dst ≠ some k) ∧ (∀ k, b.dst = some k → k ∉ a.sl) := by
  unfold apart at h
  simp only [Bool.and_eq_true] at h
  refine ⟨fun k e => ?_, fun k e => ?_, fun k e => ?_⟩
  · have := h.1; rw [e] at this; simp at this; exact this.1
  · have := h.1; rw [e] at this; simp at this; exact this.2
  · have := h.2; rw [e] at this; simpa using this

theorem astep_comm {a b : Item} (h : indep a b = true) {st : St} {K : St → Prop} (k : astep P a st fun s => astep P b s K) : astep P b st fun s => astep P a s K := by
  unfold indep at h
  simp only [Bool.and_eq_true, Bool.or_eq_true] at h
  obtain ⟨⟨⟨ka, kb⟩, hap⟩, hor⟩ := h
  obtain ⟨h1, h2, h3⟩ := apart_spec hap
  rw [astep_good ka] at k
  obtain ⟨x, m, ga, k⟩ := k
  rw [astep_good kb] at k
  obtain ⟨y, m2, gb, k⟩ := k
  rw [astep_good kb]
  have hs1 : ∀ f : Fr, Same b.sl f (updO f a.dst x) := fun f => updO_same h1
  have hs3 : ∀ f : Fr, Same a.sl f (updO f b.dst y) := fun f => updO_same h3
  have hsym : ∀ {l f f'}, Same l f f' → Same l f' f := fun h t ht => (h t ht).symm
  have hK : K { st with m := m2, f := updO (updO st.f b.dst y) a.dst x } := by
    rw [← updO_comm h2]; exact k
  rcases hor with ⟨pa, lb⟩ | ⟨pb, la⟩
  · have e : m = st.m := (pure_smem (m' := st.m) (ds' := st.ds) pa (Agree.refl _ _) ga).1
    subst e
    have gb' : sgood P b st y m2 := sgood_same (hsym (hs1 st.f)) gb
    refine ⟨y, m2, gb', ?_⟩
    rw [astep_good ka]
    have ga' : sgood P a { st with m := m2 } x m2 := (pure_smem pa (sgood_lets lb gb') ga).2
    exact ⟨x, m2, sgood_same (hs3 st.f) ga', hK⟩
  · have hag := sgood_lets la ga
    obtain ⟨e, gb1⟩ := pure_smem (m' := st.m) (ds' := st.ds) pb hag.symm gb
    have e : m2 = m := e
    subst e
    have gb' : sgood P b st y st.m := sgood_same (hsym (hs1 st.f)) gb1
    refine ⟨y, st.m, gb', ?_⟩
    rw [astep_good ka]
    exact ⟨x, m2, sgood_same (hs3 st.f) ga, hK⟩

/-- One operation of a region. -/
theorem single_ok {ops : Array Oper} {o : Oper} {i : Nat} (hi : ops[i]? = some o) {it : Item} (hc : chkI P N ops o it = true) {st : St} {K : St → Prop} (h : astep P it st K) {G : Gh} {B : Nat} {a : Act} {w : World} (hr : Rel G B N st a w) {KK : Act → World → Prop} {QQ : Exit → Act → World → Prop}
    (hk : ∀ G' st' a' w', K st' → Rel G' B N st' a' w' → Ext 1 G w G' w' → KK a' w') : wpOp P ops QQ i KK a w := by
  have h1 : AOps P N [it] st K := astep_ok (astep_mono (fun _ hs => AOps.nil hs) h)
  have h2 := h1 ops [o] (by simp [chkIs, hc]) G B a w hr (fun e a w => match e with
    | .normal => KK a w
    | e => QQ e a w) (fun G' st' a' w' h1 h2 h3 => hk G' st' a' w' h1 h2 h3)
  unfold wpOp
  simp only [hi]
  unfold wpList at h2
  split
  · rename_i hw
    rw [if_pos hw] at h2
    rcases h2 with h2 | h2
    · left
      unfold Oper.wp at h2 ⊢
      generalize (execOp a.eval o).run P w = r at h2 ⊢
      cases r with
      | ok n w' =>
        cases n <;> simp only [Oper.upon] at h2 ⊢ <;> first
          | exact h2
          | exact Calls.mono h2 (fun e w'' he => by cases e <;> exact he)
      | halt x w' => cases x <;> simp only [Oper.upon] at h2 ⊢ <;> exact h2
    · exact .inr h2
  · rename_i hw
    rw [if_neg hw] at h2
    exact h2

def dflt : Item := ⟨none, .val (.mov (.c .top)), none⟩
def pickI (its : List Item) (l : List Nat) : List Item := l.map fun i => its.getD i dflt

theorem bubble {its : List Item} {i : Nat} {post : List Nat} {Q : St → Prop} : ∀ {pre : List Nat} {st : St}, (∀ p, p ∈ pre → indep (its.getD p dflt) (its.getD i dflt) = true) →
    aops P (pickI its (pre ++ i :: post)) st Q → astep P (its.getD i dflt) st fun s => aops P (pickI its (pre ++ post)) s Q
  | [], _, _, h => h
  | p :: pre, st, hp, h => by
    have h' : astep P (its.getD p dflt) st fun s => aops P (pickI its (pre ++ i :: post)) s Q := h
    have h2 := astep_mono (fun s hs => bubble (fun q hq => hp q (List.mem_cons_of_mem _ hq)) hs) h'
    exact astep_comm (hp p (List.mem_cons_self ..)) h2

/-- p comes before i, by a chain of edges. -/
inductive Bef (ops : Array Oper) : Nat → Nat → Prop
  | one {i : Nat} {o : Oper} {e : Edge} (ho : ops[i]? = some o) (he : e ∈ o.after) (hb : Region.binds .any e = true) : Bef ops e.on i
  | more {i p : Nat} {o : Oper} {e : Edge} (ho : ops[i]? = some o) (he : e ∈ o.after) (hb : Region.binds .any e = true) (h : Bef ops p e.on) : Bef ops p i

def maskE (acc : List Nat) (m : Nat) (e : Edge) : Nat := if Region.binds .any e then (m ||| 2 ^ e.on) ||| acc.getD e.on 0 else m
def maskOf (acc : List Nat) (o : Oper) : Nat := o.after.toList.foldl (maskE acc) 0
/-- For each operation: those that come before it, as bits. -/
def masks : List Oper → List Nat → List Nat
  | [], acc => acc
  | o :: os, acc => masks os (acc ++ [maskOf acc o])

theorem maskE_fold {acc : List Nat} {p : Nat} : ∀ (l : List Edge) (m : Nat), (l.foldl (maskE acc) m).testBit p = true → m.testBit p = true ∨ ∃ e ∈ l, Region.binds .any e = true ∧ (p = e.on ∨ (acc.getD e.on 0).testBit p = true)
  | [], m, h => .inl h
  | e :: l, m, h => by
    rw [List.foldl_cons] at h
    rcases maskE_fold l _ h with h1 | ⟨e', h1, h2, h3⟩
    · unfold maskE at h1
      split at h1
      · rename_i hb
        rw [Nat.testBit_or, Nat.testBit_or, Bool.or_eq_true, Bool.or_eq_true] at h1
        rcases h1 with (h1 | h1) | h1
        · exact .inl h1
        · rw [Nat.testBit_two_pow] at h1
          exact .inr ⟨e, List.mem_cons_self .., hb, .inl (of_decide_eq_true h1).symm⟩
        · exact .inr ⟨e, List.mem_cons_self .., hb, .inr h1⟩
      · exact .inl h1
    · exact .inr ⟨e', List.mem_cons_of_mem _ h1, h2, h3⟩

theorem masks_ok {ops : Array Oper} : ∀ (l : List Oper) (acc : List Nat), ops.toList = ops.toList.take acc.length ++ l → acc.length + l.length = ops.size → (∀ i p, (acc.getD i 0).testBit p = true → Bef ops p i) → ∀ i p, ((masks l acc).getD i 0).testBit p = true → Bef ops p i
  | [], acc, _, _, h => h
  | o :: l, acc, e, hn, h => by
    have hlen : acc.length < ops.toList.length := by simp at hn ⊢; omega
    have hat : ops[acc.length]? = some o := by
      rw [← Array.getElem?_toList, e, List.getElem?_append_right (by simp; omega)]
      simp
      have : acc.length - min acc.length ops.size = 0 := by simp at hlen; omega
      rw [this]; rfl
    refine masks_ok l (acc ++ [maskOf acc o]) ?_ (by simp at hn ⊢; omega) fun i p hb => ?_
    · rw [List.length_append, List.length_singleton, List.take_succ_eq_append_getElem hlen, List.append_assoc]
      have : ops.toList[acc.length] = o := by
        have := List.getElem?_eq_getElem hlen
        rw [Array.getElem?_toList, hat] at this
        cases this; rfl
      rw [this]
      exact e
    · rw [List.getD_eq_getElem?_getD] at hb
      by_cases hi : i < acc.length
      · rw [List.getElem?_append_left hi, ← List.getD_eq_getElem?_getD] at hb
        exact h i p hb
      · by_cases hi2 : i = acc.length
        · subst hi2
          rw [List.getElem?_append_right (Nat.le_refl _)] at hb
          simp only [Nat.sub_self, List.getElem?_cons_zero, Option.getD_some] at hb
          rcases maskE_fold _ _ hb with h1 | ⟨e', h1, h2, h3⟩
          · simp at h1
          · rcases h3 with rfl | h3
            · exact .one hat (by simpa using h1) h2
            · exact .more hat (by simpa using h1) h2 (h _ _ h3)
        · rw [List.getElem?_eq_none (by simp; omega)] at hb
          simp at hb

/-- Whatever no chain of edges orders may change places. -/
def chkDraw (ops : Array Oper) (its : List Item) : Bool :=
  (List.range ops.size).all fun i => match ops[i]? with
    | some o => o.after.all (fun e => !Region.binds .any e || decide (e.on < i)) && (List.range i).all fun p => ((masks ops.toList []).getD i 0).testBit p || indep (its.getD p dflt) (its.getD i dflt)
    | none => true

/-- What is before an operation all of whose edges' ends are listed is listed. -/
theorem Bef.listed {ops : Array Oper} {L : Nat → Prop} (hcl : ∀ q, L q → ∀ o e, ops[q]? = some o → e ∈ o.after → Region.binds .any e = true → L e.on) {p i : Nat} (h : Bef ops p i) (hi : ∀ o e, ops[i]? = some o → e ∈ o.after → Region.binds .any e = true → L e.on) : L p := by
  induction h with
  | one ho he hb => exact hi _ _ ho he hb
  | more ho he hb _ ih => exact ih (hcl _ (hi _ _ ho he hb))

def unl (n : Nat) (listed : Array Bool) : List Nat := (List.range n).filter fun i => !listed.getD i true

theorem chkIs_at {ops : Array Oper} : ∀ {l : List Oper} {its : List Item}, chkIs P N ops l its = true → l.length = its.length ∧ ∀ (i : Nat) (o : Oper), l[i]? = some o → chkI P N ops o (its.getD i dflt) = true
  | [], its, h => by
    cases its with
    | nil => exact ⟨rfl, by simp⟩
    | cons it its => simp [chkIs] at h
  | o :: l, its, h => by
    cases its with
    | nil => simp [chkIs] at h
    | cons it its =>
      simp only [chkIs, Bool.and_eq_true] at h
      obtain ⟨e, h2⟩ := chkIs_at h.2
      refine ⟨by simp [e], fun i o' ho => ?_⟩
      cases i with
      | zero => simp at ho; subst ho; exact h.1
      | succ i => simpa using h2 i o' (by simpa using ho)

theorem draw_any {ops : Array Oper} {its : List Item} (hc : chkIs P N ops ops.toList its = true) (hd : chkDraw ops its = true) {B : Nat} {Q : St → Prop} {QQ : Exit → Act → World → Prop} :
    ∀ (fuel : Nat) (listed : Array Bool), listed.size = ops.size → (∀ q, listed.getD q false = true → ∀ o e, ops[q]? = some o → e ∈ o.after → Region.binds .any e = true → listed.getD e.on false = true) → (unl ops.size listed).length ≤ fuel → ∀ (st : St) (G : Gh) (a : Act) (w : World), aops P (pickI its (unl ops.size listed)) st Q → Rel G B N st a w →
      (∀ G' st' a' w', Q st' → Rel G' B N st' a' w' → Ext 1 G w G' w' → QQ .normal a' w') → wpAny P .any ops QQ fuel listed a w := by
  obtain ⟨hlen, hcs⟩ := chkIs_at hc
  have hready : ∀ (listed : Array Bool) i, i ∈ Region.ready .any ops listed → i ∈ unl ops.size listed := by
    intro listed i hi
    obtain ⟨h0, o, ho, _⟩ := mem_ready.1 hi
    exact List.mem_filter.2 ⟨List.mem_range.2 (Array.getElem?_eq_some_iff.1 ho).1, by simp [h0]⟩
  have hat : ∀ i, i < ops.size → ∃ o, ops[i]? = some o ∧ (∀ e ∈ o.after, Region.binds .any e = true → e.on < i) ∧ ∀ p, p < i → Bef ops p i ∨ indep (its.getD p dflt) (its.getD i dflt) = true := by
    intro i hi
    refine ⟨ops[i], Array.getElem?_eq_getElem hi, ?_⟩
    have h1 := List.all_eq_true.1 hd i (List.mem_range.2 hi)
    rw [Array.getElem?_eq_getElem hi] at h1
    simp only [Bool.and_eq_true] at h1
    refine ⟨fun e he hb => ?_, fun p hp => ?_⟩
    · have h2 := Array.all_eq_true_iff_forall_mem.1 h1.1 e he
      simpa [hb] using h2
    · have h2 := List.all_eq_true.1 h1.2 p (List.mem_range.2 hp)
      rw [Bool.or_eq_true] at h2
      rcases h2 with h2 | h2
      · exact .inl (masks_ok ops.toList [] (by simp) (by simp) (fun i p hb => by simp at hb) i p h2)
      · exact .inr h2
  -- the first that is left is ready
  have hfirst : ∀ (listed : Array Bool), listed.size = ops.size → Region.ready .any ops listed = [] → unl ops.size listed = [] := by
    intro listed hsz hr
    cases hu : unl ops.size listed with
    | nil => rfl
    | cons i rest =>
      exfalso
      have hpw : (unl ops.size listed).Pairwise (· < ·) := List.Pairwise.filter _ List.pairwise_lt_range
      have hi : i ∈ unl ops.size listed := by rw [hu]; exact List.mem_cons_self ..
      obtain ⟨hi1, hi2⟩ := List.mem_filter.1 hi
      obtain ⟨o, ho, h1, _⟩ := hat i (List.mem_range.1 hi1)
      have : i ∈ Region.ready .any ops listed := by
        refine mem_ready.2 ⟨by simpa using hi2, o, ho, fun e he hb => ?_⟩
        have hlt := h1 e he hb
        cases hg : listed.getD e.on false with
        | true => rfl
        | false =>
          have hin : e.on ∈ unl ops.size listed := by
            refine List.mem_filter.2 ⟨List.mem_range.2 (Nat.lt_trans hlt (List.mem_range.1 hi1)), ?_⟩
            have hlt' : e.on < listed.size := by rw [hsz]; exact Nat.lt_trans hlt (List.mem_range.1 hi1)
            simp [Array.getElem?_eq_getElem hlt'] at hg ⊢
            exact hg
          rw [hu] at hin hpw
          rcases List.mem_cons.1 hin with e' | e'
          · omega
          · have := (List.pairwise_cons.1 hpw).1 _ e'
            omega
      rw [hr] at this
      cases this
  intro fuel
  induction fuel with
  | zero =>
    intro listed hsz hcl hl st G a w h hr hq
    have hu : unl ops.size listed = [] := List.eq_nil_of_length_eq_zero (by omega)
    refine ⟨?_, ?_⟩
    · cases hx : Region.ready .any ops listed with
      | nil => rfl
      | cons i r =>
        have := hready listed i (by rw [hx]; exact List.mem_cons_self ..)
        rw [hu] at this
        cases this
    · rw [hu] at h
      exact hq G st a w h hr (Ext.refl 1 G w)
  | succ fuel ih =>
    intro listed hsz hcl hl st G a w h hr hq
    refine ⟨fun hx => ?_, fun i hi => ?_⟩
    · rw [hfirst listed hsz hx] at h
      exact hq G st a w h hr (Ext.refl 1 G w)
    · have hiu := hready listed i hi
      obtain ⟨pre, post, hsplit⟩ := List.append_of_mem hiu
      have hpw : (unl ops.size listed).Pairwise (· < ·) := List.Pairwise.filter _ List.pairwise_lt_range
      rw [hsplit] at h hpw
      obtain ⟨_, hp2, hp3⟩ := List.pairwise_append.1 hpw
      obtain ⟨hi1, hi2⟩ := List.mem_filter.1 hiu
      obtain ⟨o, ho, h1, h2⟩ := hat i (List.mem_range.1 hi1)
      obtain ⟨_, o', ho', h3⟩ := mem_ready.1 hi
      rw [ho] at ho'
      cases ho'
      have hind : ∀ p, p ∈ pre → indep (its.getD p dflt) (its.getD i dflt) = true := by
        intro p hp
        rcases h2 p (hp3 p hp i (List.mem_cons_self ..)) with hbef | h
        · exfalso
          have hl1 := hbef.listed (L := fun q => listed.getD q false = true) hcl (fun o2 e ho2 he hb => by rw [ho] at ho2; cases ho2; exact h3 e he hb)
          have hpu : p ∈ unl ops.size listed := by rw [hsplit]; exact List.mem_append_left _ hp
          obtain ⟨hr1, hr2⟩ := List.mem_filter.1 hpu
          have hlt' : p < listed.size := by rw [hsz]; exact List.mem_range.1 hr1
          simp [Array.getElem?_eq_getElem hlt'] at hl1 hr2
          rw [hl1] at hr2
          cases hr2
        · exact h
      have hb := bubble (P := P) hind h
      have hnext : unl ops.size (listed.setIfInBounds i true) = pre ++ post := by
        have e1 : unl ops.size (listed.setIfInBounds i true) = (unl ops.size listed).filter fun j => j != i := by
          unfold unl
          rw [List.filter_filter]
          refine List.filter_congr fun j hj => ?_
          by_cases hji : j = i
          · subst hji
            have hlt' : j < listed.size := by rw [hsz]; exact List.mem_range.1 hj
            simp [hlt']
          · rw [getD_set_ne true (fun e => hji e.symm)]
            simp [hji]
        rw [e1, hsplit, List.filter_append, List.filter_cons]
        have e2 : pre.filter (fun j => j != i) = pre := List.filter_eq_self.2 fun j hj => by
          have := hp3 j hj i (List.mem_cons_self ..)
          simp; omega
        have e3 : post.filter (fun j => j != i) = post := List.filter_eq_self.2 fun j hj => by
          have := (List.pairwise_cons.1 hp2).1 j hj
          simp; omega
        rw [e2, e3]
        simp
      have hset : ∀ q, listed.getD q false = true → (listed.setIfInBounds i true).getD q false = true := fun q hq' => by
        by_cases hqi : q = i
        · subst hqi
          have hlt' : q < listed.size := by rw [hsz]; exact List.mem_range.1 hi1
          simp [hlt']
        · rw [getD_set_ne false (fun e => hqi e.symm)]; exact hq'
      have hcl' : ∀ q, (listed.setIfInBounds i true).getD q false = true → ∀ o e, ops[q]? = some o → e ∈ o.after → Region.binds .any e = true → (listed.setIfInBounds i true).getD e.on false = true := fun q hq' o2 e ho2 he2 hb2 => by
        by_cases hqi : q = i
        · subst hqi
          rw [ho] at ho2; cases ho2
          exact hset _ (h3 e he2 hb2)
        · rw [getD_set_ne false (fun e => hqi e.symm)] at hq'
          exact hset _ (hcl q hq' o2 e ho2 he2 hb2)
      refine single_ok ho (hcs i o (by simpa using ho)) hb hr fun G' st' a' w' hk hr' he => ?_
      refine ih (listed.setIfInBounds i true) (by simpa using hsz) hcl' ?_ st' G' a' w' (by rw [hnext]; exact hk) hr' fun G2 st2 a2 w2 hq2 hr2 he2 => hq G2 st2 a2 w2 hq2 hr2 (he.trans he2)
      rw [hnext]
      rw [hsplit] at hl
      simp only [List.length_append, List.length_cons] at hl ⊢
      omega

theorem pickI_all {its : List Item} : pickI its (List.range its.length) = its := by
  apply List.ext_getElem
  · simp [pickI]
  · intro i h1 h2
    simp [pickI, h2]

theorem draw_ok {ops : Array Oper} {its : List Item} (hm : P.follows .mixedOrders = true) (hc : chkIs P N ops ops.toList its = true) (hd : chkDraw ops its = true) {st : St} {Q : St → Prop} (h : aops P its st Q) {G : Gh} {B : Nat} {a : Act} {w : World} (hr : Rel G B N st a w) {QQ : Exit → Act → World → Prop} {id : Nat}
    (hq : ∀ G' st' a' w', Q st' → Rel G' B N st' a' w' → Ext 1 G w G' w' → QQ .normal a' w') : (Code.region id ops true).wp P QQ a w := by
  refine wp_region_any hm ?_
  have hlen := (chkIs_at hc).1
  simp only [Array.length_toList] at hlen
  have hu : unl ops.size (Array.replicate ops.size false) = List.range its.length := by
    unfold unl
    rw [hlen]
    refine List.filter_eq_self.2 fun i hi => ?_
    simp [List.mem_range.1 hi]
  refine draw_any hc hd ops.size (Array.replicate ops.size false) (by simp) (fun q hq' => by rw [Array.getD_eq_getD_getElem?] at hq'; simp [Array.getElem?_replicate] at hq'; split at hq' <;> cases hq') (by rw [hu]; simp [hlen]) st G a _ (by rw [hu, pickI_all]; exact h) hr.drew fun G' st' a' w' h1 h2 h3 => hq G' st' a' w' h1 h2 ((Ext.drew G w).trans h3)

end

end Go.Proofs.Ytcmdlmcmefbkeaa.Am
