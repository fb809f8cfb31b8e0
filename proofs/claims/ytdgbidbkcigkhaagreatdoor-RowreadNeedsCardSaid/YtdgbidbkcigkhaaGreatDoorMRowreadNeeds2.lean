/- Parts of the proof, in order. -/
import Derived.Test.YtdgbidbkcigkhaaGreatDoorProg
import Derived.WalkKit
import Derived.Lib.SmallJoins
import Derived.Deep.Slices
import Derived.DataShut
import Derived.Test.YtdgbidbkcigkhaaGreatDoorRows
import Derived.Lib.IndexLaws
import Derived.Test.YtdgbidbkcigkhaaGreatDoorMRowreadNeeds1

namespace Go.Proofs.YtdgbidbkcigkhaaGreatDoor.Am
open Go

abbrev Tab := FuncId → Option (RC × List RR × Nat)

def TabOk (P : Program) (T : Tab) : Prop :=
  ∀ k c rs N, T k = some (c, rs, N) → ∃ fn body, P.funcs[k]? = some fn ∧ fn.body = some body ∧ (fn.name == "runtime.NumGoroutine") = false ∧ fn.ntmps = N ∧ chkC P N c body = true ∧ chkR P fn.results.toList rs = true

abbrev Cal := FuncId → List AV → Mem → Option (AV × Mem)

def sameOb : Ob → Ob → Bool
  | .cells [.vec l s g o n q], .cells [.vec l' s' g' o' n' q'] => Nat.beq l l' && Nat.beq s s' && Nat.beq g g' && Nat.beq o o' && Nat.beq n n' && q == q'
  | _, _ => false
theorem sameOb_ok : ∀ {a b : Ob}, sameOb a b = true → a = b := by
  intro a b h
  unfold sameOb at h
  split at h
  · simp only [Bool.and_eq_true, beq_iff_eq] at h
    obtain ⟨⟨⟨⟨⟨h1, h2⟩, h3⟩, h4⟩, h5⟩, h6⟩ := h
    rw [Nat.eq_of_beq_eq_true h1, Nat.eq_of_beq_eq_true h2, Nat.eq_of_beq_eq_true h3, Nat.eq_of_beq_eq_true h4, Nat.eq_of_beq_eq_true h5, h6]
  · cases h

def evop (call : Cal) (d : Option Nat) (op : RO) (st : St) : Option St :=
  match op with
  | .val vo => match vop st.f st.m vo with
    | some x => some { st with f := updO st.f d x }
    | none => none
  | .allocN s z => bif noOb st.m s then some { st with m := Am.put st.m 0 s (.cells z), f := updO st.f d (.ptr 0 s 0) } else none
  | .boxN s r => bif noOb st.m s && (r.ev st.f).cells.all AV.leaf then some { st with m := Am.put st.m 0 s (.cells (r.ev st.f).cells), f := updO st.f d (.ptr 0 s 0) } else none
  | .store n p r => bif Nat.beq (r.ev st.f).cells.length n && (r.ev st.f).cells.all AV.leaf then match astore st.m (p.ev st.f) (r.ev st.f).cells with
      | some m' => some { st with m := m', f := updO st.f d (.tup []) }
      | none => none
    else none
  | .storev l s n p r => match p.ev st.f with
    | .ptr l' s' _ => bif Nat.beq l' l && Nat.beq s' s && Nat.beq (r.ev st.f).cells.length n && (r.ev st.f).cells.all AV.leaf then match astore st.m (p.ev st.f) (r.ev st.f).cells with
        | some m' => some { st with m := m', f := updO st.f d (.tup []) }
        | none => none
      else none
    | _ => none
  | .app sz bytes el s r => match s.ev st.f with
    | .vec l site g 0 n false => match look st.m l site with
      | .vec g' sz' xs => match elemsOf st.m (r.ev st.f) with
        | some ys => bif Nat.beq g' g && Nat.beq sz' sz && tyOk site el && Nat.ble n xs.length && ys.all (fun e => e.cells.length == sz) && Nat.ble (n + ys.length) maxLen && Nat.ble ((n + ys.length) * bytes) 140737488355328 then
            some { st with m := Am.put st.m l site (.vec (g + 1) sz (xs.take n ++ ys)), f := updO st.f d (.vec l site (g + 1) 0 (n + ys.length) false) }
          else none
        | none => none
      | _ => none
    | _ => none
  | .appl sz bytes el s r => match s.ev st.f with
    | .vec l site g 0 n false => match look st.m 0 site with
      | .vec g' sz' xs => match elemsOf st.m (r.ev st.f) with
        | some ys => bif Nat.beq l 0 && Nat.beq g' g && Nat.beq sz' sz && tyOk site el && Nat.ble n xs.length && ys.all (fun e => e.cells.length == sz) && Nat.ble (n + ys.length) maxLen && Nat.ble ((n + ys.length) * bytes) 140737488355328 then
            some { st with m := Am.put st.m 0 site (.vec (g + 1 + 1) sz []), f := updO st.f d (.list (xs.take n ++ ys)) }
          else none
        | none => none
      | _ => none
    | _ => none
  | .call f args => match f.ev st.f with
    | .fn (.func k) fa fb => match AV.stillL false st.m (fa ++ args.map (RA.ev st.f) ++ fb) with
      | some ys => bif AV.rfL ys then match call k ys [] with
          | some (v, _) => bif v.rf && (AV.rfL (fa ++ args.map (RA.ev st.f) ++ fb) || v.nl) then some { st with f := updO st.f d v } else none
          | none => none
        else none
      | none => none
    | _ => none
  | .callF f args => match f.ev st.f with
    | .fn (.func k) fa fb => match call k (fa ++ args.map (RA.ev st.f) ++ fb) st.m with
      | some (v, m') => some { st with m := m', f := updO st.f d v }
      | none => none
    | _ => none
  | .callG f args => match f.ev st.f with
    | .fn (.func k) fa fb => match call k (fa ++ args.map (RA.ev st.f) ++ fb) st.m with
      | some (v, m') => some { st with m := m', f := updO st.f d v }
      | none => none
    | _ => none
  | .bsl sz len z ps => match fill st.f ps (zeros z sz len) with
    | some y => bif AV.rfL y && y.all AV.leaf then some { st with f := updO st.f d (.list (chunk sz len (y.map nn0))) } else none
    | none => none
  | .bslv site sz len z ps => match fill st.f ps (zeros z sz len) with
    | some y => bif AV.rfL y && y.all AV.leaf && rowOrNone (look st.m 0 site) then some { st with m := Am.put st.m 0 site (.vec (newGen st.m 0 site) sz (chunk sz len (y.map nn0))), f := updO st.f d (.vec 0 site (newGen st.m 0 site) 0 len false) } else none
    | none => none
  | .lit0 _ => some { st with f := updO st.f d (.lcap []) }
  | .clr .. => none
  | .appe sz bytes _ s r => match s.ev st.f, r.ev st.f with
    | .lcap xs, .list ys => bif xs.all (fun e => e.cells.length == sz) && ys.all (fun e => e.cells.length == sz) && Nat.ble (xs.length + ys.length) maxLen && Nat.ble ((xs.length + ys.length) * bytes) 140737488355328 then some { st with f := updO st.f d (.list (xs ++ ys)) } else none
    | _, _ => none
  | .bsl0 site sz => bif rowOrNone (look st.m 0 site) then some { st with m := Am.put st.m 0 site (.vec (newGen st.m 0 site) sz []), f := updO st.f d (.vec 0 site (newGen st.m 0 site) 0 0 false) } else none
  | .appc site sz bytes _ s r => match s.ev st.f with
    | .lcap xs => match elemsOf st.m (r.ev st.f) with
      | some (y :: ys) => bif xs.all (fun e => e.cells.length == sz) && (y :: ys).all (fun e => e.cells.length == sz) && Nat.ble (xs.length + (y :: ys).length) maxLen && Nat.ble ((xs.length + (y :: ys).length) * bytes) 140737488355328 && rowOrNone (look st.m 0 site) then
          some { st with m := Am.put st.m 0 site (.vec (newGen st.m 0 site) sz (xs ++ y :: ys)), f := updO st.f d (.vec 0 site (newGen st.m 0 site) 0 (xs.length + (y :: ys).length) false) }
        else none
      | _ => none
    | _ => none
  | .isnil neg r => match r.ev st.f with
    | .nils => some { st with f := updO st.f d (.bool (!neg)) }
    | .list l => match flat l with
      | _ :: _ => some { st with f := updO st.f d (.bool neg) }
      | [] => none
    | _ => none
  | .callK l s f args => match f.ev st.f with
    | .fn (.func k) fa fb => match call k (fa ++ args.map (RA.ev st.f) ++ fb) st.m with
      | some (v, m') => bif sameOb (look m' l s) (look st.m l s) then some { st with m := m', f := updO st.f d v } else none
      | none => none
    | _ => none
  | .xb cnt _ s c => match s.ev st.f, c.ev st.f with
    | .str t, .int .u8 b => some { st with f := updO st.f d (.int .i64 (xbv cnt t b)) }
    | _, _ => none
  | .callR f args => match f.ev st.f with
    | .fn (.func k) fa fb => match AV.stillL false st.m (fa ++ args.map (RA.ev st.f) ++ fb) with
      | some ys => bif AV.rfL ys then match call k ys [] with
          | some (v, _) => bif v.rf && (AV.rfL (fa ++ args.map (RA.ev st.f) ++ fb) || v.nl) then some { st with f := updO st.f d v } else none
          | none => none
        else none
      | none => none
    | _ => none
  | .rngs s r => match r.ev st.f with
    | .str t => bif noOb st.m s then some { st with m := Am.put st.m 0 s (.iter (.str t) 0), f := updO st.f d (.ptr 0 s 0) } else none
    | _ => none
  | .nxts r => match r.ev st.f with
    | .ptr l s 0 => match look st.m l s with
      | .iter (.str t) p => bif Nat.blt p t.length then some { st with m := Am.put st.m l s (.iter (.str t) (p + (udec t p).2)), f := updO st.f d (.tup [.bool true, .int .i64 (p : Nat), .int .i32 ((udec t p).1 : Nat)]) } else some { st with f := updO st.f d (.tup [.bool false]) }
      | _ => none
    | _ => none
  | .mkm s => bif noOb st.m s then some { st with m := Am.put st.m 0 s (.iter (.mp [] []) 0), f := updO st.f d (.mptr 0 s) } else none
  | .mput tx x i v => match x.ev st.f with
    | .mptr l s => match look st.m l s with
      | .iter (.mp ks vs) p => match keyOf tx (i.ev st.f) with
        | some k => bif keys tx ks && ((v.ev st.f).gr && AV.grL vs && Nat.beq ks.length vs.length) then some { st with m := Am.put st.m l s (.iter (.mp (mpput k (v.ev st.f) ks vs).1 (mpput k (v.ev st.f) ks vs).2) p), f := updO st.f d (.tup []) } else none
        | _ => none
      | _ => none
    | _ => none
  | .slc0 site sz r => match elemsOf st.m (r.ev st.f) with
    | some _ => bif rowOrNone (look st.m 0 site) then some { st with m := Am.put st.m 0 site (.vec (newGen st.m 0 site) sz []), f := updO st.f d (.vec 0 site (newGen st.m 0 site) 0 0 false) } else none
    | none => none
  | .appS el s r => match s.ev st.f, r.ev st.f with
    | .vec l site g 0 n false, .str t => match look st.m l site with
      | .vec g' 1 xs => bif Nat.beq g' g && tyOk site el && Nat.ble n xs.length && Nat.ble (n + t.length) 140737488355328 then
          some { st with m := Am.put st.m l site (.vec (g + 1) 1 (xs.take n ++ bytesAV t)), f := updO st.f d (.vec l site (g + 1) 0 (n + t.length) false) }
        else none
      | _ => none
    | _, _ => none
  | .mk site _ sz bytes z l c => match l.ev st.f, c.ev st.f with
    | .int _ (.ofNat n), .int _ (.ofNat k) => bif Nat.ble n k && Nat.ble k 9223372036854775807 && Nat.ble (bytes * k) 281474976710656 && rowOrNone (look st.m 0 site) then
        some { st with m := Am.put st.m 0 site (.vec (newGen st.m 0 site) sz (List.replicate n (zeroE sz z))), f := updO st.f d (.vec 0 site (newGen st.m 0 site) 0 n false) }
      else none
    | _, _ => none
  | .s2b site _ r => match r.ev st.f with
    | .str s => bif Nat.ble s.length 9223372036854775807 && rowOrNone (look st.m 0 site) then
        some { st with m := Am.put st.m 0 site (.vec (newGen st.m 0 site) 1 (bytesAV s)), f := updO st.f d (.vec 0 site (newGen st.m 0 site) 0 s.length false) }
      else none
    | _ => none
  | .usd r => match r.ev st.f with
    | .vec l s g 0 n false => match look st.m l s with
      | .vec g' _ _ => bif Nat.beq g' g && Nat.ble 2000 s then some { st with f := updO st.f d (if n = 0 then .anyp else .vptr l s g 0 0) } else none
      | _ => none
    | _ => none
  | .ustr el p r => match p.ev st.f, r.ev st.f with
    | .anyp, .int .i64 (.ofNat 0) => some { st with f := updO st.f d (.str []) }
    | .vptr l s g 0 0, .int .i64 (.ofNat (n + 1)) => match look st.m l s with
      | .vec g' 1 xs => match bytesOf (xs.take (n + 1)) with
        | some t => bif Nat.beq s (el + 2000) && Nat.beq g' g && Nat.ble (n + 1) xs.length && isBytes (xs.take (n + 1)) t then some { st with m := Am.put st.m l (el + 2000) (.vec (g + 1) 1 []), f := updO st.f d (.str t) } else none
        | none => none
      | _ => none
    | _, _ => none
  | .dfr _ _ => none
where
    isBytes : List AV → List UInt8 → Bool
    | [], [] => true
    | .int .u8 (.ofNat n) :: l, b :: t => Nat.beq n b.toNat && isBytes l t
    | _, _ => false

def evstep (call : Cal) (it : Item) (st : St) : Option St :=
  match it.g with
  | none => evop call it.dst it.op st
  | some (j, want) => match st.f j with
    | .bool b => bif b == want then evop call it.dst it.op st else some { st with f := updO st.f it.dst (.tup []) }
    | .tup [] => some { st with f := updO st.f it.dst (.tup []) }
    | _ => none

def evops (call : Cal) : List Item → St → Option St
  | [], st => some st
  | it :: its, st => match evstep call it st with
    | some st' => evops call its st'
    | none => none

def evend (rs : List RR) (n : Nat) (r : Option (Exit × St)) : Option (AV × Mem) :=
  match r with
  | some (.normal, st) => fin st
  | some (.ret, st) => fin st
  | _ => none
where
  fin (st : St) : Option (AV × Mem) := match st.ds with
    | [] => match resV st rs with
      | some x => match leave st.m x with
        | some y => match st.m with
          | _ :: m => bif Nat.beq m.length n then some (y, m) else none
          | [] => none
        | none => none
      | none => none
    | _ => none

def evcall (nat : Cal) (T : Tab) (body : RC → St → Option (Exit × St)) : Cal := fun k args m =>
  match nat k args m with
  | some r => some r
  | none => match T k with
    | some (c, rs, N) => bif Nat.ble args.length N then evend rs m.length (body c (St.enter args m)) else none
    | none => none

def evC (nat : Cal) (T : Tab) : Nat → RC → St → Option (Exit × St)
  | 0, _, _ => none
  | n + 1, c, st => match c with
    | .skip => some (.normal, st)
    | .reg its => match evops (evcall nat T (evC nat T n)) its st with
      | some st' => some (.normal, st')
      | none => none
    | .draw its => match evops (evcall nat T (evC nat T n)) its st with
      | some st' => some (.normal, st')
      | none => none
    | .seq a b => match evC nat T n a st with
      | some (.normal, st') => evC nat T n b st'
      | r => r
    | .cond c a b => match c.ev st.f with
      | .bool t => bif t then evC nat T n a st else evC nat T n b st
      | _ => none
    | .block id a => match evC nat T n a st with
      | some (.exit i, st') => if i = id then some (.normal, st') else some (.exit i, st')
      | r => r
    | .loop a => match evC nat T n a st with
      | some (.normal, st') => evC nat T n (.loop a) st'
      | r => r
    | .exit id => some (.exit id, st)
    | .scope a => match evC nat T n a st with
      | some (.goto _, _) => none
      | r => r
    | .lab => some (.normal, st)
    | .ret => some (.ret, st)
    | .gho g a => match gstep g st with
      | some st' => evC nat T n a st'
      | none => none
    | .no => none
    | .goto l => some (.goto l, st)
    | .jump l a b => match evC nat T n a st with
      | some (.goto i, st') => if i = l then evC nat T n (.jump l b b) st' else none
      | r => r

section
variable {P : Program} {T : Tab}

def CalOk (P : Program) (call : Cal) : Prop := ∀ k args m v m', call k args m = some (v, m') → ACalls P k args m fun x m1 => x = v ∧ m1 = m'

theorem isBytes_ok : ∀ {l : List AV} {t : List UInt8}, evop.isBytes l t = true → l = bytesAV t
  | [], [], _ => rfl
  | [], _ :: _, h => by simp [evop.isBytes] at h
  | .int .u8 (.ofNat n) :: l, b :: t, h => by
    simp only [evop.isBytes, Bool.and_eq_true] at h
    rw [isBytes_ok h.2, Nat.eq_of_beq_eq_true h.1]
    rfl
  | x :: l, [], h => by
    unfold evop.isBytes at h
    split at h <;> simp_all

theorem evop_ok {call : Cal} (hc : CalOk P call) {d : Option Nat} {op : RO} {st st' : St} (h : evop call d op st = some st') {K : St → Prop} (hK : K st') : aop P d op st K := by
  cases op with
  | val vo =>
    simp only [evop] at h
    split at h
    · rename_i x hx; cases h; exact ⟨x, hx, hK⟩
    · cases h
  | allocN s z =>
    simp only [evop] at h
    cases h1 : noOb st.m s <;> rw [h1] at h <;> simp only [cond_true, cond_false, reduceCtorEq, Option.some.injEq] at h
    subst h; exact ⟨h1, hK⟩
  | boxN s r =>
    simp only [evop] at h
    cases h1 : (noOb st.m s && (r.ev st.f).cells.all AV.leaf) <;> rw [h1] at h <;> simp only [cond_true, cond_false, reduceCtorEq, Option.some.injEq] at h
    rw [Bool.and_eq_true] at h1
    subst h; exact ⟨h1.1, h1.2, hK⟩
  | store n p r =>
    simp only [evop] at h
    cases h1 : (Nat.beq (r.ev st.f).cells.length n && (r.ev st.f).cells.all AV.leaf) <;> rw [h1] at h <;> simp only [cond_true, cond_false, reduceCtorEq] at h
    rw [Bool.and_eq_true] at h1
    split at h
    · rename_i m' hm; cases h; exact ⟨Nat.eq_of_beq_eq_true h1.1, h1.2, m', hm, hK⟩
    · cases h
  | storev l s n p r =>
    simp only [evop] at h
    split at h
    · rename_i l' s' o hp
      cases h1 : (Nat.beq l' l && Nat.beq s' s && Nat.beq (r.ev st.f).cells.length n && (r.ev st.f).cells.all AV.leaf) <;> rw [h1] at h <;> simp only [cond_true, cond_false, reduceCtorEq] at h
      simp only [Bool.and_eq_true] at h1
      obtain ⟨⟨⟨a1, a2⟩, a3⟩, a4⟩ := h1
      have e1 := Nat.eq_of_beq_eq_true a1
      have e2 := Nat.eq_of_beq_eq_true a2
      subst e1 e2
      split at h
      · rename_i m' hm; cases h; exact ⟨⟨o, hp⟩, Nat.eq_of_beq_eq_true a3, a4, m', hm, hK⟩
      · cases h
    · cases h
  | app sz bytes el s r =>
    simp only [evop] at h
    split at h
    · rename_i l site g n hs
      split at h
      · rename_i g' sz' xs hl
        split at h
        · rename_i ys hy
          cases h1 : (Nat.beq g' g && Nat.beq sz' sz && tyOk site el && Nat.ble n xs.length && ys.all (fun e => e.cells.length == sz) && Nat.ble (n + ys.length) maxLen && Nat.ble ((n + ys.length) * bytes) 140737488355328) <;> rw [h1] at h <;> simp only [cond_true, cond_false, reduceCtorEq, Option.some.injEq] at h
          simp only [Bool.and_eq_true] at h1
          obtain ⟨⟨⟨⟨⟨⟨a1, a2⟩, a3⟩, a4⟩, a5⟩, a6⟩, a7⟩ := h1
          have e1 := Nat.eq_of_beq_eq_true a1
          have e2 := Nat.eq_of_beq_eq_true a2
          subst e1 e2 h
          exact ⟨l, site, _, n, xs, ys, hs, hl, a3, Nat.le_of_ble_eq_true a4, hy, a5, Nat.le_of_ble_eq_true a6, Nat.le_of_ble_eq_true a7, hK⟩
        · cases h
      · cases h
    · cases h
  | appl sz bytes el s r =>
    simp only [evop] at h
    split at h
    · rename_i l site g n hs
      split at h
      · rename_i g' sz' xs hl
        split at h
        · rename_i ys hy
          cases h1 : (Nat.beq l 0 && Nat.beq g' g && Nat.beq sz' sz && tyOk site el && Nat.ble n xs.length && ys.all (fun e => e.cells.length == sz) && Nat.ble (n + ys.length) maxLen && Nat.ble ((n + ys.length) * bytes) 140737488355328) <;> rw [h1] at h <;> simp only [cond_true, cond_false, reduceCtorEq, Option.some.injEq] at h
          simp only [Bool.and_eq_true] at h1
          obtain ⟨⟨⟨⟨⟨⟨⟨a0, a1⟩, a2⟩, a3⟩, a4⟩, a5⟩, a6⟩, a7⟩ := h1
          have e0 := Nat.eq_of_beq_eq_true a0
          have e1 := Nat.eq_of_beq_eq_true a1
          have e2 := Nat.eq_of_beq_eq_true a2
          subst e0 e1 e2 h
          exact ⟨site, _, n, xs, ys, hs, hl, a3, Nat.le_of_ble_eq_true a4, hy, a5, Nat.le_of_ble_eq_true a6, Nat.le_of_ble_eq_true a7, hK⟩
        · cases h
      · cases h
    · cases h
  | call f args =>
    simp only [evop] at h
    split at h
    · rename_i k fa fb hf
      split at h
      · rename_i ys hy
        cases h1 : AV.rfL ys <;> rw [h1] at h <;> simp only [cond_true, cond_false, reduceCtorEq] at h
        split at h
        · rename_i v m' hv
          cases h2 : (v.rf && (AV.rfL (fa ++ args.map (RA.ev st.f) ++ fb) || v.nl)) <;> rw [h2] at h <;> simp only [cond_true, cond_false, reduceCtorEq, Option.some.injEq] at h
          rw [Bool.and_eq_true, Bool.or_eq_true] at h2
          subst h
          exact ⟨k, fa, fb, ys, v, hf, hy, h1, (hc _ _ _ _ _ hv).mono (fun _ _ e => e.1), h2.1, h2.2, hK⟩
        · cases h
      · cases h
    · cases h
  | callF f args =>
    simp only [evop] at h
    split at h
    · rename_i k fa fb hf
      split at h
      · rename_i v m' hv
        cases h
        exact ⟨k, fa, fb, v, m', hf, hc _ _ _ _ _ hv, hK⟩
      · cases h
    · cases h
  | callG f args =>
    simp only [evop] at h
    split at h
    · rename_i k fa fb hf
      split at h
      · rename_i v m' hv
        cases h
        exact ⟨k, fa, fb, _, hf, hc _ _ _ _ _ hv, fun x m1 hx _ => by obtain ⟨rfl, rfl⟩ := hx; exact hK⟩
      · cases h
    · cases h
  | bsl sz len z ps =>
    simp only [evop] at h
    split at h
    · rename_i y hy
      cases h1 : (AV.rfL y && y.all AV.leaf) <;> rw [h1] at h <;> simp only [cond_true, cond_false, reduceCtorEq, Option.some.injEq] at h
      rw [Bool.and_eq_true] at h1
      subst h; exact ⟨y, hy, h1.1, h1.2, hK⟩
    · cases h
  | bslv site sz len z ps =>
    simp only [evop] at h
    split at h
    · rename_i y hy
      cases h1 : (AV.rfL y && y.all AV.leaf && rowOrNone (look st.m 0 site)) <;> rw [h1] at h <;> simp only [cond_true, cond_false, reduceCtorEq, Option.some.injEq] at h
      simp only [Bool.and_eq_true] at h1
      subst h; exact ⟨y, hy, h1.1.1, h1.1.2, h1.2, hK⟩
    · cases h
  | clr sz z r => simp only [evop] at h; cases h
  | lit0 sz =>
    simp only [evop, Option.some.injEq] at h
    subst h; exact hK
  | appe sz bytes el s r =>
    simp only [evop] at h
    split at h
    · rename_i xs ys hs hy
      cases h1 : (xs.all (fun e => e.cells.length == sz) && ys.all (fun e => e.cells.length == sz) && Nat.ble (xs.length + ys.length) maxLen && Nat.ble ((xs.length + ys.length) * bytes) 140737488355328) <;> rw [h1] at h <;> simp only [cond_true, cond_false, reduceCtorEq, Option.some.injEq] at h
      simp only [Bool.and_eq_true] at h1
      obtain ⟨⟨⟨a1, a2⟩, a3⟩, a4⟩ := h1
      subst h
      exact ⟨xs, ys, hs, hy, a1, a2, Nat.le_of_ble_eq_true a3, Nat.le_of_ble_eq_true a4, hK⟩
    · cases h
  | bsl0 site sz =>
    simp only [evop] at h
    cases h1 : rowOrNone (look st.m 0 site) <;> rw [h1] at h <;> simp only [cond_true, cond_false, reduceCtorEq, Option.some.injEq] at h
    subst h; exact ⟨h1, hK⟩
  | appc site sz bytes el s r =>
    simp only [evop] at h
    split at h
    · rename_i xs hs
      split at h
      · rename_i y ys hy
        cases h1 : (xs.all (fun e => e.cells.length == sz) && (y :: ys).all (fun e => e.cells.length == sz) && Nat.ble (xs.length + (y :: ys).length) maxLen && Nat.ble ((xs.length + (y :: ys).length) * bytes) 140737488355328 && rowOrNone (look st.m 0 site)) <;> rw [h1] at h <;> simp only [cond_true, cond_false, reduceCtorEq, Option.some.injEq] at h
        simp only [Bool.and_eq_true] at h1
        obtain ⟨⟨⟨⟨a1, a2⟩, a3⟩, a4⟩, a5⟩ := h1
        subst h
        exact ⟨xs, y :: ys, hs, hy, by simp, a1, a2, Nat.le_of_ble_eq_true a3, Nat.le_of_ble_eq_true a4, a5, hK⟩
      · cases h
    · cases h
  | isnil neg r =>
    simp only [evop] at h
    split at h
    · rename_i hr
      cases h
      exact ⟨[], by rw [hr]; rfl, fun e => absurd hr e, fun _ => hK⟩
    · rename_i l hr
      split at h
      · rename_i z zs hf
        cases h
        exact ⟨l, by rw [hr]; rfl, fun _ => hK, fun e => by
          rcases e with e | e
          · rw [hr] at e; cases e
          · rw [hf] at e; cases e⟩
      · cases h
    · cases h
  | callK l s f args =>
    simp only [evop] at h
    split at h
    · rename_i k fa fb hf
      split at h
      · rename_i v m' hv
        cases he : sameOb (look m' l s) (look st.m l s) <;> rw [he] at h <;> simp only [cond_true, cond_false, reduceCtorEq, Option.some.injEq] at h
        subst h
        exact ⟨k, fa, fb, v, m', hf, hc _ _ _ _ _ hv, sameOb_ok he, hK⟩
      · cases h
    · cases h
  | xb cnt k s c =>
    simp only [evop] at h
    split at h
    · rename_i t b hs hb
      cases h; exact ⟨t, b, hs, hb, hK⟩
    · cases h
  | callR f args =>
    simp only [evop] at h
    split at h
    · rename_i k fa fb hf
      split at h
      · rename_i ys hy
        cases h1 : AV.rfL ys <;> rw [h1] at h <;> simp only [cond_true, cond_false, reduceCtorEq] at h
        split at h
        · rename_i v m' hv
          cases h2 : (v.rf && (AV.rfL (fa ++ args.map (RA.ev st.f) ++ fb) || v.nl)) <;> rw [h2] at h <;> simp only [cond_true, cond_false, reduceCtorEq, Option.some.injEq] at h
          rw [Bool.and_eq_true, Bool.or_eq_true] at h2
          subst h
          exact ⟨k, fa, fb, ys, (· = v), hf, hy, h1, (hc _ _ _ _ _ hv).mono (fun _ _ e => e.1), fun x hx => by subst hx; exact h2, fun x hx => by subst hx; exact hK⟩
        · cases h
      · cases h
    · cases h
  | rngs s r =>
    simp only [evop] at h
    split at h
    · rename_i t ht
      cases h1 : noOb st.m s <;> rw [h1] at h <;> simp only [cond_true, cond_false, reduceCtorEq, Option.some.injEq] at h
      subst h; exact ⟨t, ht, h1, hK⟩
    · cases h
  | mkm s =>
    simp only [evop] at h
    cases h1 : noOb st.m s <;> rw [h1] at h <;> simp only [cond_true, cond_false, reduceCtorEq, Option.some.injEq] at h
    subst h; exact ⟨h1, hK⟩
  | mput tx x i v =>
    simp only [evop] at h
    split at h
    · rename_i l s hx
      split at h
      · rename_i ks vs p hl
        split at h
        · rename_i k hi
          cases h1 : (keys tx ks && ((v.ev st.f).gr && AV.grL vs && Nat.beq ks.length vs.length)) <;> rw [h1] at h <;> simp only [cond_true, cond_false, reduceCtorEq, Option.some.injEq] at h
          subst h
          simp only [Bool.and_eq_true] at h1
          exact ⟨l, s, ks, vs, p, k, hx, hl, hi, h1.1, h1.2.1.1, h1.2.1.2, Nat.eq_of_beq_eq_true h1.2.2, hK⟩
        · cases h
      · cases h
    · cases h
  | nxts r =>
    simp only [evop] at h
    split at h
    · rename_i l s hr
      split at h
      · rename_i t p hl
        refine ⟨l, s, t, p, hr, hl, fun e => ?_, fun e => ?_⟩
        · have hb : Nat.blt p t.length = true := by simp [Nat.blt_eq, e]
          rw [hb] at h
          cases h; exact hK
        · have hb : Nat.blt p t.length = false := by
            cases hb : Nat.blt p t.length with
            | false => rfl
            | true => rw [Nat.blt_eq] at hb; omega
          rw [hb] at h
          cases h; exact hK
      · cases h
    · cases h
  | slc0 site sz r =>
    simp only [evop] at h
    split at h
    · rename_i ys hy
      cases h1 : rowOrNone (look st.m 0 site) <;> rw [h1] at h <;> simp only [cond_true, cond_false, reduceCtorEq, Option.some.injEq] at h
      subst h; exact ⟨ys, hy, h1, hK⟩
    · cases h
  | appS el s r =>
    simp only [evop] at h
    split at h
    · rename_i l site g n t hs hr
      split at h
      · rename_i g' xs hl
        cases h1 : (Nat.beq g' g && tyOk site el && Nat.ble n xs.length && Nat.ble (n + t.length) 140737488355328) <;> rw [h1] at h <;> simp only [cond_true, cond_false, reduceCtorEq, Option.some.injEq] at h
        simp only [Bool.and_eq_true] at h1
        obtain ⟨⟨⟨a1, a2⟩, a3⟩, a4⟩ := h1
        have e1 := Nat.eq_of_beq_eq_true a1
        subst e1 h
        exact ⟨l, site, _, n, xs, t, hs, hl, a2, Nat.le_of_ble_eq_true a3, hr, Nat.le_of_ble_eq_true a4, hK⟩
      · cases h
    · cases h
  | mk site el sz bytes z l c =>
    simp only [evop] at h
    split at h
    · rename_i kl n kc k hl hcc
      cases h1 : (Nat.ble n k && Nat.ble k 9223372036854775807 && Nat.ble (bytes * k) 281474976710656 && rowOrNone (look st.m 0 site)) <;> rw [h1] at h <;> simp only [cond_true, cond_false, reduceCtorEq, Option.some.injEq] at h
      simp only [Bool.and_eq_true] at h1
      obtain ⟨⟨⟨a1, a2⟩, a3⟩, a4⟩ := h1
      subst h
      exact ⟨kl, kc, n, k, hl, hcc, Nat.le_of_ble_eq_true a1, Nat.le_of_ble_eq_true a2, Nat.le_of_ble_eq_true a3, a4, hK⟩
    · cases h
  | s2b site el r =>
    simp only [evop] at h
    split at h
    · rename_i s hs
      cases h1 : (Nat.ble s.length 9223372036854775807 && rowOrNone (look st.m 0 site)) <;> rw [h1] at h <;> simp only [cond_true, cond_false, reduceCtorEq, Option.some.injEq] at h
      simp only [Bool.and_eq_true] at h1
      subst h
      exact ⟨s, hs, Nat.le_of_ble_eq_true h1.1, h1.2, hK⟩
    · cases h
  | usd r =>
    simp only [evop] at h
    split at h
    · rename_i l s g n hr
      split at h
      · rename_i g' sz xs hl
        cases h1 : (Nat.beq g' g && Nat.ble 2000 s) <;> rw [h1] at h <;> simp only [cond_true, cond_false, reduceCtorEq, Option.some.injEq] at h
        simp only [Bool.and_eq_true] at h1
        have e1 := Nat.eq_of_beq_eq_true h1.1
        subst e1 h
        exact ⟨l, s, _, n, sz, xs, Nat.le_of_ble_eq_true h1.2, hr, hl, hK⟩
      · cases h
    · cases h
  | ustr el p r =>
    simp only [evop] at h
    split at h
    · rename_i hp hr
      cases h
      exact .inl ⟨hp, hr, hK⟩
    · rename_i l s g n hp hr
      split at h
      · rename_i g' xs hl
        split at h
        · rename_i t ht
          cases h1 : (Nat.beq s (el + 2000) && Nat.beq g' g && Nat.ble (n + 1) xs.length && evop.isBytes (xs.take (n + 1)) t) <;> rw [h1] at h <;> simp only [cond_true, cond_false, reduceCtorEq, Option.some.injEq] at h
          simp only [Bool.and_eq_true] at h1
          obtain ⟨⟨⟨a1, a2⟩, a3⟩, a4⟩ := h1
          have e1 := Nat.eq_of_beq_eq_true a1
          have e2 := Nat.eq_of_beq_eq_true a2
          subst e1 e2 h
          exact .inr ⟨l, _, n + 1, xs, t, hp, hr, hl, Nat.le_of_ble_eq_true a3, Nat.succ_ne_zero n, isBytes_ok a4, hK⟩
        · cases h
      · cases h
    · cases h
  | dfr f args => simp [evop] at h

theorem evstep_ok {call : Cal} (hc : CalOk P call) {it : Item} {st st' : St} (h : evstep call it st = some st') {K : St → Prop} (hK : K st') : astep P it st K := by
  obtain ⟨d, op, g⟩ := it
  cases g with
  | none => exact evop_ok (d := d) hc h hK
  | some p =>
    obtain ⟨j, want⟩ := p
    simp only [evstep] at h
    simp only [astep]
    split at h
    · rename_i b hj
      simp only [hj]
      cases hb : (b == want) with
      | true =>
        rw [hb] at h
        have e : b = want := by simpa using hb
        exact ⟨fun _ => evop_ok hc h hK, fun e' => by rw [e] at e'; cases want <;> cases e'⟩
      | false =>
        rw [hb] at h
        simp only [cond_false, Option.some.injEq] at h
        subst h
        exact ⟨fun e => by rw [e] at hb; simp at hb, fun _ => hK⟩
    · rename_i hj
      cases h
      simp only [hj]
      exact ⟨trivial, hK⟩
    · cases h

theorem evops_ok {call : Cal} (hc : CalOk P call) : ∀ {its : List Item} {st st' : St}, evops call its st = some st' → ∀ {K : St → Prop}, K st' → aops P its st K
  | [], _, _, h, _, hK => by cases h; exact hK
  | it :: its, st, st', h, K, hK => by
    simp only [evops] at h
    split at h
    · rename_i st1 h1
      exact evstep_ok hc h1 (evops_ok hc h hK)
    · cases h

theorem evend_ok {rs : List RR} {n : Nat} {r : Option (Exit × St)} {v : AV} {m' : Mem} (h : evend rs n r = some (v, m')) : ∃ e st, r = some (e, st) ∧ AEnds rs n (fun x m1 => x = v ∧ m1 = m') e st := by
  have fin : ∀ {e : Exit} {st : St}, (e = .normal ∨ e = .ret) → evend.fin rs n st = some (v, m') → AEnds rs n (fun x m1 => x = v ∧ m1 = m') e st := by
    intro e st he h
    unfold evend.fin at h
    split at h
    · rename_i hds
      split at h
      · rename_i x hx
        split at h
        · rename_i y hy
          split at h
          · rename_i fr m hm
            cases hb : Nat.beq m.length n with
            | false => rw [hb] at h; cases h
            | true =>
              rw [hb] at h
              simp only [cond_true, Option.some.injEq, Prod.mk.injEq] at h
              exact ⟨he, hds, x, y, fr, m, hx, hy, hm, Nat.eq_of_beq_eq_true hb, h.1, h.2⟩
          · cases h
        · cases h
      · cases h
    · cases h
  unfold evend at h
  split at h
  · exact ⟨_, _, rfl, fin (.inl rfl) h⟩
  · exact ⟨_, _, rfl, fin (.inr rfl) h⟩
  · cases h

theorem evcall_ok {nat : Cal} (hN : CalOk P nat) (hT : TabOk P T) {body : RC → St → Option (Exit × St)} (hb : ∀ c st e st', body c st = some (e, st') → ∀ Q : Exit → St → Prop, Q e st' → awp P c st Q) : CalOk P (evcall nat T body) := by
  intro k args m v m' h
  unfold evcall at h
  split at h
  · rename_i r hr; cases h; exact hN _ _ _ _ _ hr
  split at h
  · rename_i c rs N hk
    cases hN : Nat.ble args.length N with
    | false => rw [hN] at h; cases h
    | true =>
      rw [hN] at h
      simp only [cond_true] at h
      obtain ⟨e, st, h1, h2⟩ := evend_ok h
      obtain ⟨fn, cd, a1, a2, a3, a4, a5, a6⟩ := hT k c rs N hk
      exact acalls_of_awp a1 a2 a3 a4 a5 a6 (Nat.le_of_ble_eq_true hN) (hb _ _ _ _ h1 _ h2)
  · cases h

theorem evC_ok {nat : Cal} (hN : CalOk P nat) (hT : TabOk P T) : ∀ (n : Nat) (c : RC) (st : St) (e : Exit) (st' : St), evC nat T n c st = some (e, st') → ∀ Q : Exit → St → Prop, Q e st' → awp P c st Q := by
  intro n
  induction n using Nat.strongRecOn with
  | _ n ihs =>
  cases n with
  | zero => intro c st e st' h; cases h
  | succ n =>
    intro c st e st' h Q hQ
    have ih := ihs n (Nat.lt_succ_self n)
    cases c with
    | skip => cases h; exact hQ
    | reg its =>
      simp only [evC] at h
      split at h
      · rename_i st1 h1; cases h
        exact evops_ok (evcall_ok hN hT ih) h1 hQ
      · cases h
    | draw its =>
      simp only [evC] at h
      split at h
      · rename_i st1 h1; cases h
        exact evops_ok (evcall_ok hN hT ih) h1 hQ
      · cases h
    | seq a b =>
      simp only [evC] at h
      split at h
      · rename_i st1 h1
        exact ih _ _ _ _ h1 _ (ih _ _ _ _ h Q hQ)
      · rename_i h1
        refine ih _ _ _ _ h _ ?_
        cases e with
        | normal => exact absurd h (h1 st')
        | _ => exact hQ
    | cond c a b =>
      simp only [evC] at h
      split at h
      · rename_i t ht
        cases t with
        | true => exact ⟨true, ht, fun _ => ih _ _ _ _ h Q hQ, (fun e => by cases e)⟩
        | false => exact ⟨false, ht, (fun e => by cases e), fun _ => ih _ _ _ _ h Q hQ⟩
      · cases h
    | block id a =>
      simp only [evC] at h
      split at h
      · rename_i i st1 h1
        refine ih _ _ _ _ h1 _ ?_
        show if i = id then Q .normal st1 else Q (.exit i) st1
        split at h
        · rename_i hi; cases h; rw [if_pos hi]; exact hQ
        · rename_i hi; cases h; rw [if_neg hi]; exact hQ
      · rename_i h1
        refine ih _ _ _ _ h _ ?_
        cases e with
        | exit i => exact absurd h (h1 i st')
        | _ => exact hQ
    | loop a =>
      refine ⟨fun k s => k ≤ n ∧ evC nat T (k + 1) (.loop a) s = some (e, st'), n, ⟨Nat.le_refl _, h⟩, fun k s hh => ?_⟩
      obtain ⟨hk, hs⟩ := hh
      simp only [evC] at hs
      split at hs
      · rename_i st1 h1
        refine ihs k (by omega) _ _ _ _ h1 _ ?_
        show ∃ j, j < k ∧ j ≤ n ∧ evC nat T (j + 1) (.loop a) st1 = some (e, st')
        cases k with
        | zero => cases h1
        | succ j => exact ⟨j, Nat.lt_succ_self j, by omega, hs⟩
      · rename_i h1
        refine ihs k (by omega) _ _ _ _ hs _ ?_
        cases e with
        | normal => exact absurd hs (h1 st')
        | _ => exact hQ
    | exit id => cases h; exact hQ
    | scope a =>
      simp only [evC] at h
      split at h
      · cases h
      · rename_i h1
        refine ih _ _ _ _ h _ ?_
        cases e with
        | goto i => exact absurd h (h1 i st')
        | _ => exact hQ
    | lab => cases h; exact hQ
    | ret => cases h; exact hQ
    | gho g a =>
      simp only [evC] at h
      split at h
      · rename_i st1 h1
        exact ⟨st1, h1, ih _ _ _ _ h Q hQ⟩
      · cases h
    | no => cases h
    | goto l => cases h; exact hQ
    | jump l a b =>
      have pass : ∀ k s, (k ≤ n ∧ evC nat T (k + 1) (.jump l b b) s = some (e, st')) → awp P b s (Kj l (fun s => ∃ j, j < k ∧ (j ≤ n ∧ evC nat T (j + 1) (.jump l b b) s = some (e, st'))) Q) := by
        intro k s hh
        obtain ⟨hk, hs⟩ := hh
        simp only [evC] at hs
        split at hs
        · rename_i i st1 h1
          split at hs
          · rename_i hi
            refine ihs k (by omega) _ _ _ _ h1 _ ?_
            cases k with
            | zero => cases h1
            | succ j => exact ⟨hi, j, Nat.lt_succ_self j, by omega, hs⟩
          · cases hs
        · rename_i h1
          refine ihs k (by omega) _ _ _ _ hs _ ?_
          cases e with
          | goto i => exact absurd hs (h1 i st')
          | _ => exact hQ
      refine ⟨fun k s => k ≤ n ∧ evC nat T (k + 1) (.jump l b b) s = some (e, st'), ?_, pass⟩
      simp only [evC] at h
      split at h
      · rename_i i st1 h1
        split at h
        · rename_i hi
          refine ih _ _ _ _ h1 _ ?_
          cases n with
          | zero => cases h1
          | succ j => exact ⟨hi, j, by omega, h⟩
        · cases h
      · rename_i h1
        refine ih _ _ _ _ h _ ?_
        cases e with
        | goto i => exact absurd h (h1 i st')
        | _ => exact hQ

def evT (nat : Cal) (T : Tab) (n : Nat) (k : FuncId) (args : List AV) : Bool :=
  match evcall nat T (evC nat T n) k args [] with
  | some (.bool true, _) => true
  | _ => false

theorem fn1_of_evT {nat : Cal} (hN : CalOk P nat) (hT : TabOk P T) {n : Nat} {k : FuncId} {args : List AV} (h : evT nat T n k args = true) : Fn1 P k args (.bool true) := by
  unfold evT at h
  split at h
  · rename_i m' h1
    exact (evcall_ok hN hT (evC_ok hN hT n) _ _ _ _ _ h1).mono fun _ _ e => e.1
  · cases h

end

end Go.Proofs.YtdgbidbkcigkhaaGreatDoor.Am

namespace Go.Proofs.YtdgbidbkcigkhaaGreatDoor.Am
open Go

set_option linter.defProp false in
def eES := (And.intro (And.intro (And.intro (And.intro (And.intro (And.intro (And.intro (And.intro @Am.e_seq @Am.e_reg) (And.intro @Am.e_draw @Am.e_nil)) (And.intro (And.intro @Am.e_kc_n @Am.e_kc_x) (And.intro @Am.e_kc_r (And.intro @Am.e_block @Am.e_scope)))) (And.intro (And.intro (And.intro @Am.e_skip @Am.e_lab) (And.intro @Am.e_ret @Am.e_exit)) (And.intro (And.intro @Am.e_kb_n @Am.e_kb_x) (And.intro @Am.e_kb_r (And.intro @Am.e_kg_n @Am.e_kg_x))))) (And.intro (And.intro (And.intro (And.intro @Am.e_kg_r @Am.e_kl_n) (And.intro @Am.e_kl_x @Am.e_kl_r)) (And.intro (And.intro @Am.e_cond @Am.e_bget) (And.intro @Am.e_isB (And.intro @Am.e_c @Am.e_t)))) (And.intro (And.intro (And.intro @Am.e_f @Am.e_val) (And.intro @Am.e_vget @Am.e_isV)) (And.intro (And.intro @Am.e_upd @Am.e_g) (And.intro @Am.e_gsel_t (And.intro @Am.e_gsel_f @Am.e_gsel_tf)))))) (And.intro (And.intro (And.intro (And.intro (And.intro @Am.e_gsel_ft @Am.e_gsel_n) (And.intro @Am.e_gsel_tf0 @Am.e_gsel_ft0)) (And.intro (And.intro @Am.e_gsel_n0 @Am.e_csel_t) (And.intro @Am.e_csel_f (And.intro @Am.e_ends_r @Am.e_ends_n)))) (And.intro (And.intro (And.intro @Am.e_nbeq @Am.vop.eq_1) (And.intro @Am.vop.eq_2 @Am.vop.eq_3)) (And.intro (And.intro @Am.vop.eq_4 @Am.vop.eq_5) (And.intro @Am.vop.eq_6 (And.intro @Am.vop.eq_7 @Am.vop.eq_8))))) (And.intro (And.intro (And.intro (And.intro @Am.vop.eq_9 @Am.vop.eq_10) (And.intro @Am.vop.eq_11 @Am.vop.eq_12)) (And.intro (And.intro @Am.vop.eq_13 @Am.vop.eq_14) (And.intro @Am.vop.eq_15 (And.intro @Am.vop.eq_16 @Am.vop.eq_17)))) (And.intro (And.intro (And.intro @Am.vop.eq_18 @Am.vop.eq_19) (And.intro @Am.vop.eq_20 @Am.vop.eq_21)) (And.intro (And.intro @Am.vop.eq_22 @Am.vop.eq_23) (And.intro @Am.vop.eq_24 (And.intro @Am.vop.eq_25 @Am.vop.eq_26))))))) (And.intro (And.intro (And.intro (And.intro (And.intro (And.intro @Am.vop.eq_27 @Am.vop.eq_28) (And.intro @Am.vop.eq_29 @Am.vop.eq_30)) (And.intro (And.intro @Am.vop.eq_31 @Am.vop.eq_32) (And.intro @Am.vop.eq_33 (And.intro @Am.vop.eq_34 @Am.vop.eq_35)))) (And.intro (And.intro (And.intro @Am.vop.eq_36 @Am.abin.eq_1) (And.intro @Am.abin.eq_2 @Am.abin.eq_3)) (And.intro (And.intro @Am.abin.eq_4 @Am.abin.eq_5) (And.intro @Am.abin.eq_6 (And.intro @Am.abin.eq_7 @Am.abin.eq_8))))) (And.intro (And.intro (And.intro (And.intro @Am.abin.eq_9 @Am.abin.eq_10) (And.intro @Am.abin.eq_11 @Am.abin.eq_12)) (And.intro (And.intro @Am.abin.eq_13 @Am.abin.eq_14) (And.intro @Am.abin.eq_15 (And.intro @Am.abin.eq_16 @Am.abin.eq_17)))) (And.intro (And.intro (And.intro @Am.aint.eq_1 @Am.aint.eq_2) (And.intro @Am.aint.eq_3 @Am.aint.eq_4)) (And.intro (And.intro @Am.aint.eq_5 @Am.aint.eq_6) (And.intro @Am.aint.eq_7 (And.intro @Am.aint.eq_8 @Am.aint.eq_9)))))) (And.intro (And.intro (And.intro (And.intro (And.intro @Am.aint.eq_10 @Am.aint.eq_11) (And.intro @Am.aint.eq_12 @Am.aint.eq_13)) (And.intro (And.intro @Am.aint.eq_14 @Am.aint.eq_15) (And.intro @Am.aint.eq_16 (And.intro @Am.aun.eq_1 @Am.aun.eq_2)))) (And.intro (And.intro (And.intro @Am.aun.eq_3 @Am.aun.eq_4) (And.intro @cond_true.{0} @cond_true.{1})) (And.intro (And.intro @cond_false.{0} @cond_false.{1}) (And.intro @true_and (And.intro @and_true @List.getElem?_cons_zero.{0}))))) (And.intro (And.intro (And.intro (And.intro @List.getElem?_cons_succ.{0} @List.getElem?_nil.{0}) (And.intro @Option.getD_some.{0} @Option.getD_none.{0})) (And.intro (And.intro @Am.St.enter.eq_1 @Am.argF.eq_1) (And.intro @Am.AV.shL.eq_1 (And.intro @Am.AV.shL.eq_2 @Am.AV.sh.eq_1)))) (And.intro (And.intro (And.intro @Am.AV.sh.eq_2 @Am.AV.sh.eq_3) (And.intro @Am.AV.sh.eq_4 @Am.AV.sh.eq_5)) (And.intro (And.intro @Am.AV.sh.eq_6 @Am.AV.sh.eq_7) (And.intro @Am.AV.sh.eq_8 (And.intro @Am.AV.sh.eq_9 @Am.resV.eq_1)))))))) (And.intro (And.intro (And.intro (And.intro (And.intro (And.intro (And.intro @Am.resV.eq_2 @Am.RR.ev.eq_1) (And.intro @Am.RR.ev.eq_2 @Am.RR.evL.eq_1)) (And.intro (And.intro @Am.RR.evL.eq_2 @Am.leave.eq_1) (And.intro @Am.AV.still.eq_1 (And.intro @Am.AV.still.eq_2 @Am.AV.still.eq_3)))) (And.intro (And.intro (And.intro @Am.AV.still.eq_4 @Am.AV.still.eq_5) (And.intro @Am.AV.still.eq_6 @Am.AV.still.eq_7)) (And.intro (And.intro @Am.AV.still.eq_8 @Am.AV.stillL.eq_1) (And.intro @Am.AV.stillL.eq_2 (And.intro @Am.AV.un.eq_1 @Am.AV.un.eq_2))))) (And.intro (And.intro (And.intro (And.intro @Am.AV.un.eq_3 @Am.AV.un.eq_4) (And.intro @Am.AV.un.eq_5 @Am.AV.un.eq_6)) (And.intro (And.intro @Am.AV.un.eq_7 @Am.AV.un.eq_8) (And.intro @Am.AV.un.eq_9 (And.intro @Am.AV.un.eq_10 @Am.AV.un.eq_11)))) (And.intro (And.intro (And.intro @Am.AV.un.eq_12 @Am.AV.un.eq_13) (And.intro @Am.AV.unL.eq_1 @Am.AV.unL.eq_2)) (And.intro (And.intro @Option.bind_some.{0,0} @Option.map_some.{0,0}) (And.intro @if_true.{0} (And.intro @if_true.{1} @if_false.{0})))))) (And.intro (And.intro (And.intro (And.intro (And.intro @if_false.{1} @Bool.false_eq_true) (And.intro @Go.IntKind.bits.eq_1 @Go.IntKind.bits.eq_2)) (And.intro (And.intro @Go.IntKind.bits.eq_3 @Go.IntKind.bits.eq_4) (And.intro @Go.IntKind.bits.eq_5 (And.intro @Go.IntKind.bits.eq_6 @Go.IntKind.bits.eq_7)))) (And.intro (And.intro (And.intro @Go.IntKind.bits.eq_8 @List.length_nil.{0}) (And.intro @List.length_cons.{0} @Bool.true_and)) (And.intro (And.intro @Bool.and_true @forall_const.{1}) (And.intro @not_true_eq_false (And.intro @not_false_eq_true @Am.upd_upd))))) (And.intro (And.intro (And.intro (And.intro @Bool.not_true @Bool.not_false) (And.intro @Am.gen?.eq_1 @ne_eq.{1})) (And.intro (And.intro @Nat.one_ne_zero @decide_true) (And.intro @decide_false (And.intro @Am.e_store @Am.e_storev)))) (And.intro (And.intro (And.intro @Am.e_isPv @Am.e_allocN) (And.intro @Am.e_boxN @Am.e_mget)) (And.intro (And.intro @Am.e_isM @Am.noOb.eq_1) (And.intro @Am.AV.unNL.eq_1 (And.intro @Am.AV.unNL.eq_2 @Am.AV.unNL_zero))))))) (And.intro (And.intro (And.intro (And.intro (And.intro (And.intro @Am.AV.shNL.eq_1 @Am.AV.shNL.eq_2) (And.intro @Am.AV.shN.eq_1 @Am.AV.shN.eq_2)) (And.intro (And.intro @Am.splice.eq_1 @Am.part.eq_1) (And.intro @Am.part.eq_2 (And.intro @Am.fill.eq_1 @Am.fill.eq_2)))) (And.intro (And.intro (And.intro @Am.AV.leaf.eq_1 @Am.AV.leaf.eq_2) (And.intro @Am.AV.leaf.eq_3 @Am.AV.leaf.eq_4)) (And.intro (And.intro @List.all_cons.{0} @List.all_nil.{0}) (And.intro @List.take_succ_cons.{0} (And.intro @List.take_zero.{0} @List.take_nil.{0}))))) (And.intro (And.intro (And.intro (And.intro @List.drop_succ_cons.{0} @List.drop_zero.{0}) (And.intro @List.drop_nil.{0} @List.nil_append.{0})) (And.intro (And.intro @List.cons_append.{0} @List.append_nil.{0}) (And.intro @Am.noObs.eq_1 (And.intro @and_self @Am.lenA.eq_1)))) (And.intro (And.intro (And.intro @Am.lenA.eq_2 @Am.lenA.eq_3) (And.intro @Am.lenA.eq_4 @Am.lenA.eq_5)) (And.intro (And.intro @Am.lenA.eq_6 @Am.bnd.eq_1) (And.intro @Am.bnd.eq_2 (And.intro @Am.aslice.eq_1 @Am.aslice.eq_2)))))) (And.intro (And.intro (And.intro (And.intro (And.intro @Am.aslice.eq_3 @Am.aslice.eq_4) (And.intro @Am.aslice.eq_5 @Am.aslice.eq_6)) (And.intro (And.intro @Am.aslice.eq_7 @Am.eqL.eq_1) (And.intro @Am.eqL.eq_2 (And.intro @Am.eqL.eq_3 @Am.eq1.eq_1)))) (And.intro (And.intro (And.intro @Am.eq1.eq_2 @Am.eq1.eq_3) (And.intro @Am.eq1.eq_4 @Am.e_no)) (And.intro (And.intro @Am.e_drop @Am.e_scr_top) (And.intro @Am.e_scr_int (And.intro @Am.e_scr_bool @Am.e_scr_str))))) (And.intro (And.intro (And.intro (And.intro @Am.e_scr_nils @Am.e_scr_nilp) (And.intro @Am.e_scr_nili @Am.e_scr_nilf)) (And.intro (And.intro @Am.e_scr_list @Am.e_scr_vec) (And.intro @Am.e_scr_agg (And.intro @Am.e_scr_tup @Am.e_scr_ptr)))) (And.intro (And.intro (And.intro @Am.e_scr_ptr1 @Am.e_scr_nil) (And.intro @Am.e_scr_cons (And.intro @Am.e_scr_cells @Am.e_scr_row))) (And.intro (And.intro @Am.e_scr_none @Am.e_scr_isRow) (And.intro @Am.e_row_cells (And.intro @Am.e_row_none @List.map_nil.{0,0})))))))))

set_option linter.defProp false in
def eEX := (And.intro (And.intro (And.intro @Am.astore.eq_1 (And.intro @Am.astore.eq_2 @Am.astore.eq_3)) (And.intro (And.intro @Am.aload.eq_1 @Am.aload.eq_2) (And.intro @Am.aload.eq_3 @Am.aload.eq_4))) (And.intro (And.intro (And.intro @Am.look.eq_1 @Am.look.eq_2) (And.intro @Am.look.eq_3 @Am.put.eq_1)) (And.intro (And.intro @Am.put.eq_2 @Am.put.eq_3) (And.intro @Am.AV.cells.eq_1 @Am.AV.cells.eq_2))))

end Go.Proofs.YtdgbidbkcigkhaaGreatDoor.Am

namespace Go.Proofs.YtdgbidbkcigkhaaGreatDoor.Cg
open Go Am
structure TI where
  sz : Nat := 1
  st : Bool := false
  k : Nat := 0
  y : Ty := .other
  i : IntKind := .i64
  e : Nat := 0
  n : Nat := 0
  b : Nat := 8
  z : List AV := []
  fs : List (Nat × Nat × Bool) := []
  ys : List Ty := []
  x : Bool := false

def tt : Nat → TI
  | 3 => { k := 1, y := .num, z := [.int .i64 0] }
  | 4 => { k := 3, y := .bool, b := 1, z := [.bool false] }
  | 5 => { k := 1, y := .num, i := .u8, b := 1, z := [.int .u8 0] }
  | 9 => { k := 2, y := .str, b := 16, z := [.str []] }
  | 21 => { k := 1, y := .num, i := .i32, b := 4, z := [.int .i32 0] }
  | 22 => { k := 6, e := 39, b := 24, z := [.nils] }
  | 23 => { k := 6, e := 80, b := 24, z := [.nils] }
  | 25 => { sz := 2, st := true, k := 8, b := 48, z := [.nils, .nils], fs := [(0, 1, false), (1, 1, false)] }
  | 26 => { k := 6, e := 47, b := 24, z := [.nils] }
  | 28 => { k := 6, e := 3, b := 24, z := [.nils] }
  | 31 => { k := 1, y := .num, z := [.int .i64 0] }
  | 37 => { k := 6, e := 41, b := 24, z := [.nils] }
  | 39 => { sz := 3, st := true, k := 8, b := 48, z := [.str [], .nils, .int .i64 0], fs := [(0, 1, false), (1, 1, false), (2, 1, false)] }
  | 41 => { sz := 8, st := true, k := 8, b := 80, z := [.int .i64 0, .str [], .str [], .int .i64 0, .int .i64 0, .int .i64 0, .int .i64 0, .int .i64 0], fs := [(0, 1, false), (1, 1, false), (2, 1, false), (3, 1, false), (4, 1, false), (5, 1, false), (6, 1, false), (7, 1, false)] }
  | 45 => { k := 6, e := 49, b := 24, z := [.nils] }
  | 47 => { sz := 4, st := true, k := 8, b := 64, z := [.int .i64 0, .int .i64 0, .nils, .nils], fs := [(0, 1, false), (1, 1, false), (2, 1, false), (3, 1, false)] }
  | 49 => { sz := 3, st := true, k := 8, b := 24, z := [.int .i64 0, .int .i64 0, .int .i64 0], fs := [(0, 1, false), (1, 1, false), (2, 1, false)] }
  | 52 => { k := 1, y := .num, i := .u64, z := [.int .u64 0] }
  | 53 => { k := 6, e := 58, b := 24, z := [.nils] }
  | 54 => { k := 6, e := 180, b := 24, z := [.nils] }
  | 55 => { k := 6, e := 65, b := 24, z := [.nils] }
  | 56 => { k := 6, e := 158, b := 24, z := [.nils] }
  | 58 => { sz := 7, st := true, k := 8, b := 128, z := [.int .i64 0, .int .u64 0, .str [], .nils, .nils, .nils, .nils], fs := [(0, 1, false), (1, 1, false), (2, 1, false), (3, 1, false), (4, 1, false), (5, 1, false), (6, 1, false)] }
  | 62 => { sz := 4, st := true, k := 8, b := 32, z := [.int .i64 0, .int .i64 0, .int .i64 0, .int .i64 0], fs := [(0, 1, false), (1, 1, false), (2, 1, false), (3, 1, false)] }
  | 65 => { sz := 8, st := true, k := 8, b := 136, z := [.int .i64 0, .int .i64 0, .int .u64 0, .str [], .nils, .nils, .nils, .nils], fs := [(0, 1, false), (1, 7, true)] }
  | 71 => { sz := 5, st := true, k := 8, b := 120, z := [.nils, .nils, .nils, .nils, .nils], fs := [(0, 2, true), (2, 2, true), (4, 1, false)] }
  | 76 => { k := 6, e := 83, b := 24, z := [.nils] }
  | 77 => { k := 6, e := 86, b := 24, z := [.nils] }
  | 78 => { k := 6, e := 88, b := 24, z := [.nils] }
  | 80 => { sz := 5, st := true, k := 8, b := 96, z := [.str [], .bool false, .nils, .nils, .nils], fs := [(0, 1, false), (1, 1, false), (2, 1, false), (3, 1, false), (4, 1, false)] }
  | 83 => { sz := 3, st := true, k := 8, b := 48, z := [.str [], .int .i64 0, .nils], fs := [(0, 1, false), (1, 1, false), (2, 1, false)] }
  | 86 => { sz := 2, st := true, k := 8, b := 16, z := [.int .i64 0, .int .i64 0], fs := [(0, 1, false), (1, 1, false)] }
  | 88 => { sz := 8, st := true, k := 8, b := 144, z := [.str [], .int .i64 0, .int .u64 0, .str [], .nils, .nils, .nils, .nils], fs := [(0, 1, false), (1, 7, true)] }
  | 91 => { k := 6, e := 4, b := 24, z := [.nils] }
  | 95 => { sz := 6, st := true, k := 8, b := 56, z := [.str [], .int .i64 0, .int .i64 0, .int .i64 0, .int .i64 0, .int .i64 0], fs := [(0, 1, false), (1, 1, false), (2, 1, false), (3, 1, false), (4, 1, false), (5, 1, false)] }
  | 100 => { sz := 8, st := true, k := 8, b := 104, z := [.nils, .nils, .str [], .int .i64 0, .int .i64 0, .int .i64 0, .int .i64 0, .int .i64 0], fs := [(0, 2, true), (2, 6, true)] }
  | 103 => { z := [.nilf] }
  | 104 => { k := 9, e := 103, z := [.nilm] }
  | 117 => { z := [.nilf] }
  | 129 => { z := [.nilf] }
  | 131 => { z := [.nilf] }
  | 133 => { sz := 3, st := true, k := 7, e := 3, n := 3, b := 24, z := [.int .i64 0, .int .i64 0, .int .i64 0] }
  | 136 => { st := true, k := 8, z := [.nilf], fs := [(0, 1, false)] }
  | 147 => { sz := 4, st := true, k := 8, b := 96, z := [.nils, .nils, .nils, .nils], fs := [(0, 2, true), (2, 2, true)] }
  | 151 => { sz := 5, st := true, k := 8, b := 104, z := [.nils, .nils, .nils, .nils, .int .i64 0], fs := [(0, 2, true), (2, 2, true), (4, 1, false)] }
  | 153 => { sz := 2, st := true, k := 8, b := 48, z := [.nils, .nils], fs := [(0, 2, true)] }
  | 158 => { sz := 4, st := true, k := 8, b := 40, z := [.int .i64 0, .int .i64 0, .int .u64 0, .str []], fs := [(0, 1, false), (1, 1, false), (2, 1, false), (3, 1, false)] }
  | 167 => { k := 6, e := 9, b := 24, z := [.nils] }
  | 180 => { sz := 14, st := true, k := 8, b := 256, z := [.int .i64 0, .int .u64 0, .str [], .nils, .nils, .nils, .nils, .int .i64 0, .int .u64 0, .str [], .nils, .nils, .nils, .nils], fs := [(0, 7, true), (7, 7, true)] }
  | 187 => { sz := 2, st := true, k := 8, b := 48, z := [.nils, .nils], fs := [(0, 2, true)] }
  | 211 => { sz := 2, st := true, k := 8, b := 16, z := [.int .i64 0, .int .i64 0], fs := [(0, 1, false), (1, 1, false)] }
  | 213 => { k := 9, e := 211, x := true, z := [.nilm] }
  | 223 => { sz := 7, st := true, k := 8, b := 128, z := [.int .i64 0, .int .u64 0, .str [], .nils, .nils, .nils, .nils], fs := [(0, 1, false), (1, 1, false), (2, 1, false), (3, 1, false), (4, 1, false), (5, 1, false), (6, 1, false)] }
  | 224 => { k := 6, e := 58, b := 24, z := [.nils] }
  | 226 => { k := 6, e := 180, b := 24, z := [.nils] }
  | 230 => { sz := 2, st := true, k := 8, b := 48, z := [.nils, .nils], fs := [(0, 1, false), (1, 1, false)] }
  | 237 => { sz := 8, st := true, k := 8, b := 104, z := [.nils, .nils, .str [], .int .i64 0, .int .i64 0, .int .i64 0, .int .i64 0, .int .i64 0], fs := [(0, 2, true), (2, 6, true)] }
  | 250 => { k := 9, e := 41, z := [.nilm] }
  | 269 => { sz := 2, st := true, k := 8, b := 16, z := [.int .u64 0, .int .u64 0], fs := [(0, 1, false), (1, 1, false)] }
  | 270 => { sz := 18, st := true, k := 7, e := 269, n := 9, b := 144, z := [.int .u64 0, .int .u64 0, .int .u64 0, .int .u64 0, .int .u64 0, .int .u64 0, .int .u64 0, .int .u64 0, .int .u64 0, .int .u64 0, .int .u64 0, .int .u64 0, .int .u64 0, .int .u64 0, .int .u64 0, .int .u64 0, .int .u64 0, .int .u64 0] }
  | 273 => { k := 1, y := .num, i := .u64, z := [.int .u64 0] }
  | 285 => { k := 4, y := .ptr, e := 288, z := [.nilp] }
  | 286 => { k := 6, e := 5, b := 24, z := [.nils] }
  | 288 => { sz := 2, st := true, k := 8, b := 32, z := [.nilp, .nils], fs := [(0, 1, false), (1, 1, false)] }
  | 298 => { k := 6, e := 56, b := 24, z := [.nils] }
  | 326 => { k := 4, y := .ptr, e := 5, z := [.nilp] }
  | 335 => { sz := 9, st := true, k := 7, e := 3, n := 9, b := 72, z := [.int .i64 0, .int .i64 0, .int .i64 0, .int .i64 0, .int .i64 0, .int .i64 0, .int .i64 0, .int .i64 0, .int .i64 0] }
  | 336 => { sz := 27, st := true, k := 7, e := 335, n := 3, b := 216, z := [.int .i64 0, .int .i64 0, .int .i64 0, .int .i64 0, .int .i64 0, .int .i64 0, .int .i64 0, .int .i64 0, .int .i64 0, .int .i64 0, .int .i64 0, .int .i64 0, .int .i64 0, .int .i64 0, .int .i64 0, .int .i64 0, .int .i64 0, .int .i64 0, .int .i64 0, .int .i64 0, .int .i64 0, .int .i64 0, .int .i64 0, .int .i64 0, .int .i64 0, .int .i64 0, .int .i64 0] }
  | 348 => { k := 10, z := [.nilp] }
  | 353 => { sz := 2, st := true, k := 8, b := 2, z := [.int .u8 0, .int .u8 0], fs := [(0, 1, false), (1, 1, false)] }
  | 355 => { k := 1, y := .num, i := .u32, b := 4, z := [.int .u32 0] }
  | _ => {}
abbrev gl2 : List AV := [.int .i64 1, .int .i64 2, .int .i64 2, .int .i64 1, .int .i64 1, .int .i64 6, .int .i64 7, .int .i64 7, .int .i64 1, .int .i64 1, .int .i64 2, .int .i64 2, .int .i64 2, .int .i64 2, .int .i64 6, .int .i64 7, .int .i64 7, .int .i64 2, .int .i64 1, .int .i64 2, .int .i64 2, .int .i64 2, .int .i64 2, .int .i64 6, .int .i64 7, .int .i64 8, .int .i64 9]
abbrev gl0 : List AV := [.int .u64 0, .int .u64 1, .int .u64 2147483648, .int .u64 2147483647, .int .u64 9223372036854775808, .int .u64 9223372036854775807, .int .u64 0, .int .u64 4294967295, .int .u64 0, .int .u64 18446744073709551615, .int .u64 0, .int .u64 0, .int .u64 0, .int .u64 0, .int .u64 0, .int .u64 0, .int .u64 0, .int .u64 2147483647]
def glo : Nat → List AV
  | 2 => gl2
  | 0 => gl0
  | _ => []
end Go.Proofs.YtdgbidbkcigkhaaGreatDoor.Cg

set_option linter.unusedVariables false
namespace Go.Proofs.YtdgbidbkcigkhaaGreatDoor.Cg
open Go Am

inductive HV where
  | d
  | ro (r : RO)
  | lv (l s : Nat)
  | lr
  | lo
  | cc
  | cf
  | cg
  | ck (l s : Nat)
  | ac
  | bv
  | sl
  | mp
  | sm

mutual
def av : Value → AV
  | .int k n => .int k n
  | .bool b => .bool b
  | .string ⟨⟨s⟩⟩ => .str s
  | .slice .. => .nils
  | .pointer _ => .nilp
  | .nilFunc => .nilf
  | .nilIface => .nili
  | .map _ => .nilm
  | .agg ⟨l⟩ => .agg (avs l)
  | .tuple ⟨l⟩ => .tup (avs l)
  | _ => .top
def avs : List Value → List AV
  | [] => []
  | x :: l => av x :: avs l
end
def ra : Operand → RA
  | .tmp n => .t n
  | .const v => .c (av v)
  | .func k => .f k
  | .global k => .g k (glo k)
def ras : List Operand → List RA
  | [] => []
  | x :: l => ra x :: ras l
def rp : Option Operand → Option RA
  | none => none
  | some x => some (ra x)
def sh (t : TI) : Option Nat := bif t.st then some t.sz else none
def fo : List (Nat × Nat × Bool) → Nat → Nat
  | [], _ => 0
  | x :: _, 0 => x.1
  | _ :: l, i + 1 => fo l i
def fh : List (Nat × Nat × Bool) → Nat → Option Nat
  | [], _ => none
  | x :: _, 0 => bif x.2.2 then some x.2.1 else none
  | _ :: l, i + 1 => fh l i
def fz : List (Nat × Nat × Bool) → Nat → Nat
  | [], _ => 0
  | x :: _, 0 => x.2.1
  | _ :: l, i + 1 => fz l i
def ps (fs : List (Nat × Nat × Bool)) : List (Nat × Operand) → List (Nat × Nat × RA)
  | [] => []
  | (i, x) :: l => (fo fs i, fz fs i, ra x) :: ps fs l
def pa (n : Nat) : List (Nat × Operand) → List (Nat × Nat × RA)
  | [] => []
  | (i, x) :: l => (i * n, n, ra x) :: pa n l
def nl : Operand → Bool
  | .const (.slice ..) => true
  | _ => false
def ok (d t : Nat) : Nat := bif t == 288 then 2000 + t else d
def ng : BinOp → Bool
  | .neq => true
  | _ => false
def lk {α : Type} (x : α) : List (Nat × α) → Nat → α
  | [], _ => x
  | (i, y) :: l, k => bif i == k then y else lk x l k

def lz (t : TI) : Nat := bif t.k == 2 then 0 else bif t.k == 9 then 2 else 1
def zo (t : TI) : AV := bif t.st then .agg t.z else t.z.headD .top
def bt (M k : Nat) : Bool := M >>> k % 2 == 1
def ca : Operand → List RA → RO
  | .func k, l => bif bt 770472273908712370782683449673218565050556432671649111398468682146366136937216276076000865903166278355994542080000 k then .callF (.f k) l else .call (.f k) l
  | f, l => .callF (ra f) l
def bn (b : BinOp) (t : TI) (x y : Operand) : RO := bif t.k == 6 && nl y then .isnil (ng b) (ra x) else bif t.k == 8 then .bsl0 0 0 else .val (.bin t.y b (ra x) (ra y))
def cv (d : Nat) (s t : TI) (x : Operand) : RO := bif t.k == 1 then .val (.cvi t.i (ra x)) else bif t.k == 2 then .val (.b2s (ra x)) else bif t.k == 6 then .s2b d t.e (ra x) else bif t.k == 10 then .val (.toU (ra x)) else .val (.ofU t.e (tt t.e).sz (ra x))
def bi (d : Nat) : Builtin → List Operand → TI → TI → RO
  | .len, [x], t, _ => .val (.len (lz t) (ra x))
  | .max, [x, y], _, _ => .val (.mnx true (ra x) (ra y))
  | .min, [x, y], _, _ => .val (.mnx false (ra x) (ra y))
  | .append, [x, y], t, u => bif u.k == 2 then .appS t.e (ra x) (ra y) else .app (tt t.e).sz (tt t.e).b t.e (ra x) (ra y)
  | .clear, [x], t, _ => .clr (tt t.e).sz (tt t.e).z (ra x)
  | .unsafeSliceData, [x], _, _ => .usd (ra x)
  | .unsafeString, [x, y], t, _ => .ustr t.e (ra x) (ra y)
  | _, _, _, _ => .bsl0 0 d
def t1 : List Nat → TI
  | [] => {}
  | t :: _ => tt t
def t2 : List Nat → TI
  | _ :: t :: _ => tt t
  | _ => {}
def o1 (d : Nat) : Op → RO
  | .move x => .val (.mov (ra x))
  | .assign x => .val (.mov (ra x))
  | .pick a b c => .val (.pick (ra a) (ra b) (ra c))
  | .alloc t => .allocN (ok d t) (tt t).z
  | .box t x => .boxN (ok d t) (ra x)
  | .build t ⟨l⟩ => .val (.build (tt t).z (bif (tt t).k == 7 then pa (tt (tt t).e).sz l else ps (tt t).fs l))
  | .load t p => .val (.load (sh (tt t)) (ra p))
  | .store t p x => .store (tt t).sz (ra p) (ra x)
  | .nilCheck x => .val (.nilck (ra x))
  | .binOp b t x y _ => bn b (tt t) x y
  | .unOp u _ x => .val (.un u (ra x))
  | .convert s t x => cv d (tt s) (tt t) x
  | .fieldAddr t x i => .val (.faddr (fo (tt t).fs i) (ra x))
  | .field t x i => .val (.fld (fo (tt t).fs i) (fh (tt t).fs i) (ra x))
  | .indexAddr t x i => .val (.iaddr (tt (tt t).e).sz (bif (tt t).k == 7 then some (tt t).n else none) (ra x) (ra i))
  | .index t x i => bif (tt t).k == 7 then .val (.aidx (tt t).n (tt (tt t).e).sz (sh (tt (tt t).e)) (ra x) (ra i)) else .val (.idx (ra x) (ra i))
  | .slice t x a b c => .val (.slc (bif (tt t).k == 2 then none else some (tt (tt t).e).sz) (ra x) (rp a) (rp b) (rp c))
  | .extract x i => .val (.ext (ra x) i)
  | .makeFunc f ⟨a⟩ ⟨b⟩ => .val (.mkfn f (ras a) (ras b))
  | .makeSlice t x y => .mk d (tt t).e (tt (tt t).e).sz (tt (tt t).e).b (tt (tt t).e).z (ra x) (ra y)
  | .buildSlice t n ⟨l⟩ => bif n == 0 then .bsl0 d (tt (tt t).e).sz else .bsl (tt (tt t).e).sz n (tt (tt t).e).z (pa (tt (tt t).e).sz l)
  | .call ⟨.value f, ⟨l⟩, _⟩ => ca f (ras l)
  | .call ⟨.builtin b, ⟨l⟩, ⟨t⟩⟩ => bi d b l (t1 t) (t2 t)
  | .range _ x => .rngs d (ra x)
  | .next x _ => .nxts (ra x)
  | .makeMap _ _ => .mkm d
  | .mapUpdate t x i v => .mput (tt t).x (ra x) (ra i) (ra v)
  | .insert t x i v => .mput (tt t).x (ra x) (ra i) (ra v)
  | .makeInterface t x => .val (.mki t (ra x))
  | .typeAssert x _ t b => .val (.tas t b (zo (tt t)) (ra x))
  | .lookup t x i b => .val (.mget (tt t).x b (zo (tt (tt t).e)) (ra x) (ra i))
  | _ => .bsl0 0 0
def lf : Op → (Operand → List RA → RO) → RO
  | .call ⟨.value f, ⟨l⟩, _⟩, k => k f (ras l)
  | _, _ => .bsl0 0 0
def lp : Op → (RA → RA → TI → RO) → RO
  | .call ⟨_, ⟨[x, y]⟩, ⟨t :: _⟩⟩, k => k (ra x) (ra y) (tt t)
  | _, _ => .bsl0 0 0
def lb : Op → (Nat → List (Nat × Operand) → TI → RO) → RO
  | .buildSlice t n ⟨l⟩, k => k n l (tt (tt t).e)
  | _, _ => .bsl0 0 0
def ld (f : Option Nat → RA → VO) : Op → RO
  | .load t p => .val (f (sh (tt t)) (ra p))
  | _ => .bsl0 0 0
def sv (l s : Nat) : Op → RO
  | .load t p => .val (.loadv l s (sh (tt t)) (ra p))
  | .store t p x => .storev l s (tt t).sz (ra p) (ra x)
  | _ => .bsl0 0 0
def ls (k : TI → RA → Option RA → Option RA → Option RA → RO) : Op → RO
  | .slice t x a b c => k (tt (tt t).e) (ra x) (rp a) (rp b) (rp c)
  | _ => .bsl0 0 0
def lq : Option RA → RA
  | some x => x
  | none => .t 0
def lm : Op → RO
  | .lookup t x i b => .val (.mgetp (tt t).x b (zo (tt (tt t).e)) (ra x) (ra i))
  | _ => .bsl0 0 0
def la : Op → RO
  | _ => .bsl0 0 0
def hd : List RA → RA
  | x :: _ => x
  | [] => .t 0
def op (d : Nat) (o : Op) : HV → RO
  | .d => o1 d o
  | .ro r => r
  | .lv l s => sv l s o
  | .lr => ld .loadr o
  | .lo => ld .loado o
  | .cc => lf o fun f l => .call (ra f) l
  | .cf => lf o fun f l => .callF (ra f) l
  | .cg => lf o fun f l => .callG (ra f) l
  | .ck i s => lf o fun f l => .callK i s (ra f) l
  | .sm => lf o fun _ l => .val (.same (hd l))
  | .ac => lp o fun x y t => .appc d (tt t.e).sz (tt t.e).b t.e x y
  | .bv => lb o fun n l t => .bslv d t.sz n t.z (pa t.sz l)
  | .sl => ls (fun _ x _ b c => .val (.slcl x (lq b) (lq c))) o
  | .mp => lm o

def dd : Option Nat → Nat
  | some d => d
  | none => 0
def ds : List Oper → List Nat
  | [] => []
  | o :: l => dd o.dst :: ds l
def nt : List Nat → Nat → Nat
  | [], _ => 0
  | x :: _, 0 => x
  | _ :: l, i + 1 => nt l i
def gd (l : List Nat) : Option (Nat × Bool) → Option (Nat × Bool)
  | none => none
  | some (j, w) => some (nt l j, w)
def its (ks : List (Nat × HV)) (l : List Nat) : Nat → List Oper → List Am.Item
  | _, [] => []
  | k, o :: os => ⟨o.dst, op (dd o.dst) o.op (lk .d ks k), gd l o.guard⟩ :: its ks l (k + 1) os

def wr : List GO → RC → RC
  | [], c => c
  | g :: l, c => .gho g (wr l c)
def dr : List Nat → RC → RC
  | [], c => c
  | s :: l, c => dr l (.gho (.drop s) c)
def s1 (d : Nat) : Op → List Nat
  | .alloc t => [ok d t]
  | .box t _ => [ok d t]
  | .range _ _ => [d]
  | .makeMap _ _ => [d]
  | _ => []
def so : List Oper → List Nat
  | [] => []
  | o :: l => s1 (dd o.dst) o.op ++ so l
def me (k : Nat) : List Nat → Bool
  | [] => false
  | i :: l => bif i == k then true else me k l
def st (no : List Nat) : Code → List Nat
  | .region n ⟨l⟩ _ => bif me n no then [] else so l
  | .seq a b => st no a ++ st no b
  | .cond _ a b => st no a ++ st no b
  | .block _ a => st no a
  | .loop a => st no a
  | .scope a => st no a
  | _ => []
def pn (pe : List (Nat × List GO)) : Code → List GO
  | .region n _ _ => lk [] pe n
  | .seq _ b => pn pe b
  | .cond _ a b => pn pe a ++ pn pe b
  | .block _ a => pn pe a
  | .loop a => pn pe a
  | .scope a => pn pe a
  | _ => []
def hg : Code → Bool
  | .goto _ => true
  | .seq a b => hg a || hg b
  | .cond _ a b => hg a || hg b
  | .block _ a => hg a
  | .loop a => hg a
  | .scope a => hg a
  | _ => false
def lbl : Code → Option Nat
  | .seq a b => match lbl a with
    | some l => some l
    | none => lbl b
  | .label l => some l
  | _ => none
def fl : RC → Option RC
  | .seq a b => match fl a with
    | some r => some (.seq r b)
    | none => fl b
  | .gho _ a => fl a
  | .lab => some .skip
  | _ => none
def sj (no : List Nat) (x : Code) (l : Nat) : List Nat := match findLabel x l with
  | some r => st no r
  | none => []
def sk (no : List Nat) (x : Code) (c : RC) (l : Nat) : RC := match fl c with
  | some r => .jump l c (dr (sj no x l) r)
  | none => .no
def sc (no : List Nat) (x : Code) (c : RC) : RC := match lbl x with
  | some l => bif hg x then sk no x c l else .scope c
  | none => .scope c
def cd (no : List Nat) (ov : List (Nat × List (Nat × HV))) (pe be : List (Nat × List GO)) : Code → RC
  | .skip => .skip
  | .region n ⟨l⟩ b => bif me n no then .no else wr (lk [] be n) (bif b then .draw (its (lk [] ov n) (ds l) 0 l) else .reg (its (lk [] ov n) (ds l) 0 l))
  | .seq a b => .seq (cd no ov pe be a) (wr (pn pe a) (cd no ov pe be b))
  | .cond x a b => .cond (ra x) (cd no ov pe be a) (cd no ov pe be b)
  | .block n a => .block n (cd no ov pe be a)
  | .loop a => .loop (dr (st no a) (cd no ov pe be a))
  | .exit n => .exit n
  | .scope a => sc no a (cd no ov pe be a)
  | .goto n => .goto n
  | .label _ => .lab
  | .ret => .ret
  | _ => .no
def bo : Option Code → Code
  | some c => c
  | none => .skip
def fn (f : Func) (no : List Nat := []) (ov : List (Nat × List (Nat × HV)) := []) (pe be : List (Nat × List GO) := []) : RC := cd no ov pe be (bo f.body)
def r1 : List ResultVar → List RR
  | [] => []
  | .tmp t :: l => .tmp t :: r1 l
  | .cell t y :: l => .cell t (sh (tt y)) :: r1 l
def rs (f : Func) : List RR := r1 f.results.toList

end Go.Proofs.YtdgbidbkcigkhaaGreatDoor.Cg

set_option linter.defProp false
namespace Go.Proofs.YtdgbidbkcigkhaaGreatDoor.Am
open Go
def eC := (And.intro (And.intro (And.intro (And.intro (And.intro (And.intro (And.intro (And.intro @Cg.av.eq_1 @Cg.av.eq_2) (And.intro @Cg.av.eq_3 @Cg.av.eq_4)) (And.intro (And.intro @Cg.av.eq_5 @Cg.av.eq_6) (And.intro @Cg.av.eq_7 @Cg.av.eq_8))) (And.intro (And.intro (And.intro @Cg.av.eq_9 @Cg.av.eq_10) (And.intro @Cg.av.eq_11 @Cg.avs.eq_1)) (And.intro (And.intro @Cg.avs.eq_2 @Cg.ra.eq_1) (And.intro @Cg.ra.eq_2 (And.intro @Cg.ra.eq_3 @Cg.ra.eq_4))))) (And.intro (And.intro (And.intro (And.intro @Cg.ras.eq_1 @Cg.ras.eq_2) (And.intro @Cg.rp.eq_1 @Cg.rp.eq_2)) (And.intro (And.intro @Cg.sh.eq_1 @Cg.fo.eq_1) (And.intro @Cg.fo.eq_2 (And.intro @Cg.fo.eq_3 @Cg.fh.eq_1)))) (And.intro (And.intro (And.intro @Cg.fh.eq_2 @Cg.fh.eq_3) (And.intro @Cg.fz.eq_1 @Cg.fz.eq_2)) (And.intro (And.intro @Cg.fz.eq_3 @Cg.ps.eq_1) (And.intro @Cg.ps.eq_2 (And.intro @Cg.pa.eq_1 @Cg.pa.eq_2)))))) (And.intro (And.intro (And.intro (And.intro (And.intro @Cg.nl.eq_1 @Cg.nl.eq_2) (And.intro @Cg.ok.eq_1 @Cg.ng.eq_1)) (And.intro (And.intro @Cg.ng.eq_2 @Cg.lk.eq_1) (And.intro @Cg.lk.eq_2 (And.intro @Cg.lz.eq_1 @Cg.zo.eq_1)))) (And.intro (And.intro (And.intro @Cg.bt.eq_1 @Cg.ca.eq_1) (And.intro @Cg.ca.eq_2 @Cg.bn.eq_1)) (And.intro (And.intro @Cg.cv.eq_1 @Cg.bi.eq_1) (And.intro @Cg.bi.eq_2 (And.intro @Cg.bi.eq_3 @Cg.bi.eq_4))))) (And.intro (And.intro (And.intro (And.intro @Cg.bi.eq_5 @Cg.bi.eq_6) (And.intro @Cg.bi.eq_7 @Cg.bi.eq_8)) (And.intro (And.intro @Cg.t1.eq_1 @Cg.t1.eq_2) (And.intro @Cg.t2.eq_1 (And.intro @Cg.t2.eq_2 @Cg.o1.eq_1)))) (And.intro (And.intro (And.intro @Cg.o1.eq_2 @Cg.o1.eq_3) (And.intro @Cg.o1.eq_4 @Cg.o1.eq_5)) (And.intro (And.intro @Cg.o1.eq_6 @Cg.o1.eq_7) (And.intro @Cg.o1.eq_8 (And.intro @Cg.o1.eq_9 @Cg.o1.eq_10))))))) (And.intro (And.intro (And.intro (And.intro (And.intro (And.intro @Cg.o1.eq_11 @Cg.o1.eq_12) (And.intro @Cg.o1.eq_13 @Cg.o1.eq_14)) (And.intro (And.intro @Cg.o1.eq_15 @Cg.o1.eq_16) (And.intro @Cg.o1.eq_17 (And.intro @Cg.o1.eq_18 @Cg.o1.eq_19)))) (And.intro (And.intro (And.intro @Cg.o1.eq_20 @Cg.o1.eq_21) (And.intro @Cg.o1.eq_22 @Cg.o1.eq_23)) (And.intro (And.intro @Cg.o1.eq_24 @Cg.o1.eq_25) (And.intro @Cg.o1.eq_26 (And.intro @Cg.o1.eq_27 @Cg.o1.eq_28))))) (And.intro (And.intro (And.intro (And.intro @Cg.o1.eq_29 @Cg.o1.eq_30) (And.intro @Cg.o1.eq_31 @Cg.o1.eq_32)) (And.intro (And.intro @Cg.lf.eq_1 @Cg.lf.eq_2) (And.intro @Cg.lp.eq_1 (And.intro @Cg.lp.eq_2 @Cg.lb.eq_1)))) (And.intro (And.intro (And.intro @Cg.lb.eq_2 @Cg.ld.eq_1) (And.intro @Cg.ld.eq_2 @Cg.sv.eq_1)) (And.intro (And.intro @Cg.sv.eq_2 @Cg.sv.eq_3) (And.intro @Cg.ls.eq_1 (And.intro @Cg.ls.eq_2 @Cg.lq.eq_1)))))) (And.intro (And.intro (And.intro (And.intro (And.intro @Cg.lq.eq_2 @Cg.lm.eq_1) (And.intro @Cg.lm.eq_2 @Cg.la.eq_1)) (And.intro (And.intro @Cg.hd.eq_1 @Cg.hd.eq_2) (And.intro @Cg.op.eq_1 (And.intro @Cg.op.eq_2 @Cg.op.eq_3)))) (And.intro (And.intro (And.intro @Cg.op.eq_4 @Cg.op.eq_5) (And.intro @Cg.op.eq_6 @Cg.op.eq_7)) (And.intro (And.intro @Cg.op.eq_8 @Cg.op.eq_9) (And.intro @Cg.op.eq_10 (And.intro @Cg.op.eq_11 @Cg.op.eq_12))))) (And.intro (And.intro (And.intro (And.intro @Cg.op.eq_13 @Cg.op.eq_14) (And.intro @Cg.dd.eq_1 @Cg.dd.eq_2)) (And.intro (And.intro @Cg.ds.eq_1 @Cg.ds.eq_2) (And.intro @Cg.nt.eq_1 (And.intro @Cg.nt.eq_2 @Cg.nt.eq_3)))) (And.intro (And.intro (And.intro @Cg.gd.eq_1 @Cg.gd.eq_2) (And.intro @Cg.its.eq_1 @Cg.its.eq_2)) (And.intro (And.intro @Cg.wr.eq_1 @Cg.wr.eq_2) (And.intro @Cg.dr.eq_1 (And.intro @Cg.dr.eq_2 @Cg.s1.eq_1)))))))) (And.intro (And.intro (And.intro (And.intro (And.intro (And.intro (And.intro @Cg.s1.eq_2 @Cg.s1.eq_3) (And.intro @Cg.s1.eq_4 @Cg.s1.eq_5)) (And.intro (And.intro @Cg.so.eq_1 @Cg.so.eq_2) (And.intro @Cg.me.eq_1 (And.intro @Cg.me.eq_2 @Cg.st.eq_1)))) (And.intro (And.intro (And.intro @Cg.st.eq_2 @Cg.st.eq_3) (And.intro @Cg.st.eq_4 @Cg.st.eq_5)) (And.intro (And.intro @Cg.st.eq_6 @Cg.st.eq_7) (And.intro @Cg.pn.eq_1 (And.intro @Cg.pn.eq_2 @Cg.pn.eq_3))))) (And.intro (And.intro (And.intro (And.intro @Cg.pn.eq_4 @Cg.pn.eq_5) (And.intro @Cg.pn.eq_6 @Cg.pn.eq_7)) (And.intro (And.intro @Cg.hg.eq_1 @Cg.hg.eq_2) (And.intro @Cg.hg.eq_3 (And.intro @Cg.hg.eq_4 @Cg.hg.eq_5)))) (And.intro (And.intro (And.intro @Cg.hg.eq_6 @Cg.hg.eq_7) (And.intro @Cg.lbl.eq_1 @Cg.lbl.eq_2)) (And.intro (And.intro @Cg.lbl.eq_3 @Cg.fl.eq_1) (And.intro @Cg.fl.eq_2 (And.intro @Cg.fl.eq_3 @Cg.fl.eq_4)))))) (And.intro (And.intro (And.intro (And.intro (And.intro @Cg.sj.eq_1 @Cg.sk.eq_1) (And.intro @Cg.sc.eq_1 @Cg.cd.eq_1)) (And.intro (And.intro @Cg.cd.eq_2 @Cg.cd.eq_3) (And.intro @Cg.cd.eq_4 (And.intro @Cg.cd.eq_5 @Cg.cd.eq_6)))) (And.intro (And.intro (And.intro @Cg.cd.eq_7 @Cg.cd.eq_8) (And.intro @Cg.cd.eq_9 @Cg.cd.eq_10)) (And.intro (And.intro @Cg.cd.eq_11 @Cg.cd.eq_12) (And.intro @Cg.bo.eq_1 (And.intro @Cg.bo.eq_2 @Cg.fn.eq_1))))) (And.intro (And.intro (And.intro (And.intro @Cg.r1.eq_1 @Cg.r1.eq_2) (And.intro @Cg.r1.eq_3 @Cg.rs.eq_1)) (And.intro (And.intro @Cg.tt.eq_1 @Cg.tt.eq_2) (And.intro @Cg.tt.eq_3 (And.intro @Cg.tt.eq_4 @Cg.tt.eq_5)))) (And.intro (And.intro (And.intro @Cg.tt.eq_6 @Cg.tt.eq_7) (And.intro @Cg.tt.eq_8 @Cg.tt.eq_9)) (And.intro (And.intro @Cg.tt.eq_10 @Cg.tt.eq_11) (And.intro @Cg.tt.eq_12 (And.intro @Cg.tt.eq_13 @Cg.tt.eq_14))))))) (And.intro (And.intro (And.intro (And.intro (And.intro (And.intro @Cg.tt.eq_15 @Cg.tt.eq_16) (And.intro @Cg.tt.eq_17 @Cg.tt.eq_18)) (And.intro (And.intro @Cg.tt.eq_19 @Cg.tt.eq_20) (And.intro @Cg.tt.eq_21 (And.intro @Cg.tt.eq_22 @Cg.tt.eq_23)))) (And.intro (And.intro (And.intro @Cg.tt.eq_24 @Cg.tt.eq_25) (And.intro @Cg.tt.eq_26 @Cg.tt.eq_27)) (And.intro (And.intro @Cg.tt.eq_28 @Cg.tt.eq_29) (And.intro @Cg.tt.eq_30 (And.intro @Cg.tt.eq_31 @Cg.tt.eq_32))))) (And.intro (And.intro (And.intro (And.intro @Cg.tt.eq_33 @Cg.tt.eq_34) (And.intro @Cg.tt.eq_35 @Cg.tt.eq_36)) (And.intro (And.intro @Cg.tt.eq_37 @Cg.tt.eq_38) (And.intro @Cg.tt.eq_39 (And.intro @Cg.tt.eq_40 @Cg.tt.eq_41)))) (And.intro (And.intro (And.intro @Cg.tt.eq_42 @Cg.tt.eq_43) (And.intro @Cg.tt.eq_44 @Cg.tt.eq_45)) (And.intro (And.intro @Cg.tt.eq_46 @Cg.tt.eq_47) (And.intro @Cg.tt.eq_48 (And.intro @Cg.tt.eq_49 @Cg.tt.eq_50)))))) (And.intro (And.intro (And.intro (And.intro (And.intro @Cg.tt.eq_51 @Cg.tt.eq_52) (And.intro @Cg.tt.eq_53 @Cg.tt.eq_54)) (And.intro (And.intro @Cg.tt.eq_55 @Cg.tt.eq_56) (And.intro @Cg.tt.eq_57 (And.intro @Cg.tt.eq_58 @Cg.tt.eq_59)))) (And.intro (And.intro (And.intro @Cg.tt.eq_60 @Cg.tt.eq_61) (And.intro @Cg.tt.eq_62 @Cg.tt.eq_63)) (And.intro (And.intro @Cg.tt.eq_64 @Cg.tt.eq_65) (And.intro @Cg.tt.eq_66 (And.intro @Cg.tt.eq_67 @Cg.tt.eq_68))))) (And.intro (And.intro (And.intro (And.intro @Cg.tt.eq_69 @Cg.tt.eq_70) (And.intro @Cg.tt.eq_71 @Cg.tt.eq_72)) (And.intro (And.intro @Cg.glo.eq_1 @Cg.glo.eq_2) (And.intro @Cg.glo.eq_3 (And.intro @cond_true.{0} @cond_true.{1})))) (And.intro (And.intro (And.intro @cond_false.{0} @cond_false.{1}) (And.intro @Bool.true_and @Bool.false_and)) (And.intro (And.intro @Bool.and_true @Bool.and_false) (And.intro @List.nil_append.{0} (And.intro @List.cons_append.{0} @List.headD_cons.{0})))))))))
end Go.Proofs.YtdgbidbkcigkhaaGreatDoor.Am

namespace Go.Proofs.YtdgbidbkcigkhaaGreatDoor.Rc
open Go Am Cg
def hs : Nat → List Nat × List (Nat × List (Nat × HV)) × List (Nat × List GO) × List (Nat × List GO)
  | 4 => ([], [(6, [(3, .lr), (7, .lr)])], [], [])
  | 5 => ([], [], [(1, [.vec 3 3 1])], [])
  | 6 => ([], [], [(1, [.vec 3 3 1])], [])
  | 9 => ([], [(4, [(0, .lv 0 1), (1, .lv 0 2), (6, .lv 0 3), (13, .lv 0 4), (14, .lv 0 5)]), (5, [(0, .lv 0 4), (1, .lv 0 5), (8, .lv 0 6)])], [], [])
  | 15 => ([], [], [(1, [.vecc 14 4 1100 4])], [])
  | 29 => ([], [(0, [(4, .lo), (8, .lo), (12, .lr), (14, .lr), (19, .lo), (23, .lo), (27, .lr), (29, .lr), (32, .lv 0 4), (33, .lv 0 5)]), (15, [(3, .lo), (8, .lo)])], [(1, [.vec 6 6 3]), (7, [.vec 9 9 1])], [(15, [.pub 6 6, .pub 9 9])])
  | 31 => ([], [(12, [(1, .lv 0 5), (2, .lv 0 6), (5, .lv 0 5), (7, .lv 0 8), (12, .lv 0 10)])], [], [])
  | 35 => ([], [(12, [(7, .lr), (13, .lr)]), (14, [(7, .lr), (13, .lr)])], [], [])
  | 44 => ([], [(7, [(0, .lv 0 3), (2, .lv 0 3), (5, .lr), (8, .lv 0 5), (10, .ck 0 3)])], [], [])
  | 49 => ([], [], [(1, [.vecc 6 5 1100 8])], [])
  | 51 => ([], [(4, [(0, .lv 0 6), (2, .lv 0 13), (3, .lv 0 5), (5, .lv 0 9), (13, .lv 0 15)])], [], [])
  | 54 => ([], [(3, [(0, .lv 0 3), (3, .lv 0 3), (6, .lr), (7, .lv 0 5)])], [], [])
  | 55 => ([], [(7, [(1, .lv 0 3), (4, .lr), (6, .lv 0 9), (12, .lv 0 10)])], [(1, [.vecc 7 5 1100 8])], [])
  | 77 => ([], [(4, [(5, .lr), (9, .lr)])], [], [])
  | 79 => ([], [(4, [(5, .lr), (9, .lr)])], [], [])
  | 82 => ([], [(4, [(5, .lr), (9, .lr)])], [], [])
  | 85 => ([], [(4, [(5, .lr), (9, .lr)])], [], [])
  | 96 => ([], [(4, [(1, .lv 0 4), (5, .lv 0 4), (10, .lv 0 4), (12, .lv 0 4), (20, .lv 0 4), (22, .lv 0 1), (27, .lr)])], [], [])
  | 98 => ([], [(7, [(2, .lv 0 6), (5, .lv 0 6)])], [], [])
  | 112 => ([], [(6, [(3, .lo), (4, .lv 0 3), (8, .lo), (16, .lv 0 7), (17, .lv 0 8)])], [], [])
  | 113 => ([], [], [(1, [.vecc 6 3 1100 7])], [])
  | 114 => ([], [(11, [(4, .lv 0 6), (9, .lr), (10, .lv 0 10)])], [(1, [.vecc 6 4 1100 14])], [])
  | 117 => ([], [(5, [(1, .lv 0 4), (4, .lr), (6, .lv 0 5), (9, .lr), (10, .lv 0 8), (11, .lv 0 9)])], [], [])
  | 121 => ([], [(4, [(2, .lv 0 4), (5, .lr), (7, .lv 0 10), (13, .lv 0 11)]), (11, [(2, .lv 0 4), (5, .lr), (7, .lv 0 14), (13, .lv 0 15)]), (12, [(2, .lv 0 4), (5, .lr), (7, .lv 0 14), (13, .lv 0 17)])], [], [])
  | 127 => ([], [(7, [(7, .lv 0 6), (13, .lr)])], [(3, [.vec 4 4 8])], [])
  | 128 => ([], [(7, [(1, .lv 0 7), (2, .lv 0 3), (3, .lv 0 4), (4, .lv 0 9), (9, .lv 0 7)]), (15, [(1, .lv 0 10), (3, .lv 0 12), (5, .lv 0 3), (6, .lv 0 4), (8, .lv 0 12), (14, .lv 0 10)])], [(3, [.vecc 7 3 1100 7]), (11, [.vecc 10 4 1101 14])], [])
  | 146 => ([], [(1, [(1, .lv 0 3), (2, .cc), (5, .cc)])], [], [])
  | 147 => ([], [(1, [(1, .lv 0 3), (2, .cc), (5, .cc)])], [], [])
  | 152 => ([], [(1, [(2, .lv 0 4), (3, .mp), (8, .lv 0 9)])], [], [])
  | 159 => ([], [(6, [(1, .lv 0 5), (3, .lv 0 6), (4, .lv 0 7)]), (8, [(1, .lv 0 5), (2, .lv 0 6), (3, .lv 0 7)]), (9, [(1, .lv 0 4), (5, .lv 0 10), (6, .lv 0 6), (7, .lv 0 7)]), (2, [(1, .lv 0 5), (2, .lv 0 6), (3, .lv 0 7)]), (22, [(1, .lv 0 5), (3, .lv 0 6), (4, .lv 0 7)]), (27, [(1, .lv 0 5), (2, .lv 0 6), (3, .lv 0 7)]), (29, [(1, .lv 0 5), (2, .lv 0 6), (3, .lv 0 7)]), (30, [(0, .lv 0 15), (1, .lv 0 13), (2, .lv 0 6), (3, .lv 0 7)])], [], [])
  | 161 => ([17], [], [], [])
  | 162 => ([], [(2, [(0, .lv 0 1), (2, .lv 0 3)]), (3, [(1, .lv 0 1), (3, .lv 0 1), (5, .lv 0 1), (8, .lv 0 3)])], [], [])
  | 164 => ([], [(13, [(1, .cg)]), (16, [(3, .cg)])], [], [])
  | 167 => ([], [(7, [(7, .lr), (9, .lv 0 11)])], [(2, [.vec 8 8 4])], [])
  | 170 => ([], [], [(5, [.vec 3 3 7])], [])
  | 172 => ([], [(4, [(2, .lv 0 5), (5, .lr), (7, .lv 0 13), (13, .lv 0 14)]), (5, [(2, .lv 0 5), (5, .lr), (7, .lv 0 13), (13, .lv 0 16)]), (10, [(1, .lv 0 8), (3, .lv 0 5), (5, .lv 0 13), (10, .lv 0 8)]), (8, [(1, .lv 0 5), (4, .lv 0 5), (8, .lr), (9, .lv 0 8), (11, .lv 0 5), (13, .lv 0 19), (20, .lv 0 8)])], [], [])
  | 175 => ([], [(1, [(2, .lv 0 4), (5, .lr), (8, .lv 0 4), (11, .lr), (14, .lv 0 10), (15, .lv 0 11)])], [], [])
  | 177 => ([], [(1, [(0, .lv 0 6), (5, .lr), (11, .lv 0 11)]), (13, [(0, .lv 0 5), (1, .lv 0 11), (6, .lr)])], [], [])
  | 186 => ([], [(7, [(7, .lv 0 6), (13, .lr)])], [(3, [.vec 4 4 14])], [])
  | 204 => ([], [(1, [(4, .lo), (6, .lv 0 4), (8, .lr), (13, .lo), (15, .lv 0 5), (17, .lr), (20, .lv 0 7), (21, .lv 0 8)])], [], [])
  | 205 => ([], [(6, [(3, .lr), (7, .lr), (10, .lv 0 7), (11, .lv 0 8)])], [], [])
  | 206 => ([], [(3, [(1, .lv 0 1), (3, .lv 0 2), (4, .lv 0 3)]), (6, [(1, .lv 0 1), (2, .lv 0 2), (3, .lv 0 3)]), (7, [(0, .lv 0 8), (1, .lv 0 6), (2, .lv 0 2), (3, .lv 0 3)])], [], [])
  | 207 => ([], [(3, [(1, .lv 0 3), (3, .lv 0 4), (4, .lv 0 5)]), (5, [(1, .lv 0 3), (2, .lv 0 4), (3, .lv 0 5)]), (8, [(1, .lv 0 3), (3, .lv 0 4), (4, .lv 0 5)]), (10, [(1, .lv 0 3), (2, .lv 0 4), (3, .lv 0 5)]), (11, [(3, .lv 0 8), (4, .lv 0 4), (5, .lv 0 5)])], [], [])
  | 208 => ([], [(3, [(0, .lv 0 1), (3, .lv 0 3)]), (4, [(1, .lv 0 6), (3, .lv 0 1)]), (5, [(0, .lv 0 1), (2, .lv 0 3)]), (6, [(1, .lv 0 6), (3, .lv 0 3)])], [], [])
  | 213 => ([], [(10, [(1, .lv 0 2), (4, .lv 0 3)])], [], [])
  | 216 => ([], [(1, [(1, .lv 0 2), (3, .lv 0 3), (6, .lv 0 2), (8, .lv 0 3)])], [], [])
  | 219 => ([], [(1, [(1, .lv 0 2), (3, .lv 0 3), (6, .lv 0 2), (8, .lv 0 3)])], [], [])
  | 221 => ([], [(1, [(1, .lv 0 2), (3, .lv 0 3), (6, .lv 0 2), (8, .lv 0 3), (11, .lv 0 2), (13, .lv 0 3), (16, .lv 0 2), (18, .lv 0 3)])], [], [])
  | 225 => ([], [(12, [(5, .cg)])], [], [])
  | 227 => ([], [], [(5, [.vec 3 3 7])], [])
  | 228 => ([], [(1, [(2, .lv 0 3), (5, .lr), (7, .lv 0 5), (13, .lv 0 7)]), (4, [(0, .lv 0 7), (2, .lv 0 3), (3, .lv 0 7), (5, .lv 0 5), (6, .cc)])], [], [])
  | 229 => ([], [], [(1, [.vecc 2288 1 2005 1])], [])
  | 231 => ([7], [], [], [])
  | 233 => ([], [(11, [(2, .lv 0 6), (5, .lr), (6, .lv 0 10), (7, .lv 0 9), (8, .lv 0 17), (10, .lv 0 12)])], [], [])
  | 240 => ([], [(12, [(1, .lv 0 7), (4, .lv 0 7), (8, .lr), (9, .lv 0 15)])], [(0, [.vecc 7 5 1100 8])], [])
  | 251 => ([], [(4, [(8, .lr), (13, .lr), (14, .cc)]), (6, [(9, .lr), (13, .lr)])], [], [])
  | 252 => ([], [(5, [(4, .lr), (8, .lr), (9, .cc)]), (11, [(9, .lr), (13, .lr)]), (17, [(4, .lr), (8, .lr), (9, .cc)]), (23, [(9, .lr), (13, .lr)]), (35, [(6, .lr), (10, .lr), (11, .cc)])], [], [])
  | 256 => ([], [(4, [(3, .ro (.xb true 306 (.t 16) (.t 18)))])], [], [])
  | 265 => ([], [(3, [(0, .lv 0 1), (3, .lv 0 3)])], [], [])
  | 266 => ([], [(2, [(0, .lv 0 2), (2, .lv 0 5)]), (4, [(0, .lv 0 2), (2, .lv 0 5)]), (6, [(0, .lv 0 2), (2, .lv 0 5)]), (8, [(0, .lv 0 2), (2, .lv 0 5)]), (9, [(0, .lv 0 2), (4, .lv 0 2), (8, .lv 0 5)])], [], [])
  | 267 => ([], [(3, [(0, .lv 0 1), (3, .lv 0 3)])], [], [])
  | 275 => ([], [(3, [(0, .lv 0 1), (4, .lv 0 4)]), (5, [(0, .lv 0 1), (3, .lv 0 4)]), (7, [(0, .lv 0 1), (3, .lv 0 4)]), (8, [(6, .lv 0 7), (9, .lv 0 4)])], [], [])
  | 276 => ([], [(4, [(4, .cg)]), (6, [(4, .cg)]), (10, [(4, .cg)]), (11, [(4, .cg)])], [], [])
  | 277 => ([], [(3, [(1, .lv 0 1), (3, .lv 0 2), (4, .lv 0 3)]), (6, [(1, .lv 0 1), (3, .lv 0 2), (4, .lv 0 3)]), (10, [(1, .lv 0 1), (3, .lv 0 2), (4, .lv 0 3)]), (11, [(0, .lv 0 9), (1, .lv 0 7), (2, .lv 0 2), (3, .lv 0 3)])], [], [])
  | 278 => ([], [(2, [(1, .lv 0 2), (4, .sl), (5, .lv 0 3), (7, .ac), (9, .lv 0 2)])], [], [])
  | 285 => ([], [], [(1, [.vec 3 3 1])], [])
  | 286 => ([], [(1, [(3, .lo), (8, .lo)])], [], [])
  | 287 => ([2, 3, 5], [], [], [])
  | 288 => ([], [], [(1, [.vecc 12 3 1100 7])], [])
  | 290 => ([], [], [(0, [.vecc 5 5 1100 8])], [])
  | 295 => ([], [(10, [(0, .lv 0 4), (1, .lv 0 5), (2, .lv 0 6), (4, .lv 0 7), (6, .lr), (12, .lv 0 10)])], [], [])
  | 297 => ([1], [], [(1, [.vecc 6 4 1100 14])], [])
  | 298 => ([], [(2, [(0, .lv 0 4), (3, .lv 0 4), (5, .lv 0 5), (7, .lr), (8, .lv 0 6)])], [], [])
  | 300 => ([], [(4, [(8, .lr), (13, .lr), (14, .cc)]), (6, [(9, .lr), (13, .lr)])], [], [])
  | 301 => ([], [(5, [(4, .lr), (8, .lr), (9, .cc)]), (11, [(9, .lr), (13, .lr)]), (17, [(4, .lr), (8, .lr), (9, .cc)]), (23, [(9, .lr), (13, .lr)]), (35, [(6, .lr), (10, .lr), (11, .cc)])], [], [])
  | 316 => ([], [(1, [(1, .cg)]), (5, [(2, .cg)]), (9, [(2, .cg)]), (25, [(5, .cg)]), (27, [(3, .cg)]), (30, [(2, .cg)]), (32, [(1, .lv 0 12), (4, .sl), (5, .lv 0 17), (7, .ac)]), (33, [(0, .lv 0 5), (1, .lv 0 6), (2, .lv 0 7), (7, .lv 0 8)])], [(32, [.pub 25 145])], [])
  | 318 => ([], [(1, [(1, .cg)]), (4, [(2, .cg)]), (13, [(1, .cg)]), (18, [(4, .cg)]), (21, [(2, .cg)])], [], [])
  | 320 => ([], [(7, [(5, .cg)]), (10, [(0, .lv 0 5), (1, .lv 0 6), (2, .lv 0 7), (3, .lv 0 10), (4, .lv 0 14), (7, .lv 0 8)]), (13, [(4, .cg)])], [], [])
  | 321 => ([], [(1, [(1, .cg)]), (4, [(3, .cg)]), (7, [(3, .lo), (4, .lv 0 7), (5, .lv 0 11), (11, .lv 0 13)]), (16, [(1, .cg)]), (19, [(0, .lv 0 5), (1, .lv 0 6), (2, .lv 0 7), (3, .lv 0 14), (4, .lv 0 13), (7, .lv 0 8)])], [], [])
  | 322 => ([], [(3, [(1, .lv 0 2), (5, .lo), (14, .lv 0 2)])], [], [])
  | 323 => ([], [(5, [(1, .lv 0 9), (4, .lv 0 3), (5, .lv 0 4), (7, .lv 0 9)]), (6, [(2, .lv 0 4)])], [(1, [.vec 7 7 4])], [])
  | 324 => ([], [(4, [(2, .bv)])], [], [])
  | 325 => ([], [(5, [(2, .lv 0 4), (3, .lv 0 3), (4, .lv 0 4), (5, .lv 0 9)])], [(1, [.vec 7 7 4])], [])
  | 326 => ([], [(1, [(1, .lv 0 4), (2, .lv 0 3), (3, .lv 0 4), (4, .lv 0 5)])], [], [])
  | 327 => ([], [(1, [(3, .sm)])], [], [])
  | 333 => ([], [], [(1, [.vecc 10 3 1100 7])], [])
  | 334 => ([], [], [(1, [.vecc 10 4 1100 14])], [])
  | 341 => ([], [(4, [(8, .lr), (13, .lr), (14, .cc)]), (6, [(9, .lr), (13, .lr)])], [], [])
  | 342 => ([], [(5, [(4, .lr), (8, .lr), (9, .cc)]), (11, [(9, .lr), (13, .lr)]), (17, [(4, .lr), (8, .lr), (9, .cc)]), (23, [(9, .lr), (13, .lr)]), (35, [(6, .lr), (10, .lr), (11, .cc)])], [], [])
  | 343 => ([], [(3, [(13, .lr), (19, .lr)])], [], [])
  | 344 => ([5, 10], [], [], [])
  | 345 => ([], [(1, [(2, .ro (.xb false 369 (.t 5) (.t 6)))])], [], [])
  | 352 => ([], [(4, [(4, .cg)]), (5, [(2, .cg)]), (8, [(3, .lo), (4, .lv 0 4), (5, .lv 0 8), (9, .lv 0 6)])], [], [])
  | 353 => ([], [(1, [(4, .lo), (9, .lo), (11, .lv 0 3), (13, .lv 0 3)])], [], [])
  | 354 => ([], [], [(1, [.vecc 9 5 1100 8])], [])
  | 356 => ([], [(1, [(1, .cg)]), (8, [(2, .cg)]), (11, [(3, .cg)]), (14, [(1, .lv 0 12), (5, .lo)])], [], [])
  | 357 => ([], [(2, [(1, .lv 0 2), (4, .sl), (5, .lv 0 3), (7, .ac), (9, .lv 0 4)])], [], [])
  | 358 => ([], [(6, [(1, .cg)])], [], [])
  | 359 => ([], [(3, [(1, .lv 0 5), (2, .lv 0 4)])], [], [])
  | 360 => ([], [(3, [(0, .lv 0 2), (3, .lv 0 5)]), (8, [(0, .lv 0 2), (2, .lv 0 5)]), (11, [(0, .lv 0 2), (2, .lv 0 5)]), (14, [(1, .lv 0 8), (4, .lv 0 8), (6, .lv 0 8), (8, .lv 0 5)])], [], [])
  | 367 => ([], [(3, [(13, .lr), (19, .lr)])], [], [])
  | 372 => ([], [(3, [(1, .lv 0 3), (3, .lv 0 3), (5, .lv 0 2), (7, .lv 0 2)])], [], [])
  | 375 => ([], [(1, [(2, .lv 0 4), (4, .lv 0 5), (6, .lr), (9, .lv 0 4), (11, .lv 0 6), (13, .lr), (16, .lv 0 10), (17, .lv 0 11)])], [], [])
  | 376 => ([], [(3, [(13, .lr), (19, .lr)])], [], [])
  | _ => ([], [], [], [])
def rk (k : Nat) (f : Func) : RC := cd (hs k).1 (hs k).2.1 (hs k).2.2.1 (hs k).2.2.2 (bo f.body)
def KM : Nat := 2461385356647606703323343780120738565581944020881124640666168438714209183567054049695432247943774015003975389282288
noncomputable def cx (k : Nat) : Bool := match Tryz.prog.funcs[k]? with
  | some f => f.body.isSome && !(f.name == "runtime.NumGoroutine") && chkC Tryz.prog f.ntmps (rk k f) (f.body.getD .skip) && chkR Tryz.prog f.results.toList (rs f)
  | none => false
theorem kk : ((List.range 380).all fun k => !bt KM k || cx k) = true := by decide +kernel
theorem kc {k : Nat} {f : Func} (hf : Tryz.prog.funcs[k]? = some f) (hk : bt KM k = true) (hl : k < 380) : CK Tryz.prog k f.ntmps (rk k f) (rs f) := by
  have h := List.all_eq_true.1 kk k (List.mem_range.2 hl)
  rw [hk] at h
  unfold cx at h
  rw [hf] at h
  exact ck hf rfl h
section
variable {k : Nat} {f : Func} {args : List AV} {m : Mem} (hf : Tryz.prog.funcs[k]? = some f)
include hf
theorem wG {R : AV → Mem → Prop} (w : awp Tryz.prog (rk k f) (St.enter args m) (AEnds (rs f) m.length R)) (hk : bt KM k = true := by rfl) (hl : Nat.blt k 380 = true := by rfl) (ha : Nat.ble args.length f.ntmps = true := by rfl) : ACalls Tryz.prog k args m R := (kc hf hk (Nat.le_of_ble_eq_true hl)).go (Nat.le_of_ble_eq_true ha) w
theorem wF {v : AV} (w : awp Tryz.prog (rk k f) (St.enter args []) (AEnds (rs f) 0 fun x _ => x = v)) (hk : bt KM k = true := by rfl) (hl : Nat.blt k 380 = true := by rfl) (ha : Nat.ble args.length f.ntmps = true := by rfl) : Fn1 Tryz.prog k args v := (kc hf hk (Nat.le_of_ble_eq_true hl)).fn (Nat.le_of_ble_eq_true ha) w
end
noncomputable def ct (k : Nat) : Option (RC × List RR × Nat) := bif bt KM k && Nat.blt k 380 then Tryz.prog.funcs[k]?.map fun f => (rk k f, rs f, f.ntmps) else none
theorem ct_ok {k : Nat} {c : RC} {r : List RR} {n : Nat} (h : ct k = some (c, r, n)) : CK Tryz.prog k n c r := by
  unfold ct at h
  cases hb : (bt KM k && Nat.blt k 380) with
  | false => rw [hb] at h; cases h
  | true =>
    rw [hb, cond_true] at h
    rw [Bool.and_eq_true] at hb
    obtain ⟨f, hf, e⟩ := Option.map_eq_some_iff.1 h
    cases e
    exact kc hf hb.1 (Nat.le_of_ble_eq_true hb.2)
set_option linter.defProp false
def eK := (And.intro (And.intro (And.intro (And.intro (And.intro (And.intro eC (And.intro @rk.eq_1 @hs.eq_1)) (And.intro @hs.eq_2 (And.intro @hs.eq_3 @hs.eq_4))) (And.intro (And.intro @hs.eq_5 (And.intro @hs.eq_6 @hs.eq_7)) (And.intro (And.intro @hs.eq_8 @hs.eq_9) (And.intro @hs.eq_10 @hs.eq_11)))) (And.intro (And.intro (And.intro @hs.eq_12 (And.intro @hs.eq_13 @hs.eq_14)) (And.intro @hs.eq_15 (And.intro @hs.eq_16 @hs.eq_17))) (And.intro (And.intro @hs.eq_18 (And.intro @hs.eq_19 @hs.eq_20)) (And.intro (And.intro @hs.eq_21 @hs.eq_22) (And.intro @hs.eq_23 @hs.eq_24))))) (And.intro (And.intro (And.intro (And.intro @hs.eq_25 (And.intro @hs.eq_26 @hs.eq_27)) (And.intro @hs.eq_28 (And.intro @hs.eq_29 @hs.eq_30))) (And.intro (And.intro @hs.eq_31 (And.intro @hs.eq_32 @hs.eq_33)) (And.intro (And.intro @hs.eq_34 @hs.eq_35) (And.intro @hs.eq_36 @hs.eq_37)))) (And.intro (And.intro (And.intro @hs.eq_38 (And.intro @hs.eq_39 @hs.eq_40)) (And.intro (And.intro @hs.eq_41 @hs.eq_42) (And.intro @hs.eq_43 @hs.eq_44))) (And.intro (And.intro @hs.eq_45 (And.intro @hs.eq_46 @hs.eq_47)) (And.intro (And.intro @hs.eq_48 @hs.eq_49) (And.intro @hs.eq_50 @hs.eq_51)))))) (And.intro (And.intro (And.intro (And.intro (And.intro @hs.eq_52 (And.intro @hs.eq_53 @hs.eq_54)) (And.intro @hs.eq_55 (And.intro @hs.eq_56 @hs.eq_57))) (And.intro (And.intro @hs.eq_58 (And.intro @hs.eq_59 @hs.eq_60)) (And.intro (And.intro @hs.eq_61 @hs.eq_62) (And.intro @hs.eq_63 @hs.eq_64)))) (And.intro (And.intro (And.intro @hs.eq_65 (And.intro @hs.eq_66 @hs.eq_67)) (And.intro (And.intro @hs.eq_68 @hs.eq_69) (And.intro @hs.eq_70 @hs.eq_71))) (And.intro (And.intro @hs.eq_72 (And.intro @hs.eq_73 @hs.eq_74)) (And.intro (And.intro @hs.eq_75 @hs.eq_76) (And.intro @hs.eq_77 @hs.eq_78))))) (And.intro (And.intro (And.intro (And.intro @hs.eq_79 (And.intro @hs.eq_80 @hs.eq_81)) (And.intro @hs.eq_82 (And.intro @hs.eq_83 @hs.eq_84))) (And.intro (And.intro @hs.eq_85 (And.intro @hs.eq_86 @hs.eq_87)) (And.intro (And.intro @hs.eq_88 @hs.eq_89) (And.intro @hs.eq_90 @hs.eq_91)))) (And.intro (And.intro (And.intro @hs.eq_92 (And.intro @hs.eq_93 @hs.eq_94)) (And.intro (And.intro @hs.eq_95 @hs.eq_96) (And.intro @hs.eq_97 @hs.eq_98))) (And.intro (And.intro @hs.eq_99 (And.intro @hs.eq_100 @hs.eq_101)) (And.intro (And.intro @hs.eq_102 @hs.eq_103) (And.intro @hs.eq_104 @hs.eq_105)))))))
end Go.Proofs.YtdgbidbkcigkhaaGreatDoor.Rc

namespace Go.Proofs.YtdgbidbkcigkhaaGreatDoor.Rc
open Go Am Cg
abbrev IL := List Am.Item
abbrev CT (k n : Nat) (r : RC) (o : List RR) : Prop := CK Tryz.prog k n r o
abbrev gl2 : List AV := [.int .i64 1, .int .i64 2, .int .i64 2, .int .i64 1, .int .i64 1, .int .i64 6, .int .i64 7, .int .i64 7, .int .i64 1, .int .i64 1, .int .i64 2, .int .i64 2, .int .i64 2, .int .i64 2, .int .i64 6, .int .i64 7, .int .i64 7, .int .i64 2, .int .i64 1, .int .i64 2, .int .i64 2, .int .i64 2, .int .i64 2, .int .i64 6, .int .i64 7, .int .i64 8, .int .i64 9]
abbrev gl0 : List AV := [.int .u64 0, .int .u64 1, .int .u64 2147483648, .int .u64 2147483647, .int .u64 9223372036854775808, .int .u64 9223372036854775807, .int .u64 0, .int .u64 4294967295, .int .u64 0, .int .u64 18446744073709551615, .int .u64 0, .int .u64 0, .int .u64 0, .int .u64 0, .int .u64 0, .int .u64 0, .int .u64 0, .int .u64 2147483647]
def g126_0 : IL := [⟨some 2, .val (.mov (.c (.nils))), none⟩]
def g126_1 : IL := [⟨some 3, .val (.mov (.t 0)), none⟩, ⟨some 4, .isnil false (.t 3), none⟩]
def g126_2 : IL := [⟨some 2, .val (.mov (.c (.nils))), none⟩]
def g126_3 : IL := [⟨some 5, .bsl0 5 4, none⟩, ⟨some 6, .val (.mov (.t 0)), none⟩, ⟨some 7, .app 4 40 158 (.t 5) (.t 6), none⟩, ⟨some 2, .val (.mov (.t 7)), none⟩]
def r126 : RC := .seq (.reg g126_0) (.seq (.seq (.reg g126_1) (.cond (.t 4) (.seq (.reg g126_2) (.gho (.vec 2 2 4) (.gho (.give 2 2 1 1000) (.ret)))) (.skip))) (.seq (.reg g126_3) (.gho (.give 2 5 1 1000) (.ret))))
def o126 : List RR := [.tmp 2]
theorem k126 : CT 126 8 r126 o126 := ck Tryz.func126 Tryz.ntmps126 (by decide +kernel)
end Go.Proofs.YtdgbidbkcigkhaaGreatDoor.Rc

namespace Go.Proofs.YtdgbidbkcigkhaaGreatDoor.Rc
open Go Am Cg
def g182_0 : IL := [⟨some 2, .val (.mov (.c (.nils))), none⟩]
def g182_1 : IL := [⟨some 3, .val (.mov (.t 0)), none⟩, ⟨some 4, .isnil false (.t 3), none⟩]
def g182_2 : IL := [⟨some 2, .val (.mov (.c (.nils))), none⟩]
def g182_3 : IL := [⟨some 5, .bsl0 5 8, none⟩, ⟨some 6, .val (.mov (.t 0)), none⟩, ⟨some 7, .app 8 136 65 (.t 5) (.t 6), none⟩, ⟨some 2, .val (.mov (.t 7)), none⟩]
def r182 : RC := .seq (.reg g182_0) (.seq (.seq (.reg g182_1) (.cond (.t 4) (.seq (.reg g182_2) (.gho (.vec 2 2 8) (.gho (.give 2 2 1 1000) (.ret)))) (.skip))) (.seq (.reg g182_3) (.gho (.give 2 5 1 1000) (.ret))))
def o182 : List RR := [.tmp 2]
theorem k182 : CT 182 8 r182 o182 := ck Tryz.func182 Tryz.ntmps182 (by decide +kernel)
def g244_0 : IL := [⟨some 2, .val (.mov (.c (.nils))), none⟩]
def g244_1 : IL := [⟨some 3, .val (.mov (.t 0)), none⟩, ⟨some 4, .isnil false (.t 3), none⟩]
def g244_2 : IL := [⟨some 2, .val (.mov (.c (.nils))), none⟩]
def g244_3 : IL := [⟨some 5, .bsl0 5 7, none⟩, ⟨some 6, .val (.mov (.t 0)), none⟩, ⟨some 7, .app 7 128 58 (.t 5) (.t 6), none⟩, ⟨some 2, .val (.mov (.t 7)), none⟩]
def r244 : RC := .seq (.reg g244_0) (.seq (.seq (.reg g244_1) (.cond (.t 4) (.seq (.reg g244_2) (.gho (.vec 2 2 7) (.gho (.give 2 2 1 1000) (.ret)))) (.skip))) (.seq (.reg g244_3) (.gho (.give 2 5 1 1000) (.ret))))
def o244 : List RR := [.tmp 2]
theorem k244 : CT 244 8 r244 o244 := ck Tryz.func244 Tryz.ntmps244 (by decide +kernel)
def g246_0 : IL := [⟨some 2, .val (.mov (.c (.nils))), none⟩]
def g246_1 : IL := [⟨some 3, .val (.mov (.t 0)), none⟩, ⟨some 4, .isnil false (.t 3), none⟩]
def g246_2 : IL := [⟨some 2, .val (.mov (.c (.nils))), none⟩]
def g246_3 : IL := [⟨some 5, .bsl0 5 14, none⟩, ⟨some 6, .val (.mov (.t 0)), none⟩, ⟨some 7, .app 14 256 180 (.t 5) (.t 6), none⟩, ⟨some 2, .val (.mov (.t 7)), none⟩]
def r246 : RC := .seq (.reg g246_0) (.seq (.seq (.reg g246_1) (.cond (.t 4) (.seq (.reg g246_2) (.gho (.vec 2 2 14) (.gho (.give 2 2 1 1000) (.ret)))) (.skip))) (.seq (.reg g246_3) (.gho (.give 2 5 1 1000) (.ret))))
def o246 : List RR := [.tmp 2]
theorem k246 : CT 246 8 r246 o246 := ck Tryz.func246 Tryz.ntmps246 (by decide +kernel)
end Go.Proofs.YtdgbidbkcigkhaaGreatDoor.Rc

namespace Go.Proofs.YtdgbidbkcigkhaaGreatDoor.Rc
open Go Am Cg
def g307_0 : IL := [⟨some 4, .val (.mov (.c (.int .i64 0))), none⟩]
def g307_1 : IL := [⟨some 14, .val (.mov (.t 1)), none⟩, ⟨some 15, .val (.len 0 (.t 14)), none⟩, ⟨some 5, .val (.mov (.t 15)), none⟩]
def g307_2 : IL := [⟨some 17, .val (.mov (.t 5)), none⟩, ⟨some 18, .val (.bin .num .eql (.t 17) (.c (.int .i64 0))), none⟩, ⟨some 19, .val (.mov (.t 18)), none⟩, ⟨some 20, .val (.mov (.t 1)), (some (19, false))⟩, ⟨some 21, .val (.mov (.t 0)), (some (19, false))⟩, ⟨some 22, .val (.bin .str .eql (.t 20) (.t 21)), (some (19, false))⟩, ⟨some 23, .val (.pick (.t 19) (.c (.bool true)) (.t 22)), none⟩, ⟨some 16, .val (.mov (.t 23)), none⟩]
def g307_3 : IL := [⟨some 4, .val (.mov (.c (.int .i64 0))), none⟩]
def g307_4 : IL := [⟨some 25, .val (.mov (.t 5)), none⟩, ⟨some 26, .val (.bin .num .eql (.t 25) (.c (.int .i64 1))), none⟩, ⟨some 24, .val (.mov (.t 26)), none⟩]
def g307_5 : IL := [⟨some 27, .val (.mov (.t 0)), none⟩, ⟨some 28, .val (.mov (.t 1)), none⟩, ⟨some 29, .val (.idx (.t 28) (.c (.int .i64 0))), none⟩, ⟨some 30, .call (.f 345) [(.t 27), (.t 29)], none⟩, ⟨some 4, .val (.mov (.t 30)), none⟩]
def g307_6 : IL := [⟨some 32, .val (.mov (.t 5)), none⟩, ⟨some 33, .val (.mov (.t 0)), none⟩, ⟨some 34, .val (.len 0 (.t 33)), none⟩, ⟨some 35, .val (.bin .num .geq (.t 32) (.t 34)), none⟩, ⟨some 31, .val (.mov (.t 35)), none⟩]
def g307_7 : IL := [⟨some 4, .val (.mov (.c (.int .i64 (-1)))), none⟩]
def g307_9 : IL := [⟨some 45, .val (.mov (.t 0)), none⟩, ⟨some 46, .val (.mov (.t 1)), none⟩, ⟨some 47, .call (.f 346) [(.t 45), (.t 46)], none⟩, ⟨some 4, .val (.mov (.t 47)), none⟩]
def g307_10 : IL := [⟨some 48, .val (.mov (.t 1)), none⟩, ⟨some 49, .val (.idx (.t 48) (.c (.int .i64 0))), none⟩, ⟨some 6, .val (.mov (.t 49)), none⟩]
def g307_11 : IL := [⟨some 50, .val (.mov (.t 1)), none⟩, ⟨some 51, .val (.idx (.t 50) (.c (.int .i64 1))), none⟩, ⟨some 7, .val (.mov (.t 51)), none⟩]
def g307_12 : IL := [⟨some 8, .val (.mov (.c (.int .i64 0))), none⟩]
def g307_13 : IL := [⟨some 52, .val (.mov (.t 0)), none⟩, ⟨some 53, .val (.len 0 (.t 52)), none⟩, ⟨some 54, .val (.mov (.t 5)), none⟩, ⟨some 55, .val (.bin .num .sub (.t 53) (.t 54)), none⟩, ⟨some 56, .val (.bin .num .add (.t 55) (.c (.int .i64 1))), none⟩, ⟨some 9, .val (.mov (.t 56)), none⟩]
def g307_14 : IL := [⟨some 10, .val (.mov (.c (.int .i64 0))), none⟩]
def g307_15 : IL := [⟨some 57, .val (.mov (.t 8)), none⟩, ⟨some 58, .val (.mov (.t 9)), none⟩, ⟨some 59, .val (.bin .num .lss (.t 57) (.t 58)), none⟩]
def g307_16 : IL := [⟨some 60, .val (.mov (.t 0)), none⟩, ⟨some 61, .val (.mov (.t 8)), none⟩, ⟨some 62, .val (.idx (.t 60) (.t 61)), none⟩, ⟨some 63, .val (.mov (.t 6)), none⟩, ⟨some 64, .val (.bin .num .neq (.t 62) (.t 63)), none⟩]
def g307_17 : IL := [⟨some 65, .val (.mov (.t 0)), none⟩, ⟨some 66, .val (.mov (.t 8)), none⟩, ⟨some 67, .val (.bin .num .add (.t 66) (.c (.int .i64 1))), none⟩, ⟨some 68, .val (.mov (.t 9)), none⟩, ⟨some 69, .val (.slc none (.t 65) (some (.t 67)) (some (.t 68)) none), none⟩, ⟨some 70, .val (.mov (.t 6)), none⟩, ⟨some 71, .call (.f 345) [(.t 69), (.t 70)], none⟩, ⟨some 11, .val (.mov (.t 71)), none⟩]
def g307_18 : IL := [⟨some 72, .val (.mov (.t 11)), none⟩, ⟨some 73, .val (.bin .num .lss (.t 72) (.c (.int .i64 0))), none⟩]
def g307_19 : IL := [⟨some 4, .val (.mov (.c (.int .i64 (-1)))), none⟩]
def g307_20 : IL := [⟨some 74, .val (.mov (.t 8)), none⟩, ⟨some 75, .val (.mov (.t 11)), none⟩, ⟨some 76, .val (.bin .num .add (.t 75) (.c (.int .i64 1))), none⟩, ⟨some 77, .val (.bin .num .add (.t 74) (.t 76)), none⟩, ⟨some 8, .val (.mov (.t 77)), none⟩]
def g307_21 : IL := [⟨some 78, .val (.mov (.t 0)), none⟩, ⟨some 79, .val (.mov (.t 8)), none⟩, ⟨some 80, .val (.bin .num .add (.t 79) (.c (.int .i64 1))), none⟩, ⟨some 81, .val (.idx (.t 78) (.t 80)), none⟩, ⟨some 82, .val (.mov (.t 7)), none⟩, ⟨some 83, .val (.bin .num .eql (.t 81) (.t 82)), none⟩, ⟨some 84, .val (.mov (.t 83)), none⟩, ⟨some 85, .val (.mov (.t 0)), (some (84, true))⟩, ⟨some 86, .val (.mov (.t 8)), (some (84, true))⟩, ⟨some 87, .val (.mov (.t 8)), (some (84, true))⟩, ⟨some 88, .val (.mov (.t 5)), (some (84, true))⟩, ⟨some 89, .val (.bin .num .add (.t 87) (.t 88)), (some (84, true))⟩, ⟨some 90, .val (.slc none (.t 85) (some (.t 86)) (some (.t 89)) none), (some (84, true))⟩, ⟨some 91, .val (.mov (.t 1)), (some (84, true))⟩, ⟨some 92, .val (.bin .str .eql (.t 90) (.t 91)), (some (84, true))⟩, ⟨some 93, .val (.pick (.t 84) (.t 92) (.c (.bool false))), none⟩]
def g307_22 : IL := [⟨some 94, .val (.mov (.t 8)), none⟩, ⟨some 4, .val (.mov (.t 94)), none⟩]
def g307_23 : IL := [⟨some 95, .val (.mov (.t 8)), none⟩, ⟨some 96, .val (.bin .num .add (.t 95) (.c (.int .i64 1))), none⟩, ⟨some 8, .val (.mov (.t 96)), none⟩]
def g307_24 : IL := [⟨some 97, .val (.mov (.t 10)), none⟩, ⟨some 98, .val (.bin .num .add (.t 97) (.c (.int .i64 1))), none⟩, ⟨some 10, .val (.mov (.t 98)), none⟩]
def g307_26 : IL := [⟨some 108, .val (.mov (.t 0)), none⟩, ⟨some 109, .val (.mov (.t 8)), none⟩, ⟨some 110, .val (.slc none (.t 108) (some (.t 109)) none none), none⟩, ⟨some 111, .val (.mov (.t 1)), none⟩, ⟨some 112, .call (.f 346) [(.t 110), (.t 111)], none⟩, ⟨some 12, .val (.mov (.t 112)), none⟩]
def g307_27 : IL := [⟨some 113, .val (.mov (.t 12)), none⟩, ⟨some 114, .val (.bin .num .geq (.t 113) (.c (.int .i64 0))), none⟩]
def g307_28 : IL := [⟨some 115, .val (.mov (.t 12)), none⟩, ⟨some 116, .val (.mov (.t 8)), none⟩, ⟨some 117, .val (.bin .num .add (.t 115) (.t 116)), none⟩, ⟨some 4, .val (.mov (.t 117)), none⟩]
def g307_29 : IL := [⟨some 4, .val (.mov (.c (.int .i64 (-1)))), none⟩]
def g307_31 : IL := [⟨some 133, .val (.mov (.t 0)), none⟩, ⟨some 134, .val (.mov (.t 8)), none⟩, ⟨some 135, .val (.slc none (.t 133) (some (.t 134)) none none), none⟩, ⟨some 136, .val (.mov (.t 1)), none⟩, ⟨some 137, .call (.f 348) [(.t 135), (.t 136)], none⟩, ⟨some 13, .val (.mov (.t 137)), none⟩]
def g307_32 : IL := [⟨some 138, .val (.mov (.t 13)), none⟩, ⟨some 139, .val (.bin .num .lss (.t 138) (.c (.int .i64 0))), none⟩]
def g307_33 : IL := [⟨some 4, .val (.mov (.c (.int .i64 (-1)))), none⟩]
def g307_34 : IL := [⟨some 140, .val (.mov (.t 8)), none⟩, ⟨some 141, .val (.mov (.t 13)), none⟩, ⟨some 142, .val (.bin .num .add (.t 140) (.t 141)), none⟩, ⟨some 4, .val (.mov (.t 142)), none⟩]
def l307_0 : RC := .seq (.seq (.reg g307_15) (.cond (.t 59) (.skip) (.exit 1))) (.block 2 (.seq (.seq (.reg g307_16) (.cond (.t 64) (.seq (.reg g307_17) (.seq (.seq (.reg g307_18) (.cond (.t 73) (.seq (.reg g307_19) (.ret)) (.skip))) (.reg g307_20))) (.skip))) (.seq (.seq (.reg g307_21) (.cond (.t 93) (.seq (.reg g307_22) (.ret)) (.skip))) (.seq (.reg g307_23) (.seq (.reg g307_24) (.seq (.no) (.cond (.t 107) (.seq (.reg g307_26) (.seq (.seq (.reg g307_27) (.cond (.t 114) (.seq (.reg g307_28) (.ret)) (.skip))) (.seq (.reg g307_29) (.ret)))) (.seq (.no) (.cond (.t 132) (.seq (.reg g307_31) (.seq (.seq (.reg g307_32) (.cond (.t 139) (.seq (.reg g307_33) (.ret)) (.skip))) (.seq (.reg g307_34) (.ret)))) (.skip))))))))))
def g307_35 : IL := [⟨some 4, .val (.mov (.c (.int .i64 (-1)))), none⟩]
def r307 : RC := .seq (.reg g307_0) (.seq (.reg g307_1) (.seq (.block 0 (.seq (.reg g307_2) (.cond (.t 16) (.seq (.reg g307_3) (.ret)) (.seq (.reg g307_4) (.cond (.t 24) (.seq (.reg g307_5) (.ret)) (.seq (.reg g307_6) (.cond (.t 31) (.seq (.reg g307_7) (.ret)) (.seq (.no) (.cond (.t 36) (.seq (.reg g307_9) (.ret)) (.skip)))))))))) (.seq (.reg g307_10) (.seq (.reg g307_11) (.seq (.reg g307_12) (.seq (.reg g307_13) (.seq (.reg g307_14) (.seq (.block 1 (.loop l307_0)) (.seq (.reg g307_35) (.ret))))))))))
def o307 : List RR := [.tmp 4]
theorem k307 : CT 307 143 r307 o307 := ck Tryz.func307 Tryz.ntmps307 (by decide +kernel)
end Go.Proofs.YtdgbidbkcigkhaaGreatDoor.Rc

namespace Go.Proofs.YtdgbidbkcigkhaaGreatDoor.Rc
open Go Am Cg
abbrev g18_0 : IL := [⟨some 1, .boxN 1 (.t 0), none⟩, ⟨some 2, .val (.mov (.c (.bool false))), none⟩]
abbrev g18_1 : IL := [⟨some 7, .val (.faddr 0 (.t 1)), none⟩, ⟨some 8, .val (.load none (.t 7)), none⟩, ⟨some 9, .val (.len 1 (.t 8)), none⟩, ⟨some 10, .val (.bin .num .leq (.t 9) (.c (.int .i64 64))), none⟩, ⟨some 11, .val (.mov (.t 10)), none⟩, ⟨some 12, .val (.faddr 1 (.t 1)), (some (11, true))⟩, ⟨some 13, .val (.load none (.t 12)), (some (11, true))⟩, ⟨some 14, .val (.len 1 (.t 13)), (some (11, true))⟩, ⟨some 15, .val (.bin .num .leq (.t 14) (.c (.int .i64 64))), (some (11, true))⟩, ⟨some 16, .val (.pick (.t 11) (.t 15) (.c (.bool false))), none⟩, ⟨some 3, .val (.mov (.t 16)), none⟩]
abbrev g18_2 : IL := [⟨some 4, .val (.mov (.c (.int .i64 0))), none⟩]
abbrev g18_3 : IL := [⟨some 17, .val (.mov (.t 4)), none⟩, ⟨some 18, .val (.faddr 0 (.t 1)), none⟩, ⟨some 19, .val (.load none (.t 18)), none⟩, ⟨some 20, .val (.len 1 (.t 19)), none⟩, ⟨some 21, .val (.bin .num .lss (.t 17) (.t 20)), none⟩]
abbrev g18_5 : IL := [⟨some 24, .val (.mov (.t 3)), none⟩, ⟨some 25, .val (.mov (.t 24)), none⟩, ⟨some 26, .val (.faddr 0 (.t 1)), (some (25, true))⟩, ⟨some 27, .val (.load none (.t 26)), (some (25, true))⟩, ⟨some 28, .val (.mov (.t 4)), (some (25, true))⟩, ⟨some 29, .val (.iaddr 3 none (.t 27) (.t 28)), (some (25, true))⟩, ⟨some 30, .val (.faddr 1 (.t 29)), (some (25, true))⟩, ⟨some 31, .val (.load none (.t 30)), (some (25, true))⟩, ⟨some 32, .val (.len 1 (.t 31)), (some (25, true))⟩, ⟨some 33, .val (.bin .num .leq (.t 32) (.c (.int .i64 64))), (some (25, true))⟩, ⟨some 34, .val (.pick (.t 25) (.t 33) (.c (.bool false))), none⟩, ⟨some 3, .val (.mov (.t 34)), none⟩]
abbrev g18_4 : IL := [⟨some 22, .val (.mov (.t 4)), none⟩, ⟨some 23, .val (.bin .num .add (.t 22) (.c (.int .i64 1))), none⟩, ⟨some 4, .val (.mov (.t 23)), none⟩]
abbrev l18_0 : RC := .seq (.seq (.reg g18_3) (.cond (.t 21) (.skip) (.exit 0))) (.seq (.block 1 (.reg g18_5)) (.reg g18_4))
abbrev g18_6 : IL := [⟨some 5, .val (.mov (.c (.int .i64 0))), none⟩]
abbrev g18_7 : IL := [⟨some 35, .val (.mov (.t 5)), none⟩, ⟨some 36, .val (.faddr 1 (.t 1)), none⟩, ⟨some 37, .val (.load none (.t 36)), none⟩, ⟨some 38, .val (.len 1 (.t 37)), none⟩, ⟨some 39, .val (.bin .num .lss (.t 35) (.t 38)), none⟩]
abbrev g18_9 : IL := [⟨some 42, .val (.faddr 1 (.t 1)), none⟩, ⟨some 43, .val (.load none (.t 42)), none⟩, ⟨some 44, .val (.mov (.t 5)), none⟩, ⟨some 45, .val (.iaddr 5 none (.t 43) (.t 44)), none⟩, ⟨some 46, .val (.faddr 2 (.t 45)), none⟩, ⟨some 47, .val (.load none (.t 46)), none⟩, ⟨some 48, .val (.len 1 (.t 47)), none⟩, ⟨some 6, .val (.mov (.t 48)), none⟩]
abbrev g18_10 : IL := [⟨some 49, .val (.mov (.t 3)), none⟩, ⟨some 50, .val (.mov (.t 49)), none⟩, ⟨some 51, .val (.mov (.t 6)), (some (50, true))⟩, ⟨some 52, .val (.bin .num .geq (.t 51) (.c (.int .i64 1))), (some (50, true))⟩, ⟨some 53, .val (.pick (.t 50) (.t 52) (.c (.bool false))), none⟩, ⟨some 54, .val (.mov (.t 53)), none⟩, ⟨some 55, .val (.mov (.t 6)), (some (54, true))⟩, ⟨some 56, .val (.bin .num .leq (.t 55) (.c (.int .i64 64))), (some (54, true))⟩, ⟨some 57, .val (.pick (.t 54) (.t 56) (.c (.bool false))), none⟩, ⟨some 58, .val (.mov (.t 57)), none⟩, ⟨some 59, .val (.faddr 1 (.t 1)), (some (58, true))⟩, ⟨some 60, .val (.load none (.t 59)), (some (58, true))⟩, ⟨some 61, .val (.mov (.t 5)), (some (58, true))⟩, ⟨some 62, .val (.iaddr 5 none (.t 60) (.t 61)), (some (58, true))⟩, ⟨some 63, .val (.faddr 3 (.t 62)), (some (58, true))⟩, ⟨some 64, .val (.load none (.t 63)), (some (58, true))⟩, ⟨some 65, .val (.len 1 (.t 64)), (some (58, true))⟩, ⟨some 66, .val (.bin .num .leq (.t 65) (.c (.int .i64 16))), (some (58, true))⟩, ⟨some 67, .val (.pick (.t 58) (.t 66) (.c (.bool false))), none⟩, ⟨some 3, .val (.mov (.t 67)), none⟩]
abbrev g18_8 : IL := [⟨some 40, .val (.mov (.t 5)), none⟩, ⟨some 41, .val (.bin .num .add (.t 40) (.c (.int .i64 1))), none⟩, ⟨some 5, .val (.mov (.t 41)), none⟩]
abbrev l18_1 : RC := .seq (.seq (.reg g18_7) (.cond (.t 39) (.skip) (.exit 2))) (.seq (.block 3 (.seq (.reg g18_9) (.reg g18_10))) (.reg g18_8))
abbrev g18_11 : IL := [⟨some 68, .val (.mov (.t 3)), none⟩, ⟨some 2, .val (.mov (.t 68)), none⟩]
abbrev r18 : RC := .seq (.reg g18_0) (.seq (.reg g18_1) (.seq (.seq (.reg g18_2) (.block 0 (.loop l18_0))) (.seq (.seq (.reg g18_6) (.block 2 (.loop l18_1))) (.seq (.reg g18_11) (.ret)))))
abbrev o18 : List RR := [.tmp 2]
theorem k18 : CT 18 69 r18 o18 := ck Tryz.func18 Tryz.ntmps18 (by decide +kernel)
abbrev g19_0 : IL := [⟨some 1, .boxN 1 (.t 0), none⟩, ⟨some 2, .val (.mov (.c (.bool false))), none⟩]
abbrev g19_1 : IL := [⟨some 3, .val (.mov (.c (.bool true))), none⟩]
abbrev g19_2 : IL := [⟨some 4, .val (.mov (.c (.int .i64 0))), none⟩]
abbrev g19_3 : IL := [⟨some 8, .val (.mov (.t 4)), none⟩, ⟨some 9, .val (.faddr 0 (.t 1)), none⟩, ⟨some 10, .val (.load none (.t 9)), none⟩, ⟨some 11, .val (.len 1 (.t 10)), none⟩, ⟨some 12, .val (.bin .num .lss (.t 8) (.t 11)), none⟩]
abbrev g19_5 : IL := [⟨some 15, .val (.mov (.t 3)), none⟩, ⟨some 16, .val (.mov (.t 15)), none⟩, ⟨some 17, .val (.faddr 0 (.t 1)), (some (16, true))⟩, ⟨some 18, .val (.load none (.t 17)), (some (16, true))⟩, ⟨some 19, .val (.mov (.t 4)), (some (16, true))⟩, ⟨some 20, .val (.iaddr 3 none (.t 18) (.t 19)), (some (16, true))⟩, ⟨some 21, .val (.faddr 0 (.t 20)), (some (16, true))⟩, ⟨some 22, .val (.load none (.t 21)), (some (16, true))⟩, ⟨some 23, .call (.f 32) [(.t 22)], (some (16, true))⟩, ⟨some 24, .val (.pick (.t 16) (.t 23) (.c (.bool false))), none⟩, ⟨some 3, .val (.mov (.t 24)), none⟩]
abbrev g19_6 : IL := [⟨some 5, .val (.mov (.c (.int .i64 0))), none⟩]
abbrev g19_7 : IL := [⟨some 25, .val (.mov (.t 5)), none⟩, ⟨some 26, .val (.faddr 0 (.t 1)), none⟩, ⟨some 27, .val (.load none (.t 26)), none⟩, ⟨some 28, .val (.mov (.t 4)), none⟩, ⟨some 29, .val (.iaddr 3 none (.t 27) (.t 28)), none⟩, ⟨some 30, .val (.faddr 1 (.t 29)), none⟩, ⟨some 31, .val (.load none (.t 30)), none⟩, ⟨some 32, .val (.len 1 (.t 31)), none⟩, ⟨some 33, .val (.bin .num .lss (.t 25) (.t 32)), none⟩]
abbrev g19_9 : IL := [⟨some 36, .val (.mov (.t 3)), none⟩, ⟨some 37, .val (.mov (.t 36)), none⟩, ⟨some 38, .val (.faddr 0 (.t 1)), (some (37, true))⟩, ⟨some 39, .val (.load none (.t 38)), (some (37, true))⟩, ⟨some 40, .val (.mov (.t 4)), (some (37, true))⟩, ⟨some 41, .val (.iaddr 3 none (.t 39) (.t 40)), (some (37, true))⟩, ⟨some 42, .val (.faddr 1 (.t 41)), (some (37, true))⟩, ⟨some 43, .val (.load none (.t 42)), (some (37, true))⟩, ⟨some 44, .val (.mov (.t 5)), (some (37, true))⟩, ⟨some 45, .val (.iaddr 8 none (.t 43) (.t 44)), (some (37, true))⟩, ⟨some 46, .val (.faddr 1 (.t 45)), (some (37, true))⟩, ⟨some 47, .val (.load none (.t 46)), (some (37, true))⟩, ⟨some 48, .call (.f 33) [(.t 47)], (some (37, true))⟩, ⟨some 49, .val (.pick (.t 37) (.t 48) (.c (.bool false))), none⟩, ⟨some 3, .val (.mov (.t 49)), none⟩]
abbrev g19_8 : IL := [⟨some 34, .val (.mov (.t 5)), none⟩, ⟨some 35, .val (.bin .num .add (.t 34) (.c (.int .i64 1))), none⟩, ⟨some 5, .val (.mov (.t 35)), none⟩]
abbrev l19_0 : RC := .seq (.seq (.reg g19_7) (.cond (.t 33) (.skip) (.exit 2))) (.seq (.block 3 (.reg g19_9)) (.reg g19_8))
abbrev g19_4 : IL := [⟨some 13, .val (.mov (.t 4)), none⟩, ⟨some 14, .val (.bin .num .add (.t 13) (.c (.int .i64 1))), none⟩, ⟨some 4, .val (.mov (.t 14)), none⟩]
abbrev l19_1 : RC := .seq (.seq (.reg g19_3) (.cond (.t 12) (.skip) (.exit 0))) (.seq (.block 1 (.seq (.reg g19_5) (.seq (.reg g19_6) (.block 2 (.loop l19_0))))) (.reg g19_4))
abbrev g19_10 : IL := [⟨some 6, .val (.mov (.c (.int .i64 0))), none⟩]
abbrev g19_11 : IL := [⟨some 50, .val (.mov (.t 6)), none⟩, ⟨some 51, .val (.faddr 1 (.t 1)), none⟩, ⟨some 52, .val (.load none (.t 51)), none⟩, ⟨some 53, .val (.len 1 (.t 52)), none⟩, ⟨some 54, .val (.bin .num .lss (.t 50) (.t 53)), none⟩]
abbrev g19_13 : IL := [⟨some 57, .val (.mov (.t 3)), none⟩, ⟨some 58, .val (.mov (.t 57)), none⟩, ⟨some 59, .val (.faddr 1 (.t 1)), (some (58, true))⟩, ⟨some 60, .val (.load none (.t 59)), (some (58, true))⟩, ⟨some 61, .val (.mov (.t 6)), (some (58, true))⟩, ⟨some 62, .val (.iaddr 5 none (.t 60) (.t 61)), (some (58, true))⟩, ⟨some 63, .val (.faddr 0 (.t 62)), (some (58, true))⟩, ⟨some 64, .val (.load none (.t 63)), (some (58, true))⟩, ⟨some 65, .call (.f 32) [(.t 64)], (some (58, true))⟩, ⟨some 66, .val (.pick (.t 58) (.t 65) (.c (.bool false))), none⟩, ⟨some 3, .val (.mov (.t 66)), none⟩]
abbrev g19_14 : IL := [⟨some 7, .val (.mov (.c (.int .i64 0))), none⟩]
abbrev g19_15 : IL := [⟨some 67, .val (.mov (.t 7)), none⟩, ⟨some 68, .val (.faddr 1 (.t 1)), none⟩, ⟨some 69, .val (.load none (.t 68)), none⟩, ⟨some 70, .val (.mov (.t 6)), none⟩, ⟨some 71, .val (.iaddr 5 none (.t 69) (.t 70)), none⟩, ⟨some 72, .val (.faddr 2 (.t 71)), none⟩, ⟨some 73, .val (.load none (.t 72)), none⟩, ⟨some 74, .val (.len 1 (.t 73)), none⟩, ⟨some 75, .val (.bin .num .lss (.t 67) (.t 74)), none⟩]
abbrev g19_17 : IL := [⟨some 78, .val (.mov (.t 3)), none⟩, ⟨some 79, .val (.mov (.t 78)), none⟩, ⟨some 80, .val (.faddr 1 (.t 1)), (some (79, true))⟩, ⟨some 81, .val (.load none (.t 80)), (some (79, true))⟩, ⟨some 82, .val (.mov (.t 6)), (some (79, true))⟩, ⟨some 83, .val (.iaddr 5 none (.t 81) (.t 82)), (some (79, true))⟩, ⟨some 84, .val (.faddr 2 (.t 83)), (some (79, true))⟩, ⟨some 85, .val (.load none (.t 84)), (some (79, true))⟩, ⟨some 86, .val (.mov (.t 7)), (some (79, true))⟩, ⟨some 87, .val (.iaddr 3 none (.t 85) (.t 86)), (some (79, true))⟩, ⟨some 88, .val (.faddr 0 (.t 87)), (some (79, true))⟩, ⟨some 89, .val (.load none (.t 88)), (some (79, true))⟩, ⟨some 90, .call (.f 33) [(.t 89)], (some (79, true))⟩, ⟨some 91, .val (.pick (.t 79) (.t 90) (.c (.bool false))), none⟩, ⟨some 3, .val (.mov (.t 91)), none⟩]
abbrev g19_16 : IL := [⟨some 76, .val (.mov (.t 7)), none⟩, ⟨some 77, .val (.bin .num .add (.t 76) (.c (.int .i64 1))), none⟩, ⟨some 7, .val (.mov (.t 77)), none⟩]
abbrev l19_2 : RC := .seq (.seq (.reg g19_15) (.cond (.t 75) (.skip) (.exit 6))) (.seq (.block 7 (.reg g19_17)) (.reg g19_16))
abbrev g19_12 : IL := [⟨some 55, .val (.mov (.t 6)), none⟩, ⟨some 56, .val (.bin .num .add (.t 55) (.c (.int .i64 1))), none⟩, ⟨some 6, .val (.mov (.t 56)), none⟩]
abbrev l19_3 : RC := .seq (.seq (.reg g19_11) (.cond (.t 54) (.skip) (.exit 4))) (.seq (.block 5 (.seq (.reg g19_13) (.seq (.reg g19_14) (.block 6 (.loop l19_2))))) (.reg g19_12))
abbrev g19_18 : IL := [⟨some 92, .val (.mov (.t 3)), none⟩, ⟨some 2, .val (.mov (.t 92)), none⟩]
abbrev r19 : RC := .seq (.reg g19_0) (.seq (.reg g19_1) (.seq (.seq (.reg g19_2) (.block 0 (.loop l19_1))) (.seq (.seq (.reg g19_10) (.block 4 (.loop l19_3))) (.seq (.reg g19_18) (.ret)))))
abbrev o19 : List RR := [.tmp 2]
theorem k19 : CT 19 93 r19 o19 := ck Tryz.func19 Tryz.ntmps19 (by decide +kernel)
abbrev g20_0 : IL := [⟨some 1, .boxN 1 (.t 0), none⟩, ⟨some 2, .val (.mov (.c (.bool false))), none⟩]
abbrev g20_1 : IL := [⟨some 3, .val (.mov (.c (.bool true))), none⟩]
abbrev g20_2 : IL := [⟨some 4, .val (.mov (.c (.int .i64 0))), none⟩]
abbrev g20_3 : IL := [⟨some 8, .val (.mov (.t 4)), none⟩, ⟨some 9, .val (.faddr 0 (.t 1)), none⟩, ⟨some 10, .val (.load none (.t 9)), none⟩, ⟨some 11, .val (.len 1 (.t 10)), none⟩, ⟨some 12, .val (.bin .num .lss (.t 8) (.t 11)), none⟩]
abbrev g20_5 : IL := [⟨some 15, .val (.mov (.t 3)), none⟩, ⟨some 16, .val (.mov (.t 15)), none⟩, ⟨some 17, .val (.mov (.t 4)), (some (16, true))⟩, ⟨some 18, .val (.bin .num .eql (.t 17) (.c (.int .i64 0))), (some (16, true))⟩, ⟨some 19, .val (.mov (.t 18)), (some (16, true))⟩, ⟨some 20, .val (.faddr 0 (.t 1)), (some (19, false))⟩, ⟨some 21, .val (.loadv 0 1 none (.t 20)), (some (19, false))⟩, ⟨some 22, .val (.mov (.t 4)), (some (19, false))⟩, ⟨some 23, .val (.bin .num .sub (.t 22) (.c (.int .i64 1))), (some (19, false))⟩, ⟨some 24, .val (.iaddr 3 none (.t 21) (.t 23)), (some (19, false))⟩, ⟨some 25, .val (.faddr 0 (.t 24)), (some (19, false))⟩, ⟨some 26, .val (.loadr none (.t 25)), (some (19, false))⟩, ⟨some 27, .val (.faddr 0 (.t 1)), (some (19, false))⟩, ⟨some 28, .val (.loadv 0 1 none (.t 27)), (some (19, false))⟩, ⟨some 29, .val (.mov (.t 4)), (some (19, false))⟩, ⟨some 30, .val (.iaddr 3 none (.t 28) (.t 29)), (some (19, false))⟩, ⟨some 31, .val (.faddr 0 (.t 30)), (some (19, false))⟩, ⟨some 32, .val (.loadr none (.t 31)), (some (19, false))⟩, ⟨some 33, .val (.bin .str .lss (.t 26) (.t 32)), (some (19, false))⟩, ⟨some 34, .val (.pick (.t 19) (.c (.bool true)) (.t 33)), (some (16, true))⟩, ⟨some 35, .val (.pick (.t 16) (.t 34) (.c (.bool false))), none⟩, ⟨some 3, .val (.mov (.t 35)), none⟩]
abbrev g20_6 : IL := [⟨some 5, .val (.mov (.c (.int .i64 1))), none⟩]
abbrev g20_7 : IL := [⟨some 36, .val (.mov (.t 5)), none⟩, ⟨some 37, .val (.faddr 0 (.t 1)), none⟩, ⟨some 38, .val (.load none (.t 37)), none⟩, ⟨some 39, .val (.mov (.t 4)), none⟩, ⟨some 40, .val (.iaddr 3 none (.t 38) (.t 39)), none⟩, ⟨some 41, .val (.faddr 1 (.t 40)), none⟩, ⟨some 42, .val (.load none (.t 41)), none⟩, ⟨some 43, .val (.len 1 (.t 42)), none⟩, ⟨some 44, .val (.bin .num .lss (.t 36) (.t 43)), none⟩]
abbrev g20_9 : IL := [⟨some 47, .val (.mov (.t 3)), none⟩, ⟨some 48, .val (.mov (.t 47)), none⟩, ⟨some 49, .val (.faddr 0 (.t 1)), (some (48, true))⟩, ⟨some 50, .val (.loadv 0 1 none (.t 49)), (some (48, true))⟩, ⟨some 51, .val (.mov (.t 4)), (some (48, true))⟩, ⟨some 52, .val (.iaddr 3 none (.t 50) (.t 51)), (some (48, true))⟩, ⟨some 53, .val (.faddr 1 (.t 52)), (some (48, true))⟩, ⟨some 54, .val (.loadr none (.t 53)), (some (48, true))⟩, ⟨some 55, .val (.mov (.t 5)), (some (48, true))⟩, ⟨some 56, .val (.bin .num .sub (.t 55) (.c (.int .i64 1))), (some (48, true))⟩, ⟨some 57, .val (.iaddr 8 none (.t 54) (.t 56)), (some (48, true))⟩, ⟨some 58, .val (.faddr 0 (.t 57)), (some (48, true))⟩, ⟨some 59, .val (.loadr none (.t 58)), (some (48, true))⟩, ⟨some 60, .val (.faddr 0 (.t 1)), (some (48, true))⟩, ⟨some 61, .val (.loadv 0 1 none (.t 60)), (some (48, true))⟩, ⟨some 62, .val (.mov (.t 4)), (some (48, true))⟩, ⟨some 63, .val (.iaddr 3 none (.t 61) (.t 62)), (some (48, true))⟩, ⟨some 64, .val (.faddr 1 (.t 63)), (some (48, true))⟩, ⟨some 65, .val (.loadr none (.t 64)), (some (48, true))⟩, ⟨some 66, .val (.mov (.t 5)), (some (48, true))⟩, ⟨some 67, .val (.iaddr 8 none (.t 65) (.t 66)), (some (48, true))⟩, ⟨some 68, .val (.faddr 0 (.t 67)), (some (48, true))⟩, ⟨some 69, .val (.loadr none (.t 68)), (some (48, true))⟩, ⟨some 70, .val (.bin .num .lss (.t 59) (.t 69)), (some (48, true))⟩, ⟨some 71, .val (.pick (.t 48) (.t 70) (.c (.bool false))), none⟩, ⟨some 3, .val (.mov (.t 71)), none⟩]
abbrev g20_8 : IL := [⟨some 45, .val (.mov (.t 5)), none⟩, ⟨some 46, .val (.bin .num .add (.t 45) (.c (.int .i64 1))), none⟩, ⟨some 5, .val (.mov (.t 46)), none⟩]
abbrev l20_0 : RC := .seq (.seq (.reg g20_7) (.cond (.t 44) (.skip) (.exit 2))) (.seq (.block 3 (.draw g20_9)) (.reg g20_8))
abbrev g20_4 : IL := [⟨some 13, .val (.mov (.t 4)), none⟩, ⟨some 14, .val (.bin .num .add (.t 13) (.c (.int .i64 1))), none⟩, ⟨some 4, .val (.mov (.t 14)), none⟩]
abbrev l20_1 : RC := .seq (.seq (.reg g20_3) (.cond (.t 12) (.skip) (.exit 0))) (.seq (.block 1 (.seq (.draw g20_5) (.seq (.reg g20_6) (.block 2 (.loop l20_0))))) (.reg g20_4))
abbrev g20_10 : IL := [⟨some 6, .val (.mov (.c (.int .i64 0))), none⟩]
abbrev g20_11 : IL := [⟨some 72, .val (.mov (.t 6)), none⟩, ⟨some 73, .val (.faddr 1 (.t 1)), none⟩, ⟨some 74, .val (.load none (.t 73)), none⟩, ⟨some 75, .val (.len 1 (.t 74)), none⟩, ⟨some 76, .val (.bin .num .lss (.t 72) (.t 75)), none⟩]
abbrev g20_13 : IL := [⟨some 79, .val (.mov (.t 3)), none⟩, ⟨some 80, .val (.mov (.t 79)), none⟩, ⟨some 81, .val (.mov (.t 6)), (some (80, true))⟩, ⟨some 82, .val (.bin .num .eql (.t 81) (.c (.int .i64 0))), (some (80, true))⟩, ⟨some 83, .val (.mov (.t 82)), (some (80, true))⟩, ⟨some 84, .val (.faddr 1 (.t 1)), (some (83, false))⟩, ⟨some 85, .val (.loadv 0 1 none (.t 84)), (some (83, false))⟩, ⟨some 86, .val (.mov (.t 6)), (some (83, false))⟩, ⟨some 87, .val (.bin .num .sub (.t 86) (.c (.int .i64 1))), (some (83, false))⟩, ⟨some 88, .val (.iaddr 5 none (.t 85) (.t 87)), (some (83, false))⟩, ⟨some 89, .val (.faddr 0 (.t 88)), (some (83, false))⟩, ⟨some 90, .val (.loadr none (.t 89)), (some (83, false))⟩, ⟨some 91, .val (.faddr 1 (.t 1)), (some (83, false))⟩, ⟨some 92, .val (.loadv 0 1 none (.t 91)), (some (83, false))⟩, ⟨some 93, .val (.mov (.t 6)), (some (83, false))⟩, ⟨some 94, .val (.iaddr 5 none (.t 92) (.t 93)), (some (83, false))⟩, ⟨some 95, .val (.faddr 0 (.t 94)), (some (83, false))⟩, ⟨some 96, .val (.loadr none (.t 95)), (some (83, false))⟩, ⟨some 97, .val (.bin .str .lss (.t 90) (.t 96)), (some (83, false))⟩, ⟨some 98, .val (.pick (.t 83) (.c (.bool true)) (.t 97)), (some (80, true))⟩, ⟨some 99, .val (.pick (.t 80) (.t 98) (.c (.bool false))), none⟩, ⟨some 3, .val (.mov (.t 99)), none⟩]
abbrev g20_14 : IL := [⟨some 7, .val (.mov (.c (.int .i64 1))), none⟩]
abbrev g20_15 : IL := [⟨some 100, .val (.mov (.t 7)), none⟩, ⟨some 101, .val (.faddr 1 (.t 1)), none⟩, ⟨some 102, .val (.load none (.t 101)), none⟩, ⟨some 103, .val (.mov (.t 6)), none⟩, ⟨some 104, .val (.iaddr 5 none (.t 102) (.t 103)), none⟩, ⟨some 105, .val (.faddr 2 (.t 104)), none⟩, ⟨some 106, .val (.load none (.t 105)), none⟩, ⟨some 107, .val (.len 1 (.t 106)), none⟩, ⟨some 108, .val (.bin .num .lss (.t 100) (.t 107)), none⟩]
abbrev g20_17 : IL := [⟨some 111, .val (.mov (.t 3)), none⟩, ⟨some 112, .val (.mov (.t 111)), none⟩, ⟨some 113, .val (.faddr 1 (.t 1)), (some (112, true))⟩, ⟨some 114, .val (.loadv 0 1 none (.t 113)), (some (112, true))⟩, ⟨some 115, .val (.mov (.t 6)), (some (112, true))⟩, ⟨some 116, .val (.iaddr 5 none (.t 114) (.t 115)), (some (112, true))⟩, ⟨some 117, .val (.faddr 2 (.t 116)), (some (112, true))⟩, ⟨some 118, .val (.loadr none (.t 117)), (some (112, true))⟩, ⟨some 119, .val (.mov (.t 7)), (some (112, true))⟩, ⟨some 120, .val (.bin .num .sub (.t 119) (.c (.int .i64 1))), (some (112, true))⟩, ⟨some 121, .val (.iaddr 3 none (.t 118) (.t 120)), (some (112, true))⟩, ⟨some 122, .val (.faddr 1 (.t 121)), (some (112, true))⟩, ⟨some 123, .val (.loadr none (.t 122)), (some (112, true))⟩, ⟨some 124, .val (.faddr 1 (.t 1)), (some (112, true))⟩, ⟨some 125, .val (.loadv 0 1 none (.t 124)), (some (112, true))⟩, ⟨some 126, .val (.mov (.t 6)), (some (112, true))⟩, ⟨some 127, .val (.iaddr 5 none (.t 125) (.t 126)), (some (112, true))⟩, ⟨some 128, .val (.faddr 2 (.t 127)), (some (112, true))⟩, ⟨some 129, .val (.loadr none (.t 128)), (some (112, true))⟩, ⟨some 130, .val (.mov (.t 7)), (some (112, true))⟩, ⟨some 131, .val (.iaddr 3 none (.t 129) (.t 130)), (some (112, true))⟩, ⟨some 132, .val (.faddr 1 (.t 131)), (some (112, true))⟩, ⟨some 133, .val (.loadr none (.t 132)), (some (112, true))⟩, ⟨some 134, .val (.bin .num .lss (.t 123) (.t 133)), (some (112, true))⟩, ⟨some 135, .val (.pick (.t 112) (.t 134) (.c (.bool false))), none⟩, ⟨some 3, .val (.mov (.t 135)), none⟩]
abbrev g20_16 : IL := [⟨some 109, .val (.mov (.t 7)), none⟩, ⟨some 110, .val (.bin .num .add (.t 109) (.c (.int .i64 1))), none⟩, ⟨some 7, .val (.mov (.t 110)), none⟩]
abbrev l20_2 : RC := .seq (.seq (.reg g20_15) (.cond (.t 108) (.skip) (.exit 6))) (.seq (.block 7 (.draw g20_17)) (.reg g20_16))
abbrev g20_12 : IL := [⟨some 77, .val (.mov (.t 6)), none⟩, ⟨some 78, .val (.bin .num .add (.t 77) (.c (.int .i64 1))), none⟩, ⟨some 6, .val (.mov (.t 78)), none⟩]
abbrev l20_3 : RC := .seq (.seq (.reg g20_11) (.cond (.t 76) (.skip) (.exit 4))) (.seq (.block 5 (.seq (.draw g20_13) (.seq (.reg g20_14) (.block 6 (.loop l20_2))))) (.reg g20_12))
abbrev g20_18 : IL := [⟨some 136, .val (.mov (.t 3)), none⟩, ⟨some 2, .val (.mov (.t 136)), none⟩]
abbrev r20 : RC := .seq (.reg g20_0) (.seq (.reg g20_1) (.seq (.seq (.reg g20_2) (.block 0 (.loop l20_1))) (.seq (.seq (.reg g20_10) (.block 4 (.loop l20_3))) (.seq (.reg g20_18) (.ret)))))
abbrev o20 : List RR := [.tmp 2]
theorem k20 : CT 20 137 r20 o20 := ck Tryz.func20 Tryz.ntmps20 (by decide +kernel)
abbrev g21_0 : IL := [⟨some 1, .boxN 1 (.t 0), none⟩, ⟨some 2, .val (.mov (.c (.bool false))), none⟩]
abbrev g21_1 : IL := [⟨some 3, .val (.mov (.c (.bool true))), none⟩]
abbrev g21_2 : IL := [⟨some 4, .val (.mov (.c (.int .i64 0))), none⟩]
abbrev g21_3 : IL := [⟨some 13, .val (.mov (.t 4)), none⟩, ⟨some 14, .val (.faddr 0 (.t 1)), none⟩, ⟨some 15, .val (.load none (.t 14)), none⟩, ⟨some 16, .val (.len 1 (.t 15)), none⟩, ⟨some 17, .val (.bin .num .lss (.t 13) (.t 16)), none⟩]
abbrev g21_5 : IL := [⟨some 5, .val (.mov (.c (.int .i64 0))), none⟩]
abbrev g21_6 : IL := [⟨some 20, .val (.mov (.t 5)), none⟩, ⟨some 21, .val (.faddr 1 (.t 1)), none⟩, ⟨some 22, .val (.load none (.t 21)), none⟩, ⟨some 23, .val (.len 1 (.t 22)), none⟩, ⟨some 24, .val (.bin .num .lss (.t 20) (.t 23)), none⟩]
abbrev g21_8 : IL := [⟨some 27, .val (.mov (.t 3)), none⟩, ⟨some 28, .val (.mov (.t 27)), none⟩, ⟨some 29, .val (.faddr 0 (.t 1)), (some (28, true))⟩, ⟨some 30, .val (.loadv 0 1 none (.t 29)), (some (28, true))⟩, ⟨some 31, .val (.mov (.t 4)), (some (28, true))⟩, ⟨some 32, .val (.iaddr 3 none (.t 30) (.t 31)), (some (28, true))⟩, ⟨some 33, .val (.faddr 0 (.t 32)), (some (28, true))⟩, ⟨some 34, .val (.loadr none (.t 33)), (some (28, true))⟩, ⟨some 35, .val (.faddr 1 (.t 1)), (some (28, true))⟩, ⟨some 36, .val (.loadv 0 1 none (.t 35)), (some (28, true))⟩, ⟨some 37, .val (.mov (.t 5)), (some (28, true))⟩, ⟨some 38, .val (.iaddr 5 none (.t 36) (.t 37)), (some (28, true))⟩, ⟨some 39, .val (.faddr 0 (.t 38)), (some (28, true))⟩, ⟨some 40, .val (.loadr none (.t 39)), (some (28, true))⟩, ⟨some 41, .val (.bin .str .neq (.t 34) (.t 40)), (some (28, true))⟩, ⟨some 42, .val (.pick (.t 28) (.t 41) (.c (.bool false))), none⟩, ⟨some 3, .val (.mov (.t 42)), none⟩]
abbrev g21_7 : IL := [⟨some 25, .val (.mov (.t 5)), none⟩, ⟨some 26, .val (.bin .num .add (.t 25) (.c (.int .i64 1))), none⟩, ⟨some 5, .val (.mov (.t 26)), none⟩]
abbrev l21_0 : RC := .seq (.seq (.reg g21_6) (.cond (.t 24) (.skip) (.exit 2))) (.seq (.block 3 (.draw g21_8)) (.reg g21_7))
abbrev g21_9 : IL := [⟨some 43, .val (.faddr 0 (.t 1)), none⟩, ⟨some 44, .val (.load none (.t 43)), none⟩, ⟨some 45, .val (.mov (.t 4)), none⟩, ⟨some 46, .val (.iaddr 3 none (.t 44) (.t 45)), none⟩, ⟨some 47, .val (.faddr 1 (.t 46)), none⟩, ⟨some 48, .val (.load none (.t 47)), none⟩, ⟨some 6, .val (.mov (.t 48)), none⟩]
abbrev g21_10 : IL := [⟨some 7, .val (.mov (.c (.int .i64 0))), none⟩]
abbrev g21_11 : IL := [⟨some 49, .val (.mov (.t 7)), none⟩, ⟨some 50, .val (.mov (.t 6)), none⟩, ⟨some 51, .val (.len 1 (.t 50)), none⟩, ⟨some 52, .val (.bin .num .lss (.t 49) (.t 51)), none⟩]
abbrev g21_13 : IL := [⟨some 8, .val (.mov (.c (.int .i64 0))), none⟩]
abbrev g21_14 : IL := [⟨some 55, .val (.mov (.t 8)), none⟩, ⟨some 56, .val (.mov (.t 7)), none⟩, ⟨some 57, .val (.bin .num .lss (.t 55) (.t 56)), none⟩]
abbrev g21_16 : IL := [⟨some 60, .val (.mov (.t 3)), none⟩, ⟨some 61, .val (.mov (.t 60)), none⟩, ⟨some 62, .val (.mov (.t 6)), (some (61, true))⟩, ⟨some 63, .val (.mov (.t 8)), (some (61, true))⟩, ⟨some 64, .val (.iaddr 8 none (.t 62) (.t 63)), (some (61, true))⟩, ⟨some 65, .val (.faddr 1 (.t 64)), (some (61, true))⟩, ⟨some 66, .val (.loadr none (.t 65)), (some (61, true))⟩, ⟨some 67, .val (.mov (.t 6)), (some (61, true))⟩, ⟨some 68, .val (.mov (.t 7)), (some (61, true))⟩, ⟨some 69, .val (.iaddr 8 none (.t 67) (.t 68)), (some (61, true))⟩, ⟨some 70, .val (.faddr 1 (.t 69)), (some (61, true))⟩, ⟨some 71, .val (.loadr none (.t 70)), (some (61, true))⟩, ⟨some 72, .val (.bin .str .neq (.t 66) (.t 71)), (some (61, true))⟩, ⟨some 73, .val (.pick (.t 61) (.t 72) (.c (.bool false))), none⟩, ⟨some 3, .val (.mov (.t 73)), none⟩]
abbrev g21_15 : IL := [⟨some 58, .val (.mov (.t 8)), none⟩, ⟨some 59, .val (.bin .num .add (.t 58) (.c (.int .i64 1))), none⟩, ⟨some 8, .val (.mov (.t 59)), none⟩]
abbrev l21_1 : RC := .seq (.seq (.reg g21_14) (.cond (.t 57) (.skip) (.exit 6))) (.seq (.block 7 (.draw g21_16)) (.reg g21_15))
abbrev g21_12 : IL := [⟨some 53, .val (.mov (.t 7)), none⟩, ⟨some 54, .val (.bin .num .add (.t 53) (.c (.int .i64 1))), none⟩, ⟨some 7, .val (.mov (.t 54)), none⟩]
abbrev l21_2 : RC := .seq (.seq (.reg g21_11) (.cond (.t 52) (.skip) (.exit 4))) (.seq (.block 5 (.seq (.reg g21_13) (.block 6 (.loop l21_1)))) (.reg g21_12))
abbrev g21_4 : IL := [⟨some 18, .val (.mov (.t 4)), none⟩, ⟨some 19, .val (.bin .num .add (.t 18) (.c (.int .i64 1))), none⟩, ⟨some 4, .val (.mov (.t 19)), none⟩]
abbrev l21_3 : RC := .seq (.seq (.reg g21_3) (.cond (.t 17) (.skip) (.exit 0))) (.seq (.block 1 (.seq (.seq (.reg g21_5) (.block 2 (.loop l21_0))) (.seq (.reg g21_9) (.seq (.reg g21_10) (.block 4 (.loop l21_2)))))) (.reg g21_4))
abbrev g21_17 : IL := [⟨some 9, .val (.mov (.c (.int .i64 0))), none⟩]
abbrev g21_18 : IL := [⟨some 74, .val (.mov (.t 9)), none⟩, ⟨some 75, .val (.faddr 1 (.t 1)), none⟩, ⟨some 76, .val (.load none (.t 75)), none⟩, ⟨some 77, .val (.len 1 (.t 76)), none⟩, ⟨some 78, .val (.bin .num .lss (.t 74) (.t 77)), none⟩]
abbrev g21_20 : IL := [⟨some 81, .val (.faddr 1 (.t 1)), none⟩, ⟨some 82, .val (.load none (.t 81)), none⟩, ⟨some 83, .val (.mov (.t 9)), none⟩, ⟨some 84, .val (.iaddr 5 none (.t 82) (.t 83)), none⟩, ⟨some 85, .val (.faddr 2 (.t 84)), none⟩, ⟨some 86, .val (.load none (.t 85)), none⟩, ⟨some 10, .val (.mov (.t 86)), none⟩]
abbrev g21_21 : IL := [⟨some 11, .val (.mov (.c (.int .i64 0))), none⟩]
abbrev g21_22 : IL := [⟨some 87, .val (.mov (.t 11)), none⟩, ⟨some 88, .val (.mov (.t 10)), none⟩, ⟨some 89, .val (.len 1 (.t 88)), none⟩, ⟨some 90, .val (.bin .num .lss (.t 87) (.t 89)), none⟩]
abbrev g21_24 : IL := [⟨some 12, .val (.mov (.c (.int .i64 0))), none⟩]
abbrev g21_25 : IL := [⟨some 93, .val (.mov (.t 12)), none⟩, ⟨some 94, .val (.mov (.t 11)), none⟩, ⟨some 95, .val (.bin .num .lss (.t 93) (.t 94)), none⟩]
abbrev g21_27 : IL := [⟨some 98, .val (.mov (.t 3)), none⟩, ⟨some 99, .val (.mov (.t 98)), none⟩, ⟨some 100, .val (.mov (.t 10)), (some (99, true))⟩, ⟨some 101, .val (.mov (.t 12)), (some (99, true))⟩, ⟨some 102, .val (.iaddr 3 none (.t 100) (.t 101)), (some (99, true))⟩, ⟨some 103, .val (.faddr 0 (.t 102)), (some (99, true))⟩, ⟨some 104, .val (.loadr none (.t 103)), (some (99, true))⟩, ⟨some 105, .val (.mov (.t 10)), (some (99, true))⟩, ⟨some 106, .val (.mov (.t 11)), (some (99, true))⟩, ⟨some 107, .val (.iaddr 3 none (.t 105) (.t 106)), (some (99, true))⟩, ⟨some 108, .val (.faddr 0 (.t 107)), (some (99, true))⟩, ⟨some 109, .val (.loadr none (.t 108)), (some (99, true))⟩, ⟨some 110, .val (.bin .str .neq (.t 104) (.t 109)), (some (99, true))⟩, ⟨some 111, .val (.pick (.t 99) (.t 110) (.c (.bool false))), none⟩, ⟨some 3, .val (.mov (.t 111)), none⟩]
abbrev g21_26 : IL := [⟨some 96, .val (.mov (.t 12)), none⟩, ⟨some 97, .val (.bin .num .add (.t 96) (.c (.int .i64 1))), none⟩, ⟨some 12, .val (.mov (.t 97)), none⟩]
abbrev l21_4 : RC := .seq (.seq (.reg g21_25) (.cond (.t 95) (.skip) (.exit 12))) (.seq (.block 13 (.draw g21_27)) (.reg g21_26))
abbrev g21_23 : IL := [⟨some 91, .val (.mov (.t 11)), none⟩, ⟨some 92, .val (.bin .num .add (.t 91) (.c (.int .i64 1))), none⟩, ⟨some 11, .val (.mov (.t 92)), none⟩]
abbrev l21_5 : RC := .seq (.seq (.reg g21_22) (.cond (.t 90) (.skip) (.exit 10))) (.seq (.block 11 (.seq (.reg g21_24) (.block 12 (.loop l21_4)))) (.reg g21_23))
abbrev g21_19 : IL := [⟨some 79, .val (.mov (.t 9)), none⟩, ⟨some 80, .val (.bin .num .add (.t 79) (.c (.int .i64 1))), none⟩, ⟨some 9, .val (.mov (.t 80)), none⟩]
abbrev l21_6 : RC := .seq (.seq (.reg g21_18) (.cond (.t 78) (.skip) (.exit 8))) (.seq (.block 9 (.seq (.reg g21_20) (.seq (.reg g21_21) (.block 10 (.loop l21_5))))) (.reg g21_19))
abbrev g21_28 : IL := [⟨some 112, .val (.mov (.t 3)), none⟩, ⟨some 2, .val (.mov (.t 112)), none⟩]
abbrev r21 : RC := .seq (.reg g21_0) (.seq (.reg g21_1) (.seq (.seq (.reg g21_2) (.block 0 (.loop l21_3))) (.seq (.seq (.reg g21_17) (.block 8 (.loop l21_6))) (.seq (.reg g21_28) (.ret)))))
abbrev o21 : List RR := [.tmp 2]
theorem k21 : CT 21 113 r21 o21 := ck Tryz.func21 Tryz.ntmps21 (by decide +kernel)
abbrev g22_0 : IL := [⟨some 1, .boxN 1 (.t 0), none⟩, ⟨some 2, .val (.mov (.c (.bool false))), none⟩]
abbrev g22_1 : IL := [⟨some 3, .val (.mov (.c (.bool true))), none⟩]
abbrev g22_2 : IL := [⟨some 4, .val (.mov (.c (.int .i64 0))), none⟩]
abbrev g22_3 : IL := [⟨some 13, .val (.mov (.t 4)), none⟩, ⟨some 14, .val (.faddr 0 (.t 1)), none⟩, ⟨some 15, .val (.load none (.t 14)), none⟩, ⟨some 16, .val (.len 1 (.t 15)), none⟩, ⟨some 17, .val (.bin .num .lss (.t 13) (.t 16)), none⟩]
abbrev g22_5 : IL := [⟨some 5, .val (.mov (.c (.int .i64 0))), none⟩]
abbrev g22_6 : IL := [⟨some 20, .val (.mov (.t 5)), none⟩, ⟨some 21, .val (.faddr 0 (.t 1)), none⟩, ⟨some 22, .val (.load none (.t 21)), none⟩, ⟨some 23, .val (.mov (.t 4)), none⟩, ⟨some 24, .val (.iaddr 3 none (.t 22) (.t 23)), none⟩, ⟨some 25, .val (.faddr 1 (.t 24)), none⟩, ⟨some 26, .val (.load none (.t 25)), none⟩, ⟨some 27, .val (.len 1 (.t 26)), none⟩, ⟨some 28, .val (.bin .num .lss (.t 20) (.t 27)), none⟩]
abbrev g22_8 : IL := [⟨some 31, .val (.faddr 0 (.t 1)), none⟩, ⟨some 32, .val (.load none (.t 31)), none⟩, ⟨some 33, .val (.mov (.t 4)), none⟩, ⟨some 34, .val (.iaddr 3 none (.t 32) (.t 33)), none⟩, ⟨some 35, .val (.faddr 1 (.t 34)), none⟩, ⟨some 36, .val (.load none (.t 35)), none⟩, ⟨some 37, .val (.mov (.t 5)), none⟩, ⟨some 38, .val (.iaddr 8 none (.t 36) (.t 37)), none⟩, ⟨some 39, .val (.faddr 0 (.t 38)), none⟩, ⟨some 40, .val (.load none (.t 39)), none⟩, ⟨some 6, .val (.mov (.t 40)), none⟩]
abbrev g22_9 : IL := [⟨some 41, .val (.mov (.t 3)), none⟩, ⟨some 42, .val (.mov (.t 41)), none⟩, ⟨some 43, .val (.mov (.t 6)), (some (42, true))⟩, ⟨some 44, .val (.bin .num .geq (.t 43) (.c (.int .i64 1))), (some (42, true))⟩, ⟨some 45, .val (.pick (.t 42) (.t 44) (.c (.bool false))), none⟩, ⟨some 46, .val (.mov (.t 45)), none⟩, ⟨some 47, .val (.mov (.t 6)), (some (46, true))⟩, ⟨some 48, .val (.bin .num .leq (.t 47) (.c (.int .i64 65535))), (some (46, true))⟩, ⟨some 49, .val (.pick (.t 46) (.t 48) (.c (.bool false))), none⟩, ⟨some 3, .val (.mov (.t 49)), none⟩]
abbrev g22_7 : IL := [⟨some 29, .val (.mov (.t 5)), none⟩, ⟨some 30, .val (.bin .num .add (.t 29) (.c (.int .i64 1))), none⟩, ⟨some 5, .val (.mov (.t 30)), none⟩]
abbrev l22_0 : RC := .seq (.seq (.reg g22_6) (.cond (.t 28) (.skip) (.exit 2))) (.seq (.block 3 (.seq (.reg g22_8) (.reg g22_9))) (.reg g22_7))
abbrev g22_4 : IL := [⟨some 18, .val (.mov (.t 4)), none⟩, ⟨some 19, .val (.bin .num .add (.t 18) (.c (.int .i64 1))), none⟩, ⟨some 4, .val (.mov (.t 19)), none⟩]
abbrev l22_1 : RC := .seq (.seq (.reg g22_3) (.cond (.t 17) (.skip) (.exit 0))) (.seq (.block 1 (.seq (.reg g22_5) (.block 2 (.loop l22_0)))) (.reg g22_4))
abbrev g22_10 : IL := [⟨some 7, .val (.mov (.c (.int .i64 0))), none⟩]
abbrev g22_11 : IL := [⟨some 50, .val (.mov (.t 7)), none⟩, ⟨some 51, .val (.faddr 1 (.t 1)), none⟩, ⟨some 52, .val (.load none (.t 51)), none⟩, ⟨some 53, .val (.len 1 (.t 52)), none⟩, ⟨some 54, .val (.bin .num .lss (.t 50) (.t 53)), none⟩]
abbrev g22_13 : IL := [⟨some 57, .val (.faddr 1 (.t 1)), none⟩, ⟨some 58, .val (.load none (.t 57)), none⟩, ⟨some 59, .val (.mov (.t 7)), none⟩, ⟨some 60, .val (.iaddr 5 none (.t 58) (.t 59)), none⟩, ⟨some 61, .val (.load (some 5) (.t 60)), none⟩, ⟨some 8, .allocN 8 [.str [], .bool false, .nils, .nils, .nils], none⟩, ⟨none, .store 5 (.t 8) (.t 61), none⟩]
abbrev g22_14 : IL := [⟨some 9, .val (.mov (.c (.int .i64 0))), none⟩]
abbrev g22_15 : IL := [⟨some 62, .val (.mov (.t 9)), none⟩, ⟨some 63, .val (.faddr 2 (.t 8)), none⟩, ⟨some 64, .val (.load none (.t 63)), none⟩, ⟨some 65, .val (.len 1 (.t 64)), none⟩, ⟨some 66, .val (.bin .num .lss (.t 62) (.t 65)), none⟩]
abbrev g22_17 : IL := [⟨some 69, .val (.faddr 2 (.t 8)), none⟩, ⟨some 70, .val (.load none (.t 69)), none⟩, ⟨some 71, .val (.mov (.t 9)), none⟩, ⟨some 72, .val (.iaddr 3 none (.t 70) (.t 71)), none⟩, ⟨some 73, .val (.faddr 1 (.t 72)), none⟩, ⟨some 74, .val (.load none (.t 73)), none⟩, ⟨some 10, .val (.mov (.t 74)), none⟩]
abbrev g22_18 : IL := [⟨some 75, .val (.mov (.t 3)), none⟩, ⟨some 76, .val (.mov (.t 75)), none⟩, ⟨some 77, .val (.mov (.t 10)), (some (76, true))⟩, ⟨some 78, .val (.bin .num .leq (.t 77) (.c (.int .i64 2147483647))), (some (76, true))⟩, ⟨some 79, .val (.pick (.t 76) (.t 78) (.c (.bool false))), none⟩, ⟨some 80, .val (.mov (.t 79)), none⟩, ⟨some 81, .val (.mov (.t 9)), (some (80, true))⟩, ⟨some 82, .val (.bin .num .gtr (.t 81) (.c (.int .i64 0))), (some (80, true))⟩, ⟨some 83, .val (.mov (.t 82)), (some (80, true))⟩, ⟨some 84, .val (.mov (.t 10)), (some (83, false))⟩, ⟨some 85, .val (.bin .num .eql (.t 84) (.c (.int .i64 0))), (some (83, false))⟩, ⟨some 86, .val (.pick (.t 83) (.c (.bool true)) (.t 85)), (some (80, true))⟩, ⟨some 87, .val (.pick (.t 80) (.t 86) (.c (.bool false))), none⟩, ⟨some 88, .val (.mov (.t 87)), none⟩, ⟨some 89, .val (.faddr 3 (.t 8)), (some (88, true))⟩, ⟨some 90, .val (.load none (.t 89)), (some (88, true))⟩, ⟨some 91, .val (.mov (.t 10)), (some (88, true))⟩, ⟨some 92, .call (.f 34) [(.t 90), (.t 91)], (some (88, true))⟩, ⟨some 93, .val (.un .not (.t 92)), (some (88, true))⟩, ⟨some 94, .val (.pick (.t 88) (.t 93) (.c (.bool false))), none⟩, ⟨some 3, .val (.mov (.t 94)), none⟩]
abbrev g22_16 : IL := [⟨some 67, .val (.mov (.t 9)), none⟩, ⟨some 68, .val (.bin .num .add (.t 67) (.c (.int .i64 1))), none⟩, ⟨some 9, .val (.mov (.t 68)), none⟩]
abbrev l22_2 : RC := .seq (.seq (.reg g22_15) (.cond (.t 66) (.skip) (.exit 6))) (.seq (.block 7 (.seq (.reg g22_17) (.reg g22_18))) (.reg g22_16))
abbrev g22_19 : IL := [⟨some 11, .val (.mov (.c (.int .i64 0))), none⟩]
abbrev g22_20 : IL := [⟨some 95, .val (.mov (.t 11)), none⟩, ⟨some 96, .val (.faddr 3 (.t 8)), none⟩, ⟨some 97, .val (.load none (.t 96)), none⟩, ⟨some 98, .val (.len 1 (.t 97)), none⟩, ⟨some 99, .val (.bin .num .lss (.t 95) (.t 98)), none⟩]
abbrev g22_22 : IL := [⟨some 102, .val (.faddr 3 (.t 8)), none⟩, ⟨some 103, .val (.load none (.t 102)), none⟩, ⟨some 104, .val (.mov (.t 11)), none⟩, ⟨some 105, .val (.iaddr 2 none (.t 103) (.t 104)), none⟩, ⟨some 106, .val (.load (some 2) (.t 105)), none⟩, ⟨some 12, .allocN 12 [.int .i64 0, .int .i64 0], none⟩, ⟨none, .store 2 (.t 12) (.t 106), none⟩]
abbrev g22_23 : IL := [⟨some 107, .val (.mov (.t 3)), none⟩, ⟨some 108, .val (.mov (.t 107)), none⟩, ⟨some 109, .val (.faddr 0 (.t 12)), (some (108, true))⟩, ⟨some 110, .val (.loadv 0 12 none (.t 109)), (some (108, true))⟩, ⟨some 111, .val (.bin .num .geq (.t 110) (.c (.int .i64 0))), (some (108, true))⟩, ⟨some 112, .val (.pick (.t 108) (.t 111) (.c (.bool false))), none⟩, ⟨some 113, .val (.mov (.t 112)), none⟩, ⟨some 114, .val (.faddr 1 (.t 12)), (some (113, true))⟩, ⟨some 115, .val (.loadv 0 12 none (.t 114)), (some (113, true))⟩, ⟨some 116, .val (.bin .num .leq (.t 115) (.c (.int .i64 2147483647))), (some (113, true))⟩, ⟨some 117, .val (.pick (.t 113) (.t 116) (.c (.bool false))), none⟩, ⟨some 118, .val (.mov (.t 117)), none⟩, ⟨some 119, .val (.faddr 0 (.t 12)), (some (118, true))⟩, ⟨some 120, .val (.loadv 0 12 none (.t 119)), (some (118, true))⟩, ⟨some 121, .val (.faddr 1 (.t 12)), (some (118, true))⟩, ⟨some 122, .val (.loadv 0 12 none (.t 121)), (some (118, true))⟩, ⟨some 123, .val (.bin .num .leq (.t 120) (.t 122)), (some (118, true))⟩, ⟨some 124, .val (.pick (.t 118) (.t 123) (.c (.bool false))), none⟩, ⟨some 125, .val (.mov (.t 124)), none⟩, ⟨some 126, .val (.mov (.t 11)), (some (125, true))⟩, ⟨some 127, .val (.bin .num .eql (.t 126) (.c (.int .i64 0))), (some (125, true))⟩, ⟨some 128, .val (.mov (.t 127)), (some (125, true))⟩, ⟨some 129, .val (.faddr 0 (.t 12)), (some (128, false))⟩, ⟨some 130, .val (.loadv 0 12 none (.t 129)), (some (128, false))⟩, ⟨some 131, .val (.faddr 3 (.t 8)), (some (128, false))⟩, ⟨some 132, .val (.loadv 0 8 none (.t 131)), (some (128, false))⟩, ⟨some 133, .val (.mov (.t 11)), (some (128, false))⟩, ⟨some 134, .val (.bin .num .sub (.t 133) (.c (.int .i64 1))), (some (128, false))⟩, ⟨some 135, .val (.iaddr 2 none (.t 132) (.t 134)), (some (128, false))⟩, ⟨some 136, .val (.faddr 1 (.t 135)), (some (128, false))⟩, ⟨some 137, .val (.loadr none (.t 136)), (some (128, false))⟩, ⟨some 138, .val (.bin .num .gtr (.t 130) (.t 137)), (some (128, false))⟩, ⟨some 139, .val (.pick (.t 128) (.c (.bool true)) (.t 138)), (some (125, true))⟩, ⟨some 140, .val (.pick (.t 125) (.t 139) (.c (.bool false))), none⟩, ⟨some 3, .val (.mov (.t 140)), none⟩]
abbrev g22_21 : IL := [⟨some 100, .val (.mov (.t 11)), none⟩, ⟨some 101, .val (.bin .num .add (.t 100) (.c (.int .i64 1))), none⟩, ⟨some 11, .val (.mov (.t 101)), none⟩]
abbrev l22_3 : RC := .gho (.drop 12) (.seq (.seq (.reg g22_20) (.cond (.t 99) (.skip) (.exit 8))) (.seq (.block 9 (.seq (.reg g22_22) (.draw g22_23))) (.reg g22_21)))
abbrev g22_12 : IL := [⟨some 55, .val (.mov (.t 7)), none⟩, ⟨some 56, .val (.bin .num .add (.t 55) (.c (.int .i64 1))), none⟩, ⟨some 7, .val (.mov (.t 56)), none⟩]
abbrev l22_4 : RC := .gho (.drop 12) (.gho (.drop 8) (.seq (.seq (.reg g22_11) (.cond (.t 54) (.skip) (.exit 4))) (.seq (.block 5 (.seq (.reg g22_13) (.seq (.seq (.reg g22_14) (.block 6 (.loop l22_2))) (.seq (.reg g22_19) (.block 8 (.loop l22_3)))))) (.reg g22_12))))
abbrev g22_24 : IL := [⟨some 141, .val (.mov (.t 3)), none⟩, ⟨some 2, .val (.mov (.t 141)), none⟩]
abbrev r22 : RC := .seq (.reg g22_0) (.seq (.reg g22_1) (.seq (.seq (.reg g22_2) (.block 0 (.loop l22_1))) (.seq (.seq (.reg g22_10) (.block 4 (.loop l22_4))) (.seq (.reg g22_24) (.ret)))))
abbrev o22 : List RR := [.tmp 2]
theorem k22 : CT 22 142 r22 o22 := ck Tryz.func22 Tryz.ntmps22 (by decide +kernel)
abbrev g23_0 : IL := [⟨some 1, .boxN 1 (.t 0), none⟩, ⟨some 2, .val (.mov (.c (.bool false))), none⟩]
abbrev g23_1 : IL := [⟨some 3, .val (.mov (.c (.bool true))), none⟩]
abbrev g23_2 : IL := [⟨some 4, .val (.mov (.c (.int .i64 0))), none⟩]
abbrev g23_3 : IL := [⟨some 9, .val (.mov (.t 4)), none⟩, ⟨some 10, .val (.faddr 1 (.t 1)), none⟩, ⟨some 11, .val (.load none (.t 10)), none⟩, ⟨some 12, .val (.len 1 (.t 11)), none⟩, ⟨some 13, .val (.bin .num .lss (.t 9) (.t 12)), none⟩]
abbrev g23_5 : IL := [⟨some 16, .val (.mov (.t 3)), none⟩, ⟨some 17, .val (.mov (.t 16)), none⟩, ⟨some 18, .val (.faddr 1 (.t 1)), (some (17, true))⟩, ⟨some 19, .val (.load none (.t 18)), (some (17, true))⟩, ⟨some 20, .val (.mov (.t 4)), (some (17, true))⟩, ⟨some 21, .val (.iaddr 5 none (.t 19) (.t 20)), (some (17, true))⟩, ⟨some 22, .val (.faddr 4 (.t 21)), (some (17, true))⟩, ⟨some 23, .val (.load none (.t 22)), (some (17, true))⟩, ⟨some 24, .val (.len 1 (.t 23)), (some (17, true))⟩, ⟨some 25, .val (.bin .num .eql (.t 24) (.c (.int .i64 0))), (some (17, true))⟩, ⟨some 26, .val (.pick (.t 17) (.t 25) (.c (.bool false))), none⟩, ⟨some 3, .val (.mov (.t 26)), none⟩]
abbrev g23_6 : IL := [⟨some 5, .val (.mov (.c (.int .i64 0))), none⟩]
abbrev g23_7 : IL := [⟨some 27, .val (.mov (.t 5)), none⟩, ⟨some 28, .val (.faddr 1 (.t 1)), none⟩, ⟨some 29, .val (.load none (.t 28)), none⟩, ⟨some 30, .val (.mov (.t 4)), none⟩, ⟨some 31, .val (.iaddr 5 none (.t 29) (.t 30)), none⟩, ⟨some 32, .val (.faddr 2 (.t 31)), none⟩, ⟨some 33, .val (.load none (.t 32)), none⟩, ⟨some 34, .val (.len 1 (.t 33)), none⟩, ⟨some 35, .val (.bin .num .lss (.t 27) (.t 34)), none⟩]
abbrev g23_9 : IL := [⟨some 38, .val (.faddr 1 (.t 1)), none⟩, ⟨some 39, .val (.load none (.t 38)), none⟩, ⟨some 40, .val (.mov (.t 4)), none⟩, ⟨some 41, .val (.iaddr 5 none (.t 39) (.t 40)), none⟩, ⟨some 42, .val (.faddr 2 (.t 41)), none⟩, ⟨some 43, .val (.load none (.t 42)), none⟩, ⟨some 44, .val (.mov (.t 5)), none⟩, ⟨some 45, .val (.iaddr 3 none (.t 43) (.t 44)), none⟩, ⟨some 46, .val (.faddr 2 (.t 45)), none⟩, ⟨some 47, .val (.load none (.t 46)), none⟩, ⟨some 6, .val (.mov (.t 47)), none⟩]
abbrev g23_10 : IL := [⟨some 48, .val (.mov (.t 3)), none⟩, ⟨some 49, .val (.mov (.t 48)), none⟩, ⟨some 50, .val (.mov (.t 6)), (some (49, true))⟩, ⟨some 51, .val (.len 1 (.t 50)), (some (49, true))⟩, ⟨some 52, .val (.bin .num .eql (.t 51) (.c (.int .i64 0))), (some (49, true))⟩, ⟨some 53, .val (.mov (.t 52)), (some (49, true))⟩, ⟨some 54, .val (.mov (.t 6)), (some (53, false))⟩, ⟨some 55, .val (.len 1 (.t 54)), (some (53, false))⟩, ⟨some 56, .val (.bin .num .eql (.t 55) (.c (.int .i64 1))), (some (53, false))⟩, ⟨some 57, .val (.mov (.t 56)), (some (53, false))⟩, ⟨some 58, .val (.mov (.t 6)), (some (57, true))⟩, ⟨some 59, .val (.iaddr 8 none (.t 58) (.c (.int .i64 0))), (some (57, true))⟩, ⟨some 60, .val (.faddr 0 (.t 59)), (some (57, true))⟩, ⟨some 61, .val (.load none (.t 60)), (some (57, true))⟩, ⟨some 62, .val (.bin .str .eql (.t 61) (.c (.str [97, 108, 105, 97, 115]))), (some (57, true))⟩, ⟨some 63, .val (.pick (.t 57) (.t 62) (.c (.bool false))), (some (53, false))⟩, ⟨some 64, .val (.mov (.t 63)), (some (53, false))⟩, ⟨some 65, .val (.mov (.t 6)), (some (64, true))⟩, ⟨some 66, .call (.f 35) [(.t 65), (.c (.int .i64 4))], (some (64, true))⟩, ⟨some 67, .val (.bin .num .eql (.t 66) (.c (.int .i64 0))), (some (64, true))⟩, ⟨some 68, .val (.pick (.t 64) (.t 67) (.c (.bool false))), (some (53, false))⟩, ⟨some 69, .val (.pick (.t 53) (.c (.bool true)) (.t 68)), (some (49, true))⟩, ⟨some 70, .val (.pick (.t 49) (.t 69) (.c (.bool false))), none⟩, ⟨some 3, .val (.mov (.t 70)), none⟩]
abbrev g23_8 : IL := [⟨some 36, .val (.mov (.t 5)), none⟩, ⟨some 37, .val (.bin .num .add (.t 36) (.c (.int .i64 1))), none⟩, ⟨some 5, .val (.mov (.t 37)), none⟩]
abbrev l23_0 : RC := .seq (.seq (.reg g23_7) (.cond (.t 35) (.skip) (.exit 2))) (.seq (.block 3 (.seq (.reg g23_9) (.reg g23_10))) (.reg g23_8))
abbrev g23_4 : IL := [⟨some 14, .val (.mov (.t 4)), none⟩, ⟨some 15, .val (.bin .num .add (.t 14) (.c (.int .i64 1))), none⟩, ⟨some 4, .val (.mov (.t 15)), none⟩]
abbrev l23_1 : RC := .seq (.seq (.reg g23_3) (.cond (.t 13) (.skip) (.exit 0))) (.seq (.block 1 (.seq (.reg g23_5) (.seq (.reg g23_6) (.block 2 (.loop l23_0))))) (.reg g23_4))
abbrev g23_11 : IL := [⟨some 7, .val (.mov (.c (.int .i64 0))), none⟩]
abbrev g23_12 : IL := [⟨some 71, .val (.mov (.t 7)), none⟩, ⟨some 72, .val (.faddr 0 (.t 1)), none⟩, ⟨some 73, .val (.load none (.t 72)), none⟩, ⟨some 74, .val (.len 1 (.t 73)), none⟩, ⟨some 75, .val (.bin .num .lss (.t 71) (.t 74)), none⟩]
abbrev g23_14 : IL := [⟨some 78, .val (.mov (.t 3)), none⟩, ⟨some 79, .val (.mov (.t 78)), none⟩, ⟨some 80, .val (.faddr 0 (.t 1)), (some (79, true))⟩, ⟨some 81, .val (.load none (.t 80)), (some (79, true))⟩, ⟨some 82, .val (.mov (.t 7)), (some (79, true))⟩, ⟨some 83, .val (.iaddr 3 none (.t 81) (.t 82)), (some (79, true))⟩, ⟨some 84, .val (.load (some 3) (.t 83)), (some (79, true))⟩, ⟨some 85, .call (.f 36) [(.t 84)], (some (79, true))⟩, ⟨some 86, .val (.pick (.t 79) (.t 85) (.c (.bool false))), none⟩, ⟨some 3, .val (.mov (.t 86)), none⟩]
abbrev g23_15 : IL := [⟨some 8, .val (.mov (.c (.int .i64 0))), none⟩]
abbrev g23_16 : IL := [⟨some 87, .val (.mov (.t 8)), none⟩, ⟨some 88, .val (.faddr 0 (.t 1)), none⟩, ⟨some 89, .val (.load none (.t 88)), none⟩, ⟨some 90, .val (.mov (.t 7)), none⟩, ⟨some 91, .val (.iaddr 3 none (.t 89) (.t 90)), none⟩, ⟨some 92, .val (.faddr 1 (.t 91)), none⟩, ⟨some 93, .val (.load none (.t 92)), none⟩, ⟨some 94, .val (.len 1 (.t 93)), none⟩, ⟨some 95, .val (.bin .num .lss (.t 87) (.t 94)), none⟩]
abbrev g23_18 : IL := [⟨some 98, .val (.mov (.t 3)), none⟩, ⟨some 99, .val (.mov (.t 98)), none⟩, ⟨some 100, .val (.loadv 0 1 (some 2) (.t 1)), (some (99, true))⟩, ⟨some 101, .val (.faddr 0 (.t 1)), (some (99, true))⟩, ⟨some 102, .val (.loadv 0 1 none (.t 101)), (some (99, true))⟩, ⟨some 103, .val (.mov (.t 7)), (some (99, true))⟩, ⟨some 104, .val (.iaddr 3 none (.t 102) (.t 103)), (some (99, true))⟩, ⟨some 105, .val (.faddr 1 (.t 104)), (some (99, true))⟩, ⟨some 106, .val (.loadr none (.t 105)), (some (99, true))⟩, ⟨some 107, .val (.mov (.t 8)), (some (99, true))⟩, ⟨some 108, .val (.iaddr 8 none (.t 106) (.t 107)), (some (99, true))⟩, ⟨some 109, .val (.loadr (some 8) (.t 108)), (some (99, true))⟩, ⟨some 110, .call (.f 37) [(.t 100), (.t 109)], (some (99, true))⟩, ⟨some 111, .val (.pick (.t 99) (.t 110) (.c (.bool false))), none⟩, ⟨some 3, .val (.mov (.t 111)), none⟩]
abbrev g23_17 : IL := [⟨some 96, .val (.mov (.t 8)), none⟩, ⟨some 97, .val (.bin .num .add (.t 96) (.c (.int .i64 1))), none⟩, ⟨some 8, .val (.mov (.t 97)), none⟩]
abbrev l23_2 : RC := .seq (.seq (.reg g23_16) (.cond (.t 95) (.skip) (.exit 6))) (.seq (.block 7 (.draw g23_18)) (.reg g23_17))
abbrev g23_13 : IL := [⟨some 76, .val (.mov (.t 7)), none⟩, ⟨some 77, .val (.bin .num .add (.t 76) (.c (.int .i64 1))), none⟩, ⟨some 7, .val (.mov (.t 77)), none⟩]
abbrev l23_3 : RC := .seq (.seq (.reg g23_12) (.cond (.t 75) (.skip) (.exit 4))) (.seq (.block 5 (.seq (.reg g23_14) (.seq (.reg g23_15) (.block 6 (.loop l23_2))))) (.reg g23_13))
abbrev g23_19 : IL := [⟨some 112, .val (.mov (.t 3)), none⟩, ⟨some 2, .val (.mov (.t 112)), none⟩]
abbrev r23 : RC := .seq (.reg g23_0) (.seq (.reg g23_1) (.seq (.seq (.reg g23_2) (.block 0 (.loop l23_1))) (.seq (.seq (.reg g23_11) (.block 4 (.loop l23_3))) (.seq (.reg g23_19) (.ret)))))
abbrev o23 : List RR := [.tmp 2]
theorem k23 : CT 23 113 r23 o23 := ck Tryz.func23 Tryz.ntmps23 (by decide +kernel)
abbrev g24_0 : IL := [⟨some 1, .boxN 1 (.t 0), none⟩, ⟨some 2, .val (.mov (.c (.bool false))), none⟩]
abbrev g24_1 : IL := [⟨some 9, .val (.faddr 0 (.t 1)), none⟩, ⟨some 10, .val (.load none (.t 9)), none⟩, ⟨some 11, .val (.len 1 (.t 10)), none⟩, ⟨some 12, .mk 12 4 1 1 [.bool false] (.t 11) (.t 11), none⟩, ⟨some 3, .val (.mov (.t 12)), none⟩]
abbrev g24_2 : IL := [⟨some 13, .val (.faddr 0 (.t 1)), none⟩, ⟨some 14, .val (.load none (.t 13)), none⟩, ⟨some 15, .val (.len 1 (.t 14)), none⟩, ⟨some 16, .val (.bin .num .eql (.t 15) (.c (.int .i64 0))), none⟩, ⟨some 4, .val (.mov (.t 16)), none⟩]
abbrev g24_3 : IL := [⟨some 17, .val (.faddr 0 (.t 1)), none⟩, ⟨some 18, .val (.load none (.t 17)), none⟩, ⟨some 19, .val (.len 1 (.t 18)), none⟩, ⟨some 20, .val (.mov (.c (.int .i64 0))), none⟩]
abbrev g24_4 : IL := [⟨some 21, .val (.bin .num .lss (.t 20) (.t 19)), none⟩]
abbrev g24_5 : IL := [⟨some 4, .val (.mov (.c (.bool true))), none⟩]
abbrev g24_6 : IL := [⟨some 5, .val (.mov (.c (.int .i64 0))), none⟩]
abbrev g24_7 : IL := [⟨some 22, .val (.mov (.t 5)), none⟩, ⟨some 23, .val (.faddr 0 (.t 1)), none⟩, ⟨some 24, .val (.load none (.t 23)), none⟩, ⟨some 25, .val (.len 1 (.t 24)), none⟩, ⟨some 26, .val (.bin .num .lss (.t 22) (.t 25)), none⟩]
abbrev g24_9 : IL := [⟨some 6, .val (.mov (.c (.bool true))), none⟩]
abbrev g24_10 : IL := [⟨some 7, .val (.mov (.c (.int .i64 0))), none⟩]
abbrev g24_11 : IL := [⟨some 29, .val (.mov (.t 7)), none⟩, ⟨some 30, .val (.faddr 0 (.t 1)), none⟩, ⟨some 31, .val (.load none (.t 30)), none⟩, ⟨some 32, .val (.mov (.t 5)), none⟩, ⟨some 33, .val (.iaddr 3 none (.t 31) (.t 32)), none⟩, ⟨some 34, .val (.faddr 1 (.t 33)), none⟩, ⟨some 35, .val (.load none (.t 34)), none⟩, ⟨some 36, .val (.len 1 (.t 35)), none⟩, ⟨some 37, .val (.bin .num .lss (.t 29) (.t 36)), none⟩]
abbrev g24_13 : IL := [⟨some 40, .val (.faddr 0 (.t 1)), none⟩, ⟨some 41, .val (.load none (.t 40)), none⟩, ⟨some 42, .val (.mov (.t 5)), none⟩, ⟨some 43, .val (.iaddr 3 none (.t 41) (.t 42)), none⟩, ⟨some 44, .val (.faddr 1 (.t 43)), none⟩, ⟨some 45, .val (.load none (.t 44)), none⟩, ⟨some 46, .val (.mov (.t 7)), none⟩, ⟨some 47, .val (.iaddr 8 none (.t 45) (.t 46)), none⟩, ⟨some 48, .val (.load (some 8) (.t 47)), none⟩, ⟨some 8, .allocN 8 [.int .i64 0, .str [], .str [], .int .i64 0, .int .i64 0, .int .i64 0, .int .i64 0, .int .i64 0], none⟩, ⟨none, .store 8 (.t 8) (.t 48), none⟩]
abbrev g24_14 : IL := [⟨some 49, .val (.mov (.t 6)), none⟩, ⟨some 50, .val (.mov (.t 49)), none⟩, ⟨some 51, .val (.faddr 3 (.t 8)), (some (50, true))⟩, ⟨some 52, .val (.load none (.t 51)), (some (50, true))⟩, ⟨some 53, .val (.bin .num .neq (.t 52) (.c (.int .i64 1))), (some (50, true))⟩, ⟨some 54, .val (.mov (.t 53)), (some (50, true))⟩, ⟨some 55, .val (.faddr 5 (.t 8)), (some (54, false))⟩, ⟨some 56, .val (.load none (.t 55)), (some (54, false))⟩, ⟨some 57, .val (.bin .num .neq (.t 56) (.c (.int .i64 10))), (some (54, false))⟩, ⟨some 58, .val (.pick (.t 54) (.c (.bool true)) (.t 57)), (some (50, true))⟩, ⟨some 59, .val (.mov (.t 58)), (some (50, true))⟩, ⟨some 60, .val (.mov (.t 3)), (some (59, false))⟩, ⟨some 61, .val (.faddr 6 (.t 8)), (some (59, false))⟩, ⟨some 62, .val (.load none (.t 61)), (some (59, false))⟩, ⟨some 63, .val (.iaddr 1 none (.t 60) (.t 62)), (some (59, false))⟩, ⟨some 64, .val (.load none (.t 63)), (some (59, false))⟩, ⟨some 65, .val (.pick (.t 59) (.c (.bool true)) (.t 64)), (some (50, true))⟩, ⟨some 66, .val (.pick (.t 50) (.t 65) (.c (.bool false))), none⟩, ⟨some 6, .val (.mov (.t 66)), none⟩]
abbrev g24_12 : IL := [⟨some 38, .val (.mov (.t 7)), none⟩, ⟨some 39, .val (.bin .num .add (.t 38) (.c (.int .i64 1))), none⟩, ⟨some 7, .val (.mov (.t 39)), none⟩]
abbrev l24_0 : RC := .gho (.drop 8) (.seq (.seq (.reg g24_11) (.cond (.t 37) (.skip) (.exit 4))) (.seq (.block 5 (.seq (.reg g24_13) (.reg g24_14))) (.reg g24_12)))
abbrev g24_15 : IL := [⟨some 67, .val (.mov (.t 3)), none⟩, ⟨some 68, .val (.mov (.t 5)), none⟩, ⟨some 69, .val (.mov (.t 6)), none⟩, ⟨some 70, .val (.iaddr 1 none (.t 67) (.t 68)), none⟩, ⟨none, .store 1 (.t 70) (.t 69), none⟩]
abbrev g24_16 : IL := [⟨some 71, .val (.mov (.t 4)), none⟩, ⟨some 72, .val (.mov (.t 71)), none⟩, ⟨some 73, .val (.mov (.t 6)), (some (72, true))⟩, ⟨some 74, .val (.pick (.t 72) (.t 73) (.c (.bool false))), none⟩, ⟨some 4, .val (.mov (.t 74)), none⟩]
abbrev g24_8 : IL := [⟨some 27, .val (.mov (.t 5)), none⟩, ⟨some 28, .val (.bin .num .add (.t 27) (.c (.int .i64 1))), none⟩, ⟨some 5, .val (.mov (.t 28)), none⟩]
abbrev l24_1 : RC := .gho (.drop 8) (.seq (.seq (.reg g24_7) (.cond (.t 26) (.skip) (.exit 2))) (.seq (.block 3 (.seq (.reg g24_9) (.seq (.seq (.reg g24_10) (.block 4 (.loop l24_0))) (.seq (.reg g24_15) (.reg g24_16))))) (.reg g24_8)))
abbrev g24_17 : IL := [⟨some 75, .val (.bin .num .add (.t 20) (.c (.int .i64 1))), none⟩, ⟨some 20, .val (.mov (.t 75)), none⟩]
abbrev l24_2 : RC := .gho (.drop 8) (.seq (.reg g24_4) (.seq (.cond (.t 21) (.skip) (.exit 0)) (.seq (.block 1 (.seq (.reg g24_5) (.seq (.reg g24_6) (.block 2 (.loop l24_1))))) (.reg g24_17))))
abbrev g24_18 : IL := [⟨some 76, .val (.mov (.t 4)), none⟩, ⟨some 2, .val (.mov (.t 76)), none⟩]
abbrev r24 : RC := .seq (.reg g24_0) (.seq (.reg g24_1) (.seq (.reg g24_2) (.seq (.seq (.reg g24_3) (.block 0 (.loop l24_2))) (.seq (.reg g24_18) (.ret)))))
abbrev o24 : List RR := [.tmp 2]
theorem k24 : CT 24 77 r24 o24 := ck Tryz.func24 Tryz.ntmps24 (by decide +kernel)
def g37_0 : IL := [⟨some 2, .boxN 2 (.t 0), none⟩, ⟨some 3, .boxN 3 (.t 1), none⟩, ⟨some 4, .val (.mov (.c (.bool false))), none⟩]
def g37_1 : IL := [⟨some 6, .val (.faddr 2 (.t 3)), none⟩, ⟨some 7, .val (.load none (.t 6)), none⟩, ⟨some 8, .call (.f 63) [(.t 7)], none⟩, ⟨some 9, .val (.un .not (.t 8)), none⟩, ⟨some 10, .val (.mov (.t 9)), none⟩, ⟨some 11, .val (.faddr 2 (.t 3)), (some (10, false))⟩, ⟨some 12, .val (.load none (.t 11)), (some (10, false))⟩, ⟨some 13, .val (.len 0 (.t 12)), (some (10, false))⟩, ⟨some 14, .val (.bin .num .gtr (.t 13) (.c (.int .i64 4096))), (some (10, false))⟩, ⟨some 15, .val (.pick (.t 10) (.c (.bool true)) (.t 14)), none⟩, ⟨some 16, .val (.mov (.t 15)), none⟩, ⟨some 17, .val (.faddr 3 (.t 3)), (some (16, false))⟩, ⟨some 18, .val (.load none (.t 17)), (some (16, false))⟩, ⟨some 19, .val (.bin .num .lss (.t 18) (.c (.int .i64 1))), (some (16, false))⟩, ⟨some 20, .val (.pick (.t 16) (.c (.bool true)) (.t 19)), none⟩, ⟨some 21, .val (.mov (.t 20)), none⟩, ⟨some 22, .val (.faddr 3 (.t 3)), (some (21, false))⟩, ⟨some 23, .val (.load none (.t 22)), (some (21, false))⟩, ⟨some 24, .val (.bin .num .gtr (.t 23) (.c (.int .i64 5))), (some (21, false))⟩, ⟨some 25, .val (.pick (.t 21) (.c (.bool true)) (.t 24)), none⟩, ⟨some 26, .val (.mov (.t 25)), none⟩, ⟨some 27, .val (.faddr 5 (.t 3)), (some (26, false))⟩, ⟨some 28, .val (.load none (.t 27)), (some (26, false))⟩, ⟨some 29, .val (.bin .num .lss (.t 28) (.c (.int .i64 1))), (some (26, false))⟩, ⟨some 30, .val (.pick (.t 26) (.c (.bool true)) (.t 29)), none⟩, ⟨some 31, .val (.mov (.t 30)), none⟩, ⟨some 32, .val (.faddr 5 (.t 3)), (some (31, false))⟩, ⟨some 33, .val (.load none (.t 32)), (some (31, false))⟩, ⟨some 34, .val (.bin .num .gtr (.t 33) (.c (.int .i64 10))), (some (31, false))⟩, ⟨some 35, .val (.pick (.t 31) (.c (.bool true)) (.t 34)), none⟩]
def g37_2 : IL := [⟨some 4, .val (.mov (.c (.bool false))), none⟩]
def g37_3 : IL := [⟨some 36, .val (.faddr 4 (.t 3)), none⟩, ⟨some 37, .val (.load none (.t 36)), none⟩, ⟨some 38, .val (.bin .num .geq (.t 37) (.c (.int .i64 1))), none⟩, ⟨some 39, .val (.mov (.t 38)), none⟩, ⟨some 40, .val (.faddr 4 (.t 3)), (some (39, true))⟩, ⟨some 41, .val (.load none (.t 40)), (some (39, true))⟩, ⟨some 42, .val (.bin .num .leq (.t 41) (.c (.int .i64 5))), (some (39, true))⟩, ⟨some 43, .val (.pick (.t 39) (.t 42) (.c (.bool false))), none⟩, ⟨some 44, .val (.mov (.t 43)), none⟩, ⟨some 45, .val (.faddr 4 (.t 3)), (some (44, false))⟩, ⟨some 46, .val (.load none (.t 45)), (some (44, false))⟩, ⟨some 47, .val (.bin .num .eql (.t 46) (.c (.int .i64 7))), (some (44, false))⟩, ⟨some 48, .val (.pick (.t 44) (.c (.bool true)) (.t 47)), none⟩, ⟨some 5, .val (.mov (.t 48)), none⟩]
def g37_4 : IL := [⟨some 49, .val (.faddr 3 (.t 3)), none⟩, ⟨some 50, .val (.load none (.t 49)), none⟩, ⟨some 51, .val (.bin .num .neq (.t 50) (.c (.int .i64 5))), none⟩]
def g37_5 : IL := [⟨some 52, .val (.faddr 4 (.t 3)), none⟩, ⟨some 53, .val (.load none (.t 52)), none⟩, ⟨some 54, .val (.bin .num .eql (.t 53) (.c (.int .i64 0))), none⟩, ⟨some 5, .val (.mov (.t 54)), none⟩]
def g37_6 : IL := [⟨some 55, .val (.mov (.t 5)), none⟩, ⟨some 56, .val (.mov (.t 55)), none⟩, ⟨some 57, .val (.load (some 2) (.t 2)), (some (56, true))⟩, ⟨some 58, .val (.load (some 8) (.t 3)), (some (56, true))⟩, ⟨some 59, .call (.f 64) [(.t 57), (.t 58)], (some (56, true))⟩, ⟨some 60, .val (.pick (.t 56) (.t 59) (.c (.bool false))), none⟩, ⟨some 61, .val (.mov (.t 60)), none⟩, ⟨some 62, .val (.faddr 7 (.t 3)), (some (61, true))⟩, ⟨some 63, .val (.load none (.t 62)), (some (61, true))⟩, ⟨some 64, .val (.bin .num .eql (.t 63) (.c (.int .i64 (-1)))), (some (61, true))⟩, ⟨some 65, .val (.mov (.t 64)), (some (61, true))⟩, ⟨some 66, .val (.faddr 3 (.t 3)), (some (65, false))⟩, ⟨some 67, .val (.load none (.t 66)), (some (65, false))⟩, ⟨some 68, .val (.bin .num .eql (.t 67) (.c (.int .i64 2))), (some (65, false))⟩, ⟨some 69, .val (.pick (.t 65) (.c (.bool true)) (.t 68)), (some (61, true))⟩, ⟨some 70, .val (.pick (.t 61) (.t 69) (.c (.bool false))), none⟩, ⟨some 4, .val (.mov (.t 70)), none⟩]
def r37 : RC := .seq (.reg g37_0) (.seq (.seq (.reg g37_1) (.cond (.t 35) (.seq (.reg g37_2) (.ret)) (.skip))) (.seq (.reg g37_3) (.seq (.seq (.reg g37_4) (.cond (.t 51) (.reg g37_5) (.skip))) (.seq (.reg g37_6) (.ret)))))
def o37 : List RR := [.tmp 4]
theorem k37 : CT 37 71 r37 o37 := ck Tryz.func37 Tryz.ntmps37 (by decide +kernel)
abbrev g59_0 : IL := [⟨some 2, .val (.mov (.c (.bool false))), none⟩]
abbrev g59_1 : IL := [⟨some 4, .val (.mov (.t 0)), none⟩, ⟨some 5, .val (.len 0 (.t 4)), none⟩, ⟨some 6, .val (.bin .num .eql (.t 5) (.c (.int .i64 0))), none⟩, ⟨some 7, .val (.mov (.t 6)), none⟩, ⟨some 8, .val (.mov (.t 0)), (some (7, false))⟩, ⟨some 9, .val (.len 0 (.t 8)), (some (7, false))⟩, ⟨some 10, .val (.bin .num .gtr (.t 9) (.c (.int .i64 40))), (some (7, false))⟩, ⟨some 11, .val (.pick (.t 7) (.c (.bool true)) (.t 10)), none⟩, ⟨some 12, .val (.mov (.t 11)), none⟩, ⟨some 13, .val (.mov (.t 0)), (some (12, false))⟩, ⟨some 14, .val (.idx (.t 13) (.c (.int .i64 0))), (some (12, false))⟩, ⟨some 15, .call (.f 133) [(.t 14)], (some (12, false))⟩, ⟨some 16, .val (.un .not (.t 15)), (some (12, false))⟩, ⟨some 17, .val (.mov (.t 16)), (some (12, false))⟩, ⟨some 18, .val (.mov (.t 0)), (some (17, true))⟩, ⟨some 19, .val (.idx (.t 18) (.c (.int .i64 0))), (some (17, true))⟩, ⟨some 20, .call (.f 134) [(.t 19)], (some (17, true))⟩, ⟨some 21, .val (.un .not (.t 20)), (some (17, true))⟩, ⟨some 22, .val (.pick (.t 17) (.t 21) (.c (.bool false))), (some (12, false))⟩, ⟨some 23, .val (.pick (.t 12) (.c (.bool true)) (.t 22)), none⟩]
abbrev g59_2 : IL := [⟨some 2, .val (.mov (.c (.bool false))), none⟩]
abbrev g59_3 : IL := [⟨some 3, .val (.mov (.c (.int .i64 1))), none⟩]
abbrev g59_4 : IL := [⟨some 24, .val (.mov (.t 3)), none⟩, ⟨some 25, .val (.mov (.t 0)), none⟩, ⟨some 26, .val (.len 0 (.t 25)), none⟩, ⟨some 27, .val (.bin .num .lss (.t 24) (.t 26)), none⟩]
abbrev g59_6 : IL := [⟨some 30, .val (.mov (.t 0)), none⟩, ⟨some 31, .val (.mov (.t 3)), none⟩, ⟨some 32, .val (.idx (.t 30) (.t 31)), none⟩, ⟨some 33, .call (.f 133) [(.t 32)], none⟩, ⟨some 34, .val (.un .not (.t 33)), none⟩, ⟨some 35, .val (.mov (.t 34)), none⟩, ⟨some 36, .val (.mov (.t 0)), (some (35, true))⟩, ⟨some 37, .val (.mov (.t 3)), (some (35, true))⟩, ⟨some 38, .val (.idx (.t 36) (.t 37)), (some (35, true))⟩, ⟨some 39, .call (.f 134) [(.t 38)], (some (35, true))⟩, ⟨some 40, .val (.un .not (.t 39)), (some (35, true))⟩, ⟨some 41, .val (.pick (.t 35) (.t 40) (.c (.bool false))), none⟩, ⟨some 42, .val (.mov (.t 41)), none⟩, ⟨some 43, .val (.mov (.t 0)), (some (42, true))⟩, ⟨some 44, .val (.mov (.t 3)), (some (42, true))⟩, ⟨some 45, .val (.idx (.t 43) (.t 44)), (some (42, true))⟩, ⟨some 46, .val (.bin .num .neq (.t 45) (.c (.int .u8 95))), (some (42, true))⟩, ⟨some 47, .val (.pick (.t 42) (.t 46) (.c (.bool false))), none⟩, ⟨some 48, .val (.mov (.t 47)), none⟩, ⟨some 49, .val (.mov (.t 0)), (some (48, true))⟩, ⟨some 50, .val (.mov (.t 3)), (some (48, true))⟩, ⟨some 51, .val (.idx (.t 49) (.t 50)), (some (48, true))⟩, ⟨some 52, .val (.bin .num .lss (.t 51) (.c (.int .u8 48))), (some (48, true))⟩, ⟨some 53, .val (.mov (.t 52)), (some (48, true))⟩, ⟨some 54, .val (.mov (.t 0)), (some (53, false))⟩, ⟨some 55, .val (.mov (.t 3)), (some (53, false))⟩, ⟨some 56, .val (.idx (.t 54) (.t 55)), (some (53, false))⟩, ⟨some 57, .val (.bin .num .gtr (.t 56) (.c (.int .u8 57))), (some (53, false))⟩, ⟨some 58, .val (.pick (.t 53) (.c (.bool true)) (.t 57)), (some (48, true))⟩, ⟨some 59, .val (.pick (.t 48) (.t 58) (.c (.bool false))), none⟩]
abbrev g59_7 : IL := [⟨some 2, .val (.mov (.c (.bool false))), none⟩]
abbrev g59_5 : IL := [⟨some 28, .val (.mov (.t 3)), none⟩, ⟨some 29, .val (.bin .num .add (.t 28) (.c (.int .i64 1))), none⟩, ⟨some 3, .val (.mov (.t 29)), none⟩]
abbrev l59_0 : RC := .seq (.seq (.reg g59_4) (.cond (.t 27) (.skip) (.exit 0))) (.seq (.block 1 (.seq (.reg g59_6) (.cond (.t 59) (.seq (.reg g59_7) (.ret)) (.skip)))) (.reg g59_5))
abbrev g59_8 : IL := [⟨some 2, .val (.mov (.c (.bool true))), none⟩]
abbrev r59 : RC := .seq (.reg g59_0) (.seq (.seq (.reg g59_1) (.cond (.t 23) (.seq (.reg g59_2) (.ret)) (.skip))) (.seq (.seq (.reg g59_3) (.block 0 (.loop l59_0))) (.seq (.reg g59_8) (.ret))))
abbrev o59 : List RR := [.tmp 2]
theorem k59 : CT 59 60 r59 o59 := ck Tryz.func59 Tryz.ntmps59 (by decide +kernel)
def g193_0 : IL := [⟨some 4, .val (.mov (.c (.int .i64 0))), none⟩]
def g193_1 : IL := [⟨some 6, .val (.mov (.t 0)), none⟩, ⟨some 7, .val (.mov (.t 1)), none⟩, ⟨some 8, .val (.idx (.t 6) (.t 7)), none⟩, ⟨some 5, .val (.mov (.t 8)), none⟩]
def g193_2 : IL := [⟨some 10, .val (.mov (.t 5)), none⟩, ⟨some 11, .val (.bin .num .lss (.t 10) (.c (.int .u8 128))), none⟩, ⟨some 9, .val (.mov (.t 11)), none⟩]
def g193_3 : IL := [⟨some 4, .val (.mov (.c (.int .i64 1))), none⟩]
def g193_4 : IL := [⟨some 13, .val (.mov (.t 5)), none⟩, ⟨some 14, .val (.bin .num .geq (.t 13) (.c (.int .u8 194))), none⟩, ⟨some 15, .val (.mov (.t 14)), none⟩, ⟨some 16, .val (.mov (.t 5)), (some (15, true))⟩, ⟨some 17, .val (.bin .num .leq (.t 16) (.c (.int .u8 223))), (some (15, true))⟩, ⟨some 18, .val (.pick (.t 15) (.t 17) (.c (.bool false))), none⟩, ⟨some 19, .val (.mov (.t 18)), none⟩, ⟨some 20, .val (.mov (.t 0)), (some (19, true))⟩, ⟨some 21, .val (.mov (.t 1)), (some (19, true))⟩, ⟨some 22, .val (.bin .num .add (.t 21) (.c (.int .i64 1))), (some (19, true))⟩, ⟨some 23, .call (.f 253) [(.t 20), (.t 22), (.c (.int .i64 1))], (some (19, true))⟩, ⟨some 24, .val (.pick (.t 19) (.t 23) (.c (.bool false))), none⟩, ⟨some 12, .val (.mov (.t 24)), none⟩]
def g193_5 : IL := [⟨some 4, .val (.mov (.c (.int .i64 2))), none⟩]
def g193_6 : IL := [⟨some 26, .val (.mov (.t 5)), none⟩, ⟨some 27, .val (.bin .num .eql (.t 26) (.c (.int .u8 224))), none⟩, ⟨some 28, .val (.mov (.t 27)), none⟩, ⟨some 29, .val (.mov (.t 0)), (some (28, true))⟩, ⟨some 30, .val (.mov (.t 1)), (some (28, true))⟩, ⟨some 31, .val (.bin .num .add (.t 30) (.c (.int .i64 1))), (some (28, true))⟩, ⟨some 32, .call (.f 254) [(.t 29), (.t 31), (.c (.int .u8 160)), (.c (.int .u8 191))], (some (28, true))⟩, ⟨some 33, .val (.pick (.t 28) (.t 32) (.c (.bool false))), none⟩, ⟨some 34, .val (.mov (.t 33)), none⟩, ⟨some 35, .val (.mov (.t 0)), (some (34, true))⟩, ⟨some 36, .val (.mov (.t 1)), (some (34, true))⟩, ⟨some 37, .val (.bin .num .add (.t 36) (.c (.int .i64 2))), (some (34, true))⟩, ⟨some 38, .call (.f 253) [(.t 35), (.t 37), (.c (.int .i64 1))], (some (34, true))⟩, ⟨some 39, .val (.pick (.t 34) (.t 38) (.c (.bool false))), none⟩, ⟨some 25, .val (.mov (.t 39)), none⟩]
def g193_7 : IL := [⟨some 4, .val (.mov (.c (.int .i64 3))), none⟩]
def g193_8 : IL := [⟨some 41, .val (.mov (.t 5)), none⟩, ⟨some 42, .val (.bin .num .eql (.t 41) (.c (.int .u8 237))), none⟩, ⟨some 43, .val (.mov (.t 42)), none⟩, ⟨some 44, .val (.mov (.t 0)), (some (43, true))⟩, ⟨some 45, .val (.mov (.t 1)), (some (43, true))⟩, ⟨some 46, .val (.bin .num .add (.t 45) (.c (.int .i64 1))), (some (43, true))⟩, ⟨some 47, .call (.f 254) [(.t 44), (.t 46), (.c (.int .u8 128)), (.c (.int .u8 159))], (some (43, true))⟩, ⟨some 48, .val (.pick (.t 43) (.t 47) (.c (.bool false))), none⟩, ⟨some 49, .val (.mov (.t 48)), none⟩, ⟨some 50, .val (.mov (.t 0)), (some (49, true))⟩, ⟨some 51, .val (.mov (.t 1)), (some (49, true))⟩, ⟨some 52, .val (.bin .num .add (.t 51) (.c (.int .i64 2))), (some (49, true))⟩, ⟨some 53, .call (.f 253) [(.t 50), (.t 52), (.c (.int .i64 1))], (some (49, true))⟩, ⟨some 54, .val (.pick (.t 49) (.t 53) (.c (.bool false))), none⟩, ⟨some 40, .val (.mov (.t 54)), none⟩]
def g193_9 : IL := [⟨some 4, .val (.mov (.c (.int .i64 3))), none⟩]
def g193_10 : IL := [⟨some 56, .val (.mov (.t 5)), none⟩, ⟨some 57, .val (.bin .num .geq (.t 56) (.c (.int .u8 225))), none⟩, ⟨some 58, .val (.mov (.t 57)), none⟩, ⟨some 59, .val (.mov (.t 5)), (some (58, true))⟩, ⟨some 60, .val (.bin .num .leq (.t 59) (.c (.int .u8 239))), (some (58, true))⟩, ⟨some 61, .val (.pick (.t 58) (.t 60) (.c (.bool false))), none⟩, ⟨some 62, .val (.mov (.t 61)), none⟩, ⟨some 63, .val (.mov (.t 5)), (some (62, true))⟩, ⟨some 64, .val (.bin .num .neq (.t 63) (.c (.int .u8 237))), (some (62, true))⟩, ⟨some 65, .val (.pick (.t 62) (.t 64) (.c (.bool false))), none⟩, ⟨some 66, .val (.mov (.t 65)), none⟩, ⟨some 67, .val (.mov (.t 0)), (some (66, true))⟩, ⟨some 68, .val (.mov (.t 1)), (some (66, true))⟩, ⟨some 69, .val (.bin .num .add (.t 68) (.c (.int .i64 1))), (some (66, true))⟩, ⟨some 70, .call (.f 253) [(.t 67), (.t 69), (.c (.int .i64 2))], (some (66, true))⟩, ⟨some 71, .val (.pick (.t 66) (.t 70) (.c (.bool false))), none⟩, ⟨some 55, .val (.mov (.t 71)), none⟩]
def g193_11 : IL := [⟨some 4, .val (.mov (.c (.int .i64 3))), none⟩]
def g193_12 : IL := [⟨some 73, .val (.mov (.t 5)), none⟩, ⟨some 74, .val (.bin .num .eql (.t 73) (.c (.int .u8 240))), none⟩, ⟨some 75, .val (.mov (.t 74)), none⟩, ⟨some 76, .val (.mov (.t 0)), (some (75, true))⟩, ⟨some 77, .val (.mov (.t 1)), (some (75, true))⟩, ⟨some 78, .val (.bin .num .add (.t 77) (.c (.int .i64 1))), (some (75, true))⟩, ⟨some 79, .call (.f 254) [(.t 76), (.t 78), (.c (.int .u8 144)), (.c (.int .u8 191))], (some (75, true))⟩, ⟨some 80, .val (.pick (.t 75) (.t 79) (.c (.bool false))), none⟩, ⟨some 81, .val (.mov (.t 80)), none⟩, ⟨some 82, .val (.mov (.t 0)), (some (81, true))⟩, ⟨some 83, .val (.mov (.t 1)), (some (81, true))⟩, ⟨some 84, .val (.bin .num .add (.t 83) (.c (.int .i64 2))), (some (81, true))⟩, ⟨some 85, .call (.f 253) [(.t 82), (.t 84), (.c (.int .i64 2))], (some (81, true))⟩, ⟨some 86, .val (.pick (.t 81) (.t 85) (.c (.bool false))), none⟩, ⟨some 72, .val (.mov (.t 86)), none⟩]
def g193_13 : IL := [⟨some 4, .val (.mov (.c (.int .i64 4))), none⟩]
def g193_14 : IL := [⟨some 88, .val (.mov (.t 5)), none⟩, ⟨some 89, .val (.bin .num .geq (.t 88) (.c (.int .u8 241))), none⟩, ⟨some 90, .val (.mov (.t 89)), none⟩, ⟨some 91, .val (.mov (.t 5)), (some (90, true))⟩, ⟨some 92, .val (.bin .num .leq (.t 91) (.c (.int .u8 243))), (some (90, true))⟩, ⟨some 93, .val (.pick (.t 90) (.t 92) (.c (.bool false))), none⟩, ⟨some 94, .val (.mov (.t 93)), none⟩, ⟨some 95, .val (.mov (.t 0)), (some (94, true))⟩, ⟨some 96, .val (.mov (.t 1)), (some (94, true))⟩, ⟨some 97, .val (.bin .num .add (.t 96) (.c (.int .i64 1))), (some (94, true))⟩, ⟨some 98, .call (.f 253) [(.t 95), (.t 97), (.c (.int .i64 3))], (some (94, true))⟩, ⟨some 99, .val (.pick (.t 94) (.t 98) (.c (.bool false))), none⟩, ⟨some 87, .val (.mov (.t 99)), none⟩]
def g193_15 : IL := [⟨some 4, .val (.mov (.c (.int .i64 4))), none⟩]
def g193_16 : IL := [⟨some 101, .val (.mov (.t 5)), none⟩, ⟨some 102, .val (.bin .num .eql (.t 101) (.c (.int .u8 244))), none⟩, ⟨some 103, .val (.mov (.t 102)), none⟩, ⟨some 104, .val (.mov (.t 0)), (some (103, true))⟩, ⟨some 105, .val (.mov (.t 1)), (some (103, true))⟩, ⟨some 106, .val (.bin .num .add (.t 105) (.c (.int .i64 1))), (some (103, true))⟩, ⟨some 107, .call (.f 254) [(.t 104), (.t 106), (.c (.int .u8 128)), (.c (.int .u8 143))], (some (103, true))⟩, ⟨some 108, .val (.pick (.t 103) (.t 107) (.c (.bool false))), none⟩, ⟨some 109, .val (.mov (.t 108)), none⟩, ⟨some 110, .val (.mov (.t 0)), (some (109, true))⟩, ⟨some 111, .val (.mov (.t 1)), (some (109, true))⟩, ⟨some 112, .val (.bin .num .add (.t 111) (.c (.int .i64 2))), (some (109, true))⟩, ⟨some 113, .call (.f 253) [(.t 110), (.t 112), (.c (.int .i64 2))], (some (109, true))⟩, ⟨some 114, .val (.pick (.t 109) (.t 113) (.c (.bool false))), none⟩, ⟨some 100, .val (.mov (.t 114)), none⟩]
def g193_17 : IL := [⟨some 4, .val (.mov (.c (.int .i64 4))), none⟩]
def g193_18 : IL := [⟨some 4, .val (.mov (.c (.int .i64 0))), none⟩]
def r193 : RC := .seq (.reg g193_0) (.seq (.reg g193_1) (.seq (.block 0 (.seq (.reg g193_2) (.cond (.t 9) (.seq (.reg g193_3) (.ret)) (.seq (.reg g193_4) (.cond (.t 12) (.seq (.reg g193_5) (.ret)) (.seq (.reg g193_6) (.cond (.t 25) (.seq (.reg g193_7) (.ret)) (.seq (.reg g193_8) (.cond (.t 40) (.seq (.reg g193_9) (.ret)) (.seq (.reg g193_10) (.cond (.t 55) (.seq (.reg g193_11) (.ret)) (.seq (.reg g193_12) (.cond (.t 72) (.seq (.reg g193_13) (.ret)) (.seq (.reg g193_14) (.cond (.t 87) (.seq (.reg g193_15) (.ret)) (.seq (.reg g193_16) (.cond (.t 100) (.seq (.reg g193_17) (.ret)) (.skip)))))))))))))))))) (.seq (.reg g193_18) (.ret))))
def o193 : List RR := [.tmp 4]
theorem k193 : CT 193 115 r193 o193 := ck Tryz.func193 Tryz.ntmps193 (by decide +kernel)
end Go.Proofs.YtdgbidbkcigkhaaGreatDoor.Rc

namespace Go.Proofs.YtdgbidbkcigkhaaGreatDoor.Bt
open Go

theorem wi64 (n : Int) : IntKind.i64.wrap n = (n + 9223372036854775808) % 18446744073709551616 - 9223372036854775808 := IntKind.wrap_i64 n

end Go.Proofs.YtdgbidbkcigkhaaGreatDoor.Bt

set_option linter.unusedSimpArgs false
namespace Go.Proofs.YtdgbidbkcigkhaaGreatDoor.Va
open Go Am Rc Bt

def RB (v : AV) : Prop := ∃ b, v = .bool b
theorem rb (b : Bool) : RB (.bool b) = True := eq_true ⟨b, rfl⟩
theorem RB.rf {v : AV} {l : List AV} (h : RB v) : v.rf = true ∧ (AV.rfL l = true ∨ v.nl = true) := by
  obtain ⟨b, rfl⟩ := h
  exact ⟨rfl, .inr rfl⟩

end Go.Proofs.YtdgbidbkcigkhaaGreatDoor.Va

set_option linter.unusedSimpArgs false
namespace Go.Proofs.YtdgbidbkcigkhaaGreatDoor.Va
open Go Am Rc Bt

def isk (k : Int) : Bool := decide (k ≥ 1) && decide (k ≤ 9)
def txk (k : Int) : Bool := k == 7 || k == 8
theorem x190 (k : Int) : Fn1 Tryz.prog 190 [.int .i64 k] (.bool (isk k)) := by
  refine wF Tryz.func190 ?_; simp only [eK, Tryz.f190, seval]
  simp only [isk, eES, eEX, seval]
  cases h : decide (k ≥ 1) <;> simp only [h, Bool.true_and, Bool.false_and, eES, eEX, seval]

theorem x151 (k : Int) : Fn1 Tryz.prog 151 [.int .i64 k] (.bool (isk k)) := by
  refine wF Tryz.func151 ?_; simp only [eK, Tryz.f151, seval]
  simp only [isk, eES, eEX, seval]
  cases h : decide (k ≥ 1) <;> simp only [h, Bool.true_and, Bool.false_and, eES, eEX, seval]

theorem x192 (k : Int) : Fn1 Tryz.prog 192 [.int .i64 k] (.bool (txk k)) := by
  refine wF Tryz.func192 ?_; simp only [eK, Tryz.f192, seval]
  simp only [txk, eES, eEX, seval]
  cases h : (k == 7) <;> simp only [h, Bool.true_or, Bool.false_or, eES, eEX, seval]

theorem x271 (k : Int) : Fn1 Tryz.prog 271 [.int .i64 k] (.bool (txk k)) := by
  refine wF Tryz.func271 ?_; simp only [eK, Tryz.f271, seval]
  simp only [txk, eES, eEX, seval]
  cases h : (k == 7) <;> simp only [h, Bool.true_or, Bool.false_or, eES, eEX, seval]

def oc (n : Int) (s a : List UInt8) (c k kd t u : Int) : AV := .agg [.int .i64 n, .str s, .str a, .int .i64 c, .int .i64 k, .int .i64 kd, .int .i64 t, .int .i64 u]

section
variable (n : Int) (s a : List UInt8) (c k kd t u : Int)

end

end Go.Proofs.YtdgbidbkcigkhaaGreatDoor.Va

set_option linter.unusedSimpArgs false
namespace Go.Proofs.YtdgbidbkcigkhaaGreatDoor.Va
open Go Am Rc Bt

theorem wi64_s (i : Nat) (n : Nat) (h : i < n) (hn : n ≤ maxLen) : IntKind.i64.wrap ((i : Int) + 1) = ((i + 1 : Nat) : Int) := by
  simp only [maxLen] at hn
  rw [wi64]; omega

theorem lt_t {i n : Nat} (h : i < n) : decide ((i : Int) < (n : Int)) = true := by simp; omega
theorem lt_f {i n : Nat} (h : ¬ i < n) : decide ((i : Int) < (n : Int)) = false := by simp; omega
theorem nneg (i : Nat) : (0 ≤ (i : Int)) = True := by simp

end Go.Proofs.YtdgbidbkcigkhaaGreatDoor.Va

namespace Go.Proofs.YtdgbidbkcigkhaaGreatDoor.Br
open Go Am Go.RowKit Go.WideShapes Go.ChangeShapes Go.ChangeAt Go.Joins Go.Deep Go.WideElems Go.Maps

section
variable {H : Type} {enc : TypeId × Value → H} {P : Program} {W : World} {base : Nat} {sp : Nat → Bool} {held : Bool}

end

end Go.Proofs.YtdgbidbkcigkhaaGreatDoor.Br

namespace Go.Proofs.YtdgbidbkcigkhaaGreatDoor.Br
open Go Am Go.RowKit Go.WideShapes Go.ChangeShapes Go.ChangeAt Go.Joins Go.Deep Go.WideElems Go.Maps

theorem flatMap_get {X α : Type} {f : X → List α} {sz : Nat} (hsz : 0 < sz) (hf : ∀ x, (f x).length = sz) : ∀ (xs : List X) (j : Nat), (xs.flatMap f)[j]? = (xs[j / sz]?).bind fun x => (f x)[j % sz]?
  | [], j => by simp
  | x :: xs, j => by
    rw [List.flatMap_cons]
    by_cases hj : j < sz
    · rw [List.getElem?_append_left (by rw [hf]; exact hj), Nat.div_eq_of_lt hj, Nat.mod_eq_of_lt hj]; rfl
    · obtain ⟨i, rfl⟩ : ∃ i, j = sz + i := ⟨j - sz, by omega⟩
      rw [List.getElem?_append_right (by rw [hf]; omega), hf, flatMap_get hsz hf xs, show sz + i - sz = i by omega, show (sz + i) / sz = i / sz + 1 by rw [Nat.add_div_left _ hsz], Nat.add_mod_left]
      rfl

section
variable {H : Type} {enc : TypeId × Value → H} {P : Program} {W : World}

structure El (enc : TypeId × Value → H) (P : Program) (e : TypeId) (sz : Nat) (X : Type) where
  av : X → AV
  vals : X → List Value
  dat : X → DataW H
  ok : X → Prop
  pos : 0 < sz
  len : ∀ x, (vals x).length = sz
  cells : ∀ x, (av x).cells.length = sz
  rfl' : ∀ x, AV.rfL (av x).cells = true
  leaf : ∀ x, (av x).cells.all AV.leaf = true
  rep : ∀ (G : Gh) x, RepL G (av x).cells (vals x)
  opened : ∀ {W : World} {n : Nat} {cs : List Value} {d : DataW H} {pl : List MemPlace}, cs.length = sz → DataW.trod enc P W 0 (fun _ => true) true n e cs = some (d, pl) → ∃ x, ok x ∧ cs = vals x ∧ d = dat x ∧ pl = []
  shut : ∀ (W : World) (sp : Nat → Bool) x, ok x → ∃ n, DataW.trod enc P W 0 sp true n e (vals x) = some (dat x, [])

end
end Go.Proofs.YtdgbidbkcigkhaaGreatDoor.Br

namespace Go.Proofs.YtdgbidbkcigkhaaGreatDoor.Br
open Go Am Go.RowKit Go.WideShapes Go.ChangeShapes Go.ChangeAt Go.Joins Go.Deep Go.WideElems Go.Maps

def elemV : List AV → AV
  | [x] => x
  | l => .agg l

def consec (P : Program) : Nat → List Field → Nat → Bool
  | o, [], n => Nat.beq o n
  | o, f :: fs, n => Nat.beq f.offset o && consec P (o + P.cellsOf f.type) fs n

def plain1 (P : Program) (ts : List TypeId) (t : TypeId) : Bool :=
  match P.underlying t with
  | some (.int _) | some .bool | some .string => P.cellsOf t == 1
  | some (.struct fs) => consec P 0 fs.toList (P.cellsOf t) && fs.toList.all fun f => ts.contains f.type
  | some (.slice e) => P.cellsOf t == 1 && (decide (0 < P.cellsOf e) && decide (0 < P.bytesOf e)) && ts.contains e
  | _ => false
def plainS (P : Program) (ts : List TypeId) : Bool := ts.all (plain1 P ts)

def Has (P : Program) (M : Nat) : Nat → TypeId → List AV → Prop
  | 0, _, _ => False
  | k + 1, t, cs => match P.underlying t with
    | some (.int ik) => ∃ n, cs = [.int ik n] ∧ (Lit.int ik n).wf = true
    | some .bool => ∃ b, cs = [.bool b]
    | some .string => ∃ s, cs = [.str s] ∧ s.length ≤ M
    | some (.struct fs) => HasL (Has P M k) fs.toList cs
    | some (.slice e) => ∃ l : List (List AV), cs = [.list (l.map elemV)] ∧ (l.length ≤ maxLen ∧ (M = reachBytes → l.length * P.bytesOf e ≤ M)) ∧ (∀ c ∈ l, Has P M k e c) ∧ l.length ≤ M
    | _ => False
where
  HasL (h : TypeId → List AV → Prop) : List Field → List AV → Prop
    | [], cs => cs = []
    | f :: fs, cs => ∃ a b, cs = a ++ b ∧ h f.type a ∧ HasL h fs b

theorem elemV_cells {l : List AV} (h : l.all AV.leaf = true) : (elemV l).cells = l := by
  match l, h with
  | [], _ => rfl
  | [x], h => cases x <;> first | rfl | simp [AV.leaf] at h
  | _ :: _ :: _, _ => rfl

mutual
def wt : AV → Nat
  | .list l => 1 + wtL l
  | .agg l => wtL l
  | _ => 1
def wtL : List AV → Nat
  | [] => 0
  | x :: l => wt x + wtL l
end
theorem wtL_app (a b : List AV) : wtL (a ++ b) = wtL a + wtL b := by
  induction a with
  | nil => simp [wtL]
  | cons x a ih => simp only [List.cons_append, wtL, ih]; omega
theorem wt_elemV : ∀ l : List AV, wt (elemV l) = wtL l
  | [] => by simp [elemV, wt]
  | [x] => by simp [elemV, wtL]
  | _ :: _ :: _ => by simp [elemV, wt]

theorem repL_flatten {G : Gh} : ∀ {ls : List (List AV)} {cs : List (List Value)}, ls.length = cs.length → (∀ i (h1 : i < ls.length) (h2 : i < cs.length), RepL G ls[i] cs[i]) → RepL G ls.flatten cs.flatten
  | [], [], _, _ => .nil
  | l :: ls, c :: cs, hn, h => by
    rw [List.flatten_cons, List.flatten_cons]
    exact RepL.append (h 0 (by simp) (by simp)) (repL_flatten (by simpa using hn) fun i h1 h2 => h (i + 1) (by simpa using h1) (by simpa using h2))
  | [], _ :: _, hn, _ => by simp at hn
  | _ :: _, [], hn, _ => by simp at hn

section
variable {H : Type} {enc : TypeId × Value → H} {P : Program} {W : World} {M : Nat}

theorem bulk_mem {d : DataW H} : ∀ {l : List (DataW H)}, d ∈ l → Rows.uptoBulk d ≤ Rows.uptoBulkAll l
  | [], h => by cases h
  | x :: l, h => by
    rw [Rows.uptoBulkAll]
    rcases List.mem_cons.1 h with rfl | h
    · omega
    · have := bulk_mem h
      omega

theorem bulk_pos (d : DataW H) : 1 ≤ Rows.uptoBulk d := by unfold Rows.uptoBulk; split <;> omega
theorem wt_one {x : AV} (h : wt x = 1) (d : DataW H) : wtL [x] ≤ Rows.uptoBulk d := by
  have := bulk_pos d
  rw [wtL, wtL, h]; exact this
theorem bulk_app (a b : List (DataW H)) : Rows.uptoBulkAll (a ++ b) = Rows.uptoBulkAll a + Rows.uptoBulkAll b := by
  induction a with
  | nil => simp [Rows.uptoBulkAll]
  | cons x a ih => simp only [List.cons_append, Rows.uptoBulkAll, ih]; omega
theorem wt_range (F : Nat → List AV) (xs : List (DataW H)) (h : ∀ i d, xs[i]? = some d → wtL (F i) ≤ Rows.uptoBulk d) : ∀ n, n ≤ xs.length → wtL (((List.range n).map F).map elemV) ≤ Rows.uptoBulkAll (xs.take n)
  | 0, _ => Nat.zero_le _
  | n + 1, hn => by
    have hx : xs[n]? = some xs[n] := List.getElem?_eq_getElem (by omega)
    have := wt_range F xs h n (by omega)
    have h1 := h n _ hx
    rw [List.range_succ, List.map_append, List.map_append, wtL_app, List.take_add_one, hx, bulk_app]
    simp only [List.map_cons, List.map_nil, wtL, wt_elemV, Option.toList_some, Rows.uptoBulkAll]
    omega

def Fit (P : Program) (M : Nat) (t : TypeId) (d : DataW H) : Prop := M = maxLen ∨ (M ≠ reachBytes ∧ Rows.uptoBulk d ≤ M) ∨ (d.weights P t).all (· ≤ M) = true

theorem weights_at {t : TypeId} {d : DataW H} : ∀ {ts : List TypeId} {ds : List (DataW H)} (i : Nat), (DataW.weightsEach P ts ds).all (· ≤ M) = true → ts[i]? = some t → ds[i]? = some d → (d.weights P t).all (· ≤ M) = true
  | [], _, _, _, h, _ => by simp at h
  | _ :: _, [], _, _, _, h => by simp at h
  | t' :: ts, d' :: ds, 0, h, h1, h2 => by
    rw [DataW.weightsEach, List.all_append, Bool.and_eq_true] at h
    cases h1; cases h2
    exact h.1
  | t' :: ts, d' :: ds, i + 1, h, h1, h2 => by
    rw [DataW.weightsEach, List.all_append, Bool.and_eq_true] at h
    exact weights_at i h.2 (by simpa using h1) (by simpa using h2)

theorem weightsAll_mem {e : TypeId} {d : DataW H} : ∀ {ds : List (DataW H)}, (DataW.weightsAll P e ds).all (· ≤ M) = true → d ∈ ds → (d.weights P e).all (· ≤ M) = true
  | [], _, h => by cases h
  | d' :: ds, h, hd => by
    rw [DataW.weightsAll, List.all_append, Bool.and_eq_true] at h
    rcases List.mem_cons.1 hd with rfl | hd
    · exact h.1
    · exact weightsAll_mem h.2 hd

def Opn (W : World) (hL : Laid W) (h : List AV → Prop) (B n : Nat) (cs : List Value) : Prop :=
  ∃ avs, h avs ∧ RepL (Gh.world W hL) avs cs ∧ avs.length = n ∧ AV.rfL avs = true ∧ avs.all AV.leaf = true ∧ wtL avs ≤ B

theorem open_fields (hL : Laid W) {h : TypeId → List AV → Prop} {cs : List Value} : ∀ (fs : List Field) (ds : List (DataW H)) (o : Nat), consec P o fs cs.length = true → fs.length = ds.length → (∀ (i : Nat) (f : Field) (d : DataW H), fs[i]? = some f → ds[i]? = some d → Opn W hL (h f.type) (Rows.uptoBulk d) (P.cellsOf f.type) ((cs.drop f.offset).take (P.cellsOf f.type))) →
    Opn W hL (Has.HasL h fs) (Rows.uptoBulkAll ds) (cs.length - o) (cs.drop o)
  | [], _, o, hc, _, _ => by
    have e : o = cs.length := Nat.eq_of_beq_eq_true hc
    refine ⟨[], rfl, ?_, by simp [e], rfl, rfl, Nat.zero_le _⟩
    rw [e, List.drop_length]
    exact .nil
  | _ :: _, [], _, _, hl, _ => by simp at hl
  | f :: fs, d :: ds, o, hc, hl, hf => by
    simp only [consec, Bool.and_eq_true] at hc
    have eo : f.offset = o := Nat.eq_of_beq_eq_true hc.1
    obtain ⟨a, a1, a2, a3, a4, a5, a6⟩ := hf 0 f d rfl rfl
    obtain ⟨b, b1, b2, b3, b4, b5, b6⟩ := open_fields hL fs ds _ hc.2 (by simpa using hl) fun i g d hg hd => hf (i + 1) g d (by simpa using hg) (by simpa using hd)
    rw [eo] at a2
    refine ⟨a ++ b, ⟨a, b, rfl, a1, b1⟩, ?_, ?_, by rw [rfL_append, a4, b4] <;> rfl, by rw [List.all_append, a5, b5] <;> rfl, by rw [wtL_app, Rows.uptoBulkAll]; omega⟩
    · have := RepL.append a2 b2
      rwa [← List.drop_drop, List.take_append_drop] at this
    · have hlen : a.length = ((cs.drop o).take (P.cellsOf f.type)).length := (RepL.length a2).symm
      rw [List.length_append, a3, b3]
      rw [a3, List.length_take, List.length_drop] at hlen
      omega

theorem open_deep (hL : Laid W) {ts : List TypeId} (hP : plainS P ts = true) : ∀ (k : Nat) (t : TypeId) (cs : List Value) (d : DataW H) (pl : List MemPlace), ts.contains t = true → DataW.trod enc P W 0 (fun _ => true) true k t cs = some (d, pl) → Fit P M t d →
    Opn W hL (Has P M k t) (Rows.uptoBulk d) (P.cellsOf t) cs
  | 0, _, _, _, _, _, h, _ => by simp [DataW.trod] at h
  | k + 1, t, cs, d, pl, ht, h, hb => by
    have hp := List.all_eq_true.1 hP t (by simpa using ht)
    unfold plain1 at hp
    split at hp
    · rename_i ik hu
      obtain ⟨v, rfl, _, hw⟩ := DataW.trod_int hu h
      refine ⟨[.int ik v], ?_, .cons (.int ik v) .nil, by rw [beq_iff_eq] at hp; simp [hp], rfl, rfl, wt_one rfl _⟩
      simp only [Has, hu]
      exact ⟨v, rfl, hw⟩
    · rename_i hu
      obtain ⟨b, rfl, _⟩ := DataW.trod_bool hu h
      refine ⟨[.bool b], ?_, .cons (.bool b) .nil, by rw [beq_iff_eq] at hp; simp [hp], rfl, rfl, wt_one rfl _⟩
      simp only [Has, hu]
      exact ⟨b, rfl⟩
    · rename_i hu
      obtain ⟨⟨⟨s⟩⟩, rfl, e, hw⟩ := DataW.trod_string hu h
      have hw : s.length ≤ M := by
        cases e
        rcases hb with rfl | hb | hb
        · exact hw
        · replace hb := hb.2
          rw [Rows.uptoBulk] at hb
          exact Nat.le_trans (Nat.le_succ _) hb
        · rw [DataW.weights] at hb
          simpa using hb
      refine ⟨[.str s], ?_, .cons (.str s) .nil, by rw [beq_iff_eq] at hp; simp [hp], rfl, rfl, wt_one rfl _⟩
      simp only [Has, hu]
      exact ⟨s, rfl, hw⟩
    · rename_i fs hu
      simp only [Bool.and_eq_true, List.all_eq_true] at hp
      obtain ⟨xs, n', hk, e, hlen, hxl, hx⟩ := DataW.trod_struct hu h
      obtain rfl : k = n' := by omega
      have hbx : ∀ (i : Nat) x (f : Field), xs[i]? = some x → fs[i]? = some f → Fit P M f.type x.1 := fun i x f hx hf => by
        cases e
        refine hb.imp id fun hb => hb.imp (fun hb => ⟨hb.1, ?_⟩) fun hb => ?_
        · replace hb := hb.2
          rw [Rows.uptoBulk] at hb
          have := bulk_mem (l := xs.map (·.1)) (List.mem_map.2 ⟨x, List.mem_of_getElem? hx, rfl⟩)
          omega
        · rw [DataW.weights, hu] at hb
          exact weights_at i hb (by simp [hf]) (by simp [hx])
      have := open_fields hL (W := W) (h := Has P M k) (cs := cs) fs.toList (xs.map (·.1)) 0 (by rw [hlen]; exact hp.1) (by simp [hxl]) (fun i f d hi hd => by
        have hi' : fs[i]? = some f := by simpa using hi
        have hf : f ∈ fs.toList := List.mem_of_getElem? hi
        obtain ⟨x, hxi, rfl⟩ : ∃ x, xs[i]? = some x ∧ x.1 = d := by
          rw [List.getElem?_map] at hd
          obtain ⟨x, h1, h2⟩ := Option.map_eq_some_iff.1 hd
          exact ⟨x, h1, h2⟩
        have h2 := hx i f hi'
        rw [hxi] at h2
        exact open_deep hL hP k f.type _ _ _ (hp.2 f hf) h2 (hbx i _ f hxi hi'))
      rw [List.drop_zero, Nat.sub_zero, hlen] at this
      obtain ⟨avs, h1, h2, h3, h4, h5, h6⟩ := this
      refine ⟨avs, ?_, h2, h3, h4, h5, by cases e; rw [Rows.uptoBulk]; omega⟩
      simp only [Has, hu]
      exact h1
    · rename_i e hu
      simp only [Bool.and_eq_true, decide_eq_true_eq, beq_iff_eq] at hp
      obtain ⟨⟨h1, h0, hby⟩, hpe⟩ := hp
      rcases DataW.trod_slice hu h with ⟨rfl, _⟩ | ⟨a, len, cap, elems, rest, n', hk, rfl, e0, _, hl, hm, hln0, hel, _⟩
      · refine ⟨[.list []], ?_, .cons (.list (cs := []) (sz := 0) .nil (by simp) rfl rfl (by simp) rfl (Nat.zero_le _) (Nat.zero_le _)) .nil, by simp [h1], rfl, rfl, wt_one rfl _⟩
        simp only [Has, hu]
        exact ⟨[], rfl, ⟨Nat.zero_le _, fun _ => by simp⟩, by simp, Nat.zero_le _⟩
      · obtain rfl : k = n' := by omega
        have hbx : ∀ x ∈ elems, Fit P M e x.1 := fun x hx => by
          cases e0
          refine hb.imp id fun hb => hb.imp (fun hb => ⟨hb.1, ?_⟩) fun hb => ?_
          · replace hb := hb.2
            rw [Rows.uptoBulk] at hb
            have := bulk_mem (l := elems.map (·.1)) (List.mem_map.2 ⟨x, hx, rfl⟩)
            omega
          · rw [DataW.weights, hu, List.all_cons, List.all_append, Bool.and_eq_true, Bool.and_eq_true] at hb
            exact weightsAll_mem hb.2.1 (List.mem_map.2 ⟨x, hx, rfl⟩)
        have hlenM : len ≤ M := by
          cases e0
          rcases hb with rfl | hb | hb
          · omega
          · have key : ∀ l : List (DataW H), l.length ≤ Rows.uptoBulkAll l := by
              intro l
              induction l with
              | nil => simp
              | cons x l ih =>
                have : 1 ≤ Rows.uptoBulk x := by unfold Rows.uptoBulk; split <;> omega
                rw [Rows.uptoBulkAll, List.length_cons]
                omega
            replace hb := hb.2
            rw [Rows.uptoBulk] at hb
            have := key (elems.map (·.1))
            rw [List.length_map] at this
            omega
          · rw [DataW.weights, hu, List.all_cons, Bool.and_eq_true] at hb
            have h5 := hb.1
            simp only [decide_eq_true_eq, List.length_map] at h5
            have h6 : elems.length * 1 ≤ (elems.length + rest.length) * P.bytesOf e := Nat.mul_le_mul (Nat.le_add_right _ _) hby
            omega
        have hlenB : M = reachBytes → len * P.bytesOf e ≤ M := fun hM => by
          cases e0
          rcases hb with rfl | hb | hb
          · exact absurd hM (by unfold maxLen reachBytes; omega)
          · exact absurd hM hb.1
          · rw [DataW.weights, hu, List.all_cons, Bool.and_eq_true] at hb
            have h5 := hb.1
            simp only [decide_eq_true_eq, List.length_map] at h5
            have h6 : elems.length * P.bytesOf e ≤ (elems.length + rest.length) * P.bytesOf e := Nat.mul_le_mul (Nat.le_add_right _ _) (Nat.le_refl _)
            have h7 : len * P.bytesOf e = elems.length * P.bytesOf e := by rw [show len = elems.length by omega]
            omega
        haveI : Inhabited ({c : List Value // c.length = P.cellsOf e} × List AV) := ⟨(⟨List.replicate (P.cellsOf e) (.bool false), by simp⟩, [])⟩
        obtain ⟨F, hF⟩ := choose_lt (α := {c : List Value // c.length = P.cellsOf e} × List AV) (n := len) (p := fun i x => W.cells? 0 (a.add (i * P.cellsOf e)) (P.cellsOf e) = some x.1.1 ∧ Has P M k e x.2 ∧ RepL (Gh.world W hL) x.2 x.1.1 ∧ x.2.length = P.cellsOf e ∧ AV.rfL x.2 = true ∧ x.2.all AV.leaf = true ∧ ∀ d, elems[i]? = some d → wtL x.2 ≤ Rows.uptoBulk d.1) (fun i hi => by
          have hb := hel i hi
          rw [List.getElem?_eq_getElem (by omega)] at hb
          obtain ⟨cs', c1, c2⟩ := Option.bind_eq_some_iff.1 hb
          obtain ⟨_, hln, _⟩ := World.cells?_some c1
          obtain ⟨avs, o1, o2, o3, o4, o5, o6⟩ := open_deep hL hP k e cs' _ _ hpe c2 (hbx _ (List.getElem_mem _))
          exact ⟨(⟨cs', hln⟩, avs), c1, o1, o2, o3, o4, o5, fun d hd => by
            rw [List.getElem?_eq_getElem (by omega)] at hd
            cases hd
            exact o6⟩)
        have cellAt : ∀ i j, i < len → j < P.cellsOf e → W.cell? (a.add (i * P.cellsOf e + j)) = (F i).1.1[j]? := by
          intro i j hi hj
          obtain ⟨_, _, h3⟩ := World.cells?_some (hF i hi).1
          rw [← h3 j hj, add_add]
        have hspot : 0 < len → a.spot = none := by
          intro hc
          have := cellAt 0 0 hc h0
          rw [Nat.zero_mul, show a.add (0 + 0) = a from rfl, List.getElem?_eq_getElem (by rw [(F 0).1.2]; exact h0)] at this
          unfold World.cell? at this
          split at this
          · split at this
            · cases this
            · rename_i h; simpa using h
          · cases this
        have hel' : ∀ c ∈ (List.range len).map (fun i => (F i).2), ∃ i, i < len ∧ c = (F i).2 := by
          intro c hc
          obtain ⟨i, hi, rfl⟩ := List.mem_map.1 hc
          exact ⟨i, List.mem_range.1 hi, rfl⟩
        have hflat : ∀ L : List (List AV), (∀ c ∈ L, c.all AV.leaf = true) → flat (L.map elemV) = L.flatten := by
          intro L
          induction L with
          | nil => intro _; rfl
          | cons c L ih =>
            intro hh
            show (elemV c).cells ++ flat (L.map elemV) = c ++ L.flatten
            rw [elemV_cells (hh c (by simp)), ih fun x hx => hh x (by simp [hx])]
        have hrf : ∀ L : List (List AV), (∀ c ∈ L, AV.rfL c = true) → AV.rfL L.flatten = true := by
          intro L
          induction L with
          | nil => intro _; rfl
          | cons c L ih =>
            intro hh
            rw [List.flatten_cons, rfL_append, hh c (by simp), ih fun x hx => hh x (by simp [hx])] <;> rfl
        have hlf : ∀ L : List (List AV), (∀ c ∈ L, c.all AV.leaf = true) → L.flatten.all AV.leaf = true := by
          intro L
          induction L with
          | nil => intro _; rfl
          | cons c L ih =>
            intro hh
            rw [List.flatten_cons, List.all_append, hh c (by simp), ih fun x hx => hh x (by simp [hx])] <;> rfl
        have hl1 : ∀ c ∈ (List.range len).map (fun i => (F i).2), c.all AV.leaf = true := fun c hc => by
          obtain ⟨i, hi, rfl⟩ := hel' c hc
          exact (hF i hi).2.2.2.2.2.1
        have hl2 : ∀ c ∈ (List.range len).map (fun i => (F i).2), AV.rfL c = true := fun c hc => by
          obtain ⟨i, hi, rfl⟩ := hel' c hc
          exact (hF i hi).2.2.2.2.1
        have hwt : wtL [.list (((List.range len).map fun i => (F i).2).map elemV)] ≤ Rows.uptoBulk d := by
          cases e0
          have hw := fun n hn => wt_range (fun i => if i < len then (F i).2 else []) (elems.map (·.1)) (fun i d hd => by
            rw [List.getElem?_map] at hd
            obtain ⟨x, h1, rfl⟩ := Option.map_eq_some_iff.1 hd
            by_cases hi : i < len
            · rw [if_pos hi]; exact (hF i hi).2.2.2.2.2.2 x h1
            · rw [if_neg hi]; exact Nat.zero_le _) n hn
          have h1 := hw len (by rw [List.length_map]; omega)
          rw [List.take_of_length_le (by rw [List.length_map]; omega)] at h1
          have h2 : (List.range len).map (fun i => if i < len then (F i).2 else []) = (List.range len).map fun i => (F i).2 := by
            refine List.map_congr_left fun i hi => ?_
            rw [if_pos (List.mem_range.1 hi)]
          rw [h2] at h1
          rw [wtL, wtL, wt, Rows.uptoBulk]
          omega
        refine ⟨[.list (((List.range len).map fun i => (F i).2).map elemV)], ?_, .cons (.list (cs := ((List.range len).map fun i => (F i).1.1).flatten) (sz := P.cellsOf e) ?_ ?_ ?_ ?_ ?_ (by simp) hl (by omega)) .nil, by simp [h1], rfl, rfl, hwt⟩
        · simp only [Has, hu]
          refine ⟨_, rfl, ⟨by simp; omega, fun hM => by simpa using hlenB hM⟩, ?_, by simpa using hlenM⟩
          intro c hc
          obtain ⟨i, hi, rfl⟩ := hel' c hc
          exact (hF i hi).2.1
        · rw [hflat _ hl1]
          refine repL_flatten (by simp) fun i g1 g2 => ?_
          simp only [List.length_map, List.length_range] at g1
          simp only [List.getElem_map, List.getElem_range]
          exact (hF i (by omega)).2.2.1
        · intro x hx
          obtain ⟨c, hc, rfl⟩ := List.mem_map.1 hx
          rw [elemV_cells (hl1 c hc)]
          obtain ⟨i, hi, rfl⟩ := hel' c hc
          exact (hF i hi).2.2.2.1
        · rw [hflat _ hl1]; exact hrf _ hl2
        · rw [hflat _ hl1]; exact hlf _ hl1
        · intro j u hj
          rw [← List.flatMap_def, flatMap_get h0 (fun i => (F i).1.2)] at hj
          by_cases hi : j / P.cellsOf e < len
          · rw [List.getElem?_range hi] at hj
            have hj : (F (j / P.cellsOf e)).1.1[j % P.cellsOf e]? = some u := hj
            have hk := cellAt (j / P.cellsOf e) (j % P.cellsOf e) (by omega) (Nat.mod_lt _ h0)
            rw [hj, Nat.div_add_mod'] at hk
            have hs := hspot (Nat.lt_of_le_of_lt (Nat.zero_le _) hi)
            obtain ⟨b, o, s⟩ := a
            subst hs
            refine ⟨b, o, rfl, ?_⟩
            refine sv_cell ?_
            show W.cell? ⟨b, o + j, none⟩ = some u
            rw [← hk]
            unfold Addr.add
            split
            · rename_i h; rw [h]; rfl
            · rfl
          · rw [List.getElem?_eq_none (by simp; omega)] at hj
            cases hj
    · cases hp

theorem deep_stays {t : TypeId} {v : Value} {d : DataW H} {p : List MemPlace} (hl : laidOutB P = true) (hr : P.readableRec t = true) (hrow : t < P.types.size) (h : DataW.Trod enc P W 0 (fun _ => true) true t v d p) :
    ∀ (W' : World) (sp : Nat → Bool), Below W.heap.size W W' → (∀ q ∈ p, sp q.block = true) → DataW.Trod enc P W' 0 sp true t v d p := by
  intro W' sp hb hs
  obtain ⟨n, hn⟩ := h
  exact Trod_stays hl hr hrow ⟨n, hn⟩ (fun x hx => hb.same (DataW.trod_lt n _ _ _ hn x hx)) hs

theorem open_struct (hL : Laid W) {t : TypeId} {fs : Array Field} {ts : List TypeId} {r : Reach} {b0 : Nat} {v : Value} {d : DataW H} {p : List MemPlace} (hP : plainS P ts = true) (ht : ts.contains t = true) (hs : P.underlying t = some (.struct fs)) (hv : Value.okWide P W r b0 t v)
    (h : DataW.Trod enc P W 0 (fun _ => true) true t v d p) (hb : Fit P M t d) : ∃ k avs, Has P M k t avs ∧ Rep (Gh.world W hL) (.agg avs) v := by
  obtain ⟨⟨cs⟩, rfl, _⟩ := okWide_struct hs hv
  obtain ⟨n, hn⟩ := h
  obtain ⟨avs, h1, h2, _⟩ := open_deep hL hP n t _ _ _ ht hn hb
  exact ⟨n, avs, h1, .agg h2⟩
theorem open_slc (hL : Laid W) {t e : TypeId} {ts : List TypeId} {r : Reach} {b0 : Nat} {v : Value} {d : DataW H} {p : List MemPlace} (hP : plainS P ts = true) (ht : ts.contains t = true) (hs : P.underlying t = some (.slice e)) (hv : Value.okWide P W r b0 t v)
    (h : DataW.Trod enc P W 0 (fun _ => true) true t v d p) (hb : Fit P M t d) : ∃ (k : Nat) (l : List (List AV)), (∀ c ∈ l, Has P M k e c) ∧ l.length ≤ maxLen ∧ Rep (Gh.world W hL) (.list (l.map elemV)) v := by
  obtain ⟨a0, len0, cap0, rfl⟩ := okWide_slice hs hv
  obtain ⟨n, hn⟩ := h
  obtain ⟨avs, h1, h2, _⟩ := open_deep hL hP n t _ _ _ ht hn hb
  cases n with
  | zero => cases h1
  | succ k =>
  simp only [Has, hs] at h1
  obtain ⟨l, rfl, h3, h4, _⟩ := h1
  refine ⟨k, l, h4, h3.1, ?_⟩
  have h2 : RepL (Gh.world W hL) [.list (l.map elemV)] [.slice a0 len0 cap0] := h2
  cases h2 with
  | cons h _ => exact h

theorem list_of {X : Type} {f : X → List AV} {ok : X → Prop} : ∀ {l : List (List AV)}, (∀ c ∈ l, ∃ x, ok x ∧ c = f x) → ∃ xs : List X, l = xs.map f ∧ ∀ x ∈ xs, ok x
  | [], _ => ⟨[], rfl, by simp⟩
  | c :: l, h => by
    obtain ⟨x, hx, rfl⟩ := h c (by simp)
    obtain ⟨xs, rfl, hxs⟩ := list_of (l := l) fun c hc => h c (by simp [hc])
    exact ⟨x :: xs, rfl, by simpa using ⟨hx, hxs⟩⟩

end

end Go.Proofs.YtdgbidbkcigkhaaGreatDoor.Br

namespace Go.Proofs.YtdgbidbkcigkhaaGreatDoor.Br
open Go Am

section
variable {P : Program} {M k : Nat} {t : TypeId} {cs : List AV}

theorem has_int {ik : IntKind} (hu : P.underlying t = some (.int ik)) (h : Has P M k t cs) : ∃ n, cs = [.int ik n] ∧ (Lit.int ik n).wf = true := by
  cases k with
  | zero => cases h
  | succ k => simpa only [Has, hu] using h

theorem has_bool (hu : P.underlying t = some .bool) (h : Has P M k t cs) : ∃ b, cs = [.bool b] := by
  cases k with
  | zero => cases h
  | succ k => simpa only [Has, hu] using h

theorem has_str (hu : P.underlying t = some .string) (h : Has P M k t cs) : ∃ s, cs = [.str s] ∧ s.length ≤ M := by
  cases k with
  | zero => cases h
  | succ k => simpa only [Has, hu] using h

theorem has_slice {e : TypeId} (hu : P.underlying t = some (.slice e)) (h : Has P M k t cs) : ∃ (k' : Nat) (l : List (List AV)), cs = [.list (l.map elemV)] ∧ l.length ≤ maxLen ∧ ∀ c ∈ l, Has P M k' e c := by
  cases k with
  | zero => cases h
  | succ k =>
    simp only [Has, hu] at h
    obtain ⟨l, h1, h2, h3, _⟩ := h
    exact ⟨k, l, h1, h2.1, h3⟩

theorem has_sliceM {e : TypeId} (hu : P.underlying t = some (.slice e)) (h : Has P M k t cs) : ∃ (k' : Nat) (l : List (List AV)), cs = [.list (l.map elemV)] ∧ l.length ≤ M ∧ ∀ c ∈ l, Has P M k' e c := by
  cases k with
  | zero => cases h
  | succ k =>
    simp only [Has, hu] at h
    obtain ⟨l, h1, _, h3, h4⟩ := h
    exact ⟨k, l, h1, h4, h3⟩

theorem has_struct {fs : Array Field} (hu : P.underlying t = some (.struct fs)) (h : Has P M k t cs) : ∃ k', Has.HasL (Has P M k') fs.toList cs := by
  cases k with
  | zero => cases h
  | succ k =>
    simp only [Has, hu] at h
    exact ⟨k, h⟩

end

structure PO where
  num : Int
  name : List UInt8
  alias : List UInt8
  card : Int
  key : Int
  kind : Int
  target : Int
  union : Int

def PO.cells (o : PO) : List AV := [.int .i64 o.num, .str o.name, .str o.alias, .int .i64 o.card, .int .i64 o.key, .int .i64 o.kind, .int .i64 o.target, .int .i64 o.union]

structure PO.ok (M : Nat) (o : PO) : Prop where
  num : (Lit.int .i64 o.num).wf = true
  name : o.name.length ≤ M
  alias : o.alias.length ≤ M
  card : (Lit.int .i64 o.card).wf = true
  key : (Lit.int .i64 o.key).wf = true
  kind : (Lit.int .i64 o.kind).wf = true
  target : (Lit.int .i64 o.target).wf = true
  union : (Lit.int .i64 o.union).wf = true

theorem has_op {M k : Nat} {cs : List AV} (h : Has Tryz.prog M k 41 cs) : ∃ o : PO, o.ok M ∧ cs = o.cells := by
  obtain ⟨k, h⟩ := has_struct Tryz.underlying41 h
  simp only [Has.HasL] at h
  obtain ⟨_, _, rfl, h0, _, _, rfl, h1, _, _, rfl, h2, _, _, rfl, h3, _, _, rfl, h4, _, _, rfl, h5, _, _, rfl, h6, _, _, rfl, h7, rfl⟩ := h
  obtain ⟨a0, rfl, w0⟩ := has_int Tryz.underlying3 h0
  obtain ⟨a1, rfl, w1⟩ := has_str Tryz.underlying9 h1
  obtain ⟨a2, rfl, w2⟩ := has_str Tryz.underlying9 h2
  obtain ⟨a3, rfl, w3⟩ := has_int Tryz.underlying3 h3
  obtain ⟨a4, rfl, w4⟩ := has_int Tryz.underlying3 h4
  obtain ⟨a5, rfl, w5⟩ := has_int Tryz.underlying3 h5
  obtain ⟨a6, rfl, w6⟩ := has_int Tryz.underlying3 h6
  obtain ⟨a7, rfl, w7⟩ := has_int Tryz.underlying3 h7
  exact ⟨⟨a0, a1, a2, a3, a4, a5, a6, a7⟩, ⟨w0, w1, w2, w3, w4, w5, w6, w7⟩, rfl⟩

structure PG where
  name : List UInt8
  ops : List PO
  unions : Int

def PG.cells (g : PG) : List AV := [.str g.name, .list (g.ops.map fun o => .agg o.cells), .int .i64 g.unions]

structure PG.ok (M : Nat) (g : PG) : Prop where
  name : g.name.length ≤ M
  len : g.ops.length ≤ maxLen
  ops : ∀ o ∈ g.ops, o.ok M
  unions : (Lit.int .i64 g.unions).wf = true

theorem has_prog {M k : Nat} {cs : List AV} (h : Has Tryz.prog M k 39 cs) : ∃ g : PG, g.ok M ∧ cs = g.cells := by
  obtain ⟨k, h⟩ := has_struct Tryz.underlying39 h
  simp only [Has.HasL] at h
  obtain ⟨_, _, rfl, h0, _, _, rfl, h1, _, _, rfl, h2, rfl⟩ := h
  obtain ⟨a0, rfl, w0⟩ := has_str Tryz.underlying9 h0
  obtain ⟨k', l, rfl, w1, hl⟩ := has_slice Tryz.underlying37 h1
  obtain ⟨a2, rfl, w2⟩ := has_int Tryz.underlying3 h2
  obtain ⟨ops, rfl, hok⟩ := list_of (f := PO.cells) (ok := PO.ok M) fun c hc => has_op (hl c hc)
  refine ⟨⟨a0, ops, a2⟩, ⟨w0, by simpa using w1, hok, w2⟩, ?_⟩
  simp only [PG.cells, List.map_map, List.cons_append, List.nil_append]
  rfl

structure PS where
  lo : Int
  hi : Int

def PS.cells (x : PS) : List AV := [.int .i64 x.lo, .int .i64 x.hi]
def PS.ok (x : PS) : Prop := (Lit.int .i64 x.lo).wf = true ∧ (Lit.int .i64 x.hi).wf = true

theorem has_span {M k : Nat} {cs : List AV} (h : Has Tryz.prog M k 86 cs) : ∃ x : PS, x.ok ∧ cs = x.cells := by
  obtain ⟨k, h⟩ := has_struct Tryz.underlying86 h
  simp only [Has.HasL] at h
  obtain ⟨_, _, rfl, h0, _, _, rfl, h1, rfl⟩ := h
  obtain ⟨a0, rfl, w0⟩ := has_int Tryz.underlying3 h0
  obtain ⟨a1, rfl, w1⟩ := has_int Tryz.underlying3 h1
  exact ⟨⟨a0, a1⟩, ⟨w0, w1⟩, rfl⟩

structure PN where
  name : List UInt8
  val : List AV

def PN.cells (x : PN) : List AV := .str x.name :: x.val
def PN.ok (P : Program) (M : Nat) (t : TypeId) (x : PN) : Prop := x.name.length ≤ M ∧ ∃ k, Has P M k t x.val

theorem has_note {M k : Nat} {cs : List AV} (h : Has Tryz.prog M k 88 cs) : ∃ x : PN, x.ok Tryz.prog M 58 ∧ cs = x.cells := by
  obtain ⟨k, h⟩ := has_struct Tryz.underlying88 h
  simp only [Has.HasL] at h
  obtain ⟨_, _, rfl, h0, a1, _, rfl, h1, rfl⟩ := h
  obtain ⟨a0, rfl, w0⟩ := has_str Tryz.underlying9 h0
  exact ⟨⟨a0, a1⟩, ⟨w0, k, h1⟩, by simp [PN.cells]⟩

structure PI where
  name : List UInt8
  num : Int
  notes : List PN

def PI.cells (x : PI) : List AV := [.str x.name, .int .i64 x.num, .list (x.notes.map fun n => elemV n.cells)]

structure PI.ok (M : Nat) (x : PI) : Prop where
  name : x.name.length ≤ M
  num : (Lit.int .i64 x.num).wf = true
  len : x.notes.length ≤ maxLen
  notes : ∀ n ∈ x.notes, n.ok Tryz.prog M 58

theorem has_item {M k : Nat} {cs : List AV} (h : Has Tryz.prog M k 83 cs) : ∃ x : PI, x.ok M ∧ cs = x.cells := by
  obtain ⟨k, h⟩ := has_struct Tryz.underlying83 h
  simp only [Has.HasL] at h
  obtain ⟨_, _, rfl, h0, _, _, rfl, h1, _, _, rfl, h2, rfl⟩ := h
  obtain ⟨a0, rfl, w0⟩ := has_str Tryz.underlying9 h0
  obtain ⟨a1, rfl, w1⟩ := has_int Tryz.underlying3 h1
  obtain ⟨k', l, rfl, w2, hl⟩ := has_slice Tryz.underlying78 h2
  obtain ⟨ns, rfl, hok⟩ := list_of (f := PN.cells) (ok := PN.ok Tryz.prog M 58) fun c hc => has_note (hl c hc)
  refine ⟨⟨a0, a1, ns⟩, ⟨w0, w1, by simpa using w2, hok⟩, ?_⟩
  simp only [PI.cells, List.map_map, List.cons_append, List.nil_append]
  rfl

structure PE where
  name : List UInt8
  opn : Bool
  items : List PI
  free : List PS
  notes : List PN

def PE.cells (x : PE) : List AV := [.str x.name, .bool x.opn, .list (x.items.map fun n => .agg n.cells), .list (x.free.map fun n => .agg n.cells), .list (x.notes.map fun n => elemV n.cells)]

structure PE.ok (M : Nat) (x : PE) : Prop where
  name : x.name.length ≤ M
  len1 : x.items.length ≤ maxLen
  items : ∀ n ∈ x.items, n.ok M
  len2 : x.free.length ≤ maxLen
  free : ∀ n ∈ x.free, n.ok
  len3 : x.notes.length ≤ maxLen
  notes : ∀ n ∈ x.notes, n.ok Tryz.prog M 58

theorem has_enum {M k : Nat} {cs : List AV} (h : Has Tryz.prog M k 80 cs) : ∃ x : PE, x.ok M ∧ cs = x.cells := by
  obtain ⟨k, h⟩ := has_struct Tryz.underlying80 h
  simp only [Has.HasL] at h
  obtain ⟨_, _, rfl, h0, _, _, rfl, h1, _, _, rfl, h2, _, _, rfl, h3, _, _, rfl, h4, rfl⟩ := h
  obtain ⟨a0, rfl, w0⟩ := has_str Tryz.underlying9 h0
  obtain ⟨a1, rfl⟩ := has_bool Tryz.underlying4 h1
  obtain ⟨k2, l2, rfl, w2, hl2⟩ := has_slice Tryz.underlying76 h2
  obtain ⟨k3, l3, rfl, w3, hl3⟩ := has_slice Tryz.underlying77 h3
  obtain ⟨k4, l4, rfl, w4, hl4⟩ := has_slice Tryz.underlying78 h4
  obtain ⟨x2, rfl, o2⟩ := list_of (f := PI.cells) (ok := PI.ok M) fun c hc => has_item (hl2 c hc)
  obtain ⟨x3, rfl, o3⟩ := list_of (f := PS.cells) (ok := PS.ok) fun c hc => has_span (hl3 c hc)
  obtain ⟨x4, rfl, o4⟩ := list_of (f := PN.cells) (ok := PN.ok Tryz.prog M 58) fun c hc => has_note (hl4 c hc)
  refine ⟨⟨a0, a1, x2, x3, x4⟩, ⟨w0, by simpa using w2, o2, by simpa using w3, o3, by simpa using w4, o4⟩, ?_⟩
  simp only [PE.cells, List.map_map, List.cons_append, List.nil_append]
  rfl

structure PL where
  progs : List PG
  enums : List PE

def PL.av (p : PL) : AV := .agg [.list (p.progs.map fun n => .agg n.cells), .list (p.enums.map fun n => .agg n.cells)]

structure PL.ok (M : Nat) (x : PL) : Prop where
  len1 : x.progs.length ≤ maxLen
  progs : ∀ n ∈ x.progs, n.ok M
  len2 : x.enums.length ≤ maxLen
  enums : ∀ n ∈ x.enums, n.ok M

theorem has_plan {M k : Nat} {cs : List AV} (h : Has Tryz.prog M k 25 cs) : ∃ x : PL, x.ok M ∧ .agg cs = x.av := by
  obtain ⟨k, h⟩ := has_struct Tryz.underlying25 h
  simp only [Has.HasL] at h
  obtain ⟨_, _, rfl, h0, _, _, rfl, h1, rfl⟩ := h
  obtain ⟨k2, l2, rfl, w2, hl2⟩ := has_slice Tryz.underlying22 h0
  obtain ⟨k3, l3, rfl, w3, hl3⟩ := has_slice Tryz.underlying23 h1
  obtain ⟨x2, rfl, o2⟩ := list_of (f := PG.cells) (ok := PG.ok M) fun c hc => has_prog (hl2 c hc)
  obtain ⟨x3, rfl, o3⟩ := list_of (f := PE.cells) (ok := PE.ok M) fun c hc => has_enum (hl3 c hc)
  refine ⟨⟨x2, x3⟩, ⟨by simpa using w2, o2, by simpa using w3, o3⟩, ?_⟩
  simp only [PL.av, List.map_map, List.cons_append, List.nil_append]
  rfl

end Go.Proofs.YtdgbidbkcigkhaaGreatDoor.Br

set_option linter.unusedSimpArgs false
namespace Go.Proofs.YtdgbidbkcigkhaaGreatDoor.Va
open Go Am Rc Bt Br

def fxi {α : Type} (p : α → Bool) : List α → Nat → Int
  | [], _ => -1
  | x :: l, i => if p x = true then (i : Int) else fxi p l (i + 1)

theorem fxi_spec {α : Type} (p : α → Bool) : ∀ (l : List α) (i : Nat), (fxi p l i = -1 ∧ l.find? p = none) ∨ ∃ k o, fxi p l i = ((i + k : Nat) : Int) ∧ l[k]? = some o ∧ l.find? p = some o
  | [], _ => .inl ⟨rfl, rfl⟩
  | x :: l, i => by
    unfold fxi
    rw [List.find?_cons]
    cases h : p x with
    | true => exact .inr ⟨0, x, by simp, rfl, rfl⟩
    | false =>
      simp only [Bool.false_eq_true, if_false]
      rcases fxi_spec p l (i + 1) with h' | ⟨k, o, h1, h2, h3⟩
      · exact .inl h'
      · exact .inr ⟨k + 1, o, by rw [h1]; congr 1; omega, by simpa using h2, h3⟩

theorem fxi_drop {α : Type} (p : α → Bool) {l : List α} {i : Nat} {x : α} (hx : l[i]? = some x) : fxi p (l.drop i) i = if p x = true then (i : Int) else fxi p (l.drop (i + 1)) (i + 1) := by
  have hlt : i < l.length := (List.getElem?_eq_some_iff.1 hx).1
  rw [List.drop_eq_getElem_cons hlt, show l[i] = x from (List.getElem?_eq_some_iff.1 hx).2]
  rfl

def oav (o : PO) : AV := .agg o.cells
def gav (g : PG) : AV := .agg g.cells
def iav (x : PI) : AV := .agg x.cells
def eav (x : PE) : AV := .agg x.cells

section ops
variable (L : List PO) (hl : L.length ≤ maxLen) (p : PO → Bool) (c : Nat) (cap : AV) (m : Mem)

def IxO (k : Nat) (st : St) : Prop :=
  ∃ f i, st = ⟨f, noObs :: m, []⟩ ∧ k = L.length - i ∧ fxi p L 0 = fxi p (L.drop i) i ∧ f 0 = .list (L.map oav) ∧ f 1 = .fn (.func c) [] [cap.sh] ∧ f 7 = .int .i64 (L.length : Nat) ∧ f 8 = .int .i64 (i : Nat)

include hl in
theorem y157 (hc : ∀ o ∈ L, ACalls Tryz.prog c [oav o, cap.sh] (noObs :: m) fun y m1 => y = .bool (p o) ∧ m1 = noObs :: m) :
    ACalls Tryz.prog 157 [.list (L.map oav), .fn (.func c) [] [cap]] m fun y m1 => y = .int .i64 (fxi p L 0) ∧ m1 = m := by
  refine wG Tryz.func157 ?_; simp only [eK, Tryz.f157, seval]
  simp only [List.length_map, eES, eEX, seval]
  refine awp_loop (IxO L p c cap m) _ ⟨_, 0, rfl, rfl, rfl, (by first | rfl | simp only [eES, eEX, seval]), (by first | rfl | simp only [eES, eEX, seval]), (by first | rfl | simp only [eES, eEX, seval]), (by first | rfl | simp only [eES, eEX, seval])⟩ ?_
  rintro _ st ⟨f, i, rfl, rfl, hx, h0, h1, h7, h8⟩
  simp only [h0, h1, h7, h8, eES, eEX, seval]
  by_cases hlt : i < L.length
  · obtain ⟨x, hi⟩ : ∃ x, L[i]? = some x := ⟨L[i], List.getElem?_eq_getElem hlt⟩
    have hcl := hc x (List.mem_of_getElem? hi)
    have hg : (L.map oav)[i]? = some (oav x) := by simp [hi]
    have e1 := wi64_s i _ hlt hl
    simp only [oav, PO.cells] at hcl
    simp only [lt_t hlt, nneg, Int.toNat_natCast, aiaddr, hg, oav, PO.cells, h0, h1, h7, h8, eES, eEX, seval]
    refine aops_callV (fa := []) (fb := [cap.sh]) (by first | rfl | exact h1 | simp only [h1, eES, eEX, seval]) hcl (by simp only [List.map_cons, List.map_nil, List.nil_append, List.cons_append, h0, h1, h7, h8, eES, eEX, seval]) ?_
    rw [fxi_drop p hi] at hx
    cases hp : p x
    · rw [hp] at hx
      simp only [Bool.false_eq_true, if_false] at hx
      simp only [h0, h1, h7, h8, e1, eES, eEX, seval]
      exact ⟨L.length - (i + 1), by omega, _, i + 1, rfl, rfl, hx, (by first | rfl | exact h0 | simp only [h0, eES, eEX, seval]), (by first | rfl | exact h1 | simp only [h1, eES, eEX, seval]), (by first | rfl | exact h7 | simp only [h7, eES, eEX, seval]), (by first | rfl | simp only [eES, eEX, seval])⟩
    · rw [hp] at hx
      simp only [if_true] at hx
      simp only [h0, h1, h7, h8, hx, eES, eEX, seval]
  · have hx' : fxi p L 0 = -1 := by rw [hx, List.drop_of_length_le (by omega)]; rfl
    simp only [lt_f hlt, h0, h1, h7, h8, hx', eES, eEX, seval]

end ops

def PO0 : PO := ⟨0, [], [], 0, 0, 0, 0, 0⟩
def opr (p : PO → Bool) (L : List PO) : AV := .tup [oav ((L.find? p).getD PO0), .bool (L.find? p).isSome]

theorem y110 (g : PG) (hl : g.ops.length ≤ maxLen) (p : PO → Bool) (c : Nat) (cap : AV) (m : Mem) (hc : ∀ fr, ∀ o ∈ g.ops, ACalls Tryz.prog c [oav o, cap.sh.sh] (noObs :: fr :: m) fun y m1 => y = .bool (p o) ∧ m1 = noObs :: fr :: m) :
    ACalls Tryz.prog 110 [.agg [.fn (.func c) [] [cap]], gav g] m fun y m1 => y = opr p g.ops ∧ m1 = m := by
  refine wG Tryz.func110 ?_; simp only [eK, Tryz.f110, seval]
  simp only [gav, PG.cells, eES, eEX, seval]
  refine aops_callF (y157 g.ops hl p c cap.sh _ fun o ho => hc _ o ho) (by simp only [List.map_cons, List.map_nil, oav, eES, eEX, seval]; rfl) ?_
  rcases fxi_spec p g.ops 0 with ⟨h1, h2⟩ | ⟨j, o, h1, h2, h3⟩
  · simp only [h1, opr, h2, Option.getD_none, Option.isSome_none, PO0, oav, PO.cells, splice, List.take_zero, List.nil_append, List.drop_succ_cons, List.drop_zero, List.drop_nil, List.append_nil, List.length_cons, List.length_nil, List.all_cons, List.all_nil, AV.leaf, eES, eEX, seval]
  · have hj : (g.ops.map fun o => AV.agg o.cells)[j]? = some (.agg o.cells) := by simp [h2]
    have d : decide ((j : Int) < 0) = false := decide_eq_false (by omega)
    rw [Nat.zero_add] at h1
    simp only [PO.cells] at hj
    simp only [h1, d, nneg, Int.toNat_natCast, aiaddr, Nat.zero_add, hj, opr, h3, Option.getD_some, Option.isSome_some, oav, PO.cells, splice, List.take_zero, List.nil_append, List.drop_succ_cons, List.drop_zero, List.drop_nil, List.append_nil, List.length_cons, List.length_nil, List.all_cons, List.all_nil, AV.leaf, eES, eEX, seval]

section
variable (o : PO) (fr frO : Nat → Ob)

theorem y109 (n : Int) (hf : frO 3 = .cells [.int .i64 n]) : ACalls Tryz.prog 109 [oav o, .ptr 2 3 0] [noObs, fr, frO] fun y m1 => y = .bool (o.num == n) ∧ m1 = [noObs, fr, frO] := by
  refine wG Tryz.func109 ?_; simp only [eK, Tryz.f109, seval]
  simp only [hf, oav, PO.cells, eES, eEX, seval]

end

theorem y47 (g : PG) (hl : g.ops.length ≤ maxLen) (n : Int) : Fn1 Tryz.prog 47 [gav g, .int .i64 n] (opr (fun o => o.num == n) g.ops) := by
  refine wF Tryz.func47 ?_; simp only [eK, Tryz.f47, seval]
  simp only [gav, PG.cells, eES, eEX, seval]
  refine aops_callF (y110 g hl (fun o => o.num == n) 109 (.ptr 0 3 0) _ fun fr o _ => y109 o fr _ n (by first | rfl | simp only [eES, eEX, seval])) (by simp only [List.map_cons, List.map_nil, gav, PG.cells, oav, eES, eEX, seval]) ?_
  simp only [opr, oav, PO.cells, splice, List.take_zero, List.nil_append, List.drop_succ_cons, List.drop_zero, List.drop_nil, List.append_nil, List.length_cons, List.length_nil, List.all_cons, List.all_nil, AV.leaf, eES, eEX, seval]

end Go.Proofs.YtdgbidbkcigkhaaGreatDoor.Va

set_option linter.unusedSimpArgs false
namespace Go.Proofs.YtdgbidbkcigkhaaGreatDoor.Va
open Go Am Rc Bt Br

def allU (p : Nat → Bool) : Nat → Bool
  | 0 => true
  | n + 1 => allU p n && p n

theorem allU_iff {p : Nat → Bool} {n : Nat} : allU p n = true ↔ ∀ i, i < n → p i = true := by
  induction n with
  | zero => simp [allU]
  | succ n ih =>
    simp only [allU, Bool.and_eq_true, ih]
    constructor
    · rintro ⟨h1, h2⟩ i hi
      rcases Nat.lt_succ_iff_lt_or_eq.1 hi with h | rfl
      · exact h1 i h
      · exact h2
    · intro h
      exact ⟨fun i hi => h i (by omega), h n (by omega)⟩

theorem allU_false {p : Nat → Bool} {n i : Nat} (hi : i < n) (h : p i = false) : allU p n = false := by
  rw [Bool.eq_false_iff]
  intro h'
  rw [allU_iff.1 h' i hi] at h
  cases h

theorem allU_and {p q : Nat → Bool} {n : Nat} : allU (fun i => p i && q i) n = (allU p n && allU q n) := by
  induction n with
  | zero => rfl
  | succ n ih =>
    simp only [allU, ih]
    cases allU p n <;> cases allU q n <;> cases p n <;> cases q n <;> rfl

def ask {α : Type} (l : List α) (q : α → Bool) (i : Nat) : Bool := match l[i]? with
  | some x => q x
  | none => true

theorem ask_at {α : Type} {l : List α} {q : α → Bool} {i : Nat} {x : α} (h : l[i]? = some x) : ask l q i = q x := by
  unfold ask; rw [h]

theorem allU_ask {α : Type} (l : List α) (q : α → Bool) : allU (ask l q) l.length = l.all q := by
  rw [Bool.eq_iff_iff, allU_iff, List.all_eq_true]
  constructor
  · intro h x hx
    obtain ⟨i, hi⟩ := List.mem_iff_getElem?.1 hx
    have := h i (List.getElem?_eq_some_iff.1 hi).1
    rwa [ask_at hi] at this
  · intro h i hi
    rw [ask_at (List.getElem?_eq_getElem hi)]
    exact h _ (List.getElem_mem _)

def two {α : Type} (l : List α) (lt : α → α → Bool) (i : Nat) : Bool := match i with
  | 0 => true
  | k + 1 => match l[k]?, l[k + 1]? with
    | some x, some y => lt x y
    | _, _ => true

theorem two_at {α : Type} {l : List α} {lt : α → α → Bool} {k : Nat} {x y : α} (h : l[k]? = some x) (h' : l[k + 1]? = some y) : two l lt (k + 1) = lt x y := by
  unfold two; simp only [h, h']
theorem two_zero {α : Type} {l : List α} {lt : α → α → Bool} : two l lt 0 = true := rfl

def adj {α : Type} (l : List α) (lt : α → α → Bool) : Bool := allU (two l lt) l.length

def uniq {α : Type} (l : List α) (nm : α → List UInt8) (i : Nat) : Bool := match l[i]? with
  | some x => (l.take i).all fun y => !(nm y == nm x)
  | none => true
theorem uniq_at {α : Type} {l : List α} {nm : α → List UInt8} {i : Nat} {x : α} (h : l[i]? = some x) : uniq l nm i = (l.take i).all fun y => !(nm y == nm x) := by
  unfold uniq; rw [h]
def once {α : Type} (l : List α) (nm : α → List UInt8) : Bool := allU (uniq l nm) l.length

theorem take_all {α : Type} {l : List α} {q : α → Bool} {i : Nat} {x : α} (h : l[i]? = some x) : (l.take (i + 1)).all q = ((l.take i).all q && q x) := by
  rw [List.take_add_one, h]
  simp
theorem take_any {α : Type} {l : List α} {q : α → Bool} {i : Nat} {x : α} (h : l[i]? = some x) : (l.take (i + 1)).any q = ((l.take i).any q || q x) := by
  rw [List.take_add_one, h]
  simp
theorem all_not {α : Type} {l : List α} {q : α → Bool} : (l.all fun x => !q x) = !l.any q := by
  induction l with
  | nil => rfl
  | cons x l ih => simp [ih]

def letter (c : UInt8) : Bool := (decide (97 ≤ c.toNat) && decide (c.toNat ≤ 122)) || (decide (65 ≤ c.toNat) && decide (c.toNat ≤ 90))
def pchar (c : UInt8) : Bool := letter c || c.toNat == 95 || (decide (48 ≤ c.toNat) && decide (c.toNat ≤ 57))
def isPart : List UInt8 → Bool
  | [] => false
  | c :: t => decide ((c :: t).length ≤ 40) && letter c && t.all pchar
def words : List (List UInt8) := [[109, 101, 115, 115, 97, 103, 101], [101, 110, 117, 109], [115, 101, 114, 118, 105, 99, 101], [117, 110, 105, 111, 110], [109, 97, 112], [108, 105, 115, 116], [114, 101, 113, 117, 105, 114, 101, 100], [111, 112, 116, 105, 111, 110, 97, 108], [112, 108, 97, 105, 110], [100, 101, 102, 97, 117, 108, 116], [114, 101, 115, 101, 114, 118, 101, 100],
  [105, 109, 112, 111, 114, 116], [115, 112, 97, 99, 101], [114, 112, 99], [115, 116, 114, 101, 97, 109], [114, 101, 116, 117, 114, 110, 115], [111, 112, 101, 110], [116, 114, 117, 101], [102, 97, 108, 115, 101], [110, 97, 110], [105, 110, 102]]
def isWord (s : List UInt8) : Bool := words.any fun w => s == w
def usab (s : List UInt8) : Bool := isPart s && !isWord s
def parts : List UInt8 → List (List UInt8)
  | [] => [[]]
  | c :: t => if c = 46 then [] :: parts t else match parts t with
    | [] => [[c]]
    | p :: ps => (c :: p) :: ps
def full (s : List UInt8) : Bool := decide (s.length ≤ 120) && (parts s).all isPart && !(parts s).any isWord

theorem parts_ne : ∀ s : List UInt8, parts s ≠ []
  | [] => by simp [parts]
  | c :: t => by
    unfold parts
    split
    · simp
    · split <;> simp

theorem parts_app (a : List UInt8) : ∀ s : List UInt8, (∀ c ∈ a, c ≠ 46) → parts (a ++ s) = match parts s with
    | [] => [a]
    | p :: ps => (a ++ p) :: ps := by
  induction a with
  | nil => intro s _; cases h : parts s with
    | nil => exact absurd h (parts_ne s)
    | cons p ps => simp [h]
  | cons c a ih =>
    intro s h
    have hc : c ≠ 46 := h c (by simp)
    rw [List.cons_append, parts, if_neg hc, ih s fun x hx => h x (by simp [hx])]
    cases hs : parts s with
    | nil => exact absurd hs (parts_ne s)
    | cons p ps => rfl

theorem parts_one {s : List UInt8} (h : ∀ c ∈ s, c ≠ 46) : parts s = [s] := by
  have := parts_app s [] h
  simpa [parts] using this

theorem parts_cons {a t : List UInt8} (h : ∀ c ∈ a, c ≠ 46) : parts (a ++ 46 :: t) = a :: parts t := by
  rw [parts_app a _ h, parts, if_pos rfl]
  simp

theorem parts_snoc {a t : List UInt8} (h : ∀ c ∈ t, c ≠ 46) : parts (a ++ 46 :: t) = parts a ++ [t] := by
  induction a with
  | nil =>
    show parts (46 :: t) = [[]] ++ [t]
    rw [show parts (46 :: t) = [] :: parts t from by rw [parts, if_pos rfl], parts_one h]
    rfl
  | cons c a ih =>
    rw [List.cons_append, parts, parts, ih]
    split
    · rfl
    · cases hs : parts a with
      | nil => exact absurd hs (parts_ne a)
      | cons p ps => rfl

theorem parts_len (s : List UInt8) : (parts s).length = s.count 46 + 1 := by
  induction s with
  | nil => rfl
  | cons c t ih =>
    unfold parts
    split
    · rename_i h; subst h; simp [ih]
    · rename_i h
      rw [List.count_cons_of_ne (by simpa using h)]
      cases hs : parts t with
      | nil => exact absurd hs (parts_ne t)
      | cons p ps => rw [hs] at ih; simpa using ih

def lim1 (g : PG) : Bool := decide (g.ops.length ≤ 64)
def lim2 (e : PE) : Bool := decide (1 ≤ e.items.length) && decide (e.items.length ≤ 64) && decide (e.free.length ≤ 16)
def lim (P : PL) : Bool := decide (P.progs.length ≤ 64) && decide (P.enums.length ≤ 64) && P.progs.all lim1 && P.enums.all lim2
def nam1 (g : PG) : Bool := full g.name && g.ops.all fun o => usab o.name
def nam2 (e : PE) : Bool := full e.name && e.items.all fun o => usab o.name
def nam (P : PL) : Bool := P.progs.all nam1 && P.enums.all nam2
def ordn {α : Type} (f : α → Int) (x y : α) : Bool := decide (f x < f y)
def ords {α : Type} (f : α → List UInt8) (x y : α) : Bool := Op.bytesLess (f x) (f y)
def ord1 (g : PG) : Bool := adj g.ops (ordn PO.num)
def ord2 (e : PE) : Bool := adj e.items (ordn PI.num)
def ord (P : PL) : Bool := adj P.progs (ords PG.name) && adj P.enums (ords PE.name) && P.progs.all ord1 && P.enums.all ord2
def sin1 (P : PL) (g : PG) : Bool := (P.enums.all fun e => !(e.name == g.name)) && once g.ops PO.name
def sin2 (e : PE) : Bool := once e.items PI.name
def sin (P : PL) : Bool := P.progs.all (sin1 P) && P.enums.all sin2
def rngO (o : PO) : Bool := decide (o.num ≥ 1) && decide (o.num ≤ 65535)
def spn (x : PS) : Bool := decide (x.lo ≥ 0) && decide (x.hi ≤ 2147483647) && decide (x.lo ≤ x.hi)
def spt (x y : PS) : Bool := decide (y.lo > x.hi)
def kept (l : List PS) (n : Int) : Bool := l.any fun x => decide (x.lo ≤ n) && decide (n ≤ x.hi)
def rngI (e : PE) (x : PI) : Bool := decide (x.num ≤ 2147483647) && !kept e.free x.num
def frst (e : PE) : Bool := match e.items with
  | [] => true
  | x :: _ => x.num == 0
def rng2 (e : PE) : Bool := e.free.all spn && adj e.free spt && frst e && e.items.all (rngI e)
def rng (P : PL) : Bool := P.progs.all (fun g => g.ops.all rngO) && P.enums.all rng2

end Go.Proofs.YtdgbidbkcigkhaaGreatDoor.Va

set_option linter.unusedSimpArgs false
namespace Go.Proofs.YtdgbidbkcigkhaaGreatDoor.Va
open Go Am Rc Bt Br

def spav (x : PS) : AV := .agg x.cells
def rav (x : List UInt8) : AV := .str x

theorem fxi_any0 {α : Type} (p : α → Bool) (l : List α) : decide (fxi p l 0 ≥ 0) = l.any p := by
  rcases fxi_spec p l 0 with ⟨h1, h2⟩ | ⟨k, o, h1, _, h3⟩
  · rw [h1]
    have : l.any p = false := by
      rw [List.any_eq_false]
      intro x hx
      exact fun h => by have := List.find?_eq_none.1 h2 x hx; exact this h
    rw [this]; rfl
  · rw [h1]
    have : l.any p = true := List.any_eq_true.2 ⟨o, List.mem_of_find?_eq_some h3, List.find?_some h3⟩
    rw [this]
    exact decide_eq_true (by omega)

theorem wp64 (k n : Nat) (h : k + 1 < n) (hn : n ≤ maxLen) : IntKind.i64.wrap (((k + 1 : Nat) : Int) - 1) = (k : Int) := by
  rw [wi64]; simp only [maxLen] at hn; omega

section
variable (L : List PG) (hl : L.length ≤ maxLen) (p : PG → Bool) (c : Nat) (cs : List AV) (m : Mem)

def JxG (k : Nat) (st : St) : Prop :=
  ∃ f i, st = ⟨f, noObs :: m, []⟩ ∧ k = L.length - i ∧ fxi p L 0 = fxi p (L.drop i) i ∧ f 0 = .list (L.map gav) ∧ f 1 = .fn (.func c) [] (AV.shL cs) ∧ f 7 = .int .i64 (L.length : Nat) ∧ f 8 = .int .i64 (i : Nat)

include hl in
theorem z25 (hc : ∀ o ∈ L, ACalls Tryz.prog c (gav o :: AV.shL cs) (noObs :: m) fun y m1 => y = .bool (p o) ∧ m1 = noObs :: m) :
    ACalls Tryz.prog 25 [.list (L.map gav), .fn (.func c) [] cs] m fun y m1 => y = .int .i64 (fxi p L 0) ∧ m1 = m := by
  refine wG Tryz.func25 ?_; simp only [eK, Tryz.f25, seval]
  simp only [List.length_map, eES, eEX, seval]
  refine awp_loop (JxG L p c cs m) _ ⟨_, 0, rfl, rfl, rfl, (by first | rfl | simp only [eES, eEX, seval]), (by first | rfl | simp only [eES, eEX, seval]), (by first | rfl | simp only [eES, eEX, seval]), (by first | rfl | simp only [eES, eEX, seval])⟩ ?_
  rintro _ st ⟨f, i, rfl, rfl, hx, h0, h1, h7, h8⟩
  simp only [h0, h1, h7, h8, eES, eEX, seval]
  by_cases hlt : i < L.length
  · obtain ⟨x, hi⟩ : ∃ x, L[i]? = some x := ⟨L[i], List.getElem?_eq_getElem hlt⟩
    have hcl := hc x (List.mem_of_getElem? hi)
    have hg : (L.map gav)[i]? = some (gav x) := by simp [hi]
    have e1 := wi64_s i _ hlt hl
    simp only [gav, PG.cells] at hcl
    simp only [lt_t hlt, nneg, Int.toNat_natCast, aiaddr, hg, gav, PG.cells, h0, h1, h7, h8, eES, eEX, seval]
    refine aops_callV (fa := []) (fb := AV.shL cs) (by first | rfl | exact h1 | simp only [h1, eES, eEX, seval]) hcl (by simp only [List.map_cons, List.map_nil, List.nil_append, List.cons_append, h0, h1, h7, h8, eES, eEX, seval]) ?_
    rw [fxi_drop p hi] at hx
    cases hp : p x
    · rw [hp] at hx
      simp only [Bool.false_eq_true, if_false] at hx
      simp only [h0, h1, h7, h8, e1, eES, eEX, seval]
      exact ⟨L.length - (i + 1), by omega, _, i + 1, rfl, rfl, hx, (by first | rfl | exact h0 | simp only [h0, eES, eEX, seval]), (by first | rfl | exact h1 | simp only [h1, eES, eEX, seval]), (by first | rfl | exact h7 | simp only [h7, eES, eEX, seval]), (by first | rfl | simp only [eES, eEX, seval])⟩
    · rw [hp] at hx
      simp only [if_true] at hx
      simp only [h0, h1, h7, h8, hx, eES, eEX, seval]
  · have hx' : fxi p L 0 = -1 := by rw [hx, List.drop_of_length_le (by omega)]; rfl
    simp only [lt_f hlt, h0, h1, h7, h8, hx', eES, eEX, seval]

include hl in
theorem z137 (hc : ∀ o ∈ L, ACalls Tryz.prog c (gav o :: AV.shL (AV.shL cs)) (noObs :: noObs :: m) fun y m1 => y = .bool (p o) ∧ m1 = noObs :: noObs :: m) :
    ACalls Tryz.prog 137 [.list (L.map gav), .fn (.func c) [] cs] m fun y m1 => y = .bool (L.any p) ∧ m1 = m := by
  refine wG Tryz.func137 ?_; simp only [eK, Tryz.f137, seval]
  simp only [eES, eEX, seval]
  refine aops_callF (z25 L hl p c (AV.shL cs) _ hc) (by simp only [List.map_cons, List.map_nil, eES, eEX, seval] <;> rfl) ?_
  simp only [fxi_any0, eES, eEX, seval]

include hl in
theorem z65 (hc : ∀ o ∈ L, ACalls Tryz.prog c (gav o :: AV.shL (AV.shL (AV.shL cs))) (noObs :: noObs :: noObs :: m) fun y m1 => y = .bool (p o) ∧ m1 = noObs :: noObs :: noObs :: m) :
    ACalls Tryz.prog 65 [.list (L.map gav), .fn (.func c) [] cs] m fun y m1 => y = .bool (L.any p) ∧ m1 = m := by
  refine wG Tryz.func65 ?_; simp only [eK, Tryz.f65, seval]
  simp only [eES, eEX, seval]
  refine aops_callF (z137 L hl p c (AV.shL cs) _ hc) (by simp only [List.map_cons, List.map_nil, eES, eEX, seval] <;> rfl) ?_
  simp only [eES, eEX, seval]

end

section
variable (L : List PO) (hl : L.length ≤ maxLen) (p : PO → Bool) (c : Nat) (cs : List AV) (m : Mem)

def JxO (k : Nat) (st : St) : Prop :=
  ∃ f i, st = ⟨f, noObs :: m, []⟩ ∧ k = L.length - i ∧ fxi p L 0 = fxi p (L.drop i) i ∧ f 0 = .list (L.map oav) ∧ f 1 = .fn (.func c) [] (AV.shL cs) ∧ f 7 = .int .i64 (L.length : Nat) ∧ f 8 = .int .i64 (i : Nat)

include hl in
theorem z157 (hc : ∀ o ∈ L, ACalls Tryz.prog c (oav o :: AV.shL cs) (noObs :: m) fun y m1 => y = .bool (p o) ∧ m1 = noObs :: m) :
    ACalls Tryz.prog 157 [.list (L.map oav), .fn (.func c) [] cs] m fun y m1 => y = .int .i64 (fxi p L 0) ∧ m1 = m := by
  refine wG Tryz.func157 ?_; simp only [eK, Tryz.f157, seval]
  simp only [List.length_map, eES, eEX, seval]
  refine awp_loop (JxO L p c cs m) _ ⟨_, 0, rfl, rfl, rfl, (by first | rfl | simp only [eES, eEX, seval]), (by first | rfl | simp only [eES, eEX, seval]), (by first | rfl | simp only [eES, eEX, seval]), (by first | rfl | simp only [eES, eEX, seval])⟩ ?_
  rintro _ st ⟨f, i, rfl, rfl, hx, h0, h1, h7, h8⟩
  simp only [h0, h1, h7, h8, eES, eEX, seval]
  by_cases hlt : i < L.length
  · obtain ⟨x, hi⟩ : ∃ x, L[i]? = some x := ⟨L[i], List.getElem?_eq_getElem hlt⟩
    have hcl := hc x (List.mem_of_getElem? hi)
    have hg : (L.map oav)[i]? = some (oav x) := by simp [hi]
    have e1 := wi64_s i _ hlt hl
    simp only [oav, PO.cells] at hcl
    simp only [lt_t hlt, nneg, Int.toNat_natCast, aiaddr, hg, oav, PO.cells, h0, h1, h7, h8, eES, eEX, seval]
    refine aops_callV (fa := []) (fb := AV.shL cs) (by first | rfl | exact h1 | simp only [h1, eES, eEX, seval]) hcl (by simp only [List.map_cons, List.map_nil, List.nil_append, List.cons_append, h0, h1, h7, h8, eES, eEX, seval]) ?_
    rw [fxi_drop p hi] at hx
    cases hp : p x
    · rw [hp] at hx
      simp only [Bool.false_eq_true, if_false] at hx
      simp only [h0, h1, h7, h8, e1, eES, eEX, seval]
      exact ⟨L.length - (i + 1), by omega, _, i + 1, rfl, rfl, hx, (by first | rfl | exact h0 | simp only [h0, eES, eEX, seval]), (by first | rfl | exact h1 | simp only [h1, eES, eEX, seval]), (by first | rfl | exact h7 | simp only [h7, eES, eEX, seval]), (by first | rfl | simp only [eES, eEX, seval])⟩
    · rw [hp] at hx
      simp only [if_true] at hx
      simp only [h0, h1, h7, h8, hx, eES, eEX, seval]
  · have hx' : fxi p L 0 = -1 := by rw [hx, List.drop_of_length_le (by omega)]; rfl
    simp only [lt_f hlt, h0, h1, h7, h8, hx', eES, eEX, seval]

include hl in
theorem z143 (hc : ∀ o ∈ L, ACalls Tryz.prog c (oav o :: AV.shL (AV.shL cs)) (noObs :: noObs :: m) fun y m1 => y = .bool (p o) ∧ m1 = noObs :: noObs :: m) :
    ACalls Tryz.prog 143 [.list (L.map oav), .fn (.func c) [] cs] m fun y m1 => y = .bool (L.any p) ∧ m1 = m := by
  refine wG Tryz.func143 ?_; simp only [eK, Tryz.f143, seval]
  simp only [eES, eEX, seval]
  refine aops_callF (z157 L hl p c (AV.shL cs) _ hc) (by simp only [List.map_cons, List.map_nil, eES, eEX, seval] <;> rfl) ?_
  simp only [fxi_any0, eES, eEX, seval]

include hl in
theorem z71 (hc : ∀ o ∈ L, ACalls Tryz.prog c (oav o :: AV.shL (AV.shL (AV.shL cs))) (noObs :: noObs :: noObs :: m) fun y m1 => y = .bool (p o) ∧ m1 = noObs :: noObs :: noObs :: m) :
    ACalls Tryz.prog 71 [.list (L.map oav), .fn (.func c) [] cs] m fun y m1 => y = .bool (L.any p) ∧ m1 = m := by
  refine wG Tryz.func71 ?_; simp only [eK, Tryz.f71, seval]
  simp only [eES, eEX, seval]
  refine aops_callF (z143 L hl p c (AV.shL cs) _ hc) (by simp only [List.map_cons, List.map_nil, eES, eEX, seval] <;> rfl) ?_
  simp only [eES, eEX, seval]

end

section
variable (L : List PE) (hl : L.length ≤ maxLen) (p : PE → Bool) (c : Nat) (cs : List AV) (m : Mem)

def JxE (k : Nat) (st : St) : Prop :=
  ∃ f i, st = ⟨f, noObs :: m, []⟩ ∧ k = L.length - i ∧ fxi p L 0 = fxi p (L.drop i) i ∧ f 0 = .list (L.map eav) ∧ f 1 = .fn (.func c) [] (AV.shL cs) ∧ f 7 = .int .i64 (L.length : Nat) ∧ f 8 = .int .i64 (i : Nat)

include hl in
theorem z194 (hc : ∀ o ∈ L, ACalls Tryz.prog c (eav o :: AV.shL cs) (noObs :: m) fun y m1 => y = .bool (p o) ∧ m1 = noObs :: m) :
    ACalls Tryz.prog 194 [.list (L.map eav), .fn (.func c) [] cs] m fun y m1 => y = .int .i64 (fxi p L 0) ∧ m1 = m := by
  refine wG Tryz.func194 ?_; simp only [eK, Tryz.f194, seval]
  simp only [List.length_map, eES, eEX, seval]
  refine awp_loop (JxE L p c cs m) _ ⟨_, 0, rfl, rfl, rfl, (by first | rfl | simp only [eES, eEX, seval]), (by first | rfl | simp only [eES, eEX, seval]), (by first | rfl | simp only [eES, eEX, seval]), (by first | rfl | simp only [eES, eEX, seval])⟩ ?_
  rintro _ st ⟨f, i, rfl, rfl, hx, h0, h1, h7, h8⟩
  simp only [h0, h1, h7, h8, eES, eEX, seval]
  by_cases hlt : i < L.length
  · obtain ⟨x, hi⟩ : ∃ x, L[i]? = some x := ⟨L[i], List.getElem?_eq_getElem hlt⟩
    have hcl := hc x (List.mem_of_getElem? hi)
    have hg : (L.map eav)[i]? = some (eav x) := by simp [hi]
    have e1 := wi64_s i _ hlt hl
    simp only [eav, PE.cells] at hcl
    simp only [lt_t hlt, nneg, Int.toNat_natCast, aiaddr, hg, eav, PE.cells, h0, h1, h7, h8, eES, eEX, seval]
    refine aops_callV (fa := []) (fb := AV.shL cs) (by first | rfl | exact h1 | simp only [h1, eES, eEX, seval]) hcl (by simp only [List.map_cons, List.map_nil, List.nil_append, List.cons_append, h0, h1, h7, h8, eES, eEX, seval]) ?_
    rw [fxi_drop p hi] at hx
    cases hp : p x
    · rw [hp] at hx
      simp only [Bool.false_eq_true, if_false] at hx
      simp only [h0, h1, h7, h8, e1, eES, eEX, seval]
      exact ⟨L.length - (i + 1), by omega, _, i + 1, rfl, rfl, hx, (by first | rfl | exact h0 | simp only [h0, eES, eEX, seval]), (by first | rfl | exact h1 | simp only [h1, eES, eEX, seval]), (by first | rfl | exact h7 | simp only [h7, eES, eEX, seval]), (by first | rfl | simp only [eES, eEX, seval])⟩
    · rw [hp] at hx
      simp only [if_true] at hx
      simp only [h0, h1, h7, h8, hx, eES, eEX, seval]
  · have hx' : fxi p L 0 = -1 := by rw [hx, List.drop_of_length_le (by omega)]; rfl
    simp only [lt_f hlt, h0, h1, h7, h8, hx', eES, eEX, seval]

include hl in
theorem z138 (hc : ∀ o ∈ L, ACalls Tryz.prog c (eav o :: AV.shL (AV.shL cs)) (noObs :: noObs :: m) fun y m1 => y = .bool (p o) ∧ m1 = noObs :: noObs :: m) :
    ACalls Tryz.prog 138 [.list (L.map eav), .fn (.func c) [] cs] m fun y m1 => y = .bool (L.any p) ∧ m1 = m := by
  refine wG Tryz.func138 ?_; simp only [eK, Tryz.f138, seval]
  simp only [eES, eEX, seval]
  refine aops_callF (z194 L hl p c (AV.shL cs) _ hc) (by simp only [List.map_cons, List.map_nil, eES, eEX, seval] <;> rfl) ?_
  simp only [fxi_any0, eES, eEX, seval]

include hl in
theorem z67 (hc : ∀ o ∈ L, ACalls Tryz.prog c (eav o :: AV.shL (AV.shL (AV.shL cs))) (noObs :: noObs :: noObs :: m) fun y m1 => y = .bool (p o) ∧ m1 = noObs :: noObs :: noObs :: m) :
    ACalls Tryz.prog 67 [.list (L.map eav), .fn (.func c) [] cs] m fun y m1 => y = .bool (L.any p) ∧ m1 = m := by
  refine wG Tryz.func67 ?_; simp only [eK, Tryz.f67, seval]
  simp only [eES, eEX, seval]
  refine aops_callF (z138 L hl p c (AV.shL cs) _ hc) (by simp only [List.map_cons, List.map_nil, eES, eEX, seval] <;> rfl) ?_
  simp only [eES, eEX, seval]

end

section
variable (L : List PI) (hl : L.length ≤ maxLen) (p : PI → Bool) (c : Nat) (cs : List AV) (m : Mem)

def JxI (k : Nat) (st : St) : Prop :=
  ∃ f i, st = ⟨f, noObs :: m, []⟩ ∧ k = L.length - i ∧ fxi p L 0 = fxi p (L.drop i) i ∧ f 0 = .list (L.map iav) ∧ f 1 = .fn (.func c) [] (AV.shL cs) ∧ f 7 = .int .i64 (L.length : Nat) ∧ f 8 = .int .i64 (i : Nat)

include hl in
theorem z198 (hc : ∀ o ∈ L, ACalls Tryz.prog c (iav o :: AV.shL cs) (noObs :: m) fun y m1 => y = .bool (p o) ∧ m1 = noObs :: m) :
    ACalls Tryz.prog 198 [.list (L.map iav), .fn (.func c) [] cs] m fun y m1 => y = .int .i64 (fxi p L 0) ∧ m1 = m := by
  refine wG Tryz.func198 ?_; simp only [eK, Tryz.f198, seval]
  simp only [List.length_map, eES, eEX, seval]
  refine awp_loop (JxI L p c cs m) _ ⟨_, 0, rfl, rfl, rfl, (by first | rfl | simp only [eES, eEX, seval]), (by first | rfl | simp only [eES, eEX, seval]), (by first | rfl | simp only [eES, eEX, seval]), (by first | rfl | simp only [eES, eEX, seval])⟩ ?_
  rintro _ st ⟨f, i, rfl, rfl, hx, h0, h1, h7, h8⟩
  simp only [h0, h1, h7, h8, eES, eEX, seval]
  by_cases hlt : i < L.length
  · obtain ⟨x, hi⟩ : ∃ x, L[i]? = some x := ⟨L[i], List.getElem?_eq_getElem hlt⟩
    have hcl := hc x (List.mem_of_getElem? hi)
    have hg : (L.map iav)[i]? = some (iav x) := by simp [hi]
    have e1 := wi64_s i _ hlt hl
    simp only [iav, PI.cells] at hcl
    simp only [lt_t hlt, nneg, Int.toNat_natCast, aiaddr, hg, iav, PI.cells, h0, h1, h7, h8, eES, eEX, seval]
    refine aops_callV (fa := []) (fb := AV.shL cs) (by first | rfl | exact h1 | simp only [h1, eES, eEX, seval]) hcl (by simp only [List.map_cons, List.map_nil, List.nil_append, List.cons_append, h0, h1, h7, h8, eES, eEX, seval]) ?_
    rw [fxi_drop p hi] at hx
    cases hp : p x
    · rw [hp] at hx
      simp only [Bool.false_eq_true, if_false] at hx
      simp only [h0, h1, h7, h8, e1, eES, eEX, seval]
      exact ⟨L.length - (i + 1), by omega, _, i + 1, rfl, rfl, hx, (by first | rfl | exact h0 | simp only [h0, eES, eEX, seval]), (by first | rfl | exact h1 | simp only [h1, eES, eEX, seval]), (by first | rfl | exact h7 | simp only [h7, eES, eEX, seval]), (by first | rfl | simp only [eES, eEX, seval])⟩
    · rw [hp] at hx
      simp only [if_true] at hx
      simp only [h0, h1, h7, h8, hx, eES, eEX, seval]
  · have hx' : fxi p L 0 = -1 := by rw [hx, List.drop_of_length_le (by omega)]; rfl
    simp only [lt_f hlt, h0, h1, h7, h8, hx', eES, eEX, seval]

include hl in
theorem z145 (hc : ∀ o ∈ L, ACalls Tryz.prog c (iav o :: AV.shL (AV.shL cs)) (noObs :: noObs :: m) fun y m1 => y = .bool (p o) ∧ m1 = noObs :: noObs :: m) :
    ACalls Tryz.prog 145 [.list (L.map iav), .fn (.func c) [] cs] m fun y m1 => y = .bool (L.any p) ∧ m1 = m := by
  refine wG Tryz.func145 ?_; simp only [eK, Tryz.f145, seval]
  simp only [eES, eEX, seval]
  refine aops_callF (z198 L hl p c (AV.shL cs) _ hc) (by simp only [List.map_cons, List.map_nil, eES, eEX, seval] <;> rfl) ?_
  simp only [fxi_any0, eES, eEX, seval]

include hl in
theorem z75 (hc : ∀ o ∈ L, ACalls Tryz.prog c (iav o :: AV.shL (AV.shL (AV.shL cs))) (noObs :: noObs :: noObs :: m) fun y m1 => y = .bool (p o) ∧ m1 = noObs :: noObs :: noObs :: m) :
    ACalls Tryz.prog 75 [.list (L.map iav), .fn (.func c) [] cs] m fun y m1 => y = .bool (L.any p) ∧ m1 = m := by
  refine wG Tryz.func75 ?_; simp only [eK, Tryz.f75, seval]
  simp only [eES, eEX, seval]
  refine aops_callF (z145 L hl p c (AV.shL cs) _ hc) (by simp only [List.map_cons, List.map_nil, eES, eEX, seval] <;> rfl) ?_
  simp only [eES, eEX, seval]

end

section
variable (L : List PS) (hl : L.length ≤ maxLen) (p : PS → Bool) (c : Nat) (cs : List AV) (m : Mem)

def JxS (k : Nat) (st : St) : Prop :=
  ∃ f i, st = ⟨f, noObs :: m, []⟩ ∧ k = L.length - i ∧ fxi p L 0 = fxi p (L.drop i) i ∧ f 0 = .list (L.map spav) ∧ f 1 = .fn (.func c) [] (AV.shL cs) ∧ f 7 = .int .i64 (L.length : Nat) ∧ f 8 = .int .i64 (i : Nat)

include hl in
theorem z258 (hc : ∀ o ∈ L, ACalls Tryz.prog c (spav o :: AV.shL cs) (noObs :: m) fun y m1 => y = .bool (p o) ∧ m1 = noObs :: m) :
    ACalls Tryz.prog 258 [.list (L.map spav), .fn (.func c) [] cs] m fun y m1 => y = .int .i64 (fxi p L 0) ∧ m1 = m := by
  refine wG Tryz.func258 ?_; simp only [eK, Tryz.f258, seval]
  simp only [List.length_map, eES, eEX, seval]
  refine awp_loop (JxS L p c cs m) _ ⟨_, 0, rfl, rfl, rfl, (by first | rfl | simp only [eES, eEX, seval]), (by first | rfl | simp only [eES, eEX, seval]), (by first | rfl | simp only [eES, eEX, seval]), (by first | rfl | simp only [eES, eEX, seval])⟩ ?_
  rintro _ st ⟨f, i, rfl, rfl, hx, h0, h1, h7, h8⟩
  simp only [h0, h1, h7, h8, eES, eEX, seval]
  by_cases hlt : i < L.length
  · obtain ⟨x, hi⟩ : ∃ x, L[i]? = some x := ⟨L[i], List.getElem?_eq_getElem hlt⟩
    have hcl := hc x (List.mem_of_getElem? hi)
    have hg : (L.map spav)[i]? = some (spav x) := by simp [hi]
    have e1 := wi64_s i _ hlt hl
    simp only [spav, PS.cells] at hcl
    simp only [lt_t hlt, nneg, Int.toNat_natCast, aiaddr, hg, spav, PS.cells, h0, h1, h7, h8, eES, eEX, seval]
    refine aops_callV (fa := []) (fb := AV.shL cs) (by first | rfl | exact h1 | simp only [h1, eES, eEX, seval]) hcl (by simp only [List.map_cons, List.map_nil, List.nil_append, List.cons_append, h0, h1, h7, h8, eES, eEX, seval]) ?_
    rw [fxi_drop p hi] at hx
    cases hp : p x
    · rw [hp] at hx
      simp only [Bool.false_eq_true, if_false] at hx
      simp only [h0, h1, h7, h8, e1, eES, eEX, seval]
      exact ⟨L.length - (i + 1), by omega, _, i + 1, rfl, rfl, hx, (by first | rfl | exact h0 | simp only [h0, eES, eEX, seval]), (by first | rfl | exact h1 | simp only [h1, eES, eEX, seval]), (by first | rfl | exact h7 | simp only [h7, eES, eEX, seval]), (by first | rfl | simp only [eES, eEX, seval])⟩
    · rw [hp] at hx
      simp only [if_true] at hx
      simp only [h0, h1, h7, h8, hx, eES, eEX, seval]
  · have hx' : fxi p L 0 = -1 := by rw [hx, List.drop_of_length_le (by omega)]; rfl
    simp only [lt_f hlt, h0, h1, h7, h8, hx', eES, eEX, seval]

include hl in
theorem z199 (hc : ∀ o ∈ L, ACalls Tryz.prog c (spav o :: AV.shL (AV.shL cs)) (noObs :: noObs :: m) fun y m1 => y = .bool (p o) ∧ m1 = noObs :: noObs :: m) :
    ACalls Tryz.prog 199 [.list (L.map spav), .fn (.func c) [] cs] m fun y m1 => y = .bool (L.any p) ∧ m1 = m := by
  refine wG Tryz.func199 ?_; simp only [eK, Tryz.f199, seval]
  simp only [eES, eEX, seval]
  refine aops_callF (z258 L hl p c (AV.shL cs) _ hc) (by simp only [List.map_cons, List.map_nil, eES, eEX, seval] <;> rfl) ?_
  simp only [fxi_any0, eES, eEX, seval]

end

section
variable (L : List (List UInt8)) (hl : L.length ≤ maxLen) (p : (List UInt8) → Bool) (c : Nat) (cs : List AV) (m : Mem)

def JxR (k : Nat) (st : St) : Prop :=
  ∃ f i, st = ⟨f, noObs :: m, []⟩ ∧ k = L.length - i ∧ fxi p L 0 = fxi p (L.drop i) i ∧ f 0 = .list (L.map rav) ∧ f 1 = .fn (.func c) [] (AV.shL cs) ∧ f 7 = .int .i64 (L.length : Nat) ∧ f 8 = .int .i64 (i : Nat)

include hl in
theorem z195 (hc : ∀ o ∈ L, ACalls Tryz.prog c (rav o :: AV.shL cs) (noObs :: m) fun y m1 => y = .bool (p o) ∧ m1 = noObs :: m) :
    ACalls Tryz.prog 195 [.list (L.map rav), .fn (.func c) [] cs] m fun y m1 => y = .int .i64 (fxi p L 0) ∧ m1 = m := by
  refine wG Tryz.func195 ?_; simp only [eK, Tryz.f195, seval]
  simp only [List.length_map, eES, eEX, seval]
  refine awp_loop (JxR L p c cs m) _ ⟨_, 0, rfl, rfl, rfl, (by first | rfl | simp only [eES, eEX, seval]), (by first | rfl | simp only [eES, eEX, seval]), (by first | rfl | simp only [eES, eEX, seval]), (by first | rfl | simp only [eES, eEX, seval])⟩ ?_
  rintro _ st ⟨f, i, rfl, rfl, hx, h0, h1, h7, h8⟩
  simp only [h0, h1, h7, h8, eES, eEX, seval]
  by_cases hlt : i < L.length
  · obtain ⟨x, hi⟩ : ∃ x, L[i]? = some x := ⟨L[i], List.getElem?_eq_getElem hlt⟩
    have hcl := hc x (List.mem_of_getElem? hi)
    have hg : (L.map rav)[i]? = some (rav x) := by simp [hi]
    have e1 := wi64_s i _ hlt hl
    simp only [rav] at hcl
    simp only [lt_t hlt, nneg, Int.toNat_natCast, aiaddr, hg, rav, h0, h1, h7, h8, eES, eEX, seval]
    refine aops_callV (fa := []) (fb := AV.shL cs) (by first | rfl | exact h1 | simp only [h1, eES, eEX, seval]) hcl (by simp only [List.map_cons, List.map_nil, List.nil_append, List.cons_append, h0, h1, h7, h8, eES, eEX, seval]) ?_
    rw [fxi_drop p hi] at hx
    cases hp : p x
    · rw [hp] at hx
      simp only [Bool.false_eq_true, if_false] at hx
      simp only [h0, h1, h7, h8, e1, eES, eEX, seval]
      exact ⟨L.length - (i + 1), by omega, _, i + 1, rfl, rfl, hx, (by first | rfl | exact h0 | simp only [h0, eES, eEX, seval]), (by first | rfl | exact h1 | simp only [h1, eES, eEX, seval]), (by first | rfl | exact h7 | simp only [h7, eES, eEX, seval]), (by first | rfl | simp only [eES, eEX, seval])⟩
    · rw [hp] at hx
      simp only [if_true] at hx
      simp only [h0, h1, h7, h8, hx, eES, eEX, seval]
  · have hx' : fxi p L 0 = -1 := by rw [hx, List.drop_of_length_le (by omega)]; rfl
    simp only [lt_f hlt, h0, h1, h7, h8, hx', eES, eEX, seval]

include hl in
theorem z140 (hc : ∀ o ∈ L, ACalls Tryz.prog c (rav o :: AV.shL (AV.shL cs)) (noObs :: noObs :: m) fun y m1 => y = .bool (p o) ∧ m1 = noObs :: noObs :: m) :
    ACalls Tryz.prog 140 [.list (L.map rav), .fn (.func c) [] cs] m fun y m1 => y = .bool (L.any p) ∧ m1 = m := by
  refine wG Tryz.func140 ?_; simp only [eK, Tryz.f140, seval]
  simp only [eES, eEX, seval]
  refine aops_callF (z195 L hl p c (AV.shL cs) _ hc) (by simp only [List.map_cons, List.map_nil, eES, eEX, seval] <;> rfl) ?_
  simp only [fxi_any0, eES, eEX, seval]

end

section
variable (L : List PG) (hl : L.length ≤ maxLen) (lt : PG → PG → Bool) (c : Nat) (cs : List AV) (m : Mem)

def AxG (k : Nat) (st : St) : Prop :=
  ∃ f i, st = ⟨f, noObs :: m, []⟩ ∧ k = L.length - (i + 1) ∧ allU (two L lt) (i + 1) = true ∧ f 0 = .list (L.map gav) ∧ f 1 = .fn (.func c) [] (AV.shL cs) ∧ f 5 = .int .i64 ((i + 1 : Nat) : Int)

include hl in
theorem z77 (hc : ∀ x ∈ L, ∀ y ∈ L, ACalls Tryz.prog c (gav x :: gav y :: AV.shL cs) (noObs :: m) fun r m1 => r = .bool (lt x y) ∧ m1 = noObs :: m) :
    ACalls Tryz.prog 77 [.list (L.map gav), .fn (.func c) [] cs] m fun y m1 => y = .bool (adj L lt) ∧ m1 = m := by
  refine wG Tryz.func77 ?_; simp only [eK, Tryz.f77, seval]
  simp only [eES, eEX, seval]
  refine awp_loop (AxG L lt c cs m) _ ⟨_, 0, rfl, rfl, rfl, (by first | rfl | simp only [eES, eEX, seval]), (by first | rfl | simp only [eES, eEX, seval]), (by first | rfl | simp only [eES, eEX, seval])⟩ ?_
  rintro _ st ⟨f, i, rfl, rfl, hx, h0, h1, h5⟩
  simp only [List.length_map, h0, h1, h5, eES, eEX, seval]
  by_cases hlt : i + 1 < L.length
  · obtain ⟨x, hi⟩ : ∃ x, L[i]? = some x := ⟨L[i]'(by omega), List.getElem?_eq_getElem (by omega)⟩
    obtain ⟨y, hj⟩ : ∃ y, L[i + 1]? = some y := ⟨L[i + 1], List.getElem?_eq_getElem hlt⟩
    have hcl := hc x (List.mem_of_getElem? hi) y (List.mem_of_getElem? hj)
    have hg : (L.map gav)[i]? = some (gav x) := by simp [hi]
    have hh : (L.map gav)[i + 1]? = some (gav y) := by simp [hj]
    have e1 := wi64_s (i + 1) _ hlt hl
    have e2 := wp64 i _ hlt hl
    simp only [gav, PG.cells] at hcl
    simp only [lt_t hlt, e2, nneg, Int.toNat_natCast, aiaddr, hg, hh, gav, PG.cells, h0, h1, h5, eES, eEX, seval]
    refine aops_callV (fa := []) (fb := AV.shL cs) (by first | rfl | exact h1 | simp only [h1, eES, eEX, seval]) hcl (by simp only [List.map_cons, List.map_nil, List.nil_append, List.cons_append, h0, h1, h5, eES, eEX, seval]) ?_
    have hs : allU (two L lt) (i + 2) = lt x y := by
      show (allU (two L lt) (i + 1) && two L lt (i + 1)) = _
      rw [hx, two_at hi hj, Bool.true_and]
    cases hp : lt x y
    · rw [hp] at hs
      have hf : adj L lt = false := by
        rw [Bool.eq_false_iff]
        intro h'
        rw [allU_iff.2 fun k hk => allU_iff.1 h' k (by omega)] at hs
        cases hs
      simp only [h0, h1, h5, hf, eES, eEX, seval]
    · rw [hp] at hs
      simp only [h0, h1, h5, e1, eES, eEX, seval]
      exact ⟨L.length - (i + 2), by omega, _, i + 1, rfl, rfl, hs, (by first | rfl | exact h0 | simp only [h0, eES, eEX, seval]), (by first | rfl | exact h1 | simp only [h1, eES, eEX, seval]), (by first | rfl | simp only [eES, eEX, seval])⟩
  · have hf : adj L lt = true := allU_iff.2 fun k hk => allU_iff.1 hx k (by omega)
    simp only [lt_f hlt, h0, h1, h5, hf, eES, eEX, seval]

end

section
variable (L : List PO) (hl : L.length ≤ maxLen) (lt : PO → PO → Bool) (c : Nat) (cs : List AV) (m : Mem)

def AxO (k : Nat) (st : St) : Prop :=
  ∃ f i, st = ⟨f, noObs :: m, []⟩ ∧ k = L.length - (i + 1) ∧ allU (two L lt) (i + 1) = true ∧ f 0 = .list (L.map oav) ∧ f 1 = .fn (.func c) [] (AV.shL cs) ∧ f 5 = .int .i64 ((i + 1 : Nat) : Int)

include hl in
theorem z82 (hc : ∀ x ∈ L, ∀ y ∈ L, ACalls Tryz.prog c (oav x :: oav y :: AV.shL cs) (noObs :: m) fun r m1 => r = .bool (lt x y) ∧ m1 = noObs :: m) :
    ACalls Tryz.prog 82 [.list (L.map oav), .fn (.func c) [] cs] m fun y m1 => y = .bool (adj L lt) ∧ m1 = m := by
  refine wG Tryz.func82 ?_; simp only [eK, Tryz.f82, seval]
  simp only [eES, eEX, seval]
  refine awp_loop (AxO L lt c cs m) _ ⟨_, 0, rfl, rfl, rfl, (by first | rfl | simp only [eES, eEX, seval]), (by first | rfl | simp only [eES, eEX, seval]), (by first | rfl | simp only [eES, eEX, seval])⟩ ?_
  rintro _ st ⟨f, i, rfl, rfl, hx, h0, h1, h5⟩
  simp only [List.length_map, h0, h1, h5, eES, eEX, seval]
  by_cases hlt : i + 1 < L.length
  · obtain ⟨x, hi⟩ : ∃ x, L[i]? = some x := ⟨L[i]'(by omega), List.getElem?_eq_getElem (by omega)⟩
    obtain ⟨y, hj⟩ : ∃ y, L[i + 1]? = some y := ⟨L[i + 1], List.getElem?_eq_getElem hlt⟩
    have hcl := hc x (List.mem_of_getElem? hi) y (List.mem_of_getElem? hj)
    have hg : (L.map oav)[i]? = some (oav x) := by simp [hi]
    have hh : (L.map oav)[i + 1]? = some (oav y) := by simp [hj]
    have e1 := wi64_s (i + 1) _ hlt hl
    have e2 := wp64 i _ hlt hl
    simp only [oav, PO.cells] at hcl
    simp only [lt_t hlt, e2, nneg, Int.toNat_natCast, aiaddr, hg, hh, oav, PO.cells, h0, h1, h5, eES, eEX, seval]
    refine aops_callV (fa := []) (fb := AV.shL cs) (by first | rfl | exact h1 | simp only [h1, eES, eEX, seval]) hcl (by simp only [List.map_cons, List.map_nil, List.nil_append, List.cons_append, h0, h1, h5, eES, eEX, seval]) ?_
    have hs : allU (two L lt) (i + 2) = lt x y := by
      show (allU (two L lt) (i + 1) && two L lt (i + 1)) = _
      rw [hx, two_at hi hj, Bool.true_and]
    cases hp : lt x y
    · rw [hp] at hs
      have hf : adj L lt = false := by
        rw [Bool.eq_false_iff]
        intro h'
        rw [allU_iff.2 fun k hk => allU_iff.1 h' k (by omega)] at hs
        cases hs
      simp only [h0, h1, h5, hf, eES, eEX, seval]
    · rw [hp] at hs
      simp only [h0, h1, h5, e1, eES, eEX, seval]
      exact ⟨L.length - (i + 2), by omega, _, i + 1, rfl, rfl, hs, (by first | rfl | exact h0 | simp only [h0, eES, eEX, seval]), (by first | rfl | exact h1 | simp only [h1, eES, eEX, seval]), (by first | rfl | simp only [eES, eEX, seval])⟩
  · have hf : adj L lt = true := allU_iff.2 fun k hk => allU_iff.1 hx k (by omega)
    simp only [lt_f hlt, h0, h1, h5, hf, eES, eEX, seval]

end

section
variable (L : List PE) (hl : L.length ≤ maxLen) (lt : PE → PE → Bool) (c : Nat) (cs : List AV) (m : Mem)

def AxE (k : Nat) (st : St) : Prop :=
  ∃ f i, st = ⟨f, noObs :: m, []⟩ ∧ k = L.length - (i + 1) ∧ allU (two L lt) (i + 1) = true ∧ f 0 = .list (L.map eav) ∧ f 1 = .fn (.func c) [] (AV.shL cs) ∧ f 5 = .int .i64 ((i + 1 : Nat) : Int)

include hl in
theorem z79 (hc : ∀ x ∈ L, ∀ y ∈ L, ACalls Tryz.prog c (eav x :: eav y :: AV.shL cs) (noObs :: m) fun r m1 => r = .bool (lt x y) ∧ m1 = noObs :: m) :
    ACalls Tryz.prog 79 [.list (L.map eav), .fn (.func c) [] cs] m fun y m1 => y = .bool (adj L lt) ∧ m1 = m := by
  refine wG Tryz.func79 ?_; simp only [eK, Tryz.f79, seval]
  simp only [eES, eEX, seval]
  refine awp_loop (AxE L lt c cs m) _ ⟨_, 0, rfl, rfl, rfl, (by first | rfl | simp only [eES, eEX, seval]), (by first | rfl | simp only [eES, eEX, seval]), (by first | rfl | simp only [eES, eEX, seval])⟩ ?_
  rintro _ st ⟨f, i, rfl, rfl, hx, h0, h1, h5⟩
  simp only [List.length_map, h0, h1, h5, eES, eEX, seval]
  by_cases hlt : i + 1 < L.length
  · obtain ⟨x, hi⟩ : ∃ x, L[i]? = some x := ⟨L[i]'(by omega), List.getElem?_eq_getElem (by omega)⟩
    obtain ⟨y, hj⟩ : ∃ y, L[i + 1]? = some y := ⟨L[i + 1], List.getElem?_eq_getElem hlt⟩
    have hcl := hc x (List.mem_of_getElem? hi) y (List.mem_of_getElem? hj)
    have hg : (L.map eav)[i]? = some (eav x) := by simp [hi]
    have hh : (L.map eav)[i + 1]? = some (eav y) := by simp [hj]
    have e1 := wi64_s (i + 1) _ hlt hl
    have e2 := wp64 i _ hlt hl
    simp only [eav, PE.cells] at hcl
    simp only [lt_t hlt, e2, nneg, Int.toNat_natCast, aiaddr, hg, hh, eav, PE.cells, h0, h1, h5, eES, eEX, seval]
    refine aops_callV (fa := []) (fb := AV.shL cs) (by first | rfl | exact h1 | simp only [h1, eES, eEX, seval]) hcl (by simp only [List.map_cons, List.map_nil, List.nil_append, List.cons_append, h0, h1, h5, eES, eEX, seval]) ?_
    have hs : allU (two L lt) (i + 2) = lt x y := by
      show (allU (two L lt) (i + 1) && two L lt (i + 1)) = _
      rw [hx, two_at hi hj, Bool.true_and]
    cases hp : lt x y
    · rw [hp] at hs
      have hf : adj L lt = false := by
        rw [Bool.eq_false_iff]
        intro h'
        rw [allU_iff.2 fun k hk => allU_iff.1 h' k (by omega)] at hs
        cases hs
      simp only [h0, h1, h5, hf, eES, eEX, seval]
    · rw [hp] at hs
      simp only [h0, h1, h5, e1, eES, eEX, seval]
      exact ⟨L.length - (i + 2), by omega, _, i + 1, rfl, rfl, hs, (by first | rfl | exact h0 | simp only [h0, eES, eEX, seval]), (by first | rfl | exact h1 | simp only [h1, eES, eEX, seval]), (by first | rfl | simp only [eES, eEX, seval])⟩
  · have hf : adj L lt = true := allU_iff.2 fun k hk => allU_iff.1 hx k (by omega)
    simp only [lt_f hlt, h0, h1, h5, hf, eES, eEX, seval]

end

section
variable (L : List PI) (hl : L.length ≤ maxLen) (lt : PI → PI → Bool) (c : Nat) (cs : List AV) (m : Mem)

def AxI (k : Nat) (st : St) : Prop :=
  ∃ f i, st = ⟨f, noObs :: m, []⟩ ∧ k = L.length - (i + 1) ∧ allU (two L lt) (i + 1) = true ∧ f 0 = .list (L.map iav) ∧ f 1 = .fn (.func c) [] (AV.shL cs) ∧ f 5 = .int .i64 ((i + 1 : Nat) : Int)

include hl in
theorem z85 (hc : ∀ x ∈ L, ∀ y ∈ L, ACalls Tryz.prog c (iav x :: iav y :: AV.shL cs) (noObs :: m) fun r m1 => r = .bool (lt x y) ∧ m1 = noObs :: m) :
    ACalls Tryz.prog 85 [.list (L.map iav), .fn (.func c) [] cs] m fun y m1 => y = .bool (adj L lt) ∧ m1 = m := by
  refine wG Tryz.func85 ?_; simp only [eK, Tryz.f85, seval]
  simp only [eES, eEX, seval]
  refine awp_loop (AxI L lt c cs m) _ ⟨_, 0, rfl, rfl, rfl, (by first | rfl | simp only [eES, eEX, seval]), (by first | rfl | simp only [eES, eEX, seval]), (by first | rfl | simp only [eES, eEX, seval])⟩ ?_
  rintro _ st ⟨f, i, rfl, rfl, hx, h0, h1, h5⟩
  simp only [List.length_map, h0, h1, h5, eES, eEX, seval]
  by_cases hlt : i + 1 < L.length
  · obtain ⟨x, hi⟩ : ∃ x, L[i]? = some x := ⟨L[i]'(by omega), List.getElem?_eq_getElem (by omega)⟩
    obtain ⟨y, hj⟩ : ∃ y, L[i + 1]? = some y := ⟨L[i + 1], List.getElem?_eq_getElem hlt⟩
    have hcl := hc x (List.mem_of_getElem? hi) y (List.mem_of_getElem? hj)
    have hg : (L.map iav)[i]? = some (iav x) := by simp [hi]
    have hh : (L.map iav)[i + 1]? = some (iav y) := by simp [hj]
    have e1 := wi64_s (i + 1) _ hlt hl
    have e2 := wp64 i _ hlt hl
    simp only [iav, PI.cells] at hcl
    simp only [lt_t hlt, e2, nneg, Int.toNat_natCast, aiaddr, hg, hh, iav, PI.cells, h0, h1, h5, eES, eEX, seval]
    refine aops_callV (fa := []) (fb := AV.shL cs) (by first | rfl | exact h1 | simp only [h1, eES, eEX, seval]) hcl (by simp only [List.map_cons, List.map_nil, List.nil_append, List.cons_append, h0, h1, h5, eES, eEX, seval]) ?_
    have hs : allU (two L lt) (i + 2) = lt x y := by
      show (allU (two L lt) (i + 1) && two L lt (i + 1)) = _
      rw [hx, two_at hi hj, Bool.true_and]
    cases hp : lt x y
    · rw [hp] at hs
      have hf : adj L lt = false := by
        rw [Bool.eq_false_iff]
        intro h'
        rw [allU_iff.2 fun k hk => allU_iff.1 h' k (by omega)] at hs
        cases hs
      simp only [h0, h1, h5, hf, eES, eEX, seval]
    · rw [hp] at hs
      simp only [h0, h1, h5, e1, eES, eEX, seval]
      exact ⟨L.length - (i + 2), by omega, _, i + 1, rfl, rfl, hs, (by first | rfl | exact h0 | simp only [h0, eES, eEX, seval]), (by first | rfl | exact h1 | simp only [h1, eES, eEX, seval]), (by first | rfl | simp only [eES, eEX, seval])⟩
  · have hf : adj L lt = true := allU_iff.2 fun k hk => allU_iff.1 hx k (by omega)
    simp only [lt_f hlt, h0, h1, h5, hf, eES, eEX, seval]

end

end Go.Proofs.YtdgbidbkcigkhaaGreatDoor.Va

set_option linter.unusedSimpArgs false
namespace Go.Proofs.YtdgbidbkcigkhaaGreatDoor.Va
open Go Am Rc Bt Br

def cl (c : Nat) : Int := if 97 ≤ c ∧ c ≤ 122 then 1 else if 65 ≤ c ∧ c ≤ 90 then 2 else if 48 ≤ c ∧ c ≤ 57 then 3 else if c = 95 then 4 else 0

theorem z197 (c : Nat) : Fn1 Tryz.prog 197 [.int .i32 (c : Nat)] (.int .i64 (cl c)) := by
  refine wF Tryz.func197 ?_; simp only [eK, Tryz.f197, seval]
  simp only [eES, eEX, seval]
  repeat' (first | (refine csel_of (fun h => ?_) (fun h => ?_) <;> simp only [h, eES, eEX, seval]) | (refine gsel_t (fun h => ?_) (fun h => ?_) <;> simp only [h, updO, eES, eEX, seval]) | (refine gsel_f (fun h => ?_) (fun h => ?_) <;> simp only [h, updO, eES, eEX, seval]))
  all_goals ((try simp only [decide_eq_true_eq, decide_eq_false_iff_not, beq_iff_eq, bne_iff_ne, beq_eq_false_iff_ne, bne_eq_false_iff_eq, ne_eq] at *) <;> unfold cl <;> (repeat' split) <;> first | rfl | (exfalso; omega))

theorem udec_ascii {s : List UInt8} {i : Nat} {c : UInt8} (h : s[i]? = some c) : (c.toNat < 128 → udec s i = (c.toNat, 1)) ∧ (128 ≤ c.toNat → 128 ≤ (udec s i).1) := by
  have g0 : (⟨⟨s⟩⟩ : ByteArray).get! (i + 0) = c := by
    show (⟨s⟩ : Array UInt8)[i + 0]! = c
    simp [h]
  constructor
  · intro hc
    simp only [udec, Utf8.decode, g0]
    rw [if_pos hc]
  · intro hc
    simp only [udec, Utf8.decode, g0]
    rw [if_neg (by omega)]
    (repeat' split) <;> simp only [ge_iff_le, Bool.and_eq_true, decide_eq_true_eq, Utf8.runeError] at * <;> omega

def pq (s : List UInt8) (j : Nat) : Bool := match s[j]? with
  | some c => if j = 0 then letter c else pchar c
  | none => true
theorem pq_at {s : List UInt8} {j : Nat} {c : UInt8} (h : s[j]? = some c) : pq s j = if j = 0 then letter c else pchar c := by
  unfold pq; rw [h]

theorem letter_pchar {c : UInt8} (h : letter c = true) : pchar c = true := by unfold pchar; rw [h]; rfl

theorem isPart_pq (s : List UInt8) : isPart s = (decide (1 ≤ s.length) && decide (s.length ≤ 40) && allU (pq s) s.length) := by
  cases s with
  | nil => rfl
  | cons c t =>
    have h1 : decide (1 ≤ (c :: t).length) = true := by simp
    rw [h1, Bool.true_and]
    show (decide ((c :: t).length ≤ 40) && letter c && t.all pchar) = _
    rw [Bool.and_assoc]
    congr 1
    rw [Bool.eq_iff_iff, Bool.and_eq_true, allU_iff, List.all_eq_true]
    constructor
    · rintro ⟨h2, h3⟩ i hi
      cases i with
      | zero => rw [pq_at (c := c) rfl, if_pos rfl]; exact h2
      | succ i =>
        have hlt : i < t.length := by simpa using hi
        rw [pq_at (c := t[i]) (by simp [List.getElem?_eq_getElem hlt]), if_neg (by omega)]
        exact h3 _ (List.getElem_mem _)
    · intro h
      refine ⟨?_, fun x hx => ?_⟩
      · have := h 0 (by simp)
        rwa [pq_at (c := c) rfl, if_pos rfl] at this
      · obtain ⟨i, hi⟩ := List.mem_iff_getElem?.1 hx
        have hlt := (List.getElem?_eq_some_iff.1 hi).1
        have := h (i + 1) (by simpa using hlt)
        rwa [pq_at (c := x) (by simpa using hi), if_neg (by omega)] at this

theorem cl_pq {s : List UInt8} {i : Nat} {c : UInt8} (h : s[i]? = some c) (r : Nat) (hr : (c.toNat < 128 → r = c.toNat) ∧ (128 ≤ c.toNat → 128 ≤ r)) :
    (cl r == 0 || ((i : Int) == 0 && (cl r != 1 && cl r != 2))) = !pq s i := by
  rw [pq_at h]
  obtain ⟨h1, h2⟩ := hr
  have hc := c.toNat_lt
  unfold cl letter pchar letter
  generalize c.toNat = x at *
  by_cases hx : x < 128
  · have e := h1 hx
    subst e
    by_cases hi : i = 0
    · subst hi
      rw [if_pos rfl]
      (repeat' split) <;> simp <;> omega
    · rw [if_neg hi]
      have hz : ((i : Int) == 0) = false := by simp; omega
      rw [hz]
      (repeat' split) <;> simp <;> omega
  · have := h2 (by omega)
    have e : (if 97 ≤ r ∧ r ≤ 122 then (1 : Int) else if 65 ≤ r ∧ r ≤ 90 then 2 else if 48 ≤ r ∧ r ≤ 57 then 3 else if r = 95 then 4 else 0) = 0 := by
      rw [if_neg (by omega), if_neg (by omega), if_neg (by omega), if_neg (by omega)]
    rw [e]
    split <;> simp <;> omega

def PaI (s : List UInt8) (k : Nat) (st : St) : Prop :=
  ∃ f fr i, st = ⟨f, [fr], []⟩ ∧ k = s.length - i ∧ i ≤ s.length ∧ allU (pq s) i = true ∧ f 0 = .str s ∧ f 7 = .ptr 0 7 0 ∧ fr 7 = .iter (.str s) i

theorem z144 (s : List UInt8) : Fn1 Tryz.prog 144 [.str s] (.bool (isPart s)) := by
  refine wF Tryz.func144 ?_; simp only [eK, Tryz.f144, seval]
  simp only [eES, eEX, seval]
  refine aops_rngs rfl rfl ?_
  simp only [eES, eEX, seval]
  refine awp_loop (PaI s) s.length ⟨_, _, 0, rfl, rfl, Nat.zero_le _, rfl, (by first | rfl | simp only [eES, eEX, seval]), (by first | rfl | simp only [eES, eEX, seval]), (by first | rfl | simp only [eES, eEX, seval])⟩ ?_
  rintro _ st ⟨f, fr, i, rfl, rfl, hi, hx, h0, h7, m7⟩
  simp only [h0, h7, eES, eEX, seval]
  refine aops_nxts (by first | rfl | exact h7 | simp only [h7, eES, eEX, seval]) m7 (fun hlt => ?_) (fun hge => ?_)
  · obtain ⟨c, hc⟩ : ∃ c, s[i]? = some c := ⟨s[i], List.getElem?_eq_getElem hlt⟩
    obtain ⟨u1, u2⟩ := udec_ascii hc
    have hcl := z197 (udec s i).1
    have hq := cl_pq hc (udec s i).1 ⟨fun h => by rw [u1 h], u2⟩
    have hw : pq s i = true → (udec s i).2 = 1 := by
      intro h
      rw [u1]
      rw [pq_at hc] at h
      have hp : pchar c = true := by
        split at h
        · exact letter_pchar h
        · exact h
      unfold pchar letter at hp
      simp at hp
      omega
    generalize udec s i = cw at hcl hq hw
    obtain ⟨r, w⟩ := cw
    simp only [h0, h7, eES, eEX, seval]
    refine aops_call hcl rfl rfl rfl (.inl rfl) ?_
    have hstep : allU (pq s) (i + 1) = pq s i := by rw [allU, hx, Bool.true_and]
    have hend : pq s i = false → isPart s = false := by
      intro h
      rw [isPart_pq, allU_false hlt h, Bool.and_false]
    simp only at hq hw
    generalize cl r = k at hq
    cases hp : pq s i
    · rw [hp] at hq
      have he := hend hp
      simp only [h0, h7, he, eES, eEX, seval]
      cases a1 : (k == 0)
      · cases a2 : ((i : Int) == 0)
        · simp [a1, a2] at hq
        · cases a3 : (k != 1)
          · simp [a1, a2, a3] at hq
          · cases a4 : (k != 2)
            · simp [a1, a2, a3, a4] at hq
            · simp only [a1, a2, a3, a4, h0, h7, he, eES, eEX, seval]
      · simp only [a1, h0, h7, he, eES, eEX, seval]
    · rw [hp] at hq
      have hw := hw hp
      subst hw
      simp only [h0, h7, eES, eEX, seval]
      cases a1 : (k == 0)
      · cases a2 : ((i : Int) == 0)
        · simp only [a1, a2, h0, h7, eES, eEX, seval]
          exact ⟨s.length - (i + 1), by omega, _, _, i + 1, rfl, rfl, by omega, by rw [hstep, hp], (by first | rfl | exact h0 | simp only [h0, eES, eEX, seval]), (by first | rfl | exact h7 | simp only [h7, eES, eEX, seval]), (by first | rfl | simp only [eES, eEX, seval])⟩
        · cases a3 : (k != 1)
          · simp only [a1, a2, a3, h0, h7, eES, eEX, seval]
            exact ⟨s.length - (i + 1), by omega, _, _, i + 1, rfl, rfl, by omega, by rw [hstep, hp], (by first | rfl | exact h0 | simp only [h0, eES, eEX, seval]), (by first | rfl | exact h7 | simp only [h7, eES, eEX, seval]), (by first | rfl | simp only [eES, eEX, seval])⟩
          · cases a4 : (k != 2)
            · simp only [a1, a2, a3, a4, h0, h7, eES, eEX, seval]
              exact ⟨s.length - (i + 1), by omega, _, _, i + 1, rfl, rfl, by omega, by rw [hstep, hp], (by first | rfl | exact h0 | simp only [h0, eES, eEX, seval]), (by first | rfl | exact h7 | simp only [h7, eES, eEX, seval]), (by first | rfl | simp only [eES, eEX, seval])⟩
            · simp [a1, a2, a3, a4] at hq
      · simp [a1] at hq
  · have hii : i = s.length := by omega
    subst hii
    have e1 : decide (((s.length : Nat) : Int) ≥ 1) = decide (1 ≤ s.length) := by rw [decide_eq_decide]; omega
    have e2 : decide (((s.length : Nat) : Int) ≤ 40) = decide (s.length ≤ 40) := by rw [decide_eq_decide]; omega
    have e3 : isPart s = (decide (1 ≤ s.length) && decide (s.length ≤ 40)) := by rw [isPart_pq, hx, Bool.and_true]
    simp only [h0, h7, e1, e2, e3, eES, eEX, seval]
    cases a1 : decide (1 ≤ s.length) <;> simp only [a1, Bool.true_and, Bool.false_and, h0, h7, e1, e2, eES, eEX, seval]

theorem z142 (s : List UInt8) : Fn1 Tryz.prog 142 [.str s] (.bool (isWord s)) := by
  refine wF Tryz.func142 ?_; simp only [eK, Tryz.f142, seval]
  simp only [astr, eES, eEX, seval]
  have e : isWord s = words.any fun w => s == w := rfl
  simp only [words, List.any_cons, List.any_nil, Bool.or_false] at e
  repeat' (first | (refine csel_of (fun h => ?_) (fun h => ?_) <;> simp only [h, astr, eES, eEX, seval]) | (refine gsel_t (fun h => ?_) (fun h => ?_) <;> simp only [h, updO, astr, eES, eEX, seval]) | (refine gsel_f (fun h => ?_) (fun h => ?_) <;> simp only [h, updO, astr, eES, eEX, seval]))
  all_goals (simp only [*, Bool.true_or, Bool.or_true, Bool.false_or, Bool.or_false] at e; simp only [e])

theorem z256 (s : List UInt8) : Fn1 Tryz.prog 256 [.str s, .str [46]] (.int .i64 (s.count 46 : Nat)) := by
  refine wF Tryz.func256 ?_; simp only [eK, Tryz.f256, seval]
  have b0 : (((1 : Nat) : Int) == 0) = false := rfl
  have b1 : (((1 : Nat) : Int) == 1) = true := rfl
  have b2 : ([(46 : UInt8)])[Int.toNat 0]? = some 46 := rfl
  simp only [List.length_cons, List.length_nil, Nat.zero_add, b0, b1, b2, eES, eEX, seval]
  refine aops_xb rfl rfl ?_
  simp only [xbv, Lib.countByte, if_true, eES, eEX, seval]
  try rfl

theorem z345 (s : List UInt8) : Fn1 Tryz.prog 345 [.str s, .int .u8 46] (.int .i64 (Lib.indexByte s 46)) := by
  refine wF Tryz.func345 ?_; simp only [eK, Tryz.f345, seval]
  simp only [eES, eEX, seval]
  refine aops_xb rfl rfl ?_
  simp only [xbv, Bool.false_eq_true, if_false, eES, eEX, seval]
  try rfl

theorem z307 (s : List UInt8) : Fn1 Tryz.prog 307 [.str s, .str [46]] (.int .i64 (Lib.indexByte s 46)) := by
  refine k307.fn (by simp) ?_
  have b0 : (((1 : Nat) : Int) == 0) = false := rfl
  have b1 : (((1 : Nat) : Int) == 1) = true := rfl
  have b2 : ([(46 : UInt8)])[Int.toNat 0]? = some 46 := rfl
  have hk := z345 s
  simp only [r307, g307_0, g307_1, g307_2, g307_3, g307_4, g307_5, g307_6, g307_7, g307_9, r307, o307, List.length_cons, List.length_nil, Nat.zero_add, astr, b0, b1, eES, eEX, seval]
  cases h : (([46] : List UInt8) == s)
  · simp only [h, b1, b2, eES, eEX, seval]
    refine aops_call hk rfl rfl rfl (.inl rfl) ?_
    simp only [eES, eEX, seval]
  · have hs : s = [46] := by simpa using (beq_iff_eq.1 h).symm
    subst hs
    simp only [eES, eEX, seval]
    try rfl

theorem z257 (s : List UInt8) : Fn1 Tryz.prog 257 [.str s, .str [46]] (.int .i64 (Lib.indexByte s 46)) := by
  refine wF Tryz.func257 ?_; simp only [eK, Tryz.f257, seval]
  simp only [eES, eEX, seval]
  refine aops_call (z307 s) rfl rfl rfl (.inl rfl) ?_
  simp only [eES, eEX, seval]

end Go.Proofs.YtdgbidbkcigkhaaGreatDoor.Va

set_option linter.unusedSimpArgs false
namespace Go.Proofs.YtdgbidbkcigkhaaGreatDoor.Va
open Go Am Rc Bt Br

theorem dot_at {t : List UInt8} {o : Nat} (h : Lib.indexByte t 46 = (o : Int)) : o < t.length ∧ t = t.take o ++ 46 :: t.drop (o + 1) ∧ ∀ c ∈ t.take o, c ≠ 46 := by
  obtain ⟨h1, h2⟩ := Lib.indexByte_some h
  have hlt := (List.getElem?_eq_some_iff.1 h1).1
  refine ⟨hlt, ?_, ?_⟩
  · have h3 : t[o] = 46 := (List.getElem?_eq_some_iff.1 h1).2
    rw [← h3, ← List.drop_eq_getElem_cons hlt, List.take_append_drop]
  · intro c hc e
    subst e
    obtain ⟨k, hk⟩ := List.mem_iff_getElem?.1 hc
    rw [List.getElem?_take] at hk
    split at hk
    · exact h2 k ‹_› hk
    · cases hk

theorem dot_none {t : List UInt8} (h : Lib.indexByte t 46 = -1) : parts t = [t] := by
  refine parts_one fun c hc e => ?_
  subst e
  obtain ⟨k, hk⟩ := List.mem_iff_getElem?.1 hc
  exact Lib.indexByte_none h k hk

theorem dot_parts {t : List UInt8} {o : Nat} (h : Lib.indexByte t 46 = (o : Int)) : parts t = t.take o :: parts (t.drop (o + 1)) := by
  obtain ⟨_, h2, h3⟩ := dot_at h
  conv => lhs; rw [h2]
  exact parts_cons h3

theorem dot_or (t : List UInt8) : Lib.indexByte t 46 = -1 ∨ ∃ o : Nat, Lib.indexByte t 46 = (o : Int) := by
  have := Lib.indexByte_ge t 46
  by_cases h : Lib.indexByte t 46 = -1
  · exact .inl h
  · obtain ⟨o, ho⟩ := Int.eq_ofNat_of_zero_le (a := Lib.indexByte t 46) (by omega)
    exact .inr ⟨o, ho⟩

def SpI (s : List UInt8) (n : Nat) (k : Nat) (st : St) : Prop :=
  ∃ f fr t done, st = ⟨f, [fr], []⟩ ∧ k = (parts t).length ∧ parts s = done ++ parts t ∧ n = done.length + (parts t).length ∧ t.length ≤ s.length ∧
    f 0 = .str t ∧ f 1 = .str [46] ∧ f 2 = .int .i64 0 ∧ f 3 = .int .i64 ((n - 1 : Nat) : Int) ∧ f 9 = .vec 0 31 1 0 n false ∧ f 10 = .int .i64 (done.length : Nat) ∧ fr 31 = .vec 1 1 (done.map rav ++ List.replicate (parts t).length (.str []))

theorem set_rest (done : List (List UInt8)) (x : List UInt8) (n : Nat) (h : 0 < n) : (done.map rav ++ List.replicate n (AV.str [])).set done.length (.str x) = (done ++ [x]).map rav ++ List.replicate (n - 1) (AV.str []) := by
  obtain ⟨k, rfl⟩ : ∃ k, n = k + 1 := ⟨n - 1, by omega⟩
  rw [List.set_append_right _ _ (by simp)]
  simp [rav, List.replicate_succ]

theorem z196 (s : List UInt8) (hs : s.length ≤ 17592186044000) : Fn1 Tryz.prog 196 [.str s, .str [46], .int .i64 0, .int .i64 (-1)] (.list ((parts s).map rav)) := by
  have hl := parts_len s
  have hc : s.count 46 ≤ s.length := List.count_le_length
  have hm : (parts s).length ≤ s.length + 1 := by omega
  have b0 : ((-1 : Int) == 0) = false := rfl
  have b1 : decide ((-1 : Int) < 0) = true := rfl
  have e1 : IntKind.i64.wrap ((s.count 46 : Nat) + 1 : Int) = ((parts s).length : Nat) := by rw [wi64]; omega
  have e2 : IntKind.i64.wrap ((s.length : Nat) + 1 : Int) = ((s.length + 1 : Nat) : Int) := by rw [wi64]; omega
  have e3' : (((s.length + 1 : Nat) : Int) < ((parts s).length : Nat)) = False := eq_false (by omega)
  have e4 : IntKind.i64.wrap (((parts s).length : Nat) - 1 : Int) = (((parts s).length - 1 : Nat) : Int) := by rw [wi64]; omega
  have hz : zeroE 1 [AV.str []] = .str [] := rfl
  refine wF Tryz.func196 ?_; simp only [eK, Tryz.f196, seval]
  simp only [b0, b1, astr, eES, eEX, seval]
  have b2 : (([46] : List UInt8) == []) = false := rfl
  simp only [b2, eES, eEX, seval]
  refine aops_call (z256 s) rfl rfl rfl (.inl rfl) ?_
  simp only [e1, e2, e3', if_false, eES, eEX, seval]
  refine aops_mk (n := (parts s).length) (k := (parts s).length) rfl rfl (Nat.le_refl _) (by omega) (by omega) rfl ?_
  simp only [e4, hz, eES, eEX, seval]
  refine awp_loop (SpI s (parts s).length) _ ⟨_, _, s, [], rfl, rfl, rfl, by simp, Nat.le_refl _, (by first | rfl | simp only [eES, eEX, seval]), (by first | rfl | simp only [eES, eEX, seval]), (by first | rfl | simp only [eES, eEX, seval]), (by first | rfl | simp only [eES, eEX, seval]), (by first | rfl | simp only [eES, eEX, seval]), (by first | rfl | simp only [eES, eEX, seval]), (by first | rfl | simp only [eES, eEX, seval])⟩ ?_
  rintro _ st ⟨f, fr, t, done, rfl, rfl, hp, hn, ht, h0, h1, h2, h3, h9, h10, m31⟩
  simp only [h0, h1, h2, h3, h9, h10, eES, eEX, seval]
  have hpos : 0 < (parts t).length := List.length_pos_iff.2 (parts_ne t)
  have ia : aiaddr [fr] 1 none (.vec 0 31 1 0 (parts s).length false) ((done.length : Nat) : Int) = some (.vptr 0 31 1 done.length 0) := by
    have e : Am.look [fr] 0 31 = .vec 1 1 (done.map rav ++ List.replicate (parts t).length (.str [])) := m31
    simp only [aiaddr, e, nneg, if_true, Int.toNat_natCast]
    simp; omega
  have ist : ∀ x : List UInt8, astore [fr] (.vptr 0 31 1 done.length 0) [.str x] = some [upd fr 31 (.vec 1 1 ((done ++ [x]).map rav ++ List.replicate ((parts t).length - 1) (.str [])))] := by
    intro x
    have e : Am.look [fr] 0 31 = .vec 1 1 (done.map rav ++ List.replicate (parts t).length (.str [])) := m31
    have hy : (done.map rav ++ List.replicate (parts t).length (.str []))[done.length]? = some (.str []) := by
      rw [List.getElem?_append_right (by simp)]
      simp [hpos]
    have hx : newElem (.str []) 0 [.str x] = .str x := rfl
    simp only [astore, e, hy, if_true, ← set_rest done x _ hpos]
    simp [AV.cells, AV.rfL, AV.rf, Am.put, hx]
  have ew : IntKind.i64.wrap ((done.length : Nat) + 1 : Int) = ((done.length + 1 : Nat) : Int) := by rw [wi64]; omega
  rcases dot_or t with hd | ⟨o, ho⟩
  · have hp1 := dot_none hd
    have hl1 : (parts t).length = 1 := by rw [hp1]; rfl
    have d1 : decide (((done.length : Nat) : Int) < (((parts s).length - 1 : Nat) : Int)) = false := decide_eq_false (by omega)
    have hi := ist t
    have hrow : (done ++ [t]).map rav ++ List.replicate ((parts t).length - 1) (AV.str []) = (parts s).map rav := by
      rw [hl1, hp, hp1]; simp
    have hlen : done.length + 1 = (parts s).length := by omega
    rw [hrow] at hi
    rw [hlen] at ew
    have hle : ((parts s).length ≤ (parts s).length) = True := eq_true (Nat.le_refl _)
    have ht : (((parts s).map rav).drop 0).take (parts s).length = (parts s).map rav := by rw [List.drop_zero]; exact List.take_of_length_le (by simp)
    simp only [d1, ia, hi, h0, h1, h2, h3, h9, h10, ew, eES, eEX, seval]
    simp only [nneg, if_true, Int.toNat_natCast, Nat.zero_le, hle, true_and, and_true, Nat.sub_zero, Option.isSome_none, Bool.or_false, vget, Option.getD_some, isV, Option.isSome_some]
    have el : Am.look [upd fr 31 (Ob.vec 1 1 ((parts s).map rav))] 0 31 = .vec 1 1 ((parts s).map rav) := upd_same _ _ _
    simp only [AV.still, el, Bool.true_and, bne_self_eq_false, Bool.false_eq_true, if_false, Nat.zero_add, List.length_map, hle, and_self, if_true, ht, Option.bind_some, AV.un, Option.isSome_some, Option.getD_some]
  · have hp1 := dot_parts ho
    obtain ⟨ho1, ho2, ho3⟩ := dot_at ho
    have hl1 : (parts t).length = (parts (t.drop (o + 1))).length + 1 := by rw [hp1]; simp
    have hpos2 : 0 < (parts (t.drop (o + 1))).length := List.length_pos_iff.2 (parts_ne _)
    have d1 : decide (((done.length : Nat) : Int) < (((parts s).length - 1 : Nat) : Int)) = true := decide_eq_true (by omega)
    have d2 : decide ((o : Int) < 0) = false := decide_eq_false (by omega)
    have w1 : IntKind.i64.wrap ((o : Int) + 0) = (o : Int) := by rw [wi64]; omega
    have w2 : IntKind.i64.wrap ((o : Int) + 1) = ((o + 1 : Nat) : Int) := by rw [wi64]; omega
    have hi := ist (t.take o)
    simp only [d1, h0, h1, h2, h3, h9, h10, eES, eEX, seval]
    refine aops_call (z257 t) rfl rfl rfl (.inl rfl) ?_
    have hle1 : (0 ≤ o ∧ o ≤ t.length) = True := eq_true ⟨Nat.zero_le _, by omega⟩
    have hle2 : (o + 1 ≤ t.length ∧ t.length ≤ t.length) = True := eq_true ⟨by omega, Nat.le_refl _⟩
    have ht2 : (t.drop (o + 1)).take (t.length - (o + 1)) = t.drop (o + 1) := List.take_of_length_le (by simp)
    simp only [ho, d2, w1, w2, nneg, Int.toNat_natCast, hle1, hle2, ht2, Nat.sub_zero, if_true, h0, h1, h2, h3, h9, h10, eES, eEX, seval]
    simp only [ia, hi, ew, hle1, hle2, ht2, Nat.sub_zero, if_true, h0, h1, h2, h3, h9, h10, eES, eEX, seval]
    have hlen : (done ++ [t.take o]).length = done.length + 1 := by simp
    have hk : (parts t).length - 1 = (parts (t.drop (o + 1))).length := by omega
    exact ⟨(parts (t.drop (o + 1))).length, by omega, _, _, t.drop (o + 1), done ++ [t.take o], rfl, rfl, by rw [hp, hp1]; simp, by rw [hlen]; omega, by simp; omega, (by first | rfl | simp only [eES, eEX, seval]), (by first | rfl | exact h1 | simp only [h1, eES, eEX, seval]), (by first | rfl | exact h2 | simp only [h2, eES, eEX, seval]), (by first | rfl | exact h3 | simp only [h3, eES, eEX, seval]), (by first | rfl | exact h9 | simp only [h9, eES, eEX, seval]), by rw [hlen] <;> first | rfl | simp only [eES, eEX, seval], by rw [← hk] <;> exact upd_same _ _ _⟩

end Go.Proofs.YtdgbidbkcigkhaaGreatDoor.Va
