/- Parts of the proof, in order. -/
import Derived.Test.YtaobkcgjidhpkaaGreatDoorProg
import Derived.Test.YtaobkcgjidhpkaaGreatDoorMVerdictWords1

namespace Go.Proofs.YtaobkcgjidhpkaaGreatDoor.Am
open Go

abbrev Tab := FuncId → Option (RC × List RR × Nat)

def TabOk (P : Program) (T : Tab) : Prop :=
  ∀ k c rs N, T k = some (c, rs, N) → ∃ fn body, P.funcs[k]? = some fn ∧ fn.body = some body ∧ (fn.name == "runtime.NumGoroutine") = false ∧ fn.ntmps = N ∧ chkC P N c body = true ∧ chkR P fn.results.toList rs = true

abbrev Cal := FuncId → List AV → Mem → Option (AV × Mem)

def sameOb : Ob → Ob → Bool
  | .cells [.vec l s g o n q], .cells [.vec l' s' g' o' n' q'] => Nat.beq l l' && Nat.beq s s' && Nat.beq g g' && Nat.beq o o' && Nat.beq n n' && q == q'
  | _, _ => false
theorem sameOb_ok : ∀ {a b : Ob}, sameOb a b = true → a = b := by
  intro a b h
  unfold sameOb at h
  split at h
  · simp only [Bool.and_eq_true, beq_iff_eq] at h
    obtain ⟨⟨⟨⟨⟨h1, h2⟩, h3⟩, h4⟩, h5⟩, h6⟩ := h
    rw [Nat.eq_of_beq_eq_true h1, Nat.eq_of_beq_eq_true h2, Nat.eq_of_beq_eq_true h3, Nat.eq_of_beq_eq_true h4, Nat.eq_of_beq_eq_true h5, h6]
  · cases h

def evop (call : Cal) (d : Option Nat) (op : RO) (st : St) : Option St :=
  match op with
  | .val vo => match vop st.f st.m vo with
    | some x => some { st with f := updO st.f d x }
    | none => none
  | .allocN s z => bif noOb st.m s then some { st with m := Am.put st.m 0 s (.cells z), f := updO st.f d (.ptr 0 s 0) } else none
  | .boxN s r => bif noOb st.m s && (r.ev st.f).cells.all AV.leaf then some { st with m := Am.put st.m 0 s (.cells (r.ev st.f).cells), f := updO st.f d (.ptr 0 s 0) } else none
  | .store n p r => bif Nat.beq (r.ev st.f).cells.length n && (r.ev st.f).cells.all AV.leaf then match astore st.m (p.ev st.f) (r.ev st.f).cells with
      | some m' => some { st with m := m', f := updO st.f d (.tup []) }
      | none => none
    else none
  | .storev l s n p r => match p.ev st.f with
    | .ptr l' s' _ => bif Nat.beq l' l && Nat.beq s' s && Nat.beq (r.ev st.f).cells.length n && (r.ev st.f).cells.all AV.leaf then match astore st.m (p.ev st.f) (r.ev st.f).cells with
        | some m' => some { st with m := m', f := updO st.f d (.tup []) }
        | none => none
      else none
    | _ => none
  | .app sz bytes el s r => match s.ev st.f with
    | .vec l site g 0 n false => match look st.m l site with
      | .vec g' sz' xs => match elemsOf st.m (r.ev st.f) with
        | some ys => bif Nat.beq g' g && Nat.beq sz' sz && tyOk site el && Nat.ble n xs.length && ys.all (fun e => e.cells.length == sz) && Nat.ble (n + ys.length) maxLen && Nat.ble ((n + ys.length) * bytes) 140737488355328 then
            some { st with m := Am.put st.m l site (.vec (g + 1) sz (xs.take n ++ ys)), f := updO st.f d (.vec l site (g + 1) 0 (n + ys.length) false) }
          else none
        | none => none
      | _ => none
    | _ => none
  | .appl sz bytes el s r => match s.ev st.f with
    | .vec l site g 0 n false => match look st.m 0 site with
      | .vec g' sz' xs => match elemsOf st.m (r.ev st.f) with
        | some ys => bif Nat.beq l 0 && Nat.beq g' g && Nat.beq sz' sz && tyOk site el && Nat.ble n xs.length && ys.all (fun e => e.cells.length == sz) && Nat.ble (n + ys.length) maxLen && Nat.ble ((n + ys.length) * bytes) 140737488355328 then
            some { st with m := Am.put st.m 0 site (.vec (g + 1 + 1) sz []), f := updO st.f d (.list (xs.take n ++ ys)) }
          else none
        | none => none
      | _ => none
    | _ => none
  | .call f args => match f.ev st.f with
    | .fn (.func k) fa fb => match AV.stillL false st.m (fa ++ args.map (RA.ev st.f) ++ fb) with
      | some ys => bif AV.rfL ys then match call k ys [] with
          | some (v, _) => bif v.rf && (AV.rfL (fa ++ args.map (RA.ev st.f) ++ fb) || v.nl) then some { st with f := updO st.f d v } else none
          | none => none
        else none
      | none => none
    | _ => none
  | .callF f args => match f.ev st.f with
    | .fn (.func k) fa fb => match call k (fa ++ args.map (RA.ev st.f) ++ fb) st.m with
      | some (v, m') => some { st with m := m', f := updO st.f d v }
      | none => none
    | _ => none
  | .callG f args => match f.ev st.f with
    | .fn (.func k) fa fb => match call k (fa ++ args.map (RA.ev st.f) ++ fb) st.m with
      | some (v, m') => some { st with m := m', f := updO st.f d v }
      | none => none
    | _ => none
  | .bsl sz len z ps => match fill st.f ps (zeros z sz len) with
    | some y => bif AV.rfL y && y.all AV.leaf then some { st with f := updO st.f d (.list (chunk sz len (y.map nn0))) } else none
    | none => none
  | .bslv site sz len z ps => match fill st.f ps (zeros z sz len) with
    | some y => bif AV.rfL y && y.all AV.leaf && rowOrNone (look st.m 0 site) then some { st with m := Am.put st.m 0 site (.vec (newGen st.m 0 site) sz (chunk sz len (y.map nn0))), f := updO st.f d (.vec 0 site (newGen st.m 0 site) 0 len false) } else none
    | none => none
  | .bsl0 site sz => bif rowOrNone (look st.m 0 site) then some { st with m := Am.put st.m 0 site (.vec (newGen st.m 0 site) sz []), f := updO st.f d (.vec 0 site (newGen st.m 0 site) 0 0 false) } else none
  | .appc site sz bytes _ s r => match s.ev st.f with
    | .lcap xs => match elemsOf st.m (r.ev st.f) with
      | some (y :: ys) => bif xs.all (fun e => e.cells.length == sz) && (y :: ys).all (fun e => e.cells.length == sz) && Nat.ble (xs.length + (y :: ys).length) maxLen && Nat.ble ((xs.length + (y :: ys).length) * bytes) 140737488355328 && rowOrNone (look st.m 0 site) then
          some { st with m := Am.put st.m 0 site (.vec (newGen st.m 0 site) sz (xs ++ y :: ys)), f := updO st.f d (.vec 0 site (newGen st.m 0 site) 0 (xs.length + (y :: ys).length) false) }
        else none
      | _ => none
    | _ => none
  | .isnil neg r => match r.ev st.f with
    | .nils => some { st with f := updO st.f d (.bool (!neg)) }
    | .list l => match flat l with
      | _ :: _ => some { st with f := updO st.f d (.bool neg) }
      | [] => none
    | _ => none
  | .callK l s f args => match f.ev st.f with
    | .fn (.func k) fa fb => match call k (fa ++ args.map (RA.ev st.f) ++ fb) st.m with
      | some (v, m') => bif sameOb (look m' l s) (look st.m l s) then some { st with m := m', f := updO st.f d v } else none
      | none => none
    | _ => none
  | .xb cnt _ s c => match s.ev st.f, c.ev st.f with
    | .str t, .int .u8 b => some { st with f := updO st.f d (.int .i64 (xbv cnt t b)) }
    | _, _ => none
  | .callR f args => match f.ev st.f with
    | .fn (.func k) fa fb => match AV.stillL false st.m (fa ++ args.map (RA.ev st.f) ++ fb) with
      | some ys => bif AV.rfL ys then match call k ys [] with
          | some (v, _) => bif v.rf && (AV.rfL (fa ++ args.map (RA.ev st.f) ++ fb) || v.nl) then some { st with f := updO st.f d v } else none
          | none => none
        else none
      | none => none
    | _ => none
  | .rngs s r => match r.ev st.f with
    | .str t => bif noOb st.m s then some { st with m := Am.put st.m 0 s (.iter (.str t) 0), f := updO st.f d (.ptr 0 s 0) } else none
    | _ => none
  | .nxts r => match r.ev st.f with
    | .ptr l s 0 => match look st.m l s with
      | .iter (.str t) p => bif Nat.blt p t.length then some { st with m := Am.put st.m l s (.iter (.str t) (p + (udec t p).2)), f := updO st.f d (.tup [.bool true, .int .i64 (p : Nat), .int .i32 ((udec t p).1 : Nat)]) } else some { st with f := updO st.f d (.tup [.bool false]) }
      | _ => none
    | _ => none
  | .mkm s => bif noOb st.m s then some { st with m := Am.put st.m 0 s (.iter (.mp [] []) 0), f := updO st.f d (.mptr 0 s) } else none
  | .mput x i v => match x.ev st.f with
    | .mptr l s => match look st.m l s with
      | .iter (.mp ks vs) p => match i.ev st.f with
        | .str k => bif (v.ev st.f).gr && AV.grL vs && Nat.beq ks.length vs.length then some { st with m := Am.put st.m l s (.iter (.mp (mpput k (v.ev st.f) ks vs).1 (mpput k (v.ev st.f) ks vs).2) p), f := updO st.f d (.tup []) } else none
        | _ => none
      | _ => none
    | _ => none
  | .slc0 site sz r => match elemsOf st.m (r.ev st.f) with
    | some _ => bif rowOrNone (look st.m 0 site) then some { st with m := Am.put st.m 0 site (.vec (newGen st.m 0 site) sz []), f := updO st.f d (.vec 0 site (newGen st.m 0 site) 0 0 false) } else none
    | none => none
  | .appS el s r => match s.ev st.f, r.ev st.f with
    | .vec l site g 0 n false, .str t => match look st.m l site with
      | .vec g' 1 xs => bif Nat.beq g' g && tyOk site el && Nat.ble n xs.length && Nat.ble (n + t.length) 140737488355328 then
          some { st with m := Am.put st.m l site (.vec (g + 1) 1 (xs.take n ++ bytesAV t)), f := updO st.f d (.vec l site (g + 1) 0 (n + t.length) false) }
        else none
      | _ => none
    | _, _ => none
  | .mk site _ sz bytes z l c => match l.ev st.f, c.ev st.f with
    | .int _ (.ofNat n), .int _ (.ofNat k) => bif Nat.ble n k && Nat.ble k 9223372036854775807 && Nat.ble (bytes * k) 281474976710656 && rowOrNone (look st.m 0 site) then
        some { st with m := Am.put st.m 0 site (.vec (newGen st.m 0 site) sz (List.replicate n (zeroE sz z))), f := updO st.f d (.vec 0 site (newGen st.m 0 site) 0 n false) }
      else none
    | _, _ => none
  | .s2b site _ r => match r.ev st.f with
    | .str s => bif Nat.ble s.length 9223372036854775807 && rowOrNone (look st.m 0 site) then
        some { st with m := Am.put st.m 0 site (.vec (newGen st.m 0 site) 1 (bytesAV s)), f := updO st.f d (.vec 0 site (newGen st.m 0 site) 0 s.length false) }
      else none
    | _ => none
  | .usd r => match r.ev st.f with
    | .vec l s g 0 n false => match look st.m l s with
      | .vec g' _ _ => bif Nat.beq g' g && Nat.ble 2000 s then some { st with f := updO st.f d (if n = 0 then .anyp else .vptr l s g 0 0) } else none
      | _ => none
    | _ => none
  | .ustr el p r => match p.ev st.f, r.ev st.f with
    | .anyp, .int .i64 (.ofNat 0) => some { st with f := updO st.f d (.str []) }
    | .vptr l s g 0 0, .int .i64 (.ofNat (n + 1)) => match look st.m l s with
      | .vec g' 1 xs => match bytesOf (xs.take (n + 1)) with
        | some t => bif Nat.beq s (el + 2000) && Nat.beq g' g && Nat.ble (n + 1) xs.length && isBytes (xs.take (n + 1)) t then some { st with m := Am.put st.m l (el + 2000) (.vec (g + 1) 1 []), f := updO st.f d (.str t) } else none
        | none => none
      | _ => none
    | _, _ => none
  | .dfr _ _ => none
where
    isBytes : List AV → List UInt8 → Bool
    | [], [] => true
    | .int .u8 (.ofNat n) :: l, b :: t => Nat.beq n b.toNat && isBytes l t
    | _, _ => false

def evstep (call : Cal) (it : Item) (st : St) : Option St :=
  match it.g with
  | none => evop call it.dst it.op st
  | some (j, want) => match st.f j with
    | .bool b => bif b == want then evop call it.dst it.op st else some { st with f := updO st.f it.dst (.tup []) }
    | .tup [] => some { st with f := updO st.f it.dst (.tup []) }
    | _ => none

def evops (call : Cal) : List Item → St → Option St
  | [], st => some st
  | it :: its, st => match evstep call it st with
    | some st' => evops call its st'
    | none => none

def evend (rs : List RR) (n : Nat) (r : Option (Exit × St)) : Option (AV × Mem) :=
  match r with
  | some (.normal, st) => fin st
  | some (.ret, st) => fin st
  | _ => none
where
  fin (st : St) : Option (AV × Mem) := match st.ds with
    | [] => match resV st rs with
      | some x => match leave st.m x with
        | some y => match st.m with
          | _ :: m => bif Nat.beq m.length n then some (y, m) else none
          | [] => none
        | none => none
      | none => none
    | _ => none

def evcall (nat : Cal) (T : Tab) (body : RC → St → Option (Exit × St)) : Cal := fun k args m =>
  match nat k args m with
  | some r => some r
  | none => match T k with
    | some (c, rs, N) => bif Nat.ble args.length N then evend rs m.length (body c (St.enter args m)) else none
    | none => none

def evC (nat : Cal) (T : Tab) : Nat → RC → St → Option (Exit × St)
  | 0, _, _ => none
  | n + 1, c, st => match c with
    | .skip => some (.normal, st)
    | .reg its => match evops (evcall nat T (evC nat T n)) its st with
      | some st' => some (.normal, st')
      | none => none
    | .draw its => match evops (evcall nat T (evC nat T n)) its st with
      | some st' => some (.normal, st')
      | none => none
    | .seq a b => match evC nat T n a st with
      | some (.normal, st') => evC nat T n b st'
      | r => r
    | .cond c a b => match c.ev st.f with
      | .bool t => bif t then evC nat T n a st else evC nat T n b st
      | _ => none
    | .block id a => match evC nat T n a st with
      | some (.exit i, st') => if i = id then some (.normal, st') else some (.exit i, st')
      | r => r
    | .loop a => match evC nat T n a st with
      | some (.normal, st') => evC nat T n (.loop a) st'
      | r => r
    | .exit id => some (.exit id, st)
    | .scope a => match evC nat T n a st with
      | some (.goto _, _) => none
      | r => r
    | .lab => some (.normal, st)
    | .ret => some (.ret, st)
    | .gho g a => match gstep g st with
      | some st' => evC nat T n a st'
      | none => none
    | .no => none

section
variable {P : Program} {T : Tab}

def CalOk (P : Program) (call : Cal) : Prop := ∀ k args m v m', call k args m = some (v, m') → ACalls P k args m fun x m1 => x = v ∧ m1 = m'

theorem isBytes_ok : ∀ {l : List AV} {t : List UInt8}, evop.isBytes l t = true → l = bytesAV t
  | [], [], _ => rfl
  | [], _ :: _, h => by simp [evop.isBytes] at h
  | .int .u8 (.ofNat n) :: l, b :: t, h => by
    simp only [evop.isBytes, Bool.and_eq_true] at h
    rw [isBytes_ok h.2, Nat.eq_of_beq_eq_true h.1]
    rfl
  | x :: l, [], h => by
    unfold evop.isBytes at h
    split at h <;> simp_all

theorem evop_ok {call : Cal} (hc : CalOk P call) {d : Option Nat} {op : RO} {st st' : St} (h : evop call d op st = some st') {K : St → Prop} (hK : K st') : aop P d op st K := by
  cases op with
  | val vo =>
    simp only [evop] at h
    split at h
    · rename_i x hx; cases h; exact ⟨x, hx, hK⟩
    · cases h
  | allocN s z =>
    simp only [evop] at h
    cases h1 : noOb st.m s <;> rw [h1] at h <;> simp only [cond_true, cond_false, reduceCtorEq, Option.some.injEq] at h
    subst h; exact ⟨h1, hK⟩
  | boxN s r =>
    simp only [evop] at h
    cases h1 : (noOb st.m s && (r.ev st.f).cells.all AV.leaf) <;> rw [h1] at h <;> simp only [cond_true, cond_false, reduceCtorEq, Option.some.injEq] at h
    rw [Bool.and_eq_true] at h1
    subst h; exact ⟨h1.1, h1.2, hK⟩
  | store n p r =>
    simp only [evop] at h
    cases h1 : (Nat.beq (r.ev st.f).cells.length n && (r.ev st.f).cells.all AV.leaf) <;> rw [h1] at h <;> simp only [cond_true, cond_false, reduceCtorEq] at h
    rw [Bool.and_eq_true] at h1
    split at h
    · rename_i m' hm; cases h; exact ⟨Nat.eq_of_beq_eq_true h1.1, h1.2, m', hm, hK⟩
    · cases h
  | storev l s n p r =>
    simp only [evop] at h
    split at h
    · rename_i l' s' o hp
      cases h1 : (Nat.beq l' l && Nat.beq s' s && Nat.beq (r.ev st.f).cells.length n && (r.ev st.f).cells.all AV.leaf) <;> rw [h1] at h <;> simp only [cond_true, cond_false, reduceCtorEq] at h
      simp only [Bool.and_eq_true] at h1
      obtain ⟨⟨⟨a1, a2⟩, a3⟩, a4⟩ := h1
      have e1 := Nat.eq_of_beq_eq_true a1
      have e2 := Nat.eq_of_beq_eq_true a2
      subst e1 e2
      split at h
      · rename_i m' hm; cases h; exact ⟨⟨o, hp⟩, Nat.eq_of_beq_eq_true a3, a4, m', hm, hK⟩
      · cases h
    · cases h
  | app sz bytes el s r =>
    simp only [evop] at h
    split at h
    · rename_i l site g n hs
      split at h
      · rename_i g' sz' xs hl
        split at h
        · rename_i ys hy
          cases h1 : (Nat.beq g' g && Nat.beq sz' sz && tyOk site el && Nat.ble n xs.length && ys.all (fun e => e.cells.length == sz) && Nat.ble (n + ys.length) maxLen && Nat.ble ((n + ys.length) * bytes) 140737488355328) <;> rw [h1] at h <;> simp only [cond_true, cond_false, reduceCtorEq, Option.some.injEq] at h
          simp only [Bool.and_eq_true] at h1
          obtain ⟨⟨⟨⟨⟨⟨a1, a2⟩, a3⟩, a4⟩, a5⟩, a6⟩, a7⟩ := h1
          have e1 := Nat.eq_of_beq_eq_true a1
          have e2 := Nat.eq_of_beq_eq_true a2
          subst e1 e2 h
          exact ⟨l, site, _, n, xs, ys, hs, hl, a3, Nat.le_of_ble_eq_true a4, hy, a5, Nat.le_of_ble_eq_true a6, Nat.le_of_ble_eq_true a7, hK⟩
        · cases h
      · cases h
    · cases h
  | appl sz bytes el s r =>
    simp only [evop] at h
    split at h
    · rename_i l site g n hs
      split at h
      · rename_i g' sz' xs hl
        split at h
        · rename_i ys hy
          cases h1 : (Nat.beq l 0 && Nat.beq g' g && Nat.beq sz' sz && tyOk site el && Nat.ble n xs.length && ys.all (fun e => e.cells.length == sz) && Nat.ble (n + ys.length) maxLen && Nat.ble ((n + ys.length) * bytes) 140737488355328) <;> rw [h1] at h <;> simp only [cond_true, cond_false, reduceCtorEq, Option.some.injEq] at h
          simp only [Bool.and_eq_true] at h1
          obtain ⟨⟨⟨⟨⟨⟨⟨a0, a1⟩, a2⟩, a3⟩, a4⟩, a5⟩, a6⟩, a7⟩ := h1
          have e0 := Nat.eq_of_beq_eq_true a0
          have e1 := Nat.eq_of_beq_eq_true a1
          have e2 := Nat.eq_of_beq_eq_true a2
          subst e0 e1 e2 h
          exact ⟨site, _, n, xs, ys, hs, hl, a3, Nat.le_of_ble_eq_true a4, hy, a5, Nat.le_of_ble_eq_true a6, Nat.le_of_ble_eq_true a7, hK⟩
        · cases h
      · cases h
    · cases h
  | call f args =>
    simp only [evop] at h
    split at h
    · rename_i k fa fb hf
      split at h
      · rename_i ys hy
        cases h1 : AV.rfL ys <;> rw [h1] at h <;> simp only [cond_true, cond_false, reduceCtorEq] at h
        split at h
        · rename_i v m' hv
          cases h2 : (v.rf && (AV.rfL (fa ++ args.map (RA.ev st.f) ++ fb) || v.nl)) <;> rw [h2] at h <;> simp only [cond_true, cond_false, reduceCtorEq, Option.some.injEq] at h
          rw [Bool.and_eq_true, Bool.or_eq_true] at h2
          subst h
          exact ⟨k, fa, fb, ys, v, hf, hy, h1, (hc _ _ _ _ _ hv).mono (fun _ _ e => e.1), h2.1, h2.2, hK⟩
        · cases h
      · cases h
    · cases h
  | callF f args =>
    simp only [evop] at h
    split at h
    · rename_i k fa fb hf
      split at h
      · rename_i v m' hv
        cases h
        exact ⟨k, fa, fb, v, m', hf, hc _ _ _ _ _ hv, hK⟩
      · cases h
    · cases h
  | callG f args =>
    simp only [evop] at h
    split at h
    · rename_i k fa fb hf
      split at h
      · rename_i v m' hv
        cases h
        exact ⟨k, fa, fb, _, hf, hc _ _ _ _ _ hv, fun x m1 hx _ => by obtain ⟨rfl, rfl⟩ := hx; exact hK⟩
      · cases h
    · cases h
  | bsl sz len z ps =>
    simp only [evop] at h
    split at h
    · rename_i y hy
      cases h1 : (AV.rfL y && y.all AV.leaf) <;> rw [h1] at h <;> simp only [cond_true, cond_false, reduceCtorEq, Option.some.injEq] at h
      rw [Bool.and_eq_true] at h1
      subst h; exact ⟨y, hy, h1.1, h1.2, hK⟩
    · cases h
  | bslv site sz len z ps =>
    simp only [evop] at h
    split at h
    · rename_i y hy
      cases h1 : (AV.rfL y && y.all AV.leaf && rowOrNone (look st.m 0 site)) <;> rw [h1] at h <;> simp only [cond_true, cond_false, reduceCtorEq, Option.some.injEq] at h
      simp only [Bool.and_eq_true] at h1
      subst h; exact ⟨y, hy, h1.1.1, h1.1.2, h1.2, hK⟩
    · cases h
  | bsl0 site sz =>
    simp only [evop] at h
    cases h1 : rowOrNone (look st.m 0 site) <;> rw [h1] at h <;> simp only [cond_true, cond_false, reduceCtorEq, Option.some.injEq] at h
    subst h; exact ⟨h1, hK⟩
  | appc site sz bytes el s r =>
    simp only [evop] at h
    split at h
    · rename_i xs hs
      split at h
      · rename_i y ys hy
        cases h1 : (xs.all (fun e => e.cells.length == sz) && (y :: ys).all (fun e => e.cells.length == sz) && Nat.ble (xs.length + (y :: ys).length) maxLen && Nat.ble ((xs.length + (y :: ys).length) * bytes) 140737488355328 && rowOrNone (look st.m 0 site)) <;> rw [h1] at h <;> simp only [cond_true, cond_false, reduceCtorEq, Option.some.injEq] at h
        simp only [Bool.and_eq_true] at h1
        obtain ⟨⟨⟨⟨a1, a2⟩, a3⟩, a4⟩, a5⟩ := h1
        subst h
        exact ⟨xs, y :: ys, hs, hy, by simp, a1, a2, Nat.le_of_ble_eq_true a3, Nat.le_of_ble_eq_true a4, a5, hK⟩
      · cases h
    · cases h
  | isnil neg r =>
    simp only [evop] at h
    split at h
    · rename_i hr
      cases h
      exact ⟨[], by rw [hr]; rfl, fun e => absurd hr e, fun _ => hK⟩
    · rename_i l hr
      split at h
      · rename_i z zs hf
        cases h
        exact ⟨l, by rw [hr]; rfl, fun _ => hK, fun e => by
          rcases e with e | e
          · rw [hr] at e; cases e
          · rw [hf] at e; cases e⟩
      · cases h
    · cases h
  | callK l s f args =>
    simp only [evop] at h
    split at h
    · rename_i k fa fb hf
      split at h
      · rename_i v m' hv
        cases he : sameOb (look m' l s) (look st.m l s) <;> rw [he] at h <;> simp only [cond_true, cond_false, reduceCtorEq, Option.some.injEq] at h
        subst h
        exact ⟨k, fa, fb, v, m', hf, hc _ _ _ _ _ hv, sameOb_ok he, hK⟩
      · cases h
    · cases h
  | xb cnt k s c =>
    simp only [evop] at h
    split at h
    · rename_i t b hs hb
      cases h; exact ⟨t, b, hs, hb, hK⟩
    · cases h
  | callR f args =>
    simp only [evop] at h
    split at h
    · rename_i k fa fb hf
      split at h
      · rename_i ys hy
        cases h1 : AV.rfL ys <;> rw [h1] at h <;> simp only [cond_true, cond_false, reduceCtorEq] at h
        split at h
        · rename_i v m' hv
          cases h2 : (v.rf && (AV.rfL (fa ++ args.map (RA.ev st.f) ++ fb) || v.nl)) <;> rw [h2] at h <;> simp only [cond_true, cond_false, reduceCtorEq, Option.some.injEq] at h
          rw [Bool.and_eq_true, Bool.or_eq_true] at h2
          subst h
          exact ⟨k, fa, fb, ys, (· = v), hf, hy, h1, (hc _ _ _ _ _ hv).mono (fun _ _ e => e.1), fun x hx => by subst hx; exact h2, fun x hx => by subst hx; exact hK⟩
        · cases h
      · cases h
    · cases h
  | rngs s r =>
    simp only [evop] at h
    split at h
    · rename_i t ht
      cases h1 : noOb st.m s <;> rw [h1] at h <;> simp only [cond_true, cond_false, reduceCtorEq, Option.some.injEq] at h
      subst h; exact ⟨t, ht, h1, hK⟩
    · cases h
  | mkm s =>
    simp only [evop] at h
    cases h1 : noOb st.m s <;> rw [h1] at h <;> simp only [cond_true, cond_false, reduceCtorEq, Option.some.injEq] at h
    subst h; exact ⟨h1, hK⟩
  | mput x i v =>
    simp only [evop] at h
    split at h
    · rename_i l s hx
      split at h
      · rename_i ks vs p hl
        split at h
        · rename_i k hi
          cases h1 : ((v.ev st.f).gr && AV.grL vs && Nat.beq ks.length vs.length) <;> rw [h1] at h <;> simp only [cond_true, cond_false, reduceCtorEq, Option.some.injEq] at h
          subst h
          simp only [Bool.and_eq_true] at h1
          exact ⟨l, s, ks, vs, p, k, hx, hl, hi, h1.1.1, h1.1.2, Nat.eq_of_beq_eq_true h1.2, hK⟩
        · cases h
      · cases h
    · cases h
  | nxts r =>
    simp only [evop] at h
    split at h
    · rename_i l s hr
      split at h
      · rename_i t p hl
        refine ⟨l, s, t, p, hr, hl, fun e => ?_, fun e => ?_⟩
        · have hb : Nat.blt p t.length = true := by simp [Nat.blt_eq, e]
          rw [hb] at h
          cases h; exact hK
        · have hb : Nat.blt p t.length = false := by
            cases hb : Nat.blt p t.length with
            | false => rfl
            | true => rw [Nat.blt_eq] at hb; omega
          rw [hb] at h
          cases h; exact hK
      · cases h
    · cases h
  | slc0 site sz r =>
    simp only [evop] at h
    split at h
    · rename_i ys hy
      cases h1 : rowOrNone (look st.m 0 site) <;> rw [h1] at h <;> simp only [cond_true, cond_false, reduceCtorEq, Option.some.injEq] at h
      subst h; exact ⟨ys, hy, h1, hK⟩
    · cases h
  | appS el s r =>
    simp only [evop] at h
    split at h
    · rename_i l site g n t hs hr
      split at h
      · rename_i g' xs hl
        cases h1 : (Nat.beq g' g && tyOk site el && Nat.ble n xs.length && Nat.ble (n + t.length) 140737488355328) <;> rw [h1] at h <;> simp only [cond_true, cond_false, reduceCtorEq, Option.some.injEq] at h
        simp only [Bool.and_eq_true] at h1
        obtain ⟨⟨⟨a1, a2⟩, a3⟩, a4⟩ := h1
        have e1 := Nat.eq_of_beq_eq_true a1
        subst e1 h
        exact ⟨l, site, _, n, xs, t, hs, hl, a2, Nat.le_of_ble_eq_true a3, hr, Nat.le_of_ble_eq_true a4, hK⟩
      · cases h
    · cases h
  | mk site el sz bytes z l c =>
    simp only [evop] at h
    split at h
    · rename_i kl n kc k hl hcc
      cases h1 : (Nat.ble n k && Nat.ble k 9223372036854775807 && Nat.ble (bytes * k) 281474976710656 && rowOrNone (look st.m 0 site)) <;> rw [h1] at h <;> simp only [cond_true, cond_false, reduceCtorEq, Option.some.injEq] at h
      simp only [Bool.and_eq_true] at h1
      obtain ⟨⟨⟨a1, a2⟩, a3⟩, a4⟩ := h1
      subst h
      exact ⟨kl, kc, n, k, hl, hcc, Nat.le_of_ble_eq_true a1, Nat.le_of_ble_eq_true a2, Nat.le_of_ble_eq_true a3, a4, hK⟩
    · cases h
  | s2b site el r =>
    simp only [evop] at h
    split at h
    · rename_i s hs
      cases h1 : (Nat.ble s.length 9223372036854775807 && rowOrNone (look st.m 0 site)) <;> rw [h1] at h <;> simp only [cond_true, cond_false, reduceCtorEq, Option.some.injEq] at h
      simp only [Bool.and_eq_true] at h1
      subst h
      exact ⟨s, hs, Nat.le_of_ble_eq_true h1.1, h1.2, hK⟩
    · cases h
  | usd r =>
    simp only [evop] at h
    split at h
    · rename_i l s g n hr
      split at h
      · rename_i g' sz xs hl
        cases h1 : (Nat.beq g' g && Nat.ble 2000 s) <;> rw [h1] at h <;> simp only [cond_true, cond_false, reduceCtorEq, Option.some.injEq] at h
        simp only [Bool.and_eq_true] at h1
        have e1 := Nat.eq_of_beq_eq_true h1.1
        subst e1 h
        exact ⟨l, s, _, n, sz, xs, Nat.le_of_ble_eq_true h1.2, hr, hl, hK⟩
      · cases h
    · cases h
  | ustr el p r =>
    simp only [evop] at h
    split at h
    · rename_i hp hr
      cases h
      exact .inl ⟨hp, hr, hK⟩
    · rename_i l s g n hp hr
      split at h
      · rename_i g' xs hl
        split at h
        · rename_i t ht
          cases h1 : (Nat.beq s (el + 2000) && Nat.beq g' g && Nat.ble (n + 1) xs.length && evop.isBytes (xs.take (n + 1)) t) <;> rw [h1] at h <;> simp only [cond_true, cond_false, reduceCtorEq, Option.some.injEq] at h
          simp only [Bool.and_eq_true] at h1
          obtain ⟨⟨⟨a1, a2⟩, a3⟩, a4⟩ := h1
          have e1 := Nat.eq_of_beq_eq_true a1
          have e2 := Nat.eq_of_beq_eq_true a2
          subst e1 e2 h
          exact .inr ⟨l, _, n + 1, xs, t, hp, hr, hl, Nat.le_of_ble_eq_true a3, Nat.succ_ne_zero n, isBytes_ok a4, hK⟩
        · cases h
      · cases h
    · cases h
  | dfr f args => simp [evop] at h

theorem evstep_ok {call : Cal} (hc : CalOk P call) {it : Item} {st st' : St} (h : evstep call it st = some st') {K : St → Prop} (hK : K st') : astep P it st K := by
  obtain ⟨d, op, g⟩ := it
  cases g with
  | none => exact evop_ok (d := d) hc h hK
  | some p =>
    obtain ⟨j, want⟩ := p
    simp only [evstep] at h
    simp only [astep]
    split at h
    · rename_i b hj
      simp only [hj]
      cases hb : (b == want) with
      | true =>
        rw [hb] at h
        have e : b = want := by simpa using hb
        exact ⟨fun _ => evop_ok hc h hK, fun e' => by rw [e] at e'; cases want <;> cases e'⟩
      | false =>
        rw [hb] at h
        simp only [cond_false, Option.some.injEq] at h
        subst h
        exact ⟨fun e => by rw [e] at hb; simp at hb, fun _ => hK⟩
    · rename_i hj
      cases h
      simp only [hj]
      exact ⟨trivial, hK⟩
    · cases h

theorem evops_ok {call : Cal} (hc : CalOk P call) : ∀ {its : List Item} {st st' : St}, evops call its st = some st' → ∀ {K : St → Prop}, K st' → aops P its st K
  | [], _, _, h, _, hK => by cases h; exact hK
  | it :: its, st, st', h, K, hK => by
    simp only [evops] at h
    split at h
    · rename_i st1 h1
      exact evstep_ok hc h1 (evops_ok hc h hK)
    · cases h

theorem evend_ok {rs : List RR} {n : Nat} {r : Option (Exit × St)} {v : AV} {m' : Mem} (h : evend rs n r = some (v, m')) : ∃ e st, r = some (e, st) ∧ AEnds rs n (fun x m1 => x = v ∧ m1 = m') e st := by
  have fin : ∀ {e : Exit} {st : St}, (e = .normal ∨ e = .ret) → evend.fin rs n st = some (v, m') → AEnds rs n (fun x m1 => x = v ∧ m1 = m') e st := by
    intro e st he h
    unfold evend.fin at h
    split at h
    · rename_i hds
      split at h
      · rename_i x hx
        split at h
        · rename_i y hy
          split at h
          · rename_i fr m hm
            cases hb : Nat.beq m.length n with
            | false => rw [hb] at h; cases h
            | true =>
              rw [hb] at h
              simp only [cond_true, Option.some.injEq, Prod.mk.injEq] at h
              exact ⟨he, hds, x, y, fr, m, hx, hy, hm, Nat.eq_of_beq_eq_true hb, h.1, h.2⟩
          · cases h
        · cases h
      · cases h
    · cases h
  unfold evend at h
  split at h
  · exact ⟨_, _, rfl, fin (.inl rfl) h⟩
  · exact ⟨_, _, rfl, fin (.inr rfl) h⟩
  · cases h

theorem evcall_ok {nat : Cal} (hN : CalOk P nat) (hT : TabOk P T) {body : RC → St → Option (Exit × St)} (hb : ∀ c st e st', body c st = some (e, st') → ∀ Q : Exit → St → Prop, Q e st' → awp P c st Q) : CalOk P (evcall nat T body) := by
  intro k args m v m' h
  unfold evcall at h
  split at h
  · rename_i r hr; cases h; exact hN _ _ _ _ _ hr
  split at h
  · rename_i c rs N hk
    cases hN : Nat.ble args.length N with
    | false => rw [hN] at h; cases h
    | true =>
      rw [hN] at h
      simp only [cond_true] at h
      obtain ⟨e, st, h1, h2⟩ := evend_ok h
      obtain ⟨fn, cd, a1, a2, a3, a4, a5, a6⟩ := hT k c rs N hk
      exact acalls_of_awp a1 a2 a3 a4 a5 a6 (Nat.le_of_ble_eq_true hN) (hb _ _ _ _ h1 _ h2)
  · cases h

theorem evC_ok {nat : Cal} (hN : CalOk P nat) (hT : TabOk P T) : ∀ (n : Nat) (c : RC) (st : St) (e : Exit) (st' : St), evC nat T n c st = some (e, st') → ∀ Q : Exit → St → Prop, Q e st' → awp P c st Q := by
  intro n
  induction n using Nat.strongRecOn with
  | _ n ihs =>
  cases n with
  | zero => intro c st e st' h; cases h
  | succ n =>
    intro c st e st' h Q hQ
    have ih := ihs n (Nat.lt_succ_self n)
    cases c with
    | skip => cases h; exact hQ
    | reg its =>
      simp only [evC] at h
      split at h
      · rename_i st1 h1; cases h
        exact evops_ok (evcall_ok hN hT ih) h1 hQ
      · cases h
    | draw its =>
      simp only [evC] at h
      split at h
      · rename_i st1 h1; cases h
        exact evops_ok (evcall_ok hN hT ih) h1 hQ
      · cases h
    | seq a b =>
      simp only [evC] at h
      split at h
      · rename_i st1 h1
        exact ih _ _ _ _ h1 _ (ih _ _ _ _ h Q hQ)
      · rename_i h1
        refine ih _ _ _ _ h _ ?_
        cases e with
        | normal => exact absurd h (h1 st')
        | _ => exact hQ
    | cond c a b =>
      simp only [evC] at h
      split at h
      · rename_i t ht
        cases t with
        | true => exact ⟨true, ht, fun _ => ih _ _ _ _ h Q hQ, (fun e => by cases e)⟩
        | false => exact ⟨false, ht, (fun e => by cases e), fun _ => ih _ _ _ _ h Q hQ⟩
      · cases h
    | block id a =>
      simp only [evC] at h
      split at h
      · rename_i i st1 h1
        refine ih _ _ _ _ h1 _ ?_
        show if i = id then Q .normal st1 else Q (.exit i) st1
        split at h
        · rename_i hi; cases h; rw [if_pos hi]; exact hQ
        · rename_i hi; cases h; rw [if_neg hi]; exact hQ
      · rename_i h1
        refine ih _ _ _ _ h _ ?_
        cases e with
        | exit i => exact absurd h (h1 i st')
        | _ => exact hQ
    | loop a =>
      refine ⟨fun k s => k ≤ n ∧ evC nat T (k + 1) (.loop a) s = some (e, st'), n, ⟨Nat.le_refl _, h⟩, fun k s hh => ?_⟩
      obtain ⟨hk, hs⟩ := hh
      simp only [evC] at hs
      split at hs
      · rename_i st1 h1
        refine ihs k (by omega) _ _ _ _ h1 _ ?_
        show ∃ j, j < k ∧ j ≤ n ∧ evC nat T (j + 1) (.loop a) st1 = some (e, st')
        cases k with
        | zero => cases h1
        | succ j => exact ⟨j, Nat.lt_succ_self j, by omega, hs⟩
      · rename_i h1
        refine ihs k (by omega) _ _ _ _ hs _ ?_
        cases e with
        | normal => exact absurd hs (h1 st')
        | _ => exact hQ
    | exit id => cases h; exact hQ
    | scope a =>
      simp only [evC] at h
      split at h
      · cases h
      · rename_i h1
        refine ih _ _ _ _ h _ ?_
        cases e with
        | goto i => exact absurd h (h1 i st')
        | _ => exact hQ
    | lab => cases h; exact hQ
    | ret => cases h; exact hQ
    | gho g a =>
      simp only [evC] at h
      split at h
      · rename_i st1 h1
        exact ⟨st1, h1, ih _ _ _ _ h Q hQ⟩
      · cases h
    | no => cases h

def evT (nat : Cal) (T : Tab) (n : Nat) (k : FuncId) (args : List AV) : Bool :=
  match evcall nat T (evC nat T n) k args [] with
  | some (.bool true, _) => true
  | _ => false

theorem fn1_of_evT {nat : Cal} (hN : CalOk P nat) (hT : TabOk P T) {n : Nat} {k : FuncId} {args : List AV} (h : evT nat T n k args = true) : Fn1 P k args (.bool true) := by
  unfold evT at h
  split at h
  · rename_i m' h1
    exact (evcall_ok hN hT (evC_ok hN hT n) _ _ _ _ _ h1).mono fun _ _ e => e.1
  · cases h

end

end Go.Proofs.YtaobkcgjidhpkaaGreatDoor.Am

namespace Go.Proofs.YtaobkcgjidhpkaaGreatDoor.Am
open Go

set_option linter.defProp false in
def eES := (And.intro (And.intro (And.intro (And.intro (And.intro (And.intro (And.intro (And.intro @Am.e_seq @Am.e_reg) (And.intro @Am.e_draw @Am.e_nil)) (And.intro (And.intro @Am.e_kc_n @Am.e_kc_x) (And.intro @Am.e_kc_r (And.intro @Am.e_block @Am.e_scope)))) (And.intro (And.intro (And.intro @Am.e_skip @Am.e_lab) (And.intro @Am.e_ret @Am.e_exit)) (And.intro (And.intro @Am.e_kb_n @Am.e_kb_x) (And.intro @Am.e_kb_r (And.intro @Am.e_kg_n @Am.e_kg_x))))) (And.intro (And.intro (And.intro (And.intro @Am.e_kg_r @Am.e_kl_n) (And.intro @Am.e_kl_x @Am.e_kl_r)) (And.intro (And.intro @Am.e_cond @Am.e_bget) (And.intro @Am.e_isB (And.intro @Am.e_c @Am.e_t)))) (And.intro (And.intro (And.intro @Am.e_f @Am.e_val) (And.intro @Am.e_vget @Am.e_isV)) (And.intro (And.intro @Am.e_upd @Am.e_g) (And.intro @Am.e_gsel_t (And.intro @Am.e_gsel_f @Am.e_gsel_tf)))))) (And.intro (And.intro (And.intro (And.intro (And.intro @Am.e_gsel_ft @Am.e_gsel_n) (And.intro @Am.e_gsel_tf0 @Am.e_gsel_ft0)) (And.intro (And.intro @Am.e_gsel_n0 @Am.e_csel_t) (And.intro @Am.e_csel_f (And.intro @Am.e_ends_r @Am.e_ends_n)))) (And.intro (And.intro (And.intro @Am.e_nbeq @Am.vop.eq_1) (And.intro @Am.vop.eq_2 @Am.vop.eq_3)) (And.intro (And.intro @Am.vop.eq_4 @Am.vop.eq_5) (And.intro @Am.vop.eq_6 (And.intro @Am.vop.eq_7 @Am.vop.eq_8))))) (And.intro (And.intro (And.intro (And.intro @Am.vop.eq_9 @Am.vop.eq_10) (And.intro @Am.vop.eq_11 @Am.vop.eq_12)) (And.intro (And.intro @Am.vop.eq_13 @Am.vop.eq_14) (And.intro @Am.vop.eq_15 (And.intro @Am.vop.eq_16 @Am.vop.eq_17)))) (And.intro (And.intro (And.intro @Am.vop.eq_18 @Am.vop.eq_19) (And.intro @Am.vop.eq_20 @Am.vop.eq_21)) (And.intro (And.intro @Am.vop.eq_22 @Am.vop.eq_23) (And.intro @Am.vop.eq_24 (And.intro @Am.vop.eq_25 @Am.vop.eq_26))))))) (And.intro (And.intro (And.intro (And.intro (And.intro (And.intro @Am.vop.eq_27 @Am.vop.eq_28) (And.intro @Am.vop.eq_29 @Am.vop.eq_30)) (And.intro (And.intro @Am.vop.eq_31 @Am.vop.eq_32) (And.intro @Am.vop.eq_33 (And.intro @Am.vop.eq_34 @Am.vop.eq_35)))) (And.intro (And.intro (And.intro @Am.vop.eq_36 @Am.abin.eq_1) (And.intro @Am.abin.eq_2 @Am.abin.eq_3)) (And.intro (And.intro @Am.abin.eq_4 @Am.abin.eq_5) (And.intro @Am.abin.eq_6 (And.intro @Am.abin.eq_7 @Am.abin.eq_8))))) (And.intro (And.intro (And.intro (And.intro @Am.abin.eq_9 @Am.abin.eq_10) (And.intro @Am.abin.eq_11 @Am.abin.eq_12)) (And.intro (And.intro @Am.abin.eq_13 @Am.abin.eq_14) (And.intro @Am.abin.eq_15 (And.intro @Am.abin.eq_16 @Am.abin.eq_17)))) (And.intro (And.intro (And.intro @Am.aint.eq_1 @Am.aint.eq_2) (And.intro @Am.aint.eq_3 @Am.aint.eq_4)) (And.intro (And.intro @Am.aint.eq_5 @Am.aint.eq_6) (And.intro @Am.aint.eq_7 (And.intro @Am.aint.eq_8 @Am.aint.eq_9)))))) (And.intro (And.intro (And.intro (And.intro (And.intro @Am.aint.eq_10 @Am.aint.eq_11) (And.intro @Am.aint.eq_12 @Am.aint.eq_13)) (And.intro (And.intro @Am.aint.eq_14 @Am.aint.eq_15) (And.intro @Am.aint.eq_16 (And.intro @Am.aun.eq_1 @Am.aun.eq_2)))) (And.intro (And.intro (And.intro @Am.aun.eq_3 @Am.aun.eq_4) (And.intro @cond_true.{0} @cond_true.{1})) (And.intro (And.intro @cond_false.{0} @cond_false.{1}) (And.intro @true_and (And.intro @and_true @List.getElem?_cons_zero.{0}))))) (And.intro (And.intro (And.intro (And.intro @List.getElem?_cons_succ.{0} @List.getElem?_nil.{0}) (And.intro @Option.getD_some.{0} @Option.getD_none.{0})) (And.intro (And.intro @Am.St.enter.eq_1 @Am.argF.eq_1) (And.intro @Am.AV.shL.eq_1 (And.intro @Am.AV.shL.eq_2 @Am.AV.sh.eq_1)))) (And.intro (And.intro (And.intro @Am.AV.sh.eq_2 @Am.AV.sh.eq_3) (And.intro @Am.AV.sh.eq_4 @Am.AV.sh.eq_5)) (And.intro (And.intro @Am.AV.sh.eq_6 @Am.AV.sh.eq_7) (And.intro @Am.AV.sh.eq_8 (And.intro @Am.AV.sh.eq_9 @Am.resV.eq_1)))))))) (And.intro (And.intro (And.intro (And.intro (And.intro (And.intro (And.intro @Am.resV.eq_2 @Am.RR.ev.eq_1) (And.intro @Am.RR.ev.eq_2 @Am.RR.evL.eq_1)) (And.intro (And.intro @Am.RR.evL.eq_2 @Am.leave.eq_1) (And.intro @Am.AV.still.eq_1 (And.intro @Am.AV.still.eq_2 @Am.AV.still.eq_3)))) (And.intro (And.intro (And.intro @Am.AV.still.eq_4 @Am.AV.still.eq_5) (And.intro @Am.AV.still.eq_6 @Am.AV.still.eq_7)) (And.intro (And.intro @Am.AV.still.eq_8 @Am.AV.stillL.eq_1) (And.intro @Am.AV.stillL.eq_2 (And.intro @Am.AV.un.eq_1 @Am.AV.un.eq_2))))) (And.intro (And.intro (And.intro (And.intro @Am.AV.un.eq_3 @Am.AV.un.eq_4) (And.intro @Am.AV.un.eq_5 @Am.AV.un.eq_6)) (And.intro (And.intro @Am.AV.un.eq_7 @Am.AV.un.eq_8) (And.intro @Am.AV.un.eq_9 (And.intro @Am.AV.un.eq_10 @Am.AV.un.eq_11)))) (And.intro (And.intro (And.intro @Am.AV.un.eq_12 @Am.AV.un.eq_13) (And.intro @Am.AV.unL.eq_1 @Am.AV.unL.eq_2)) (And.intro (And.intro @Option.bind_some.{0,0} @Option.map_some.{0,0}) (And.intro @if_true.{0} (And.intro @if_true.{1} @if_false.{0})))))) (And.intro (And.intro (And.intro (And.intro (And.intro @if_false.{1} @Bool.false_eq_true) (And.intro @Go.IntKind.bits.eq_1 @Go.IntKind.bits.eq_2)) (And.intro (And.intro @Go.IntKind.bits.eq_3 @Go.IntKind.bits.eq_4) (And.intro @Go.IntKind.bits.eq_5 (And.intro @Go.IntKind.bits.eq_6 @Go.IntKind.bits.eq_7)))) (And.intro (And.intro (And.intro @Go.IntKind.bits.eq_8 @List.length_nil.{0}) (And.intro @List.length_cons.{0} @Bool.true_and)) (And.intro (And.intro @Bool.and_true @forall_const.{1}) (And.intro @not_true_eq_false (And.intro @not_false_eq_true @Am.upd_upd))))) (And.intro (And.intro (And.intro (And.intro @Bool.not_true @Bool.not_false) (And.intro @Am.gen?.eq_1 @ne_eq.{1})) (And.intro (And.intro @Nat.one_ne_zero @decide_true) (And.intro @decide_false (And.intro @Am.e_store @Am.e_storev)))) (And.intro (And.intro (And.intro @Am.e_isPv @Am.e_allocN) (And.intro @Am.e_boxN @Am.e_mget)) (And.intro (And.intro @Am.e_isM @Am.noOb.eq_1) (And.intro @Am.AV.unNL.eq_1 (And.intro @Am.AV.unNL.eq_2 @Am.AV.unNL_zero))))))) (And.intro (And.intro (And.intro (And.intro (And.intro (And.intro @Am.AV.shNL.eq_1 @Am.AV.shNL.eq_2) (And.intro @Am.AV.shN.eq_1 @Am.AV.shN.eq_2)) (And.intro (And.intro @Am.splice.eq_1 @Am.part.eq_1) (And.intro @Am.part.eq_2 (And.intro @Am.fill.eq_1 @Am.fill.eq_2)))) (And.intro (And.intro (And.intro @Am.AV.leaf.eq_1 @Am.AV.leaf.eq_2) (And.intro @Am.AV.leaf.eq_3 @Am.AV.leaf.eq_4)) (And.intro (And.intro @List.all_cons.{0} @List.all_nil.{0}) (And.intro @List.take_succ_cons.{0} (And.intro @List.take_zero.{0} @List.take_nil.{0}))))) (And.intro (And.intro (And.intro (And.intro @List.drop_succ_cons.{0} @List.drop_zero.{0}) (And.intro @List.drop_nil.{0} @List.nil_append.{0})) (And.intro (And.intro @List.cons_append.{0} @List.append_nil.{0}) (And.intro @Am.noObs.eq_1 (And.intro @and_self @Am.lenA.eq_1)))) (And.intro (And.intro (And.intro @Am.lenA.eq_2 @Am.lenA.eq_3) (And.intro @Am.lenA.eq_4 @Am.lenA.eq_5)) (And.intro (And.intro @Am.lenA.eq_6 @Am.bnd.eq_1) (And.intro @Am.bnd.eq_2 (And.intro @Am.aslice.eq_1 @Am.aslice.eq_2)))))) (And.intro (And.intro (And.intro (And.intro (And.intro @Am.aslice.eq_3 @Am.aslice.eq_4) (And.intro @Am.aslice.eq_5 @Am.aslice.eq_6)) (And.intro (And.intro @Am.aslice.eq_7 @Am.eqL.eq_1) (And.intro @Am.eqL.eq_2 (And.intro @Am.eqL.eq_3 @Am.eq1.eq_1)))) (And.intro (And.intro (And.intro @Am.eq1.eq_2 @Am.eq1.eq_3) (And.intro @Am.eq1.eq_4 @Am.e_no)) (And.intro (And.intro @Am.e_drop @Am.e_scr_top) (And.intro @Am.e_scr_int (And.intro @Am.e_scr_bool @Am.e_scr_str))))) (And.intro (And.intro (And.intro (And.intro @Am.e_scr_nils @Am.e_scr_nilp) (And.intro @Am.e_scr_nili @Am.e_scr_nilf)) (And.intro (And.intro @Am.e_scr_list @Am.e_scr_vec) (And.intro @Am.e_scr_agg (And.intro @Am.e_scr_tup @Am.e_scr_ptr)))) (And.intro (And.intro (And.intro @Am.e_scr_ptr1 @Am.e_scr_nil) (And.intro @Am.e_scr_cons (And.intro @Am.e_scr_cells @Am.e_scr_row))) (And.intro (And.intro @Am.e_scr_none @Am.e_scr_isRow) (And.intro @Am.e_row_cells (And.intro @Am.e_row_none @List.map_nil.{0,0})))))))))

set_option linter.defProp false in
def eEX := (And.intro (And.intro (And.intro @Am.astore.eq_1 (And.intro @Am.astore.eq_2 @Am.astore.eq_3)) (And.intro (And.intro @Am.aload.eq_1 @Am.aload.eq_2) (And.intro @Am.aload.eq_3 @Am.aload.eq_4))) (And.intro (And.intro (And.intro @Am.look.eq_1 @Am.look.eq_2) (And.intro @Am.look.eq_3 @Am.put.eq_1)) (And.intro (And.intro @Am.put.eq_2 @Am.put.eq_3) (And.intro @Am.AV.cells.eq_1 @Am.AV.cells.eq_2))))

end Go.Proofs.YtaobkcgjidhpkaaGreatDoor.Am

namespace Go.Proofs.YtaobkcgjidhpkaaGreatDoor.Rc
open Go Am
abbrev IL := List Am.Item
abbrev CT (k n : Nat) (r : RC) (o : List RR) : Prop := CK Tryz.prog k n r o
abbrev gl4 : List AV := [.int .i64 1, .int .i64 2, .int .i64 2, .int .i64 1, .int .i64 1, .int .i64 6, .int .i64 7, .int .i64 7, .int .i64 1, .int .i64 1, .int .i64 2, .int .i64 2, .int .i64 2, .int .i64 2, .int .i64 6, .int .i64 7, .int .i64 7, .int .i64 2, .int .i64 1, .int .i64 2, .int .i64 2, .int .i64 2, .int .i64 2, .int .i64 6, .int .i64 7, .int .i64 8, .int .i64 9]
abbrev gl1 : List AV := [.int .u64 0, .int .u64 1, .int .u64 2147483648, .int .u64 2147483647, .int .u64 9223372036854775808, .int .u64 9223372036854775807, .int .u64 0, .int .u64 4294967295, .int .u64 0, .int .u64 18446744073709551615, .int .u64 0, .int .u64 0, .int .u64 0, .int .u64 0, .int .u64 0, .int .u64 0, .int .u64 0, .int .u64 2147483647]
def g4_0 : IL := [⟨some 0, .val (.mov (.c (.bool false))), none⟩]
def g4_1 : IL := [⟨some 2, .call (.f 10) [(.c (.int .i64 3)), (.c (.int .i64 3))], none⟩, ⟨some 3, .call (.f 10) [(.c (.int .i64 3)), (.c (.int .i64 2))], none⟩, ⟨some 4, .call (.f 9) [(.t 2), (.t 3), (.c (.str [77])), (.c (.int .i64 2))], none⟩, ⟨some 1, .val (.mov (.t 4)), none⟩]
def g4_2 : IL := [⟨some 5, .val (.mov (.t 1)), none⟩, ⟨some 6, .val (.len 1 (.t 5)), none⟩, ⟨some 7, .val (.bin .num .eql (.t 6) (.c (.int .i64 1))), none⟩, ⟨some 8, .val (.mov (.t 7)), none⟩, ⟨some 9, .val (.mov (.t 1)), (some (8, true))⟩, ⟨some 10, .val (.iaddr 4 none (.t 9) (.c (.int .i64 0))), (some (8, true))⟩, ⟨some 11, .val (.faddr 2 (.t 10)), (some (8, true))⟩, ⟨some 12, .val (.load none (.t 11)), (some (8, true))⟩, ⟨some 13, .val (.bin .num .eql (.t 12) (.c (.int .i64 6))), (some (8, true))⟩, ⟨some 14, .val (.pick (.t 8) (.t 13) (.c (.bool false))), none⟩, ⟨some 15, .val (.mov (.t 14)), none⟩, ⟨some 16, .val (.mov (.t 1)), (some (15, true))⟩, ⟨some 17, .val (.iaddr 4 none (.t 16) (.c (.int .i64 0))), (some (15, true))⟩, ⟨some 18, .val (.faddr 1 (.t 17)), (some (15, true))⟩, ⟨some 19, .val (.load none (.t 18)), (some (15, true))⟩, ⟨some 20, .val (.bin .num .eql (.t 19) (.c (.int .i64 1))), (some (15, true))⟩, ⟨some 21, .val (.pick (.t 15) (.t 20) (.c (.bool false))), none⟩, ⟨some 22, .val (.mov (.t 21)), none⟩, ⟨some 23, .call (.f 10) [(.c (.int .i64 3)), (.c (.int .i64 2))], (some (22, true))⟩, ⟨some 24, .call (.f 10) [(.c (.int .i64 3)), (.c (.int .i64 3))], (some (22, true))⟩, ⟨some 25, .call (.f 11) [(.t 23), (.t 24), (.c (.str [77])), (.c (.int .i64 1))], (some (22, true))⟩, ⟨some 26, .val (.pick (.t 22) (.t 25) (.c (.bool false))), none⟩, ⟨some 0, .val (.mov (.t 26)), none⟩]
def r4 : RC := .seq (.reg g4_0) (.seq (.reg g4_1) (.seq (.reg g4_2) (.ret)))
def o4 : List RR := [.tmp 0]
theorem k4 : CT 4 27 r4 o4 := ck Tryz.func4 Tryz.ntmps4 (by decide +kernel)
def g9_0 : IL := [⟨some 4, .boxN 4 (.t 0), none⟩, ⟨some 5, .boxN 5 (.t 1), none⟩, ⟨some 8, .val (.mov (.c (.nils))), none⟩]
def g9_1 : IL := [⟨some 15, .val (.load (some 3) (.t 4)), none⟩, ⟨some 16, .val (.load (some 3) (.t 5)), none⟩, ⟨some 17, .val (.mov (.t 2)), none⟩, ⟨some 18, .val (.mov (.t 3)), none⟩, ⟨some 19, .callF (.f 18) [(.t 15), (.t 16), (.t 17), (.t 18)], none⟩, ⟨some 14, .val (.mov (.t 19)), none⟩, ⟨some 20, .val (.ext (.t 14) 0), none⟩, ⟨some 21, .val (.ext (.t 14) 1), none⟩, ⟨some 22, .val (.ext (.t 14) 2), none⟩, ⟨some 9, .allocN 9 [.nils, .nils, .nils, .nils, .int .i64 0], none⟩, ⟨some 10, .allocN 10 [.int .i64 0, .int .i64 0, .nils, .bool false], none⟩, ⟨none, .store 5 (.t 9) (.t 20), none⟩, ⟨none, .store 4 (.t 10) (.t 21), none⟩, ⟨some 11, .val (.mov (.t 22)), none⟩]
def g9_2 : IL := [⟨some 23, .val (.mov (.t 11)), none⟩, ⟨some 24, .val (.len 1 (.t 23)), none⟩, ⟨some 25, .val (.bin .num .gtr (.t 24) (.c (.int .i64 0))), none⟩]
def g9_3 : IL := [⟨some 26, .val (.mov (.t 11)), none⟩, ⟨some 8, .val (.mov (.t 26)), none⟩]
def g9_4 : IL := [⟨some 27, .val (.load (some 4) (.t 10)), none⟩, ⟨some 28, .bsl 4 1 [.int .i64 0, .int .i64 0, .nils, .bool false] [(0, 4, (.t 27))], none⟩, ⟨some 12, .val (.mov (.t 28)), none⟩]
def g9_5 : IL := [⟨some 13, .val (.mov (.c (.int .i64 0))), none⟩]
def g9_6 : IL := [⟨some 29, .val (.mov (.t 13)), none⟩, ⟨some 30, .val (.mov (.t 12)), none⟩, ⟨some 31, .val (.len 1 (.t 30)), none⟩, ⟨some 32, .val (.bin .num .lss (.t 29) (.t 31)), none⟩]
def g9_8 : IL := [⟨some 35, .val (.mov (.t 11)), none⟩, ⟨some 36, .val (.loadv 0 9 (some 5) (.t 9)), none⟩, ⟨some 37, .val (.mov (.t 12)), none⟩, ⟨some 38, .val (.mov (.t 13)), none⟩, ⟨some 39, .val (.iaddr 4 none (.t 37) (.t 38)), none⟩, ⟨some 40, .val (.loadr (some 4) (.t 39)), none⟩, ⟨some 41, .call (.f 19) [(.t 36), (.t 40)], none⟩, ⟨some 42, .app 4 56 29 (.t 35) (.t 41), none⟩, ⟨some 11, .val (.mov (.t 42)), none⟩]
def g9_9 : IL := [⟨some 43, .val (.loadv 0 9 (some 5) (.t 9)), none⟩, ⟨some 44, .val (.mov (.t 12)), none⟩, ⟨some 45, .val (.mov (.t 12)), none⟩, ⟨some 46, .val (.mov (.t 13)), none⟩, ⟨some 47, .val (.iaddr 4 none (.t 45) (.t 46)), none⟩, ⟨some 48, .val (.loadr (some 4) (.t 47)), none⟩, ⟨some 49, .call (.f 20) [(.t 43), (.t 44), (.t 48)], none⟩, ⟨some 12, .val (.mov (.t 49)), none⟩]
def g9_7 : IL := [⟨some 33, .val (.mov (.t 13)), none⟩, ⟨some 34, .val (.bin .num .add (.t 33) (.c (.int .i64 1))), none⟩, ⟨some 13, .val (.mov (.t 34)), none⟩]
def l9_0 : RC := .seq (.seq (.reg g9_6) (.cond (.t 32) (.skip) (.exit 0))) (.seq (.block 1 (.seq (.draw g9_8) (.draw g9_9))) (.reg g9_7))
def g9_10 : IL := [⟨some 50, .val (.mov (.t 11)), none⟩, ⟨some 8, .val (.mov (.t 50)), none⟩]
def r9 : RC := .seq (.reg g9_0) (.seq (.reg g9_1) (.seq (.seq (.reg g9_2) (.cond (.t 25) (.seq (.reg g9_3) (.ret)) (.skip))) (.seq (.reg g9_4) (.seq (.seq (.reg g9_5) (.block 0 (.loop l9_0))) (.seq (.reg g9_10) (.ret))))))
def o9 : List RR := [.tmp 8]
theorem k9 : CT 9 51 r9 o9 := ck Tryz.func9 Tryz.ntmps9 (by decide +kernel)
def g10_0 : IL := [⟨some 4, .allocN 4 [.nils, .nils, .nils], none⟩]
def g10_1 : IL := [⟨some 5, .val (.mov (.t 0)), none⟩, ⟨some 6, .val (.mov (.t 1)), none⟩, ⟨some 7, .val (.build [.int .i64 0, .str []] [(0, 1, (.t 6))]), none⟩, ⟨some 8, .val (.build [.int .i64 0, .str [], .int .i64 0, .int .i64 0, .int .i64 0, .str [], .str [], .bool false, .int .i64 0, .int .u64 0, .str [], .nils, .nils, .nils, .nils, .nils] [(0, 1, (.c (.int .i64 1))), (1, 1, (.c (.str [97]))), (2, 1, (.t 5)), (4, 2, (.t 7))]), none⟩, ⟨some 9, .bsl 16 1 [.int .i64 0, .str [], .int .i64 0, .int .i64 0, .int .i64 0, .str [], .str [], .bool false, .int .i64 0, .int .u64 0, .str [], .nils, .nils, .nils, .nils, .nils] [(0, 16, (.t 8))], none⟩, ⟨some 10, .val (.build [.str [], .nils, .nils, .nils, .nils] [(0, 1, (.c (.str [77]))), (1, 1, (.t 9))]), none⟩, ⟨some 11, .bsl 5 1 [.str [], .nils, .nils, .nils, .nils] [(0, 5, (.t 10))], none⟩, ⟨some 12, .val (.build [.nils, .nils, .nils] [(0, 1, (.t 11))]), none⟩, ⟨none, .store 3 (.t 4) (.t 12), none⟩]
def r10 : RC := .seq (.reg g10_0) (.seq (.reg g10_1) (.ret))
def o10 : List RR := [.cell 4 (some 3)]
theorem k10 : CT 10 13 r10 o10 := ck Tryz.func10 Tryz.ntmps10 (by decide +kernel)
def g11_0 : IL := [⟨some 4, .boxN 4 (.t 0), none⟩, ⟨some 5, .boxN 5 (.t 1), none⟩, ⟨some 8, .val (.mov (.c (.bool false))), none⟩]
def g11_1 : IL := [⟨some 12, .val (.load (some 3) (.t 4)), none⟩, ⟨some 13, .val (.load (some 3) (.t 5)), none⟩, ⟨some 14, .val (.mov (.t 2)), none⟩, ⟨some 15, .val (.mov (.t 3)), none⟩, ⟨some 16, .call (.f 21) [(.t 12), (.t 13), (.t 14), (.t 15)], none⟩, ⟨some 11, .val (.mov (.t 16)), none⟩, ⟨some 17, .val (.ext (.t 11) 0), none⟩, ⟨some 18, .val (.ext (.t 11) 1), none⟩, ⟨some 9, .allocN 9 [.str [], .int .i64 0, .int .i64 0, .nils], none⟩, ⟨none, .store 4 (.t 9) (.t 17), none⟩, ⟨some 10, .val (.mov (.t 18)), none⟩]
def g11_2 : IL := [⟨some 19, .val (.mov (.t 10)), none⟩, ⟨some 20, .val (.un .not (.t 19)), none⟩, ⟨some 8, .val (.mov (.t 20)), none⟩]
def r11 : RC := .seq (.reg g11_0) (.seq (.reg g11_1) (.seq (.reg g11_2) (.ret)))
def o11 : List RR := [.tmp 8]
theorem k11 : CT 11 21 r11 o11 := ck Tryz.func11 Tryz.ntmps11 (by decide +kernel)
def g12_0 : IL := [⟨some 2, .val (.mov (.c (.bool false))), none⟩]
def g12_1 : IL := [⟨some 3, .val (.mov (.t 0)), none⟩, ⟨some 4, .val (.bin .num .eql (.t 3) (.c (.int .i64 1))), none⟩, ⟨some 5, .val (.mov (.t 4)), none⟩, ⟨some 6, .val (.mov (.t 0)), (some (5, false))⟩, ⟨some 7, .val (.bin .num .eql (.t 6) (.c (.int .i64 2))), (some (5, false))⟩, ⟨some 8, .val (.pick (.t 5) (.c (.bool true)) (.t 7)), none⟩, ⟨some 9, .val (.mov (.t 8)), none⟩, ⟨some 10, .val (.mov (.t 0)), (some (9, false))⟩, ⟨some 11, .val (.bin .num .eql (.t 10) (.c (.int .i64 4))), (some (9, false))⟩, ⟨some 12, .val (.pick (.t 9) (.c (.bool true)) (.t 11)), none⟩, ⟨some 2, .val (.mov (.t 12)), none⟩]
def r12 : RC := .seq (.reg g12_0) (.seq (.reg g12_1) (.ret))
def o12 : List RR := [.tmp 2]
theorem k12 : CT 12 13 r12 o12 := ck Tryz.func12 Tryz.ntmps12 (by decide +kernel)
def g18_0 : IL := [⟨some 4, .boxN 4 (.t 0), none⟩, ⟨some 5, .boxN 5 (.t 1), none⟩, ⟨some 8, .allocN 8 [.nils, .nils, .nils, .nils, .int .i64 0], none⟩, ⟨some 9, .allocN 9 [.int .i64 0, .int .i64 0, .nils, .bool false], none⟩, ⟨some 10, .val (.mov (.c (.nils))), none⟩]
def g18_1 : IL := [⟨some 16, .val (.mov (.t 3)), none⟩, ⟨some 17, .call (.f 12) [(.t 16)], none⟩, ⟨some 18, .val (.un .not (.t 17)), none⟩]
def g18_2 : IL := [⟨some 19, .val (.build [.nils, .nils, .nils, .nils, .int .i64 0] []), none⟩, ⟨some 20, .val (.build [.int .i64 0, .int .i64 0, .nils, .bool false] []), none⟩, ⟨some 21, .val (.mov (.t 2)), none⟩, ⟨some 22, .val (.build [.str [], .int .i64 0, .int .i64 0, .nils] [(0, 1, (.t 21)), (1, 1, (.c (.int .i64 (-1)))), (2, 1, (.c (.int .i64 1)))]), none⟩, ⟨some 23, .bsl 4 1 [.str [], .int .i64 0, .int .i64 0, .nils] [(0, 4, (.t 22))], none⟩, ⟨none, .store 5 (.t 8) (.t 19), none⟩, ⟨none, .store 4 (.t 9) (.t 20), none⟩, ⟨some 10, .val (.mov (.t 23)), none⟩]
def g18_3 : IL := [⟨some 24, .val (.mov (.t 3)), none⟩, ⟨some 25, .val (.build [.nils, .nils, .nils, .nils, .int .i64 0] [(4, 1, (.t 24))]), none⟩, ⟨some 11, .allocN 11 [.nils, .nils, .nils, .nils, .int .i64 0], none⟩, ⟨none, .store 5 (.t 11) (.t 25), none⟩]
def g18_4 : IL := [⟨some 27, .val (.load (some 3) (.t 4)), none⟩, ⟨some 28, .call (.f 25) [(.t 27)], none⟩, ⟨some 26, .val (.mov (.t 28)), none⟩, ⟨some 29, .val (.ext (.t 26) 0), none⟩, ⟨some 30, .val (.ext (.t 26) 1), none⟩, ⟨some 31, .val (.faddr 0 (.t 11)), none⟩, ⟨none, .store 2 (.t 31) (.t 29), none⟩]
def g18_5 : IL := [⟨some 33, .val (.load (some 3) (.t 5)), none⟩, ⟨some 34, .call (.f 25) [(.t 33)], none⟩, ⟨some 32, .val (.mov (.t 34)), none⟩, ⟨some 35, .val (.ext (.t 32) 0), none⟩, ⟨some 36, .val (.ext (.t 32) 1), none⟩, ⟨some 37, .val (.faddr 2 (.t 11)), none⟩, ⟨none, .store 2 (.t 37) (.t 35), none⟩]
def g18_6 : IL := [⟨some 39, .val (.faddr 0 (.t 11)), none⟩, ⟨some 40, .val (.load (some 2) (.t 39)), none⟩, ⟨some 41, .val (.mov (.t 2)), none⟩, ⟨some 42, .call (.f 26) [(.t 40), (.t 41)], none⟩, ⟨some 38, .val (.mov (.t 42)), none⟩, ⟨some 43, .val (.ext (.t 38) 0), none⟩, ⟨some 44, .val (.ext (.t 38) 1), none⟩, ⟨some 12, .val (.mov (.t 43)), none⟩, ⟨some 13, .val (.mov (.t 44)), none⟩]
def g18_7 : IL := [⟨some 46, .val (.faddr 2 (.t 11)), none⟩, ⟨some 47, .val (.load (some 2) (.t 46)), none⟩, ⟨some 48, .val (.mov (.t 2)), none⟩, ⟨some 49, .call (.f 26) [(.t 47), (.t 48)], none⟩, ⟨some 45, .val (.mov (.t 49)), none⟩, ⟨some 50, .val (.ext (.t 45) 0), none⟩, ⟨some 51, .val (.ext (.t 45) 1), none⟩, ⟨some 14, .val (.mov (.t 50)), none⟩, ⟨some 15, .val (.mov (.t 51)), none⟩]
def g18_8 : IL := [⟨some 52, .val (.mov (.t 13)), none⟩, ⟨some 53, .val (.un .not (.t 52)), none⟩, ⟨some 54, .val (.mov (.t 53)), none⟩, ⟨some 55, .val (.mov (.t 15)), (some (54, false))⟩, ⟨some 56, .val (.un .not (.t 55)), (some (54, false))⟩, ⟨some 57, .val (.pick (.t 54) (.c (.bool true)) (.t 56)), none⟩]
def g18_9 : IL := [⟨some 58, .val (.build [.nils, .nils, .nils, .nils, .int .i64 0] []), none⟩, ⟨some 59, .val (.build [.int .i64 0, .int .i64 0, .nils, .bool false] []), none⟩, ⟨some 60, .val (.mov (.t 2)), none⟩, ⟨some 61, .val (.build [.str [], .int .i64 0, .int .i64 0, .nils] [(0, 1, (.t 60)), (1, 1, (.c (.int .i64 (-1)))), (2, 1, (.c (.int .i64 10)))]), none⟩, ⟨some 62, .bsl 4 1 [.str [], .int .i64 0, .int .i64 0, .nils] [(0, 4, (.t 61))], none⟩, ⟨none, .store 5 (.t 8) (.t 58), none⟩, ⟨none, .store 4 (.t 9) (.t 59), none⟩, ⟨some 10, .val (.mov (.t 62)), none⟩]
def g18_10 : IL := [⟨some 63, .val (.load (some 5) (.t 11)), none⟩, ⟨some 64, .val (.mov (.t 12)), none⟩, ⟨some 65, .val (.mov (.t 14)), none⟩, ⟨some 66, .val (.build [.int .i64 0, .int .i64 0, .nils, .bool false] [(0, 1, (.t 64)), (1, 1, (.t 65))]), none⟩, ⟨none, .store 5 (.t 8) (.t 63), none⟩, ⟨none, .store 4 (.t 9) (.t 66), none⟩, ⟨some 10, .val (.mov (.c (.nils))), none⟩]
def r18 : RC := .seq (.reg g18_0) (.seq (.seq (.reg g18_1) (.cond (.t 18) (.seq (.reg g18_2) (.ret)) (.skip))) (.seq (.reg g18_3) (.seq (.reg g18_4) (.seq (.reg g18_5) (.seq (.reg g18_6) (.seq (.reg g18_7) (.seq (.seq (.reg g18_8) (.cond (.t 57) (.seq (.reg g18_9) (.ret)) (.skip))) (.seq (.reg g18_10) (.gho (.vec 10 10 4) (.gho (.give 10 10 1 1000) (.ret)))))))))))
def o18 : List RR := [.cell 8 (some 5), .cell 9 (some 4), .tmp 10]
theorem k18 : CT 18 67 r18 o18 := ck Tryz.func18 Tryz.ntmps18 (by decide +kernel)
def g19_0 : IL := [⟨some 2, .boxN 2 (.t 0), none⟩, ⟨some 3, .boxN 3 (.t 1), none⟩, ⟨some 4, .val (.mov (.c (.nils))), none⟩]
def g19_1 : IL := [⟨some 18, .val (.faddr 0 (.t 2)), none⟩, ⟨some 19, .val (.faddr 0 (.t 18)), none⟩, ⟨some 20, .val (.loadv 0 2 none (.t 19)), none⟩, ⟨some 21, .val (.faddr 0 (.t 3)), none⟩, ⟨some 22, .val (.loadv 0 3 none (.t 21)), none⟩, ⟨some 23, .val (.iaddr 3 none (.t 20) (.t 22)), none⟩, ⟨some 24, .val (.loadr (some 3) (.t 23)), none⟩, ⟨some 25, .val (.faddr 2 (.t 2)), none⟩, ⟨some 26, .val (.faddr 0 (.t 25)), none⟩, ⟨some 27, .val (.loadv 0 2 none (.t 26)), none⟩, ⟨some 28, .val (.faddr 1 (.t 3)), none⟩, ⟨some 29, .val (.loadv 0 3 none (.t 28)), none⟩, ⟨some 30, .val (.iaddr 3 none (.t 27) (.t 29)), none⟩, ⟨some 31, .val (.loadr (some 3) (.t 30)), none⟩, ⟨some 5, .allocN 5 [.str [], .nils, .int .i64 0], none⟩, ⟨some 6, .allocN 6 [.str [], .nils, .int .i64 0], none⟩, ⟨none, .storev 0 5 3 (.t 5) (.t 24), none⟩, ⟨none, .storev 0 6 3 (.t 6) (.t 31), none⟩]
def g19_2 : IL := [⟨some 7, .allocN 7 [.nils], none⟩]
def g19_3 : IL := [⟨some 32, .val (.mkfn (.func 27) [] [(.t 7), (.t 6), (.t 3)]), none⟩, ⟨some 8, .val (.mov (.t 32)), none⟩]
def g19_4 : IL := [⟨some 33, .val (.faddr 1 (.t 5)), none⟩, ⟨some 34, .val (.load none (.t 33)), none⟩, ⟨some 35, .val (.len 1 (.t 34)), none⟩, ⟨some 36, .val (.mov (.c (.int .i64 0))), none⟩]
def g19_5 : IL := [⟨some 37, .val (.bin .num .lss (.t 36) (.t 35)), none⟩]
def g19_6 : IL := [⟨some 38, .val (.mov (.t 36)), none⟩, ⟨some 39, .val (.iaddr 8 none (.t 34) (.t 36)), none⟩, ⟨some 40, .val (.load (some 8) (.t 39)), none⟩, ⟨some 10, .allocN 10 [.int .i64 0, .str [], .str [], .int .i64 0, .int .i64 0, .int .i64 0, .int .i64 0, .int .i64 0], none⟩, ⟨some 9, .val (.mov (.t 38)), none⟩, ⟨none, .store 8 (.t 10) (.t 40), none⟩]
def g19_7 : IL := [⟨some 41, .val (.load (some 5) (.t 2)), none⟩, ⟨some 42, .val (.load (some 8) (.t 10)), none⟩, ⟨some 43, .call (.f 28) [(.t 41), (.t 42)], none⟩, ⟨some 44, .val (.un .not (.t 43)), none⟩]
def g19_8 : IL := [⟨some 46, .val (.load (some 5) (.t 2)), none⟩, ⟨some 47, .val (.load (some 3) (.t 6)), none⟩, ⟨some 48, .val (.load (some 8) (.t 10)), none⟩, ⟨some 49, .call (.f 29) [(.t 46), (.t 47), (.t 48)], none⟩, ⟨some 45, .val (.mov (.t 49)), none⟩, ⟨some 50, .val (.ext (.t 45) 0), none⟩, ⟨some 51, .val (.ext (.t 45) 1), none⟩, ⟨some 11, .allocN 11 [.int .i64 0, .str [], .str [], .int .i64 0, .int .i64 0, .int .i64 0, .int .i64 0, .int .i64 0], none⟩, ⟨none, .store 8 (.t 11) (.t 50), none⟩, ⟨some 12, .val (.mov (.t 51)), none⟩]
def g19_9 : IL := [⟨some 52, .val (.mov (.t 12)), none⟩, ⟨some 53, .val (.un .not (.t 52)), none⟩]
def g19_10 : IL := [⟨some 54, .val (.faddr 4 (.t 2)), none⟩, ⟨some 55, .val (.load none (.t 54)), none⟩, ⟨some 56, .val (.bin .num .eql (.t 55) (.c (.int .i64 4))), none⟩]
def g19_11 : IL := [⟨some 57, .val (.mov (.t 8)), none⟩, ⟨some 58, .val (.faddr 0 (.t 10)), none⟩, ⟨some 59, .val (.load none (.t 58)), none⟩, ⟨some 60, .callF (.t 57) [(.t 59), (.c (.int .i64 8))], none⟩]
def g19_12 : IL := [⟨some 61, .val (.load (some 5) (.t 2)), none⟩, ⟨some 62, .val (.load (some 8) (.t 10)), none⟩, ⟨some 63, .val (.load (some 8) (.t 11)), none⟩, ⟨some 64, .call (.f 30) [(.t 61), (.t 62), (.t 63)], none⟩, ⟨some 13, .val (.mov (.t 64)), none⟩]
def g19_13 : IL := [⟨some 65, .val (.mov (.t 13)), none⟩, ⟨some 66, .val (.bin .num .neq (.t 65) (.c (.int .i64 0))), none⟩]
def g19_14 : IL := [⟨some 67, .val (.mov (.t 8)), none⟩, ⟨some 68, .val (.faddr 0 (.t 10)), none⟩, ⟨some 69, .val (.load none (.t 68)), none⟩, ⟨some 70, .val (.mov (.t 13)), none⟩, ⟨some 71, .callF (.t 67) [(.t 69), (.t 70)], none⟩]
def g19_15 : IL := [⟨some 73, .val (.load (some 5) (.t 2)), none⟩, ⟨some 74, .val (.load (some 3) (.t 5)), none⟩, ⟨some 75, .val (.load (some 3) (.t 6)), none⟩, ⟨some 76, .val (.mov (.t 9)), none⟩, ⟨some 77, .val (.load (some 8) (.t 11)), none⟩, ⟨some 78, .call (.f 31) [(.t 73), (.t 74), (.t 75), (.t 76), (.t 77)], none⟩, ⟨some 72, .val (.mov (.t 78)), none⟩, ⟨some 79, .val (.ext (.t 72) 0), none⟩, ⟨some 80, .val (.ext (.t 72) 1), none⟩, ⟨some 14, .val (.mov (.t 79)), none⟩, ⟨some 15, .val (.mov (.t 80)), none⟩]
def g19_16 : IL := [⟨some 81, .val (.mov (.t 14)), none⟩]
def g19_17 : IL := [⟨some 82, .val (.mov (.t 8)), none⟩, ⟨some 83, .val (.faddr 0 (.t 10)), none⟩, ⟨some 84, .val (.load none (.t 83)), none⟩, ⟨some 85, .callF (.t 82) [(.t 84), (.c (.int .i64 9))], none⟩]
def g19_18 : IL := [⟨some 86, .val (.mov (.t 15)), none⟩]
def g19_19 : IL := [⟨some 87, .val (.mov (.t 8)), none⟩, ⟨some 88, .val (.faddr 0 (.t 10)), none⟩, ⟨some 89, .val (.load none (.t 88)), none⟩, ⟨some 90, .callF (.t 87) [(.t 89), (.c (.int .i64 15))], none⟩]
def g19_20 : IL := [⟨some 91, .val (.bin .num .add (.t 36) (.c (.int .i64 1))), none⟩, ⟨some 36, .val (.mov (.t 91)), none⟩]
def l19_0 : RC := .gho (.drop 11) (.gho (.drop 10) (.seq (.reg g19_5) (.seq (.cond (.t 37) (.skip) (.exit 0)) (.seq (.block 1 (.seq (.reg g19_6) (.seq (.seq (.reg g19_7) (.cond (.t 44) (.exit 1) (.skip))) (.seq (.reg g19_8) (.seq (.seq (.reg g19_9) (.cond (.t 53) (.seq (.seq (.reg g19_10) (.cond (.t 56) (.reg g19_11) (.skip))) (.exit 1)) (.skip))) (.seq (.seq (.reg g19_12) (.seq (.reg g19_13) (.cond (.t 66) (.reg g19_14) (.skip)))) (.seq (.reg g19_15) (.seq (.seq (.reg g19_16) (.cond (.t 81) (.reg g19_17) (.skip))) (.seq (.reg g19_18) (.cond (.t 86) (.reg g19_19) (.skip))))))))))) (.reg g19_20)))))
def g19_21 : IL := [⟨some 92, .val (.faddr 1 (.t 6)), none⟩, ⟨some 93, .val (.load none (.t 92)), none⟩, ⟨some 94, .val (.len 1 (.t 93)), none⟩, ⟨some 95, .val (.mov (.c (.int .i64 0))), none⟩]
def g19_22 : IL := [⟨some 96, .val (.bin .num .lss (.t 95) (.t 94)), none⟩]
def g19_23 : IL := [⟨some 97, .val (.iaddr 8 none (.t 93) (.t 95)), none⟩, ⟨some 98, .val (.load (some 8) (.t 97)), none⟩, ⟨some 17, .allocN 17 [.int .i64 0, .str [], .str [], .int .i64 0, .int .i64 0, .int .i64 0, .int .i64 0, .int .i64 0], none⟩, ⟨none, .store 8 (.t 17) (.t 98), none⟩]
def g19_24 : IL := [⟨some 99, .val (.faddr 3 (.t 3)), none⟩, ⟨some 100, .val (.load none (.t 99)), none⟩, ⟨some 101, .val (.un .not (.t 100)), none⟩, ⟨some 102, .val (.mov (.t 101)), none⟩, ⟨some 103, .val (.faddr 3 (.t 17)), (some (102, true))⟩, ⟨some 104, .val (.load none (.t 103)), (some (102, true))⟩, ⟨some 105, .val (.bin .num .eql (.t 104) (.c (.int .i64 1))), (some (102, true))⟩, ⟨some 106, .val (.pick (.t 102) (.t 105) (.c (.bool false))), none⟩, ⟨some 107, .val (.mov (.t 106)), none⟩, ⟨some 108, .val (.load (some 5) (.t 2)), (some (107, true))⟩, ⟨some 109, .val (.load (some 3) (.t 5)), (some (107, true))⟩, ⟨some 110, .val (.load (some 3) (.t 6)), (some (107, true))⟩, ⟨some 111, .val (.load (some 8) (.t 17)), (some (107, true))⟩, ⟨some 112, .call (.f 32) [(.t 108), (.t 109), (.t 110), (.t 111)], (some (107, true))⟩, ⟨some 113, .val (.un .not (.t 112)), (some (107, true))⟩, ⟨some 114, .val (.pick (.t 107) (.t 113) (.c (.bool false))), none⟩]
def g19_25 : IL := [⟨some 115, .val (.mov (.t 8)), none⟩, ⟨some 116, .val (.faddr 0 (.t 17)), none⟩, ⟨some 117, .val (.load none (.t 116)), none⟩, ⟨some 118, .callF (.t 115) [(.t 117), (.c (.int .i64 14))], none⟩]
def g19_26 : IL := [⟨some 119, .val (.bin .num .add (.t 95) (.c (.int .i64 1))), none⟩, ⟨some 95, .val (.mov (.t 119)), none⟩]
def l19_1 : RC := .gho (.drop 17) (.seq (.reg g19_22) (.seq (.cond (.t 96) (.skip) (.exit 2)) (.seq (.block 3 (.seq (.reg g19_23) (.seq (.reg g19_24) (.cond (.t 114) (.reg g19_25) (.skip))))) (.reg g19_26))))
def g19_27 : IL := [⟨some 120, .val (.load none (.t 7)), none⟩, ⟨some 4, .val (.mov (.t 120)), none⟩]
def r19 : RC := .seq (.reg g19_0) (.seq (.draw g19_1) (.seq (.reg g19_2) (.gho (.vecc 7 0 1103 4) (.seq (.reg g19_3) (.seq (.seq (.reg g19_4) (.block 0 (.loop l19_0))) (.seq (.seq (.reg g19_21) (.block 2 (.loop l19_1))) (.seq (.reg g19_27) (.ret))))))))
def o19 : List RR := [.tmp 4]
theorem k19 : CT 19 121 r19 o19 := ck Tryz.func19 Tryz.ntmps19 (by decide +kernel)
def g20_0 : IL := [⟨some 3, .boxN 3 (.t 0), none⟩, ⟨some 5, .boxN 5 (.t 2), none⟩, ⟨some 6, .val (.mov (.c (.nils))), none⟩]
def g20_1 : IL := [⟨some 17, .val (.faddr 0 (.t 3)), none⟩, ⟨some 18, .val (.faddr 0 (.t 17)), none⟩, ⟨some 19, .val (.loadv 0 3 none (.t 18)), none⟩, ⟨some 20, .val (.faddr 0 (.t 5)), none⟩, ⟨some 21, .val (.loadv 0 5 none (.t 20)), none⟩, ⟨some 22, .val (.iaddr 3 none (.t 19) (.t 21)), none⟩, ⟨some 23, .val (.loadr (some 3) (.t 22)), none⟩, ⟨some 24, .val (.faddr 2 (.t 3)), none⟩, ⟨some 25, .val (.faddr 0 (.t 24)), none⟩, ⟨some 26, .val (.loadv 0 3 none (.t 25)), none⟩, ⟨some 27, .val (.faddr 1 (.t 5)), none⟩, ⟨some 28, .val (.loadv 0 5 none (.t 27)), none⟩, ⟨some 29, .val (.iaddr 3 none (.t 26) (.t 28)), none⟩, ⟨some 30, .val (.loadr (some 3) (.t 29)), none⟩, ⟨some 7, .allocN 7 [.str [], .nils, .int .i64 0], none⟩, ⟨some 8, .allocN 8 [.str [], .nils, .int .i64 0], none⟩, ⟨none, .storev 0 7 3 (.t 7) (.t 23), none⟩, ⟨none, .storev 0 8 3 (.t 8) (.t 30), none⟩]
def g20_2 : IL := [⟨some 31, .val (.faddr 1 (.t 7)), none⟩, ⟨some 32, .val (.load none (.t 31)), none⟩, ⟨some 33, .val (.len 1 (.t 32)), none⟩, ⟨some 34, .val (.mov (.c (.int .i64 0))), none⟩]
def g20_3 : IL := [⟨some 35, .val (.bin .num .lss (.t 34) (.t 33)), none⟩]
def g20_4 : IL := [⟨some 36, .val (.iaddr 8 none (.t 32) (.t 34)), none⟩, ⟨some 37, .val (.load (some 8) (.t 36)), none⟩, ⟨some 10, .allocN 10 [.int .i64 0, .str [], .str [], .int .i64 0, .int .i64 0, .int .i64 0, .int .i64 0, .int .i64 0], none⟩, ⟨none, .store 8 (.t 10) (.t 37), none⟩]
def g20_5 : IL := [⟨some 39, .val (.load (some 5) (.t 3)), none⟩, ⟨some 40, .val (.load (some 3) (.t 8)), none⟩, ⟨some 41, .val (.load (some 8) (.t 10)), none⟩, ⟨some 42, .call (.f 29) [(.t 39), (.t 40), (.t 41)], none⟩, ⟨some 38, .val (.mov (.t 42)), none⟩, ⟨some 43, .val (.ext (.t 38) 0), none⟩, ⟨some 44, .val (.ext (.t 38) 1), none⟩, ⟨some 11, .allocN 11 [.int .i64 0, .str [], .str [], .int .i64 0, .int .i64 0, .int .i64 0, .int .i64 0, .int .i64 0], none⟩, ⟨none, .store 8 (.t 11) (.t 43), none⟩, ⟨some 12, .val (.mov (.t 44)), none⟩]
def g20_6 : IL := [⟨some 45, .val (.mov (.t 12)), none⟩, ⟨some 46, .val (.un .not (.t 45)), none⟩, ⟨some 47, .val (.mov (.t 46)), none⟩, ⟨some 48, .val (.load (some 5) (.t 3)), (some (47, false))⟩, ⟨some 49, .val (.load (some 8) (.t 10)), (some (47, false))⟩, ⟨some 50, .call (.f 28) [(.t 48), (.t 49)], (some (47, false))⟩, ⟨some 51, .val (.un .not (.t 50)), (some (47, false))⟩, ⟨some 52, .val (.pick (.t 47) (.c (.bool true)) (.t 51)), none⟩, ⟨some 53, .val (.mov (.t 52)), none⟩, ⟨some 54, .val (.faddr 5 (.t 10)), (some (53, false))⟩, ⟨some 55, .val (.load none (.t 54)), (some (53, false))⟩, ⟨some 56, .val (.bin .num .neq (.t 55) (.c (.int .i64 10))), (some (53, false))⟩, ⟨some 57, .val (.pick (.t 53) (.c (.bool true)) (.t 56)), none⟩, ⟨some 58, .val (.mov (.t 57)), none⟩, ⟨some 59, .val (.faddr 5 (.t 11)), (some (58, false))⟩, ⟨some 60, .val (.load none (.t 59)), (some (58, false))⟩, ⟨some 61, .val (.bin .num .neq (.t 60) (.c (.int .i64 10))), (some (58, false))⟩, ⟨some 62, .val (.pick (.t 58) (.c (.bool true)) (.t 61)), none⟩, ⟨some 63, .val (.mov (.t 62)), none⟩, ⟨some 64, .val (.load (some 5) (.t 3)), (some (63, false))⟩, ⟨some 65, .val (.load (some 8) (.t 10)), (some (63, false))⟩, ⟨some 66, .val (.load (some 8) (.t 11)), (some (63, false))⟩, ⟨some 67, .call (.f 33) [(.t 64), (.t 65), (.t 66)], (some (63, false))⟩, ⟨some 68, .val (.bin .num .neq (.t 67) (.c (.int .i64 0))), (some (63, false))⟩, ⟨some 69, .val (.pick (.t 63) (.c (.bool true)) (.t 68)), none⟩]
def g20_7 : IL := [⟨some 70, .val (.faddr 3 (.t 5)), none⟩, ⟨some 71, .val (.load none (.t 70)), none⟩, ⟨some 72, .val (.mov (.t 71)), none⟩, ⟨some 73, .val (.load (some 5) (.t 3)), (some (72, false))⟩, ⟨some 74, .val (.load (some 3) (.t 7)), (some (72, false))⟩, ⟨some 75, .val (.load (some 3) (.t 8)), (some (72, false))⟩, ⟨some 76, .val (.load (some 8) (.t 10)), (some (72, false))⟩, ⟨some 77, .val (.load (some 8) (.t 11)), (some (72, false))⟩, ⟨some 78, .call (.f 34) [(.t 73), (.t 74), (.t 75), (.t 76), (.t 77)], (some (72, false))⟩, ⟨some 79, .val (.pick (.t 72) (.c (.bool true)) (.t 78)), none⟩, ⟨some 13, .val (.mov (.t 79)), none⟩]
def g20_8 : IL := [⟨some 80, .val (.mov (.t 1)), none⟩, ⟨some 81, .val (.len 1 (.t 80)), none⟩, ⟨some 82, .val (.mov (.c (.int .i64 0))), none⟩]
def g20_9 : IL := [⟨some 83, .val (.bin .num .lss (.t 82) (.t 81)), none⟩]
def g20_10 : IL := [⟨some 84, .val (.iaddr 4 none (.t 80) (.t 82)), none⟩, ⟨some 85, .val (.load (some 4) (.t 84)), none⟩, ⟨some 15, .allocN 15 [.int .i64 0, .int .i64 0, .nils, .bool false], none⟩, ⟨none, .store 4 (.t 15) (.t 85), none⟩]
def g20_11 : IL := [⟨some 86, .val (.faddr 0 (.t 15)), none⟩, ⟨some 87, .val (.load none (.t 86)), none⟩, ⟨some 88, .val (.faddr 6 (.t 10)), none⟩, ⟨some 89, .val (.load none (.t 88)), none⟩, ⟨some 90, .val (.bin .num .eql (.t 87) (.t 89)), none⟩, ⟨some 91, .val (.mov (.t 90)), none⟩, ⟨some 92, .val (.faddr 1 (.t 15)), (some (91, true))⟩, ⟨some 93, .val (.load none (.t 92)), (some (91, true))⟩, ⟨some 94, .val (.faddr 6 (.t 11)), (some (91, true))⟩, ⟨some 95, .val (.load none (.t 94)), (some (91, true))⟩, ⟨some 96, .val (.bin .num .eql (.t 93) (.t 95)), (some (91, true))⟩, ⟨some 97, .val (.pick (.t 91) (.t 96) (.c (.bool false))), none⟩, ⟨some 98, .val (.mov (.t 97)), none⟩, ⟨some 99, .val (.faddr 3 (.t 15)), (some (98, true))⟩, ⟨some 100, .val (.load none (.t 99)), (some (98, true))⟩, ⟨some 101, .val (.un .not (.t 100)), (some (98, true))⟩, ⟨some 102, .val (.mov (.t 101)), (some (98, true))⟩, ⟨some 103, .val (.mov (.t 13)), (some (102, false))⟩, ⟨some 104, .val (.pick (.t 102) (.c (.bool true)) (.t 103)), (some (98, true))⟩, ⟨some 105, .val (.pick (.t 98) (.t 104) (.c (.bool false))), none⟩]
def g20_12 : IL := [⟨some 106, .val (.bin .num .add (.t 82) (.c (.int .i64 1))), none⟩, ⟨some 82, .val (.mov (.t 106)), none⟩]
def l20_0 : RC := .gho (.drop 15) (.seq (.reg g20_9) (.seq (.cond (.t 83) (.skip) (.exit 2)) (.seq (.block 3 (.seq (.reg g20_10) (.seq (.reg g20_11) (.cond (.t 105) (.exit 1) (.skip))))) (.reg g20_12))))
def g20_13 : IL := [⟨some 107, .val (.faddr 2 (.t 5)), none⟩, ⟨some 108, .val (.load none (.t 107)), none⟩, ⟨some 109, .val (.len 1 (.t 108)), none⟩, ⟨some 16, .val (.mov (.t 109)), none⟩]
def g20_14 : IL := [⟨some 110, .val (.mov (.t 1)), none⟩, ⟨some 111, .val (.faddv 6 (.t 10)), none⟩, ⟨some 112, .val (.loadv 0 10 none (.t 111)), none⟩, ⟨some 113, .val (.faddv 6 (.t 11)), none⟩, ⟨some 114, .val (.loadv 0 11 none (.t 113)), none⟩, ⟨some 115, .val (.faddv 2 (.t 5)), none⟩, ⟨some 116, .val (.loadv 0 5 none (.t 115)), none⟩, ⟨some 117, .val (.mov (.t 16)), none⟩, ⟨some 118, .val (.mov (.t 16)), none⟩, ⟨some 119, .val (.slcl (.t 116) (.t 117) (.t 118)), none⟩, ⟨some 120, .val (.faddv 0 (.t 10)), none⟩, ⟨some 121, .val (.loadv 0 10 none (.t 120)), none⟩, ⟨some 122, .bsl 1 1 [.int .i64 0] [(0, 1, (.t 121))], none⟩, ⟨some 123, .appc 123 1 8 3 (.t 119) (.t 122), none⟩, ⟨some 124, .val (.mov (.t 13)), none⟩, ⟨some 125, .val (.build [.int .i64 0, .int .i64 0, .nils, .bool false] [(0, 1, (.t 112)), (1, 1, (.t 114)), (2, 1, (.t 123)), (3, 1, (.t 124))]), none⟩, ⟨some 126, .bsl 4 1 [.int .i64 0, .int .i64 0, .nils, .bool false] [(0, 4, (.t 125))], none⟩, ⟨some 127, .app 4 48 59 (.t 110) (.t 126), none⟩, ⟨some 1, .val (.mov (.t 127)), none⟩]
def g20_15 : IL := [⟨some 128, .val (.bin .num .add (.t 34) (.c (.int .i64 1))), none⟩, ⟨some 34, .val (.mov (.t 128)), none⟩]
def l20_1 : RC := .gho (.drop 15) (.gho (.drop 11) (.gho (.drop 10) (.seq (.reg g20_3) (.seq (.cond (.t 35) (.skip) (.exit 0)) (.seq (.block 1 (.seq (.reg g20_4) (.seq (.reg g20_5) (.seq (.seq (.reg g20_6) (.cond (.t 69) (.exit 1) (.skip))) (.seq (.reg g20_7) (.seq (.seq (.reg g20_8) (.block 2 (.loop l20_0))) (.seq (.reg g20_13) (.draw g20_14)))))))) (.reg g20_15))))))
def g20_16 : IL := [⟨some 129, .val (.mov (.t 1)), none⟩, ⟨some 6, .val (.mov (.t 129)), none⟩]
def r20 : RC := .seq (.reg g20_0) (.scope (.seq (.draw g20_1) (.seq (.lab) (.seq (.seq (.reg g20_2) (.block 0 (.loop l20_1))) (.seq (.reg g20_16) (.ret))))))
def o20 : List RR := [.tmp 6]
theorem k20 : CT 20 130 r20 o20 := ck Tryz.func20 Tryz.ntmps20 (by decide +kernel)
def g21_0 : IL := [⟨some 4, .boxN 4 (.t 0), none⟩, ⟨some 5, .boxN 5 (.t 1), none⟩, ⟨some 8, .allocN 8 [.str [], .int .i64 0, .int .i64 0, .nils], none⟩, ⟨some 9, .val (.mov (.c (.bool false))), none⟩]
def g21_1 : IL := [⟨some 20, .val (.load (some 3) (.t 4)), none⟩, ⟨some 21, .val (.load (some 3) (.t 5)), none⟩, ⟨some 22, .val (.mov (.t 2)), none⟩, ⟨some 23, .val (.mov (.t 3)), none⟩, ⟨some 24, .callF (.f 18) [(.t 20), (.t 21), (.t 22), (.t 23)], none⟩, ⟨some 19, .val (.mov (.t 24)), none⟩, ⟨some 25, .val (.ext (.t 19) 0), none⟩, ⟨some 26, .val (.ext (.t 19) 1), none⟩, ⟨some 27, .val (.ext (.t 19) 2), none⟩, ⟨some 10, .allocN 10 [.nils, .nils, .nils, .nils, .int .i64 0], none⟩, ⟨some 11, .allocN 11 [.int .i64 0, .int .i64 0, .nils, .bool false], none⟩, ⟨none, .store 5 (.t 10) (.t 25), none⟩, ⟨none, .store 4 (.t 11) (.t 26), none⟩, ⟨some 12, .val (.mov (.t 27)), none⟩]
def g21_2 : IL := [⟨some 28, .val (.mov (.t 12)), none⟩, ⟨some 29, .val (.len 1 (.t 28)), none⟩, ⟨some 30, .val (.bin .num .gtr (.t 29) (.c (.int .i64 0))), none⟩]
def g21_3 : IL := [⟨some 31, .val (.mov (.t 12)), none⟩, ⟨some 32, .val (.iaddr 4 none (.t 31) (.c (.int .i64 0))), none⟩, ⟨some 33, .val (.load (some 4) (.t 32)), none⟩, ⟨none, .store 4 (.t 8) (.t 33), none⟩, ⟨some 9, .val (.mov (.c (.bool true))), none⟩]
def g21_4 : IL := [⟨some 13, .allocN 13 [.str [], .int .i64 0, .int .i64 0, .nils], none⟩]
def g21_5 : IL := [⟨some 14, .val (.mov (.c (.bool false))), none⟩]
def g21_6 : IL := [⟨some 34, .val (.load (some 4) (.t 11)), none⟩, ⟨some 35, .bsl 4 1 [.int .i64 0, .int .i64 0, .nils, .bool false] [(0, 4, (.t 34))], none⟩, ⟨some 15, .val (.mov (.t 35)), none⟩]
def g21_7 : IL := [⟨some 16, .val (.mov (.c (.int .i64 0))), none⟩]
def g21_8 : IL := [⟨some 36, .val (.mov (.t 16)), none⟩, ⟨some 37, .val (.mov (.t 15)), none⟩, ⟨some 38, .val (.len 1 (.t 37)), none⟩, ⟨some 39, .val (.bin .num .lss (.t 36) (.t 38)), none⟩]
def g21_10 : IL := [⟨some 42, .val (.loadv 0 10 (some 5) (.t 10)), none⟩, ⟨some 43, .val (.mov (.t 15)), none⟩, ⟨some 44, .val (.mov (.t 16)), none⟩, ⟨some 45, .val (.iaddr 4 none (.t 43) (.t 44)), none⟩, ⟨some 46, .val (.loadr (some 4) (.t 45)), none⟩, ⟨some 47, .call (.f 19) [(.t 42), (.t 46)], none⟩, ⟨some 48, .val (.len 1 (.t 47)), none⟩, ⟨some 49, .val (.mov (.c (.int .i64 0))), none⟩]
def g21_11 : IL := [⟨some 50, .val (.bin .num .lss (.t 49) (.t 48)), none⟩]
def g21_12 : IL := [⟨some 51, .val (.iaddr 4 none (.t 47) (.t 49)), none⟩, ⟨some 52, .val (.load (some 4) (.t 51)), none⟩, ⟨some 18, .allocN 18 [.str [], .int .i64 0, .int .i64 0, .nils], none⟩, ⟨none, .store 4 (.t 18) (.t 52), none⟩]
def g21_13 : IL := [⟨some 53, .val (.load (some 4) (.t 18)), none⟩, ⟨none, .store 4 (.t 13) (.t 53), none⟩, ⟨some 14, .val (.mov (.c (.bool true))), none⟩]
def g21_14 : IL := [⟨some 54, .val (.bin .num .add (.t 49) (.c (.int .i64 1))), none⟩, ⟨some 49, .val (.mov (.t 54)), none⟩]
def l21_0 : RC := .gho (.drop 18) (.seq (.reg g21_11) (.seq (.cond (.t 50) (.skip) (.exit 2)) (.seq (.block 3 (.seq (.reg g21_12) (.seq (.reg g21_13) (.exit 0)))) (.reg g21_14))))
def g21_15 : IL := [⟨some 55, .val (.loadv 0 10 (some 5) (.t 10)), none⟩, ⟨some 56, .val (.mov (.t 15)), none⟩, ⟨some 57, .val (.mov (.t 15)), none⟩, ⟨some 58, .val (.mov (.t 16)), none⟩, ⟨some 59, .val (.iaddr 4 none (.t 57) (.t 58)), none⟩, ⟨some 60, .val (.loadr (some 4) (.t 59)), none⟩, ⟨some 61, .call (.f 20) [(.t 55), (.t 56), (.t 60)], none⟩, ⟨some 15, .val (.mov (.t 61)), none⟩]
def g21_9 : IL := [⟨some 40, .val (.mov (.t 16)), none⟩, ⟨some 41, .val (.bin .num .add (.t 40) (.c (.int .i64 1))), none⟩, ⟨some 16, .val (.mov (.t 41)), none⟩]
def l21_1 : RC := .gho (.drop 18) (.seq (.seq (.reg g21_8) (.cond (.t 39) (.skip) (.exit 0))) (.seq (.block 1 (.seq (.seq (.draw g21_10) (.block 2 (.loop l21_0))) (.draw g21_15))) (.reg g21_9)))
def g21_16 : IL := [⟨some 62, .val (.load (some 4) (.t 13)), none⟩, ⟨some 63, .val (.mov (.t 14)), none⟩, ⟨none, .store 4 (.t 8) (.t 62), none⟩, ⟨some 9, .val (.mov (.t 63)), none⟩]
def r21 : RC := .seq (.reg g21_0) (.scope (.seq (.reg g21_1) (.seq (.seq (.reg g21_2) (.cond (.t 30) (.seq (.reg g21_3) (.ret)) (.skip))) (.seq (.reg g21_4) (.seq (.reg g21_5) (.seq (.reg g21_6) (.seq (.lab) (.seq (.seq (.reg g21_7) (.block 0 (.loop l21_1))) (.seq (.reg g21_16) (.ret))))))))))
def o21 : List RR := [.cell 8 (some 4), .tmp 9]
theorem k21 : CT 21 64 r21 o21 := ck Tryz.func21 Tryz.ntmps21 (by decide +kernel)
def g25_0 : IL := [⟨some 1, .boxN 1 (.t 0), none⟩, ⟨some 2, .allocN 2 [.nils, .nils], none⟩, ⟨some 3, .val (.mov (.c (.int .i64 0))), none⟩]
def g25_1 : IL := [⟨some 9, .val (.load (some 3) (.t 1)), none⟩, ⟨some 10, .call (.f 43) [(.t 9)], none⟩, ⟨some 11, .val (.un .not (.t 10)), none⟩]
def g25_2 : IL := [⟨some 12, .val (.build [.nils, .nils] []), none⟩, ⟨none, .store 2 (.t 2) (.t 12), none⟩, ⟨some 3, .val (.mov (.c (.int .i64 1))), none⟩]
def g25_3 : IL := [⟨some 4, .allocN 4 [.nils, .nils], none⟩]
def g25_4 : IL := [⟨some 13, .val (.faddr 0 (.t 1)), none⟩, ⟨some 14, .val (.load none (.t 13)), none⟩, ⟨some 15, .val (.len 1 (.t 14)), none⟩, ⟨some 16, .val (.mov (.c (.int .i64 0))), none⟩]
def g25_5 : IL := [⟨some 17, .val (.bin .num .lss (.t 16) (.t 15)), none⟩]
def g25_6 : IL := [⟨some 18, .val (.iaddr 5 none (.t 14) (.t 16)), none⟩, ⟨some 19, .val (.load (some 5) (.t 18)), none⟩, ⟨some 6, .allocN 6 [.str [], .nils, .nils, .nils, .nils], none⟩, ⟨none, .store 5 (.t 6) (.t 19), none⟩]
def g25_7 : IL := [⟨some 20, .val (.faddr 0 (.t 4)), none⟩, ⟨some 21, .val (.loadv 0 4 none (.t 20)), none⟩, ⟨some 22, .val (.loadv 0 1 (some 3) (.t 1)), none⟩, ⟨some 23, .val (.loadv 0 6 (some 5) (.t 6)), none⟩, ⟨some 24, .call (.f 44) [(.t 22), (.t 23)], none⟩, ⟨some 25, .bsl 3 1 [.str [], .nils, .int .i64 0] [(0, 3, (.t 24))], none⟩, ⟨some 26, .app 3 48 93 (.t 21) (.t 25), none⟩, ⟨some 27, .val (.faddr 0 (.t 4)), none⟩, ⟨none, .storev 0 4 1 (.t 27) (.t 26), none⟩]
def g25_8 : IL := [⟨some 28, .val (.bin .num .add (.t 16) (.c (.int .i64 1))), none⟩, ⟨some 16, .val (.mov (.t 28)), none⟩]
def l25_0 : RC := .gho (.drop 6) (.seq (.reg g25_5) (.seq (.cond (.t 17) (.skip) (.exit 0)) (.seq (.block 1 (.seq (.reg g25_6) (.draw g25_7))) (.reg g25_8))))
def g25_9 : IL := [⟨some 29, .val (.faddr 1 (.t 1)), none⟩, ⟨some 30, .val (.load none (.t 29)), none⟩, ⟨some 31, .val (.len 1 (.t 30)), none⟩, ⟨some 32, .val (.mov (.c (.int .i64 0))), none⟩]
def g25_10 : IL := [⟨some 33, .val (.bin .num .lss (.t 32) (.t 31)), none⟩]
def g25_11 : IL := [⟨some 34, .val (.iaddr 5 none (.t 30) (.t 32)), none⟩, ⟨some 35, .val (.load (some 5) (.t 34)), none⟩, ⟨some 8, .allocN 8 [.str [], .bool false, .nils, .nils, .nils], none⟩, ⟨none, .store 5 (.t 8) (.t 35), none⟩]
def g25_12 : IL := [⟨some 36, .val (.faddr 1 (.t 4)), none⟩, ⟨some 37, .val (.loadv 0 4 none (.t 36)), none⟩, ⟨some 38, .val (.loadv 0 8 (some 5) (.t 8)), none⟩, ⟨some 39, .call (.f 45) [(.t 38)], none⟩, ⟨some 40, .bsl 5 1 [.str [], .bool false, .nils, .nils, .nils] [(0, 5, (.t 39))], none⟩, ⟨some 41, .app 5 96 115 (.t 37) (.t 40), none⟩, ⟨some 42, .val (.faddr 1 (.t 4)), none⟩, ⟨none, .storev 0 4 1 (.t 42) (.t 41), none⟩]
def g25_13 : IL := [⟨some 43, .val (.bin .num .add (.t 32) (.c (.int .i64 1))), none⟩, ⟨some 32, .val (.mov (.t 43)), none⟩]
def l25_1 : RC := .gho (.drop 8) (.seq (.reg g25_10) (.seq (.cond (.t 33) (.skip) (.exit 2)) (.seq (.block 3 (.seq (.reg g25_11) (.draw g25_12))) (.reg g25_13))))
def g25_14 : IL := [⟨some 44, .val (.load (some 2) (.t 4)), none⟩, ⟨none, .store 2 (.t 2) (.t 44), none⟩, ⟨some 3, .val (.mov (.c (.int .i64 0))), none⟩]
def r25 : RC := .seq (.reg g25_0) (.seq (.seq (.reg g25_1) (.cond (.t 11) (.seq (.reg g25_2) (.ret)) (.skip))) (.seq (.reg g25_3) (.gho (.vecc 4 0 1100 3) (.gho (.vecc 4 1 1101 5) (.seq (.seq (.reg g25_4) (.block 0 (.loop l25_0))) (.seq (.seq (.reg g25_9) (.block 2 (.loop l25_1))) (.seq (.reg g25_14) (.ret))))))))
def o25 : List RR := [.cell 2 (some 2), .tmp 3]
theorem k25 : CT 25 45 r25 o25 := ck Tryz.func25 Tryz.ntmps25 (by decide +kernel)
def g26_0 : IL := [⟨some 2, .boxN 2 (.t 0), none⟩, ⟨some 3, .boxN 3 (.t 1), none⟩, ⟨some 4, .val (.mov (.c (.int .i64 0))), none⟩, ⟨some 5, .val (.mov (.c (.bool false))), none⟩]
def g26_1 : IL := [⟨some 7, .val (.faddr 0 (.t 2)), none⟩, ⟨some 8, .val (.load none (.t 7)), none⟩, ⟨some 9, .val (.mkfn (.func 47) [] [(.t 3)]), none⟩, ⟨some 10, .callF (.f 46) [(.t 8), (.t 9)], none⟩, ⟨some 6, .val (.mov (.t 10)), none⟩]
def g26_2 : IL := [⟨some 11, .val (.mov (.t 6)), none⟩, ⟨some 12, .val (.mnx true (.t 11) (.c (.int .i64 0))), none⟩, ⟨some 13, .val (.mov (.t 6)), none⟩, ⟨some 14, .val (.bin .num .geq (.t 13) (.c (.int .i64 0))), none⟩, ⟨some 4, .val (.mov (.t 12)), none⟩, ⟨some 5, .val (.mov (.t 14)), none⟩]
def r26 : RC := .seq (.reg g26_0) (.seq (.reg g26_1) (.seq (.reg g26_2) (.ret)))
def o26 : List RR := [.tmp 4, .tmp 5]
theorem k26 : CT 26 15 r26 o26 := ck Tryz.func26 Tryz.ntmps26 (by decide +kernel)
def g27_0 : IL := [⟨some 7, .val (.loado none (.t 2)), none⟩, ⟨some 8, .val (.faddv 0 (.t 3)), none⟩, ⟨some 9, .val (.loado none (.t 8)), none⟩, ⟨some 10, .val (.mov (.t 0)), none⟩, ⟨some 11, .val (.mov (.t 1)), none⟩, ⟨some 12, .bsl0 12 1, none⟩, ⟨some 13, .val (.faddv 2 (.t 4)), none⟩, ⟨some 14, .val (.loado none (.t 13)), none⟩, ⟨some 15, .appl 1 8 3 (.t 12) (.t 14), none⟩, ⟨some 16, .val (.build [.str [], .int .i64 0, .int .i64 0, .nils] [(0, 1, (.t 9)), (1, 1, (.t 10)), (2, 1, (.t 11)), (3, 1, (.t 15))]), none⟩, ⟨some 17, .bsl 4 1 [.str [], .int .i64 0, .int .i64 0, .nils] [(0, 4, (.t 16))], none⟩, ⟨some 18, .app 4 56 29 (.t 7) (.t 17), none⟩, ⟨none, .store 1 (.t 2) (.t 18), none⟩]
def r27 : RC := .draw g27_0
def o27 : List RR := []
theorem k27 : CT 27 19 r27 o27 := ck Tryz.func27 Tryz.ntmps27 (by decide +kernel)
def g28_0 : IL := [⟨some 2, .boxN 2 (.t 0), none⟩, ⟨some 3, .boxN 3 (.t 1), none⟩, ⟨some 4, .val (.mov (.c (.bool false))), none⟩]
def g28_1 : IL := [⟨some 6, .val (.faddr 3 (.t 3)), none⟩, ⟨some 7, .val (.load none (.t 6)), none⟩, ⟨some 8, .val (.bin .num .neq (.t 7) (.c (.int .i64 3))), none⟩, ⟨some 9, .val (.mov (.t 8)), none⟩, ⟨some 10, .val (.faddr 5 (.t 3)), (some (9, false))⟩, ⟨some 11, .val (.load none (.t 10)), (some (9, false))⟩, ⟨some 12, .val (.bin .num .neq (.t 11) (.c (.int .i64 9))), (some (9, false))⟩, ⟨some 13, .val (.pick (.t 9) (.c (.bool true)) (.t 12)), none⟩]
def g28_2 : IL := [⟨some 4, .val (.mov (.c (.bool true))), none⟩]
def g28_3 : IL := [⟨some 14, .val (.faddr 0 (.t 2)), none⟩, ⟨some 15, .val (.faddr 1 (.t 14)), none⟩, ⟨some 16, .val (.load none (.t 15)), none⟩, ⟨some 17, .val (.faddr 6 (.t 3)), none⟩, ⟨some 18, .val (.load none (.t 17)), none⟩, ⟨some 19, .val (.iaddr 5 none (.t 16) (.t 18)), none⟩, ⟨some 20, .val (.load (some 5) (.t 19)), none⟩, ⟨some 5, .allocN 5 [.str [], .bool false, .nils, .nils, .nils], none⟩, ⟨none, .store 5 (.t 5) (.t 20), none⟩]
def g28_4 : IL := [⟨some 21, .val (.faddr 1 (.t 5)), none⟩, ⟨some 22, .val (.load none (.t 21)), none⟩, ⟨some 23, .val (.mov (.t 22)), none⟩, ⟨some 24, .val (.faddr 2 (.t 5)), (some (23, false))⟩, ⟨some 25, .val (.load none (.t 24)), (some (23, false))⟩, ⟨some 26, .val (.len 1 (.t 25)), (some (23, false))⟩, ⟨some 27, .val (.bin .num .gtr (.t 26) (.c (.int .i64 1))), (some (23, false))⟩, ⟨some 28, .val (.pick (.t 23) (.c (.bool true)) (.t 27)), none⟩, ⟨some 4, .val (.mov (.t 28)), none⟩]
def r28 : RC := .seq (.reg g28_0) (.seq (.seq (.reg g28_1) (.cond (.t 13) (.seq (.reg g28_2) (.ret)) (.skip))) (.seq (.reg g28_3) (.seq (.reg g28_4) (.ret))))
def o28 : List RR := [.tmp 4]
theorem k28 : CT 28 29 r28 o28 := ck Tryz.func28 Tryz.ntmps28 (by decide +kernel)
def g29_0 : IL := [⟨some 3, .boxN 3 (.t 0), none⟩, ⟨some 4, .boxN 4 (.t 1), none⟩, ⟨some 5, .boxN 5 (.t 2), none⟩, ⟨some 6, .allocN 6 [.int .i64 0, .str [], .str [], .int .i64 0, .int .i64 0, .int .i64 0, .int .i64 0, .int .i64 0], none⟩, ⟨some 7, .val (.mov (.c (.bool false))), none⟩]
def g29_1 : IL := [⟨some 8, .val (.faddr 4 (.t 3)), none⟩, ⟨some 9, .val (.load none (.t 8)), none⟩, ⟨some 10, .val (.bin .num .eql (.t 9) (.c (.int .i64 4))), none⟩]
def g29_2 : IL := [⟨some 11, .val (.load (some 3) (.t 4)), none⟩, ⟨some 12, .val (.faddr 1 (.t 5)), none⟩, ⟨some 13, .val (.load none (.t 12)), none⟩, ⟨some 14, .call (.f 48) [(.t 11), (.t 13)], none⟩, ⟨some 15, .val (.ext (.t 14) 0), none⟩, ⟨some 16, .val (.ext (.t 14) 1), none⟩, ⟨none, .store 8 (.t 6) (.t 15), none⟩, ⟨some 7, .val (.mov (.t 16)), none⟩]
def g29_3 : IL := [⟨some 17, .val (.load (some 3) (.t 4)), none⟩, ⟨some 18, .val (.faddr 0 (.t 5)), none⟩, ⟨some 19, .val (.load none (.t 18)), none⟩, ⟨some 20, .call (.f 49) [(.t 17), (.t 19)], none⟩, ⟨some 21, .val (.ext (.t 20) 0), none⟩, ⟨some 22, .val (.ext (.t 20) 1), none⟩, ⟨none, .store 8 (.t 6) (.t 21), none⟩, ⟨some 7, .val (.mov (.t 22)), none⟩]
def r29 : RC := .seq (.reg g29_0) (.seq (.seq (.reg g29_1) (.cond (.t 10) (.seq (.reg g29_2) (.ret)) (.skip))) (.seq (.reg g29_3) (.ret)))
def o29 : List RR := [.cell 6 (some 8), .tmp 7]
theorem k29 : CT 29 23 r29 o29 := ck Tryz.func29 Tryz.ntmps29 (by decide +kernel)
def g30_0 : IL := [⟨some 3, .boxN 3 (.t 0), none⟩, ⟨some 4, .boxN 4 (.t 1), none⟩, ⟨some 5, .boxN 5 (.t 2), none⟩, ⟨some 6, .val (.mov (.c (.int .i64 0))), none⟩]
def g30_1 : IL := [⟨some 10, .val (.load (some 5) (.t 3)), none⟩, ⟨some 11, .val (.load (some 8) (.t 4)), none⟩, ⟨some 12, .val (.load (some 8) (.t 5)), none⟩, ⟨some 13, .call (.f 33) [(.t 10), (.t 11), (.t 12)], none⟩, ⟨some 7, .val (.mov (.t 13)), none⟩]
def g30_2 : IL := [⟨some 14, .val (.mov (.t 7)), none⟩, ⟨some 15, .val (.bin .num .neq (.t 14) (.c (.int .i64 0))), none⟩]
def g30_3 : IL := [⟨some 16, .val (.mov (.t 7)), none⟩, ⟨some 6, .val (.mov (.t 16)), none⟩]
def g30_4 : IL := [⟨some 17, .val (.load (some 5) (.t 3)), none⟩, ⟨some 18, .val (.load (some 8) (.t 4)), none⟩, ⟨some 19, .val (.load (some 8) (.t 5)), none⟩, ⟨some 20, .call (.f 50) [(.t 17), (.t 18), (.t 19)], none⟩, ⟨some 8, .val (.mov (.t 20)), none⟩]
def g30_5 : IL := [⟨some 21, .val (.mov (.t 8)), none⟩, ⟨some 22, .val (.bin .num .neq (.t 21) (.c (.int .i64 0))), none⟩]
def g30_6 : IL := [⟨some 23, .val (.mov (.t 8)), none⟩, ⟨some 6, .val (.mov (.t 23)), none⟩]
def g30_7 : IL := [⟨some 24, .val (.load (some 5) (.t 3)), none⟩, ⟨some 25, .val (.load (some 8) (.t 4)), none⟩, ⟨some 26, .val (.load (some 8) (.t 5)), none⟩, ⟨some 27, .call (.f 51) [(.t 24), (.t 25), (.t 26)], none⟩, ⟨some 9, .val (.mov (.t 27)), none⟩]
def g30_8 : IL := [⟨some 28, .val (.mov (.t 9)), none⟩, ⟨some 29, .val (.bin .num .neq (.t 28) (.c (.int .i64 0))), none⟩]
def g30_9 : IL := [⟨some 30, .val (.mov (.t 9)), none⟩, ⟨some 6, .val (.mov (.t 30)), none⟩]
def g30_10 : IL := [⟨some 31, .val (.faddr 4 (.t 3)), none⟩, ⟨some 32, .val (.load none (.t 31)), none⟩, ⟨some 33, .val (.bin .num .eql (.t 32) (.c (.int .i64 4))), none⟩, ⟨some 34, .val (.mov (.t 33)), none⟩, ⟨some 35, .val (.faddr 3 (.t 4)), (some (34, true))⟩, ⟨some 36, .val (.load none (.t 35)), (some (34, true))⟩, ⟨some 37, .val (.bin .num .eql (.t 36) (.c (.int .i64 4))), (some (34, true))⟩, ⟨some 38, .val (.pick (.t 34) (.t 37) (.c (.bool false))), none⟩, ⟨some 39, .val (.mov (.t 38)), none⟩, ⟨some 40, .val (.load (some 8) (.t 5)), (some (39, true))⟩, ⟨some 41, .call (.f 52) [(.t 40)], (some (39, true))⟩, ⟨some 42, .val (.pick (.t 39) (.t 41) (.c (.bool false))), none⟩]
def g30_11 : IL := [⟨some 6, .val (.mov (.c (.int .i64 9))), none⟩]
def g30_12 : IL := [⟨some 6, .val (.mov (.c (.int .i64 0))), none⟩]
def r30 : RC := .seq (.reg g30_0) (.seq (.seq (.reg g30_1) (.seq (.reg g30_2) (.cond (.t 15) (.seq (.reg g30_3) (.ret)) (.skip)))) (.seq (.seq (.reg g30_4) (.seq (.reg g30_5) (.cond (.t 22) (.seq (.reg g30_6) (.ret)) (.skip)))) (.seq (.seq (.reg g30_7) (.seq (.reg g30_8) (.cond (.t 29) (.seq (.reg g30_9) (.ret)) (.skip)))) (.seq (.seq (.reg g30_10) (.cond (.t 42) (.seq (.reg g30_11) (.ret)) (.skip))) (.seq (.reg g30_12) (.ret))))))
def o30 : List RR := [.tmp 6]
theorem k30 : CT 30 43 r30 o30 := ck Tryz.func30 Tryz.ntmps30 (by decide +kernel)
def g31_0 : IL := [⟨some 5, .boxN 5 (.t 0), none⟩, ⟨some 6, .boxN 6 (.t 1), none⟩, ⟨some 7, .boxN 7 (.t 2), none⟩, ⟨some 9, .boxN 9 (.t 4), none⟩, ⟨some 10, .val (.mov (.c (.bool false))), none⟩, ⟨some 11, .val (.mov (.c (.bool false))), none⟩]
def g31_1 : IL := [⟨some 12, .val (.mov (.c (.bool false))), none⟩, ⟨some 13, .val (.mov (.c (.bool false))), none⟩]
def g31_2 : IL := [⟨some 19, .val (.faddr 1 (.t 6)), none⟩, ⟨some 20, .val (.load none (.t 19)), none⟩, ⟨some 21, .val (.mov (.t 3)), none⟩, ⟨some 22, .val (.iaddr 8 none (.t 20) (.t 21)), none⟩, ⟨some 23, .val (.load (some 8) (.t 22)), none⟩, ⟨some 14, .allocN 14 [.int .i64 0, .str [], .str [], .int .i64 0, .int .i64 0, .int .i64 0, .int .i64 0, .int .i64 0], none⟩, ⟨none, .store 8 (.t 14) (.t 23), none⟩]
def g31_3 : IL := [⟨some 24, .val (.faddr 1 (.t 6)), none⟩, ⟨some 25, .val (.load none (.t 24)), none⟩, ⟨some 26, .val (.mov (.t 3)), none⟩, ⟨some 27, .val (.slc (some 8) (.t 25) none (some (.t 26)) none), none⟩, ⟨some 28, .val (.len 1 (.t 27)), none⟩, ⟨some 29, .val (.mov (.c (.int .i64 0))), none⟩]
def g31_4 : IL := [⟨some 30, .val (.bin .num .lss (.t 29) (.t 28)), none⟩]
def g31_5 : IL := [⟨some 31, .val (.iaddr 8 none (.t 27) (.t 29)), none⟩, ⟨some 32, .val (.load (some 8) (.t 31)), none⟩, ⟨some 16, .allocN 16 [.int .i64 0, .str [], .str [], .int .i64 0, .int .i64 0, .int .i64 0, .int .i64 0, .int .i64 0], none⟩, ⟨none, .store 8 (.t 16) (.t 32), none⟩]
def g31_6 : IL := [⟨some 34, .val (.load (some 5) (.t 5)), none⟩, ⟨some 35, .val (.load (some 3) (.t 7)), none⟩, ⟨some 36, .val (.load (some 8) (.t 16)), none⟩, ⟨some 37, .call (.f 29) [(.t 34), (.t 35), (.t 36)], none⟩, ⟨some 33, .val (.mov (.t 37)), none⟩, ⟨some 38, .val (.ext (.t 33) 0), none⟩, ⟨some 39, .val (.ext (.t 33) 1), none⟩, ⟨some 17, .allocN 17 [.int .i64 0, .str [], .str [], .int .i64 0, .int .i64 0, .int .i64 0, .int .i64 0, .int .i64 0], none⟩, ⟨none, .store 8 (.t 17) (.t 38), none⟩, ⟨some 18, .val (.mov (.t 39)), none⟩]
def g31_7 : IL := [⟨some 40, .val (.mov (.t 18)), none⟩, ⟨some 41, .val (.un .not (.t 40)), none⟩, ⟨some 42, .val (.mov (.t 41)), none⟩, ⟨some 43, .val (.load (some 5) (.t 5)), (some (42, false))⟩, ⟨some 44, .val (.load (some 8) (.t 16)), (some (42, false))⟩, ⟨some 45, .call (.f 28) [(.t 43), (.t 44)], (some (42, false))⟩, ⟨some 46, .val (.un .not (.t 45)), (some (42, false))⟩, ⟨some 47, .val (.pick (.t 42) (.c (.bool true)) (.t 46)), none⟩, ⟨some 48, .val (.mov (.t 47)), none⟩, ⟨some 49, .val (.load (some 8) (.t 16)), (some (48, false))⟩, ⟨some 50, .val (.load (some 8) (.t 14)), (some (48, false))⟩, ⟨some 51, .call (.f 53) [(.t 49), (.t 50)], (some (48, false))⟩, ⟨some 52, .val (.un .not (.t 51)), (some (48, false))⟩, ⟨some 53, .val (.pick (.t 48) (.c (.bool true)) (.t 52)), none⟩]
def g31_8 : IL := [⟨some 54, .val (.faddr 0 (.t 17)), none⟩, ⟨some 55, .val (.load none (.t 54)), none⟩, ⟨some 56, .val (.faddr 0 (.t 9)), none⟩, ⟨some 57, .val (.load none (.t 56)), none⟩, ⟨some 58, .val (.bin .num .eql (.t 55) (.t 57)), none⟩]
def g31_9 : IL := [⟨some 59, .val (.mov (.t 12)), none⟩, ⟨some 60, .val (.mov (.t 59)), none⟩, ⟨some 61, .val (.faddr 4 (.t 5)), (some (60, false))⟩, ⟨some 62, .val (.load none (.t 61)), (some (60, false))⟩, ⟨some 63, .val (.bin .num .eql (.t 62) (.c (.int .i64 4))), (some (60, false))⟩, ⟨some 64, .val (.mov (.t 63)), (some (60, false))⟩, ⟨some 65, .val (.faddr 3 (.t 9)), (some (64, true))⟩, ⟨some 66, .val (.load none (.t 65)), (some (64, true))⟩, ⟨some 67, .val (.bin .num .neq (.t 66) (.c (.int .i64 4))), (some (64, true))⟩, ⟨some 68, .val (.pick (.t 64) (.t 67) (.c (.bool false))), (some (60, false))⟩, ⟨some 69, .val (.pick (.t 60) (.c (.bool true)) (.t 68)), none⟩, ⟨some 12, .val (.mov (.t 69)), none⟩]
def g31_10 : IL := [⟨some 70, .val (.faddr 7 (.t 9)), none⟩, ⟨some 71, .val (.load none (.t 70)), none⟩, ⟨some 72, .val (.bin .num .geq (.t 71) (.c (.int .i64 0))), none⟩, ⟨some 73, .val (.mov (.t 72)), none⟩, ⟨some 74, .val (.faddr 7 (.t 17)), (some (73, true))⟩, ⟨some 75, .val (.load none (.t 74)), (some (73, true))⟩, ⟨some 76, .val (.faddr 7 (.t 9)), (some (73, true))⟩, ⟨some 77, .val (.load none (.t 76)), (some (73, true))⟩, ⟨some 78, .val (.bin .num .eql (.t 75) (.t 77)), (some (73, true))⟩, ⟨some 79, .val (.pick (.t 73) (.t 78) (.c (.bool false))), none⟩]
def g31_11 : IL := [⟨some 80, .val (.mov (.t 13)), none⟩, ⟨some 81, .val (.mov (.t 80)), none⟩, ⟨some 82, .val (.faddr 4 (.t 5)), (some (81, false))⟩, ⟨some 83, .val (.load none (.t 82)), (some (81, false))⟩, ⟨some 84, .val (.bin .num .neq (.t 83) (.c (.int .i64 1))), (some (81, false))⟩, ⟨some 85, .val (.pick (.t 81) (.c (.bool true)) (.t 84)), none⟩, ⟨some 13, .val (.mov (.t 85)), none⟩]
def g31_12 : IL := [⟨some 86, .val (.bin .num .add (.t 29) (.c (.int .i64 1))), none⟩, ⟨some 29, .val (.mov (.t 86)), none⟩]
def l31_0 : RC := .gho (.drop 17) (.gho (.drop 16) (.seq (.reg g31_4) (.seq (.cond (.t 30) (.skip) (.exit 0)) (.seq (.block 1 (.seq (.reg g31_5) (.seq (.reg g31_6) (.seq (.seq (.reg g31_7) (.cond (.t 53) (.exit 1) (.skip))) (.seq (.reg g31_8) (.cond (.t 58) (.reg g31_9) (.seq (.reg g31_10) (.cond (.t 79) (.reg g31_11) (.skip))))))))) (.reg g31_12)))))
def g31_13 : IL := [⟨some 87, .val (.mov (.t 12)), none⟩, ⟨some 88, .val (.mov (.t 13)), none⟩, ⟨some 10, .val (.mov (.t 87)), none⟩, ⟨some 11, .val (.mov (.t 88)), none⟩]
def r31 : RC := .seq (.reg g31_0) (.seq (.reg g31_1) (.seq (.reg g31_2) (.seq (.seq (.reg g31_3) (.block 0 (.loop l31_0))) (.seq (.reg g31_13) (.ret)))))
def o31 : List RR := [.tmp 10, .tmp 11]
theorem k31 : CT 31 89 r31 o31 := ck Tryz.func31 Tryz.ntmps31 (by decide +kernel)
def g32_0 : IL := [⟨some 4, .boxN 4 (.t 0), none⟩, ⟨some 5, .boxN 5 (.t 1), none⟩, ⟨some 6, .boxN 6 (.t 2), none⟩, ⟨some 7, .boxN 7 (.t 3), none⟩, ⟨some 8, .val (.mov (.c (.bool false))), none⟩]
def g32_1 : IL := [⟨some 13, .val (.faddr 1 (.t 5)), none⟩, ⟨some 14, .val (.load none (.t 13)), none⟩, ⟨some 15, .val (.len 1 (.t 14)), none⟩, ⟨some 16, .val (.mov (.c (.int .i64 0))), none⟩]
def g32_2 : IL := [⟨some 17, .val (.bin .num .lss (.t 16) (.t 15)), none⟩]
def g32_3 : IL := [⟨some 18, .val (.iaddr 8 none (.t 14) (.t 16)), none⟩, ⟨some 19, .val (.load (some 8) (.t 18)), none⟩, ⟨some 10, .allocN 10 [.int .i64 0, .str [], .str [], .int .i64 0, .int .i64 0, .int .i64 0, .int .i64 0, .int .i64 0], none⟩, ⟨none, .store 8 (.t 10) (.t 19), none⟩]
def g32_4 : IL := [⟨some 21, .val (.load (some 5) (.t 4)), none⟩, ⟨some 22, .val (.load (some 3) (.t 6)), none⟩, ⟨some 23, .val (.load (some 8) (.t 10)), none⟩, ⟨some 24, .call (.f 29) [(.t 21), (.t 22), (.t 23)], none⟩, ⟨some 20, .val (.mov (.t 24)), none⟩, ⟨some 25, .val (.ext (.t 20) 0), none⟩, ⟨some 26, .val (.ext (.t 20) 1), none⟩, ⟨some 11, .allocN 11 [.int .i64 0, .str [], .str [], .int .i64 0, .int .i64 0, .int .i64 0, .int .i64 0, .int .i64 0], none⟩, ⟨none, .store 8 (.t 11) (.t 25), none⟩, ⟨some 12, .val (.mov (.t 26)), none⟩]
def g32_5 : IL := [⟨some 27, .val (.mov (.t 12)), none⟩, ⟨some 28, .val (.un .not (.t 27)), none⟩, ⟨some 29, .val (.mov (.t 28)), none⟩, ⟨some 30, .val (.faddr 0 (.t 11)), (some (29, false))⟩, ⟨some 31, .val (.load none (.t 30)), (some (29, false))⟩, ⟨some 32, .val (.faddr 0 (.t 7)), (some (29, false))⟩, ⟨some 33, .val (.load none (.t 32)), (some (29, false))⟩, ⟨some 34, .val (.bin .num .neq (.t 31) (.t 33)), (some (29, false))⟩, ⟨some 35, .val (.pick (.t 29) (.c (.bool true)) (.t 34)), none⟩, ⟨some 36, .val (.mov (.t 35)), none⟩, ⟨some 37, .val (.faddr 3 (.t 10)), (some (36, false))⟩, ⟨some 38, .val (.load none (.t 37)), (some (36, false))⟩, ⟨some 39, .val (.bin .num .neq (.t 38) (.c (.int .i64 1))), (some (36, false))⟩, ⟨some 40, .val (.pick (.t 36) (.c (.bool true)) (.t 39)), none⟩]
def g32_6 : IL := [⟨some 41, .val (.faddr 4 (.t 4)), none⟩, ⟨some 42, .val (.loadv 0 4 none (.t 41)), none⟩, ⟨some 43, .val (.bin .num .neq (.t 42) (.c (.int .i64 1))), none⟩, ⟨some 44, .val (.mov (.t 43)), none⟩, ⟨some 45, .val (.faddr 5 (.t 7)), (some (44, false))⟩, ⟨some 46, .val (.loadv 0 7 none (.t 45)), (some (44, false))⟩, ⟨some 47, .val (.bin .num .neq (.t 46) (.c (.int .i64 9))), (some (44, false))⟩, ⟨some 48, .val (.pick (.t 44) (.c (.bool true)) (.t 47)), none⟩, ⟨some 49, .val (.mov (.t 48)), none⟩, ⟨some 50, .val (.faddr 5 (.t 10)), (some (49, false))⟩, ⟨some 51, .val (.loadv 0 10 none (.t 50)), (some (49, false))⟩, ⟨some 52, .val (.bin .num .neq (.t 51) (.c (.int .i64 9))), (some (49, false))⟩, ⟨some 53, .val (.mov (.t 52)), (some (49, false))⟩, ⟨some 54, .val (.faddr 5 (.t 10)), (some (53, true))⟩, ⟨some 55, .val (.loadv 0 10 none (.t 54)), (some (53, true))⟩, ⟨some 56, .val (.bin .num .neq (.t 55) (.c (.int .i64 1))), (some (53, true))⟩, ⟨some 57, .val (.pick (.t 53) (.t 56) (.c (.bool false))), (some (49, false))⟩, ⟨some 58, .val (.pick (.t 49) (.c (.bool true)) (.t 57)), none⟩, ⟨some 59, .val (.mov (.t 58)), none⟩, ⟨some 60, .val (.loadv 0 4 (some 5) (.t 4)), (some (59, false))⟩, ⟨some 61, .val (.faddr 2 (.t 4)), (some (59, false))⟩, ⟨some 62, .val (.faddr 1 (.t 61)), (some (59, false))⟩, ⟨some 63, .val (.loadv 0 4 none (.t 62)), (some (59, false))⟩, ⟨some 64, .val (.faddr 6 (.t 7)), (some (59, false))⟩, ⟨some 65, .val (.loadv 0 7 none (.t 64)), (some (59, false))⟩, ⟨some 66, .val (.iaddr 5 none (.t 63) (.t 65)), (some (59, false))⟩, ⟨some 67, .val (.loadr (some 5) (.t 66)), (some (59, false))⟩, ⟨some 68, .val (.loadv 0 10 (some 8) (.t 10)), (some (59, false))⟩, ⟨some 69, .call (.f 54) [(.t 60), (.t 67), (.t 68)], (some (59, false))⟩, ⟨some 70, .val (.pick (.t 59) (.c (.bool true)) (.t 69)), none⟩]
def g32_7 : IL := [⟨some 8, .val (.mov (.c (.bool true))), none⟩]
def g32_8 : IL := [⟨some 71, .val (.bin .num .add (.t 16) (.c (.int .i64 1))), none⟩, ⟨some 16, .val (.mov (.t 71)), none⟩]
def l32_0 : RC := .gho (.drop 11) (.gho (.drop 10) (.seq (.reg g32_2) (.seq (.cond (.t 17) (.skip) (.exit 0)) (.seq (.block 1 (.seq (.reg g32_3) (.seq (.reg g32_4) (.seq (.seq (.reg g32_5) (.cond (.t 40) (.exit 1) (.skip))) (.seq (.draw g32_6) (.cond (.t 70) (.seq (.reg g32_7) (.ret)) (.skip))))))) (.reg g32_8)))))
def g32_9 : IL := [⟨some 8, .val (.mov (.c (.bool false))), none⟩]
def r32 : RC := .seq (.reg g32_0) (.seq (.seq (.reg g32_1) (.block 0 (.loop l32_0))) (.seq (.reg g32_9) (.ret)))
def o32 : List RR := [.tmp 8]
theorem k32 : CT 32 72 r32 o32 := ck Tryz.func32 Tryz.ntmps32 (by decide +kernel)
def g33_0 : IL := [⟨some 3, .boxN 3 (.t 0), none⟩, ⟨some 4, .boxN 4 (.t 1), none⟩, ⟨some 5, .boxN 5 (.t 2), none⟩, ⟨some 6, .val (.mov (.c (.int .i64 0))), none⟩]
def g33_1 : IL := [⟨some 9, .val (.faddr 3 (.t 4)), none⟩, ⟨some 10, .val (.load none (.t 9)), none⟩, ⟨some 11, .val (.bin .num .eql (.t 10) (.c (.int .i64 5))), none⟩, ⟨some 12, .val (.faddr 3 (.t 5)), none⟩, ⟨some 13, .val (.load none (.t 12)), none⟩, ⟨some 14, .val (.bin .num .eql (.t 13) (.c (.int .i64 5))), none⟩, ⟨some 15, .val (.bin .bool .neq (.t 11) (.t 14)), none⟩, ⟨some 7, .val (.mov (.t 15)), none⟩]
def g33_2 : IL := [⟨some 16, .val (.faddr 3 (.t 4)), none⟩, ⟨some 17, .val (.load none (.t 16)), none⟩, ⟨some 18, .val (.bin .num .eql (.t 17) (.c (.int .i64 4))), none⟩, ⟨some 19, .val (.mov (.t 18)), none⟩, ⟨some 20, .val (.faddr 3 (.t 5)), (some (19, true))⟩, ⟨some 21, .val (.load none (.t 20)), (some (19, true))⟩, ⟨some 22, .val (.bin .num .eql (.t 21) (.c (.int .i64 4))), (some (19, true))⟩, ⟨some 23, .val (.pick (.t 19) (.t 22) (.c (.bool false))), none⟩, ⟨some 8, .val (.mov (.t 23)), none⟩]
def g33_3 : IL := [⟨some 24, .val (.faddr 4 (.t 3)), none⟩, ⟨some 25, .val (.load none (.t 24)), none⟩, ⟨some 26, .val (.bin .num .eql (.t 25) (.c (.int .i64 1))), none⟩]
def g33_4 : IL := [⟨some 27, .val (.mov (.t 7)), none⟩, ⟨some 28, .val (.mov (.t 27)), none⟩, ⟨some 29, .val (.loadv 0 4 (some 8) (.t 4)), (some (28, false))⟩, ⟨some 30, .call (.f 55) [(.t 29)], (some (28, false))⟩, ⟨some 31, .val (.mov (.t 30)), (some (28, false))⟩, ⟨some 32, .val (.loadv 0 5 (some 8) (.t 5)), (some (31, true))⟩, ⟨some 33, .call (.f 52) [(.t 32)], (some (31, true))⟩, ⟨some 34, .val (.pick (.t 31) (.t 33) (.c (.bool false))), (some (28, false))⟩, ⟨some 35, .val (.pick (.t 28) (.c (.bool true)) (.t 34)), none⟩, ⟨some 36, .val (.mov (.t 35)), none⟩, ⟨some 37, .val (.mov (.t 8)), (some (36, false))⟩, ⟨some 38, .val (.mov (.t 37)), (some (36, false))⟩, ⟨some 39, .val (.loadv 0 4 (some 8) (.t 4)), (some (38, true))⟩, ⟨some 40, .call (.f 55) [(.t 39)], (some (38, true))⟩, ⟨some 41, .val (.loadv 0 5 (some 8) (.t 5)), (some (38, true))⟩, ⟨some 42, .call (.f 55) [(.t 41)], (some (38, true))⟩, ⟨some 43, .val (.bin .bool .neq (.t 40) (.t 42)), (some (38, true))⟩, ⟨some 44, .val (.pick (.t 38) (.t 43) (.c (.bool false))), (some (36, false))⟩, ⟨some 45, .val (.pick (.t 36) (.c (.bool true)) (.t 44)), none⟩]
def g33_5 : IL := [⟨some 6, .val (.mov (.c (.int .i64 13))), none⟩]
def g33_6 : IL := [⟨some 6, .val (.mov (.c (.int .i64 0))), none⟩]
def g33_7 : IL := [⟨some 46, .val (.mov (.t 7)), none⟩, ⟨some 47, .val (.mov (.t 46)), none⟩, ⟨some 48, .val (.faddr 3 (.t 4)), (some (47, false))⟩, ⟨some 49, .val (.load none (.t 48)), (some (47, false))⟩, ⟨some 50, .val (.bin .num .eql (.t 49) (.c (.int .i64 4))), (some (47, false))⟩, ⟨some 51, .val (.mov (.t 50)), (some (47, false))⟩, ⟨some 52, .val (.mov (.t 8)), (some (51, true))⟩, ⟨some 53, .val (.un .not (.t 52)), (some (51, true))⟩, ⟨some 54, .val (.pick (.t 51) (.t 53) (.c (.bool false))), (some (47, false))⟩, ⟨some 55, .val (.mov (.t 54)), (some (47, false))⟩, ⟨some 56, .val (.faddr 4 (.t 3)), (some (55, true))⟩, ⟨some 57, .val (.load none (.t 56)), (some (55, true))⟩, ⟨some 58, .val (.bin .num .eql (.t 57) (.c (.int .i64 2))), (some (55, true))⟩, ⟨some 59, .val (.pick (.t 55) (.t 58) (.c (.bool false))), (some (47, false))⟩, ⟨some 60, .val (.pick (.t 47) (.c (.bool true)) (.t 59)), none⟩]
def g33_8 : IL := [⟨some 6, .val (.mov (.c (.int .i64 12))), none⟩]
def g33_9 : IL := [⟨some 6, .val (.mov (.c (.int .i64 0))), none⟩]
def r33 : RC := .seq (.reg g33_0) (.seq (.reg g33_1) (.seq (.reg g33_2) (.seq (.seq (.reg g33_3) (.cond (.t 26) (.seq (.seq (.draw g33_4) (.cond (.t 45) (.seq (.reg g33_5) (.ret)) (.skip))) (.seq (.reg g33_6) (.ret))) (.skip))) (.seq (.seq (.reg g33_7) (.cond (.t 60) (.seq (.reg g33_8) (.ret)) (.skip))) (.seq (.reg g33_9) (.ret))))))
def o33 : List RR := [.tmp 6]
theorem k33 : CT 33 61 r33 o33 := ck Tryz.func33 Tryz.ntmps33 (by decide +kernel)
def g34_0 : IL := [⟨some 5, .boxN 5 (.t 0), none⟩, ⟨some 6, .boxN 6 (.t 1), none⟩, ⟨some 7, .boxN 7 (.t 2), none⟩, ⟨some 8, .boxN 8 (.t 3), none⟩, ⟨some 9, .boxN 9 (.t 4), none⟩, ⟨some 10, .val (.mov (.c (.bool false))), none⟩]
def g34_1 : IL := [⟨some 15, .val (.faddr 4 (.t 5)), none⟩, ⟨some 16, .val (.load none (.t 15)), none⟩, ⟨some 17, .val (.bin .num .neq (.t 16) (.c (.int .i64 1))), none⟩, ⟨some 18, .val (.mov (.t 17)), none⟩, ⟨some 19, .val (.faddr 7 (.t 9)), (some (18, false))⟩, ⟨some 20, .val (.load none (.t 19)), (some (18, false))⟩, ⟨some 21, .val (.bin .num .lss (.t 20) (.c (.int .i64 0))), (some (18, false))⟩, ⟨some 22, .val (.pick (.t 18) (.c (.bool true)) (.t 21)), none⟩]
def g34_2 : IL := [⟨some 10, .val (.mov (.c (.bool false))), none⟩]
def g34_3 : IL := [⟨some 23, .val (.faddr 1 (.t 6)), none⟩, ⟨some 24, .val (.load none (.t 23)), none⟩, ⟨some 25, .val (.len 1 (.t 24)), none⟩, ⟨some 26, .val (.mov (.c (.int .i64 0))), none⟩]
def g34_4 : IL := [⟨some 27, .val (.bin .num .lss (.t 26) (.t 25)), none⟩]
def g34_5 : IL := [⟨some 28, .val (.iaddr 8 none (.t 24) (.t 26)), none⟩, ⟨some 29, .val (.load (some 8) (.t 28)), none⟩, ⟨some 12, .allocN 12 [.int .i64 0, .str [], .str [], .int .i64 0, .int .i64 0, .int .i64 0, .int .i64 0, .int .i64 0], none⟩, ⟨none, .store 8 (.t 12) (.t 29), none⟩]
def g34_6 : IL := [⟨some 31, .val (.load (some 5) (.t 5)), none⟩, ⟨some 32, .val (.load (some 3) (.t 7)), none⟩, ⟨some 33, .val (.load (some 8) (.t 12)), none⟩, ⟨some 34, .call (.f 29) [(.t 31), (.t 32), (.t 33)], none⟩, ⟨some 30, .val (.mov (.t 34)), none⟩, ⟨some 35, .val (.ext (.t 30) 0), none⟩, ⟨some 36, .val (.ext (.t 30) 1), none⟩, ⟨some 13, .allocN 13 [.int .i64 0, .str [], .str [], .int .i64 0, .int .i64 0, .int .i64 0, .int .i64 0, .int .i64 0], none⟩, ⟨none, .store 8 (.t 13) (.t 35), none⟩, ⟨some 14, .val (.mov (.t 36)), none⟩]
def g34_7 : IL := [⟨some 37, .val (.mov (.t 14)), none⟩, ⟨some 38, .val (.un .not (.t 37)), none⟩, ⟨some 39, .val (.mov (.t 38)), none⟩, ⟨some 40, .val (.faddr 0 (.t 12)), (some (39, false))⟩, ⟨some 41, .val (.load none (.t 40)), (some (39, false))⟩, ⟨some 42, .val (.faddr 0 (.t 8)), (some (39, false))⟩, ⟨some 43, .val (.load none (.t 42)), (some (39, false))⟩, ⟨some 44, .val (.bin .num .leq (.t 41) (.t 43)), (some (39, false))⟩, ⟨some 45, .val (.pick (.t 39) (.c (.bool true)) (.t 44)), none⟩, ⟨some 46, .val (.mov (.t 45)), none⟩, ⟨some 47, .val (.faddr 3 (.t 12)), (some (46, false))⟩, ⟨some 48, .val (.load none (.t 47)), (some (46, false))⟩, ⟨some 49, .val (.bin .num .neq (.t 48) (.c (.int .i64 1))), (some (46, false))⟩, ⟨some 50, .val (.pick (.t 46) (.c (.bool true)) (.t 49)), none⟩, ⟨some 51, .val (.mov (.t 50)), none⟩, ⟨some 52, .val (.faddr 7 (.t 13)), (some (51, false))⟩, ⟨some 53, .val (.load none (.t 52)), (some (51, false))⟩, ⟨some 54, .val (.faddr 7 (.t 9)), (some (51, false))⟩, ⟨some 55, .val (.load none (.t 54)), (some (51, false))⟩, ⟨some 56, .val (.bin .num .neq (.t 53) (.t 55)), (some (51, false))⟩, ⟨some 57, .val (.pick (.t 51) (.c (.bool true)) (.t 56)), none⟩, ⟨some 58, .val (.mov (.t 57)), none⟩, ⟨some 59, .val (.faddr 0 (.t 13)), (some (58, false))⟩, ⟨some 60, .val (.load none (.t 59)), (some (58, false))⟩, ⟨some 61, .val (.faddr 0 (.t 9)), (some (58, false))⟩, ⟨some 62, .val (.load none (.t 61)), (some (58, false))⟩, ⟨some 63, .val (.bin .num .eql (.t 60) (.t 62)), (some (58, false))⟩, ⟨some 64, .val (.pick (.t 58) (.c (.bool true)) (.t 63)), none⟩]
def g34_8 : IL := [⟨some 65, .val (.faddr 5 (.t 13)), none⟩, ⟨some 66, .val (.loadv 0 13 none (.t 65)), none⟩, ⟨some 67, .val (.bin .num .neq (.t 66) (.c (.int .i64 9))), none⟩, ⟨some 68, .val (.mov (.t 67)), none⟩, ⟨some 69, .val (.faddr 5 (.t 12)), (some (68, false))⟩, ⟨some 70, .val (.loadv 0 12 none (.t 69)), (some (68, false))⟩, ⟨some 71, .val (.bin .num .neq (.t 70) (.c (.int .i64 9))), (some (68, false))⟩, ⟨some 72, .val (.mov (.t 71)), (some (68, false))⟩, ⟨some 73, .val (.faddr 5 (.t 12)), (some (72, true))⟩, ⟨some 74, .val (.loadv 0 12 none (.t 73)), (some (72, true))⟩, ⟨some 75, .val (.bin .num .neq (.t 74) (.c (.int .i64 1))), (some (72, true))⟩, ⟨some 76, .val (.pick (.t 72) (.t 75) (.c (.bool false))), (some (68, false))⟩, ⟨some 77, .val (.pick (.t 68) (.c (.bool true)) (.t 76)), none⟩, ⟨some 78, .val (.mov (.t 77)), none⟩, ⟨some 79, .val (.loadv 0 5 (some 5) (.t 5)), (some (78, false))⟩, ⟨some 80, .val (.faddr 2 (.t 5)), (some (78, false))⟩, ⟨some 81, .val (.faddr 1 (.t 80)), (some (78, false))⟩, ⟨some 82, .val (.loadv 0 5 none (.t 81)), (some (78, false))⟩, ⟨some 83, .val (.faddr 6 (.t 13)), (some (78, false))⟩, ⟨some 84, .val (.loadv 0 13 none (.t 83)), (some (78, false))⟩, ⟨some 85, .val (.iaddr 5 none (.t 82) (.t 84)), (some (78, false))⟩, ⟨some 86, .val (.loadr (some 5) (.t 85)), (some (78, false))⟩, ⟨some 87, .val (.loadv 0 12 (some 8) (.t 12)), (some (78, false))⟩, ⟨some 88, .call (.f 54) [(.t 79), (.t 86), (.t 87)], (some (78, false))⟩, ⟨some 89, .val (.pick (.t 78) (.c (.bool true)) (.t 88)), none⟩]
def g34_9 : IL := [⟨some 10, .val (.mov (.c (.bool true))), none⟩]
def g34_10 : IL := [⟨some 90, .val (.bin .num .add (.t 26) (.c (.int .i64 1))), none⟩, ⟨some 26, .val (.mov (.t 90)), none⟩]
def l34_0 : RC := .gho (.drop 13) (.gho (.drop 12) (.seq (.reg g34_4) (.seq (.cond (.t 27) (.skip) (.exit 0)) (.seq (.block 1 (.seq (.reg g34_5) (.seq (.reg g34_6) (.seq (.seq (.reg g34_7) (.cond (.t 64) (.exit 1) (.skip))) (.seq (.draw g34_8) (.cond (.t 89) (.seq (.reg g34_9) (.ret)) (.skip))))))) (.reg g34_10)))))
def g34_11 : IL := [⟨some 10, .val (.mov (.c (.bool false))), none⟩]
def r34 : RC := .seq (.reg g34_0) (.seq (.seq (.reg g34_1) (.cond (.t 22) (.seq (.reg g34_2) (.ret)) (.skip))) (.seq (.seq (.reg g34_3) (.block 0 (.loop l34_0))) (.seq (.reg g34_11) (.ret))))
def o34 : List RR := [.tmp 10]
theorem k34 : CT 34 91 r34 o34 := ck Tryz.func34 Tryz.ntmps34 (by decide +kernel)
def g43_0 : IL := [⟨some 1, .boxN 1 (.t 0), none⟩, ⟨some 2, .val (.mov (.c (.bool false))), none⟩]
def g43_1 : IL := [⟨some 3, .val (.load (some 3) (.t 1)), none⟩, ⟨some 4, .call (.f 66) [(.t 3)], none⟩, ⟨some 5, .val (.len 1 (.t 4)), none⟩, ⟨some 6, .val (.bin .num .eql (.t 5) (.c (.int .i64 0))), none⟩, ⟨some 2, .val (.mov (.t 6)), none⟩]
def r43 : RC := .seq (.reg g43_0) (.seq (.reg g43_1) (.ret))
def o43 : List RR := [.tmp 2]
theorem k43 : CT 43 7 r43 o43 := ck Tryz.func43 Tryz.ntmps43 (by decide +kernel)
def g44_0 : IL := [⟨some 2, .boxN 2 (.t 0), none⟩, ⟨some 3, .boxN 3 (.t 1), none⟩, ⟨some 4, .allocN 4 [.str [], .nils, .int .i64 0], none⟩]
def g44_1 : IL := [⟨some 10, .val (.faddr 0 (.t 3)), none⟩, ⟨some 11, .val (.load none (.t 10)), none⟩, ⟨some 12, .val (.build [.str [], .nils, .int .i64 0] [(0, 1, (.t 11))]), none⟩, ⟨some 5, .allocN 5 [.str [], .nils, .int .i64 0], none⟩, ⟨none, .store 3 (.t 5) (.t 12), none⟩]
def g44_2 : IL := [⟨some 6, .val (.mov (.c (.nils))), none⟩]
def g44_3 : IL := [⟨some 13, .val (.faddr 1 (.t 3)), none⟩, ⟨some 14, .val (.load none (.t 13)), none⟩, ⟨some 15, .val (.len 1 (.t 14)), none⟩, ⟨some 16, .val (.mov (.c (.int .i64 0))), none⟩]
def g44_4 : IL := [⟨some 17, .val (.bin .num .lss (.t 16) (.t 15)), none⟩]
def g44_5 : IL := [⟨some 18, .val (.iaddr 16 none (.t 14) (.t 16)), none⟩, ⟨some 19, .val (.load (some 16) (.t 18)), none⟩, ⟨some 8, .allocN 8 [.int .i64 0, .str [], .int .i64 0, .int .i64 0, .int .i64 0, .str [], .str [], .bool false, .int .i64 0, .int .u64 0, .str [], .nils, .nils, .nils, .nils, .nils], none⟩, ⟨none, .store 16 (.t 8) (.t 19), none⟩]
def g44_6 : IL := [⟨some 20, .val (.faddr 0 (.t 8)), none⟩, ⟨some 21, .val (.loadv 0 8 none (.t 20)), none⟩, ⟨some 22, .val (.faddr 1 (.t 8)), none⟩, ⟨some 23, .val (.loadv 0 8 none (.t 22)), none⟩, ⟨some 24, .val (.faddr 15 (.t 8)), none⟩, ⟨some 25, .val (.loadv 0 8 none (.t 24)), none⟩, ⟨some 26, .call (.f 67) [(.t 25)], none⟩, ⟨some 27, .val (.faddr 2 (.t 8)), none⟩, ⟨some 28, .val (.loadv 0 8 none (.t 27)), none⟩, ⟨some 29, .val (.faddr 3 (.t 8)), none⟩, ⟨some 30, .val (.loadv 0 8 none (.t 29)), none⟩, ⟨some 31, .val (.faddr 4 (.t 8)), none⟩, ⟨some 32, .val (.faddr 0 (.t 31)), none⟩, ⟨some 33, .val (.loadv 0 8 none (.t 32)), none⟩, ⟨some 34, .val (.loadv 0 2 (some 3) (.t 2)), none⟩, ⟨some 35, .val (.faddr 4 (.t 8)), none⟩, ⟨some 36, .val (.loadv 0 8 (some 2) (.t 35)), none⟩, ⟨some 37, .call (.f 68) [(.t 34), (.t 36)], none⟩, ⟨some 38, .val (.build [.int .i64 0, .str [], .str [], .int .i64 0, .int .i64 0, .int .i64 0, .int .i64 0, .int .i64 0] [(0, 1, (.t 21)), (1, 1, (.t 23)), (2, 1, (.t 26)), (3, 1, (.t 28)), (4, 1, (.t 30)), (5, 1, (.t 33)), (6, 1, (.t 37)), (7, 1, (.c (.int .i64 (-1))))]), none⟩, ⟨some 9, .allocN 9 [.int .i64 0, .str [], .str [], .int .i64 0, .int .i64 0, .int .i64 0, .int .i64 0, .int .i64 0], none⟩, ⟨none, .storev 0 9 8 (.t 9) (.t 38), none⟩]
def g44_7 : IL := [⟨some 39, .val (.faddr 6 (.t 8)), none⟩, ⟨some 40, .val (.load none (.t 39)), none⟩, ⟨some 41, .val (.bin .str .neq (.t 40) (.c (.str []))), none⟩]
def g44_8 : IL := [⟨some 42, .val (.mov (.t 6)), none⟩, ⟨some 43, .val (.faddr 6 (.t 8)), none⟩, ⟨some 44, .val (.load none (.t 43)), none⟩, ⟨some 45, .call (.f 69) [(.t 42), (.t 44)], none⟩, ⟨some 46, .val (.un .not (.t 45)), none⟩]
def g44_9 : IL := [⟨some 47, .val (.mov (.t 6)), none⟩, ⟨some 48, .val (.faddr 6 (.t 8)), none⟩, ⟨some 49, .val (.load none (.t 48)), none⟩, ⟨some 50, .bsl 1 1 [.str []] [(0, 1, (.t 49))], none⟩, ⟨some 51, .app 1 16 9 (.t 47) (.t 50), none⟩, ⟨some 6, .val (.mov (.t 51)), none⟩]
def g44_10 : IL := [⟨some 52, .val (.mov (.t 6)), none⟩, ⟨some 53, .val (.faddr 6 (.t 8)), none⟩, ⟨some 54, .val (.load none (.t 53)), none⟩, ⟨some 55, .call (.f 70) [(.t 52), (.t 54)], none⟩, ⟨some 56, .val (.faddr 7 (.t 9)), none⟩, ⟨none, .store 1 (.t 56) (.t 55), none⟩]
def g44_11 : IL := [⟨some 57, .val (.faddr 1 (.t 5)), none⟩, ⟨some 58, .val (.load none (.t 57)), none⟩, ⟨some 59, .val (.load (some 8) (.t 9)), none⟩, ⟨some 60, .bsl 8 1 [.int .i64 0, .str [], .str [], .int .i64 0, .int .i64 0, .int .i64 0, .int .i64 0, .int .i64 0] [(0, 8, (.t 59))], none⟩, ⟨some 61, .app 8 80 96 (.t 58) (.t 60), none⟩, ⟨some 62, .val (.faddr 1 (.t 5)), none⟩, ⟨none, .store 1 (.t 62) (.t 61), none⟩]
def g44_12 : IL := [⟨some 63, .val (.bin .num .add (.t 16) (.c (.int .i64 1))), none⟩, ⟨some 16, .val (.mov (.t 63)), none⟩]
def l44_0 : RC := .gho (.drop 9) (.gho (.drop 8) (.seq (.reg g44_4) (.seq (.cond (.t 17) (.skip) (.exit 0)) (.seq (.block 1 (.seq (.reg g44_5) (.seq (.draw g44_6) (.seq (.seq (.reg g44_7) (.cond (.t 41) (.seq (.seq (.reg g44_8) (.cond (.t 46) (.reg g44_9) (.skip))) (.reg g44_10)) (.skip))) (.reg g44_11))))) (.reg g44_12)))))
def g44_13 : IL := [⟨some 64, .val (.mov (.t 6)), none⟩, ⟨some 65, .val (.len 1 (.t 64)), none⟩, ⟨some 66, .val (.faddr 2 (.t 5)), none⟩, ⟨none, .store 1 (.t 66) (.t 65), none⟩]
def g44_14 : IL := [⟨some 67, .val (.load (some 3) (.t 5)), none⟩, ⟨none, .store 3 (.t 4) (.t 67), none⟩]
def r44 : RC := .seq (.reg g44_0) (.seq (.reg g44_1) (.gho (.vecc 5 1 1100 8) (.seq (.reg g44_2) (.gho (.vec 6 6 1) (.seq (.seq (.reg g44_3) (.block 0 (.loop l44_0))) (.seq (.reg g44_13) (.seq (.reg g44_14) (.ret))))))))
def o44 : List RR := [.cell 4 (some 3)]
theorem k44 : CT 44 68 r44 o44 := ck Tryz.func44 Tryz.ntmps44 (by decide +kernel)
def g46_0 : IL := [⟨some 4, .val (.mov (.c (.int .i64 0))), none⟩]
def g46_1 : IL := [⟨some 6, .val (.mov (.t 0)), none⟩, ⟨some 7, .val (.len 1 (.t 6)), none⟩, ⟨some 8, .val (.mov (.c (.int .i64 0))), none⟩]
def g46_2 : IL := [⟨some 9, .val (.bin .num .lss (.t 8) (.t 7)), none⟩]
def g46_3 : IL := [⟨some 10, .val (.mov (.t 8)), none⟩, ⟨some 5, .val (.mov (.t 10)), none⟩]
def g46_4 : IL := [⟨some 11, .val (.mov (.t 1)), none⟩, ⟨some 12, .val (.mov (.t 0)), none⟩, ⟨some 13, .val (.mov (.t 5)), none⟩, ⟨some 14, .val (.iaddr 3 none (.t 12) (.t 13)), none⟩, ⟨some 15, .val (.load (some 3) (.t 14)), none⟩, ⟨some 16, .callF (.t 11) [(.t 15)], none⟩]
def g46_5 : IL := [⟨some 17, .val (.mov (.t 5)), none⟩, ⟨some 4, .val (.mov (.t 17)), none⟩]
def g46_6 : IL := [⟨some 18, .val (.bin .num .add (.t 8) (.c (.int .i64 1))), none⟩, ⟨some 8, .val (.mov (.t 18)), none⟩]
def l46_0 : RC := .seq (.reg g46_2) (.seq (.cond (.t 9) (.skip) (.exit 0)) (.seq (.block 1 (.seq (.reg g46_3) (.seq (.reg g46_4) (.cond (.t 16) (.seq (.reg g46_5) (.ret)) (.skip))))) (.reg g46_6)))
def g46_7 : IL := [⟨some 4, .val (.mov (.c (.int .i64 (-1)))), none⟩]
def r46 : RC := .seq (.reg g46_0) (.seq (.seq (.reg g46_1) (.block 0 (.loop l46_0))) (.seq (.reg g46_7) (.ret)))
def o46 : List RR := [.tmp 4]
theorem k46 : CT 46 19 r46 o46 := ck Tryz.func46 Tryz.ntmps46 (by decide +kernel)
def g47_0 : IL := [⟨some 2, .boxN 2 (.t 0), none⟩, ⟨some 3, .val (.mov (.c (.bool false))), none⟩]
def g47_1 : IL := [⟨some 4, .val (.faddr 0 (.t 2)), none⟩, ⟨some 5, .val (.load none (.t 4)), none⟩, ⟨some 6, .val (.load none (.t 1)), none⟩, ⟨some 7, .val (.bin .str .eql (.t 5) (.t 6)), none⟩, ⟨some 3, .val (.mov (.t 7)), none⟩]
def r47 : RC := .seq (.reg g47_0) (.seq (.reg g47_1) (.ret))
def o47 : List RR := [.tmp 3]
theorem k47 : CT 47 8 r47 o47 := ck Tryz.func47 Tryz.ntmps47 (by decide +kernel)
def g48_0 : IL := [⟨some 2, .boxN 2 (.t 0), none⟩, ⟨some 3, .boxN 3 (.t 1), none⟩, ⟨some 4, .allocN 4 [.int .i64 0, .str [], .str [], .int .i64 0, .int .i64 0, .int .i64 0, .int .i64 0, .int .i64 0], none⟩, ⟨some 5, .val (.mov (.c (.bool false))), none⟩]
def g48_1 : IL := [⟨some 9, .val (.mkfn (.func 73) [] [(.t 3)]), none⟩, ⟨some 10, .val (.build [.nilf] [(0, 1, (.t 9))]), none⟩, ⟨some 11, .val (.load (some 3) (.t 2)), none⟩, ⟨some 12, .callF (.f 74) [(.t 10), (.t 11)], none⟩, ⟨some 8, .val (.mov (.t 12)), none⟩, ⟨some 13, .val (.ext (.t 8) 0), none⟩, ⟨some 14, .val (.ext (.t 8) 1), none⟩, ⟨some 6, .allocN 6 [.int .i64 0, .str [], .str [], .int .i64 0, .int .i64 0, .int .i64 0, .int .i64 0, .int .i64 0], none⟩, ⟨none, .store 8 (.t 6) (.t 13), none⟩, ⟨some 7, .val (.mov (.t 14)), none⟩]
def g48_2 : IL := [⟨some 15, .val (.mov (.t 7)), none⟩]
def g48_3 : IL := [⟨some 16, .val (.load (some 8) (.t 6)), none⟩, ⟨none, .store 8 (.t 4) (.t 16), none⟩, ⟨some 5, .val (.mov (.c (.bool true))), none⟩]
def g48_4 : IL := [⟨some 17, .val (.mkfn (.func 75) [] [(.t 3)]), none⟩, ⟨some 18, .val (.build [.nilf] [(0, 1, (.t 17))]), none⟩, ⟨some 19, .val (.load (some 3) (.t 2)), none⟩, ⟨some 20, .callF (.f 74) [(.t 18), (.t 19)], none⟩, ⟨some 21, .val (.ext (.t 20) 0), none⟩, ⟨some 22, .val (.ext (.t 20) 1), none⟩, ⟨none, .store 8 (.t 4) (.t 21), none⟩, ⟨some 5, .val (.mov (.t 22)), none⟩]
def r48 : RC := .seq (.reg g48_0) (.seq (.seq (.reg g48_1) (.seq (.reg g48_2) (.cond (.t 15) (.seq (.reg g48_3) (.ret)) (.skip)))) (.seq (.reg g48_4) (.ret)))
def o48 : List RR := [.cell 4 (some 8), .tmp 5]
theorem k48 : CT 48 23 r48 o48 := ck Tryz.func48 Tryz.ntmps48 (by decide +kernel)
def g49_0 : IL := [⟨some 2, .boxN 2 (.t 0), none⟩, ⟨some 3, .boxN 3 (.t 1), none⟩, ⟨some 4, .allocN 4 [.int .i64 0, .str [], .str [], .int .i64 0, .int .i64 0, .int .i64 0, .int .i64 0, .int .i64 0], none⟩, ⟨some 5, .val (.mov (.c (.bool false))), none⟩]
def g49_1 : IL := [⟨some 6, .val (.mkfn (.func 76) [] [(.t 3)]), none⟩, ⟨some 7, .val (.build [.nilf] [(0, 1, (.t 6))]), none⟩, ⟨some 8, .val (.load (some 3) (.t 2)), none⟩, ⟨some 9, .callF (.f 74) [(.t 7), (.t 8)], none⟩, ⟨some 10, .val (.ext (.t 9) 0), none⟩, ⟨some 11, .val (.ext (.t 9) 1), none⟩, ⟨none, .store 8 (.t 4) (.t 10), none⟩, ⟨some 5, .val (.mov (.t 11)), none⟩]
def r49 : RC := .seq (.reg g49_0) (.seq (.reg g49_1) (.ret))
def o49 : List RR := [.cell 4 (some 8), .tmp 5]
theorem k49 : CT 49 12 r49 o49 := ck Tryz.func49 Tryz.ntmps49 (by decide +kernel)
def g50_0 : IL := [⟨some 3, .boxN 3 (.t 0), none⟩, ⟨some 4, .boxN 4 (.t 1), none⟩, ⟨some 5, .boxN 5 (.t 2), none⟩, ⟨some 6, .val (.mov (.c (.int .i64 0))), none⟩]
def g50_1 : IL := [⟨some 8, .val (.faddr 3 (.t 4)), none⟩, ⟨some 9, .val (.load none (.t 8)), none⟩, ⟨some 10, .val (.bin .num .eql (.t 9) (.c (.int .i64 5))), none⟩, ⟨some 11, .val (.mov (.t 10)), none⟩, ⟨some 12, .val (.faddr 3 (.t 5)), (some (11, true))⟩, ⟨some 13, .val (.load none (.t 12)), (some (11, true))⟩, ⟨some 14, .val (.bin .num .eql (.t 13) (.c (.int .i64 5))), (some (11, true))⟩, ⟨some 15, .val (.pick (.t 11) (.t 14) (.c (.bool false))), none⟩]
def g50_2 : IL := [⟨some 16, .val (.load (some 5) (.t 3)), none⟩, ⟨some 17, .val (.faddr 4 (.t 4)), none⟩, ⟨some 18, .val (.load none (.t 17)), none⟩, ⟨some 19, .val (.faddr 4 (.t 5)), none⟩, ⟨some 20, .val (.load none (.t 19)), none⟩, ⟨some 21, .call (.f 77) [(.t 16), (.t 18), (.t 20)], none⟩, ⟨some 7, .val (.mov (.t 21)), none⟩]
def g50_3 : IL := [⟨some 22, .val (.mov (.t 7)), none⟩, ⟨some 23, .val (.bin .num .neq (.t 22) (.c (.int .i64 0))), none⟩]
def g50_4 : IL := [⟨some 24, .val (.mov (.t 7)), none⟩, ⟨some 6, .val (.mov (.t 24)), none⟩]
def g50_5 : IL := [⟨some 26, .val (.faddr 5 (.t 4)), none⟩, ⟨some 27, .val (.load none (.t 26)), none⟩, ⟨some 28, .val (.bin .num .eql (.t 27) (.c (.int .i64 10))), none⟩, ⟨some 29, .val (.mov (.t 28)), none⟩, ⟨some 30, .val (.faddr 5 (.t 5)), (some (29, true))⟩, ⟨some 31, .val (.load none (.t 30)), (some (29, true))⟩, ⟨some 32, .val (.bin .num .eql (.t 31) (.c (.int .i64 10))), (some (29, true))⟩, ⟨some 33, .val (.pick (.t 29) (.t 32) (.c (.bool false))), none⟩, ⟨some 25, .val (.mov (.t 33)), none⟩]
def g50_6 : IL := [⟨some 34, .val (.faddr 5 (.t 4)), none⟩, ⟨some 35, .val (.load none (.t 34)), none⟩, ⟨some 36, .val (.bin .num .eql (.t 35) (.c (.int .i64 9))), none⟩, ⟨some 37, .val (.mov (.t 36)), none⟩, ⟨some 38, .val (.faddr 5 (.t 5)), (some (37, true))⟩, ⟨some 39, .val (.load none (.t 38)), (some (37, true))⟩, ⟨some 40, .val (.bin .num .eql (.t 39) (.c (.int .i64 9))), (some (37, true))⟩, ⟨some 41, .val (.pick (.t 37) (.t 40) (.c (.bool false))), none⟩, ⟨some 25, .val (.mov (.t 41)), none⟩]
def g50_7 : IL := [⟨some 6, .val (.mov (.c (.int .i64 0))), none⟩]
def g50_8 : IL := [⟨some 43, .val (.faddr 5 (.t 4)), none⟩, ⟨some 44, .val (.load none (.t 43)), none⟩, ⟨some 45, .val (.bin .num .eql (.t 44) (.c (.int .i64 10))), none⟩, ⟨some 46, .val (.mov (.t 45)), none⟩, ⟨some 47, .val (.faddr 5 (.t 5)), (some (46, false))⟩, ⟨some 48, .val (.load none (.t 47)), (some (46, false))⟩, ⟨some 49, .val (.bin .num .eql (.t 48) (.c (.int .i64 10))), (some (46, false))⟩, ⟨some 50, .val (.pick (.t 46) (.c (.bool true)) (.t 49)), none⟩, ⟨some 42, .val (.mov (.t 50)), none⟩]
def g50_9 : IL := [⟨some 51, .val (.load (some 5) (.t 3)), none⟩, ⟨some 52, .call (.f 78) [(.t 51)], none⟩, ⟨some 6, .val (.mov (.t 52)), none⟩]
def g50_10 : IL := [⟨some 54, .val (.faddr 5 (.t 4)), none⟩, ⟨some 55, .val (.load none (.t 54)), none⟩, ⟨some 56, .val (.bin .num .eql (.t 55) (.c (.int .i64 9))), none⟩, ⟨some 57, .val (.mov (.t 56)), none⟩, ⟨some 58, .val (.faddr 5 (.t 5)), (some (57, true))⟩, ⟨some 59, .val (.load none (.t 58)), (some (57, true))⟩, ⟨some 60, .val (.bin .num .eql (.t 59) (.c (.int .i64 1))), (some (57, true))⟩, ⟨some 61, .val (.pick (.t 57) (.t 60) (.c (.bool false))), none⟩, ⟨some 62, .val (.mov (.t 61)), none⟩, ⟨some 63, .val (.faddr 4 (.t 3)), (some (62, true))⟩, ⟨some 64, .val (.load none (.t 63)), (some (62, true))⟩, ⟨some 65, .val (.bin .num .eql (.t 64) (.c (.int .i64 1))), (some (62, true))⟩, ⟨some 66, .val (.pick (.t 62) (.t 65) (.c (.bool false))), none⟩, ⟨some 53, .val (.mov (.t 66)), none⟩]
def g50_11 : IL := [⟨some 67, .val (.load (some 5) (.t 3)), none⟩, ⟨some 68, .val (.load (some 8) (.t 4)), none⟩, ⟨some 69, .call (.f 79) [(.t 67), (.t 68)], none⟩, ⟨some 6, .val (.mov (.t 69)), none⟩]
def g50_12 : IL := [⟨some 70, .val (.load (some 5) (.t 3)), none⟩, ⟨some 71, .val (.faddr 5 (.t 4)), none⟩, ⟨some 72, .val (.load none (.t 71)), none⟩, ⟨some 73, .val (.faddr 5 (.t 5)), none⟩, ⟨some 74, .val (.load none (.t 73)), none⟩, ⟨some 75, .call (.f 77) [(.t 70), (.t 72), (.t 74)], none⟩, ⟨some 6, .val (.mov (.t 75)), none⟩]
def r50 : RC := .seq (.reg g50_0) (.seq (.seq (.reg g50_1) (.cond (.t 15) (.seq (.reg g50_2) (.seq (.reg g50_3) (.cond (.t 23) (.seq (.reg g50_4) (.ret)) (.skip)))) (.skip))) (.seq (.block 0 (.seq (.seq (.reg g50_5) (.cond (.t 25) (.skip) (.reg g50_6))) (.cond (.t 25) (.seq (.reg g50_7) (.ret)) (.seq (.reg g50_8) (.cond (.t 42) (.seq (.reg g50_9) (.ret)) (.seq (.reg g50_10) (.cond (.t 53) (.seq (.reg g50_11) (.ret)) (.skip)))))))) (.seq (.reg g50_12) (.ret))))
def o50 : List RR := [.tmp 6]
theorem k50 : CT 50 76 r50 o50 := ck Tryz.func50 Tryz.ntmps50 (by decide +kernel)
def g51_0 : IL := [⟨some 3, .boxN 3 (.t 0), none⟩, ⟨some 4, .boxN 4 (.t 1), none⟩, ⟨some 5, .boxN 5 (.t 2), none⟩, ⟨some 6, .val (.mov (.c (.int .i64 0))), none⟩]
def g51_1 : IL := [⟨some 8, .val (.faddr 5 (.t 5)), none⟩, ⟨some 9, .val (.load none (.t 8)), none⟩, ⟨some 10, .val (.bin .num .neq (.t 9) (.c (.int .i64 9))), none⟩, ⟨some 11, .val (.mov (.t 10)), none⟩, ⟨some 12, .val (.faddr 5 (.t 4)), (some (11, false))⟩, ⟨some 13, .val (.load none (.t 12)), (some (11, false))⟩, ⟨some 14, .val (.bin .num .neq (.t 13) (.c (.int .i64 9))), (some (11, false))⟩, ⟨some 15, .val (.mov (.t 14)), (some (11, false))⟩, ⟨some 16, .val (.faddr 5 (.t 4)), (some (15, true))⟩, ⟨some 17, .val (.load none (.t 16)), (some (15, true))⟩, ⟨some 18, .val (.bin .num .neq (.t 17) (.c (.int .i64 1))), (some (15, true))⟩, ⟨some 19, .val (.pick (.t 15) (.t 18) (.c (.bool false))), (some (11, false))⟩, ⟨some 20, .val (.pick (.t 11) (.c (.bool true)) (.t 19)), none⟩]
def g51_2 : IL := [⟨some 6, .val (.mov (.c (.int .i64 0))), none⟩]
def g51_3 : IL := [⟨some 7, .val (.mov (.c (.bool true))), none⟩]
def g51_4 : IL := [⟨some 22, .val (.faddr 4 (.t 3)), none⟩, ⟨some 23, .val (.load none (.t 22)), none⟩, ⟨some 24, .val (.bin .num .eql (.t 23) (.c (.int .i64 4))), none⟩, ⟨some 21, .val (.mov (.t 24)), none⟩]
def g51_5 : IL := [⟨some 25, .val (.faddr 5 (.t 4)), none⟩, ⟨some 26, .val (.load none (.t 25)), none⟩, ⟨some 27, .val (.bin .num .neq (.t 26) (.c (.int .i64 9))), none⟩, ⟨some 28, .val (.mov (.t 27)), none⟩, ⟨some 29, .val (.load (some 5) (.t 3)), (some (28, false))⟩, ⟨some 30, .val (.load (some 8) (.t 4)), (some (28, false))⟩, ⟨some 31, .val (.load (some 8) (.t 5)), (some (28, false))⟩, ⟨some 32, .call (.f 80) [(.t 29), (.t 30), (.t 31)], (some (28, false))⟩, ⟨some 33, .val (.pick (.t 28) (.c (.bool true)) (.t 32)), none⟩, ⟨some 7, .val (.mov (.t 33)), none⟩]
def g51_6 : IL := [⟨some 35, .val (.faddr 4 (.t 3)), none⟩, ⟨some 36, .val (.load none (.t 35)), none⟩, ⟨some 37, .val (.bin .num .eql (.t 36) (.c (.int .i64 2))), none⟩, ⟨some 38, .val (.mov (.t 37)), none⟩, ⟨some 39, .val (.faddr 3 (.t 4)), (some (38, false))⟩, ⟨some 40, .val (.load none (.t 39)), (some (38, false))⟩, ⟨some 41, .val (.bin .num .eql (.t 40) (.c (.int .i64 5))), (some (38, false))⟩, ⟨some 42, .val (.pick (.t 38) (.c (.bool true)) (.t 41)), none⟩, ⟨some 34, .val (.mov (.t 42)), none⟩]
def g51_7 : IL := [⟨some 43, .val (.loadv 0 3 (some 5) (.t 3)), none⟩, ⟨some 44, .val (.faddr 2 (.t 3)), none⟩, ⟨some 45, .val (.faddr 1 (.t 44)), none⟩, ⟨some 46, .val (.loadv 0 3 none (.t 45)), none⟩, ⟨some 47, .val (.faddr 6 (.t 5)), none⟩, ⟨some 48, .val (.loadv 0 5 none (.t 47)), none⟩, ⟨some 49, .val (.iaddr 5 none (.t 46) (.t 48)), none⟩, ⟨some 50, .val (.loadr (some 5) (.t 49)), none⟩, ⟨some 51, .val (.loadv 0 4 (some 8) (.t 4)), none⟩, ⟨some 52, .call (.f 54) [(.t 43), (.t 50), (.t 51)], none⟩, ⟨some 7, .val (.mov (.t 52)), none⟩]
def g51_8 : IL := [⟨some 53, .val (.mov (.t 7)), none⟩]
def g51_9 : IL := [⟨some 6, .val (.mov (.c (.int .i64 0))), none⟩]
def g51_10 : IL := [⟨some 6, .val (.mov (.c (.int .i64 16))), none⟩]
def r51 : RC := .seq (.reg g51_0) (.seq (.seq (.reg g51_1) (.cond (.t 20) (.seq (.reg g51_2) (.ret)) (.skip))) (.seq (.reg g51_3) (.seq (.block 0 (.seq (.reg g51_4) (.cond (.t 21) (.reg g51_5) (.seq (.reg g51_6) (.cond (.t 34) (.draw g51_7) (.skip)))))) (.seq (.seq (.reg g51_8) (.cond (.t 53) (.seq (.reg g51_9) (.ret)) (.skip))) (.seq (.reg g51_10) (.ret))))))
def o51 : List RR := [.tmp 6]
theorem k51 : CT 51 54 r51 o51 := ck Tryz.func51 Tryz.ntmps51 (by decide +kernel)
def g52_0 : IL := [⟨some 1, .boxN 1 (.t 0), none⟩, ⟨some 2, .val (.mov (.c (.bool false))), none⟩]
def g52_1 : IL := [⟨some 3, .val (.faddr 3 (.t 1)), none⟩, ⟨some 4, .val (.load none (.t 3)), none⟩, ⟨some 5, .val (.bin .num .neq (.t 4) (.c (.int .i64 4))), none⟩, ⟨some 6, .val (.mov (.t 5)), none⟩, ⟨some 7, .val (.faddr 3 (.t 1)), (some (6, true))⟩, ⟨some 8, .val (.load none (.t 7)), (some (6, true))⟩, ⟨some 9, .val (.bin .num .neq (.t 8) (.c (.int .i64 5))), (some (6, true))⟩, ⟨some 10, .val (.pick (.t 6) (.t 9) (.c (.bool false))), none⟩, ⟨some 2, .val (.mov (.t 10)), none⟩]
def r52 : RC := .seq (.reg g52_0) (.seq (.reg g52_1) (.ret))
def o52 : List RR := [.tmp 2]
theorem k52 : CT 52 11 r52 o52 := ck Tryz.func52 Tryz.ntmps52 (by decide +kernel)
def g53_0 : IL := [⟨some 2, .boxN 2 (.t 0), none⟩, ⟨some 3, .boxN 3 (.t 1), none⟩, ⟨some 4, .val (.mov (.c (.bool false))), none⟩]
def g53_1 : IL := [⟨some 5, .val (.faddr 7 (.t 2)), none⟩, ⟨some 6, .val (.load none (.t 5)), none⟩, ⟨some 7, .val (.bin .num .lss (.t 6) (.c (.int .i64 0))), none⟩, ⟨some 8, .val (.mov (.t 7)), none⟩, ⟨some 9, .val (.faddr 7 (.t 2)), (some (8, false))⟩, ⟨some 10, .val (.load none (.t 9)), (some (8, false))⟩, ⟨some 11, .val (.faddr 7 (.t 3)), (some (8, false))⟩, ⟨some 12, .val (.load none (.t 11)), (some (8, false))⟩, ⟨some 13, .val (.bin .num .neq (.t 10) (.t 12)), (some (8, false))⟩, ⟨some 14, .val (.pick (.t 8) (.c (.bool true)) (.t 13)), none⟩, ⟨some 4, .val (.mov (.t 14)), none⟩]
def r53 : RC := .seq (.reg g53_0) (.seq (.reg g53_1) (.ret))
def o53 : List RR := [.tmp 4]
theorem k53 : CT 53 15 r53 o53 := ck Tryz.func53 Tryz.ntmps53 (by decide +kernel)
def g54_0 : IL := [⟨some 3, .boxN 3 (.t 0), none⟩, ⟨some 4, .boxN 4 (.t 1), none⟩, ⟨some 5, .boxN 5 (.t 2), none⟩, ⟨some 6, .val (.mov (.c (.bool false))), none⟩]
def g54_1 : IL := [⟨some 10, .val (.faddr 1 (.t 4)), none⟩, ⟨some 11, .val (.load none (.t 10)), none⟩]
def g54_2 : IL := [⟨some 6, .val (.mov (.c (.bool true))), none⟩]
def g54_3 : IL := [⟨some 12, .val (.faddr 5 (.t 5)), none⟩, ⟨some 13, .val (.load none (.t 12)), none⟩, ⟨some 14, .val (.bin .num .eql (.t 13) (.c (.int .i64 1))), none⟩]
def g54_4 : IL := [⟨some 15, .val (.load (some 5) (.t 4)), none⟩, ⟨some 16, .call (.f 81) [(.t 15), (.c (.int .i64 0))], none⟩, ⟨some 17, .val (.mov (.t 16)), none⟩, ⟨some 18, .val (.load (some 5) (.t 4)), (some (17, true))⟩, ⟨some 19, .call (.f 81) [(.t 18), (.c (.int .i64 1))], (some (17, true))⟩, ⟨some 20, .val (.pick (.t 17) (.t 19) (.c (.bool false))), none⟩, ⟨some 6, .val (.mov (.t 20)), none⟩]
def g54_5 : IL := [⟨some 21, .val (.faddr 0 (.t 3)), none⟩, ⟨some 22, .val (.faddr 1 (.t 21)), none⟩, ⟨some 23, .val (.load none (.t 22)), none⟩, ⟨some 24, .val (.faddr 6 (.t 5)), none⟩, ⟨some 25, .val (.load none (.t 24)), none⟩, ⟨some 26, .val (.iaddr 5 none (.t 23) (.t 25)), none⟩, ⟨some 27, .val (.load (some 5) (.t 26)), none⟩, ⟨some 7, .allocN 7 [.str [], .bool false, .nils, .nils, .nils], none⟩, ⟨none, .store 5 (.t 7) (.t 27), none⟩]
def g54_6 : IL := [⟨some 28, .val (.faddr 1 (.t 7)), none⟩, ⟨some 29, .val (.load none (.t 28)), none⟩]
def g54_7 : IL := [⟨some 6, .val (.mov (.c (.bool false))), none⟩]
def g54_8 : IL := [⟨some 30, .val (.faddr 2 (.t 7)), none⟩, ⟨some 31, .val (.load none (.t 30)), none⟩, ⟨some 32, .val (.len 1 (.t 31)), none⟩, ⟨some 33, .val (.mov (.c (.int .i64 0))), none⟩]
def g54_9 : IL := [⟨some 34, .val (.bin .num .lss (.t 33) (.t 32)), none⟩]
def g54_10 : IL := [⟨some 35, .val (.iaddr 3 none (.t 31) (.t 33)), none⟩, ⟨some 36, .val (.load (some 3) (.t 35)), none⟩, ⟨some 9, .allocN 9 [.str [], .int .i64 0, .nils], none⟩, ⟨none, .store 3 (.t 9) (.t 36), none⟩]
def g54_11 : IL := [⟨some 37, .val (.load (some 5) (.t 4)), none⟩, ⟨some 38, .val (.faddr 1 (.t 9)), none⟩, ⟨some 39, .val (.load none (.t 38)), none⟩, ⟨some 40, .call (.f 81) [(.t 37), (.t 39)], none⟩, ⟨some 41, .val (.un .not (.t 40)), none⟩]
def g54_12 : IL := [⟨some 6, .val (.mov (.c (.bool false))), none⟩]
def g54_13 : IL := [⟨some 42, .val (.bin .num .add (.t 33) (.c (.int .i64 1))), none⟩, ⟨some 33, .val (.mov (.t 42)), none⟩]
def l54_0 : RC := .gho (.drop 9) (.seq (.reg g54_9) (.seq (.cond (.t 34) (.skip) (.exit 0)) (.seq (.block 1 (.seq (.reg g54_10) (.seq (.reg g54_11) (.cond (.t 41) (.seq (.reg g54_12) (.ret)) (.skip))))) (.reg g54_13))))
def g54_14 : IL := [⟨some 6, .val (.mov (.c (.bool true))), none⟩]
def r54 : RC := .seq (.reg g54_0) (.seq (.seq (.reg g54_1) (.cond (.t 11) (.seq (.reg g54_2) (.ret)) (.skip))) (.seq (.seq (.reg g54_3) (.cond (.t 14) (.seq (.reg g54_4) (.ret)) (.skip))) (.seq (.reg g54_5) (.seq (.seq (.reg g54_6) (.cond (.t 29) (.seq (.reg g54_7) (.ret)) (.skip))) (.seq (.seq (.reg g54_8) (.block 0 (.loop l54_0))) (.seq (.reg g54_14) (.ret)))))))
def o54 : List RR := [.tmp 6]
theorem k54 : CT 54 43 r54 o54 := ck Tryz.func54 Tryz.ntmps54 (by decide +kernel)
def g55_0 : IL := [⟨some 1, .boxN 1 (.t 0), none⟩, ⟨some 2, .val (.mov (.c (.bool false))), none⟩]
def g55_1 : IL := [⟨some 3, .val (.faddr 3 (.t 1)), none⟩, ⟨some 4, .val (.load none (.t 3)), none⟩, ⟨some 5, .val (.bin .num .eql (.t 4) (.c (.int .i64 4))), none⟩, ⟨some 6, .val (.mov (.t 5)), none⟩, ⟨some 7, .val (.faddr 5 (.t 1)), (some (6, true))⟩, ⟨some 8, .val (.load none (.t 7)), (some (6, true))⟩, ⟨some 9, .val (.bin .num .geq (.t 8) (.c (.int .i64 1))), (some (6, true))⟩, ⟨some 10, .val (.mov (.t 9)), (some (6, true))⟩, ⟨some 11, .val (.faddr 5 (.t 1)), (some (10, true))⟩, ⟨some 12, .val (.load none (.t 11)), (some (10, true))⟩, ⟨some 13, .val (.bin .num .leq (.t 12) (.c (.int .i64 6))), (some (10, true))⟩, ⟨some 14, .val (.pick (.t 10) (.t 13) (.c (.bool false))), (some (6, true))⟩, ⟨some 15, .val (.mov (.t 14)), (some (6, true))⟩, ⟨some 16, .val (.faddr 5 (.t 1)), (some (15, false))⟩, ⟨some 17, .val (.load none (.t 16)), (some (15, false))⟩, ⟨some 18, .val (.bin .num .eql (.t 17) (.c (.int .i64 9))), (some (15, false))⟩, ⟨some 19, .val (.pick (.t 15) (.c (.bool true)) (.t 18)), (some (6, true))⟩, ⟨some 20, .val (.pick (.t 6) (.t 19) (.c (.bool false))), none⟩, ⟨some 2, .val (.mov (.t 20)), none⟩]
def r55 : RC := .seq (.reg g55_0) (.seq (.reg g55_1) (.ret))
def o55 : List RR := [.tmp 2]
theorem k55 : CT 55 21 r55 o55 := ck Tryz.func55 Tryz.ntmps55 (by decide +kernel)
def g66_0 : IL := [⟨some 1, .boxN 1 (.t 0), none⟩, ⟨some 2, .val (.mov (.c (.nils))), none⟩]
def g66_1 : IL := [⟨some 14, .val (.build [.str [], .int .i64 0, .nils] [(1, 1, (.c (.int .i64 (-1))))]), none⟩, ⟨some 15, .boxN 15 (.t 14), none⟩, ⟨some 3, .val (.mov (.t 15)), none⟩]
def g66_2 : IL := [⟨some 16, .val (.load (some 3) (.t 1)), none⟩, ⟨some 17, .call (.f 90) [(.t 16)], none⟩, ⟨some 4, .allocN 4 [.nils, .nils, .nils], none⟩, ⟨none, .store 3 (.t 4) (.t 17), none⟩]
def g66_3 : IL := [⟨some 18, .val (.load (some 3) (.t 4)), none⟩, ⟨some 19, .val (.mov (.c (.int .i64 0))), none⟩]
def g66_4 : IL := [⟨some 20, .val (.bin .num .lss (.t 19) (.c (.int .i64 3))), none⟩]
def g66_5 : IL := [⟨some 21, .val (.aidx 3 1 none (.t 18) (.t 19)), none⟩, ⟨some 6, .val (.mov (.t 21)), none⟩]
def g66_6 : IL := [⟨some 22, .val (.mov (.t 3)), none⟩, ⟨some 23, .val (.mov (.t 6)), none⟩, ⟨some 24, .val (.len 1 (.t 23)), none⟩, ⟨some 25, .val (.bin .num .leq (.t 24) (.c (.int .i64 64))), none⟩, ⟨some 26, .callF (.f 91) [(.t 22), (.t 25), (.c (.int .i64 3))], none⟩]
def g66_7 : IL := [⟨some 27, .val (.mov (.t 3)), none⟩, ⟨some 28, .val (.mov (.t 6)), none⟩, ⟨some 29, .call (.f 92) [(.t 28)], none⟩, ⟨some 30, .callF (.f 91) [(.t 27), (.t 29), (.c (.int .i64 11))], none⟩]
def g66_8 : IL := [⟨some 31, .val (.bin .num .add (.t 19) (.c (.int .i64 1))), none⟩, ⟨some 19, .val (.mov (.t 31)), none⟩]
def l66_0 : RC := .seq (.reg g66_4) (.seq (.cond (.t 20) (.skip) (.exit 0)) (.seq (.block 1 (.seq (.reg g66_5) (.seq (.reg g66_6) (.reg g66_7)))) (.reg g66_8)))
def g66_9 : IL := [⟨some 32, .val (.mov (.t 3)), none⟩, ⟨some 33, .val (.load (some 3) (.t 4)), none⟩, ⟨some 34, .call (.f 93) [(.t 33)], none⟩, ⟨some 35, .callF (.f 91) [(.t 32), (.t 34), (.c (.int .i64 9))], none⟩]
def g66_10 : IL := [⟨some 36, .val (.load (some 3) (.t 1)), none⟩, ⟨some 37, .call (.f 94) [(.t 36)], none⟩, ⟨some 7, .val (.mov (.t 37)), none⟩]
def g66_11 : IL := [⟨some 38, .val (.faddr 0 (.t 1)), none⟩, ⟨some 39, .val (.load none (.t 38)), none⟩, ⟨some 40, .val (.len 1 (.t 39)), none⟩, ⟨some 41, .val (.mov (.c (.int .i64 0))), none⟩]
def g66_12 : IL := [⟨some 42, .val (.bin .num .lss (.t 41) (.t 40)), none⟩]
def g66_13 : IL := [⟨some 43, .val (.iaddr 5 none (.t 39) (.t 41)), none⟩, ⟨some 44, .val (.load (some 5) (.t 43)), none⟩, ⟨some 9, .allocN 9 [.str [], .nils, .nils, .nils, .nils], none⟩, ⟨none, .store 5 (.t 9) (.t 44), none⟩]
def g66_14 : IL := [⟨some 45, .val (.mov (.t 3)), none⟩, ⟨some 46, .val (.mov (.t 3)), none⟩, ⟨some 47, .val (.nilck (.t 46)), none⟩, ⟨some 48, .val (.faddr 2 (.t 47)), none⟩, ⟨some 49, .val (.load none (.t 48)), none⟩, ⟨some 50, .val (.loadv 0 1 (some 3) (.t 1)), none⟩, ⟨some 51, .val (.loadv 0 9 (some 5) (.t 9)), none⟩, ⟨some 52, .val (.mov (.t 7)), none⟩, ⟨some 53, .call (.f 95) [(.t 50), (.t 51), (.t 52)], none⟩, ⟨some 54, .app 3 32 192 (.t 49) (.t 53), none⟩, ⟨some 55, .val (.nilck (.t 45)), none⟩, ⟨some 56, .val (.faddr 2 (.t 55)), none⟩, ⟨none, .store 1 (.t 56) (.t 54), none⟩]
def g66_15 : IL := [⟨some 57, .val (.bin .num .add (.t 41) (.c (.int .i64 1))), none⟩, ⟨some 41, .val (.mov (.t 57)), none⟩]
def l66_1 : RC := .gho (.drop 9) (.seq (.reg g66_12) (.seq (.cond (.t 42) (.skip) (.exit 2)) (.seq (.block 3 (.seq (.reg g66_13) (.draw g66_14))) (.reg g66_15))))
def g66_16 : IL := [⟨some 58, .val (.faddr 1 (.t 1)), none⟩, ⟨some 59, .val (.load none (.t 58)), none⟩, ⟨some 60, .val (.len 1 (.t 59)), none⟩, ⟨some 61, .val (.mov (.c (.int .i64 0))), none⟩]
def g66_17 : IL := [⟨some 62, .val (.bin .num .lss (.t 61) (.t 60)), none⟩]
def g66_18 : IL := [⟨some 63, .val (.iaddr 5 none (.t 59) (.t 61)), none⟩, ⟨some 64, .val (.load (some 5) (.t 63)), none⟩, ⟨some 11, .allocN 11 [.str [], .bool false, .nils, .nils, .nils], none⟩, ⟨none, .store 5 (.t 11) (.t 64), none⟩]
def g66_19 : IL := [⟨some 65, .val (.mov (.t 3)), none⟩, ⟨some 66, .val (.mov (.t 3)), none⟩, ⟨some 67, .val (.nilck (.t 66)), none⟩, ⟨some 68, .val (.faddr 2 (.t 67)), none⟩, ⟨some 69, .val (.load none (.t 68)), none⟩, ⟨some 70, .val (.loadv 0 11 (some 5) (.t 11)), none⟩, ⟨some 71, .call (.f 96) [(.t 70)], none⟩, ⟨some 72, .app 3 32 192 (.t 69) (.t 71), none⟩, ⟨some 73, .val (.nilck (.t 65)), none⟩, ⟨some 74, .val (.faddr 2 (.t 73)), none⟩, ⟨none, .store 1 (.t 74) (.t 72), none⟩]
def g66_20 : IL := [⟨some 75, .val (.bin .num .add (.t 61) (.c (.int .i64 1))), none⟩, ⟨some 61, .val (.mov (.t 75)), none⟩]
def l66_2 : RC := .gho (.drop 11) (.seq (.reg g66_17) (.seq (.cond (.t 62) (.skip) (.exit 4)) (.seq (.block 5 (.seq (.reg g66_18) (.draw g66_19))) (.reg g66_20))))
def g66_21 : IL := [⟨some 76, .val (.faddr 2 (.t 1)), none⟩, ⟨some 77, .val (.load none (.t 76)), none⟩, ⟨some 78, .val (.len 1 (.t 77)), none⟩, ⟨some 79, .val (.mov (.c (.int .i64 0))), none⟩]
def g66_22 : IL := [⟨some 80, .val (.bin .num .lss (.t 79) (.t 78)), none⟩]
def g66_23 : IL := [⟨some 81, .val (.iaddr 3 none (.t 77) (.t 79)), none⟩, ⟨some 82, .val (.load (some 3) (.t 81)), none⟩, ⟨some 13, .allocN 13 [.str [], .nils, .nils], none⟩, ⟨none, .store 3 (.t 13) (.t 82), none⟩]
def g66_24 : IL := [⟨some 83, .val (.mov (.t 3)), none⟩, ⟨some 84, .val (.mov (.t 3)), none⟩, ⟨some 85, .val (.nilck (.t 84)), none⟩, ⟨some 86, .val (.faddr 2 (.t 85)), none⟩, ⟨some 87, .val (.load none (.t 86)), none⟩, ⟨some 88, .val (.loadv 0 1 (some 3) (.t 1)), none⟩, ⟨some 89, .val (.loadv 0 13 (some 3) (.t 13)), none⟩, ⟨some 90, .call (.f 97) [(.t 88), (.t 89)], none⟩, ⟨some 91, .app 3 32 192 (.t 87) (.t 90), none⟩, ⟨some 92, .val (.nilck (.t 83)), none⟩, ⟨some 93, .val (.faddr 2 (.t 92)), none⟩, ⟨none, .store 1 (.t 93) (.t 91), none⟩]
def g66_25 : IL := [⟨some 94, .val (.bin .num .add (.t 79) (.c (.int .i64 1))), none⟩, ⟨some 79, .val (.mov (.t 94)), none⟩]
def l66_3 : RC := .gho (.drop 13) (.seq (.reg g66_22) (.seq (.cond (.t 80) (.skip) (.exit 6)) (.seq (.block 7 (.seq (.reg g66_23) (.draw g66_24))) (.reg g66_25))))
def g66_26 : IL := [⟨some 95, .val (.mov (.t 3)), none⟩, ⟨some 96, .val (.nilck (.t 95)), none⟩, ⟨some 97, .val (.faddr 2 (.t 96)), none⟩, ⟨some 98, .val (.load none (.t 97)), none⟩, ⟨some 2, .val (.mov (.t 98)), none⟩]
def r66 : RC := .seq (.reg g66_0) (.seq (.reg g66_1) (.gho (.vecc 15 2 1100 3) (.seq (.reg g66_2) (.seq (.seq (.reg g66_3) (.block 0 (.loop l66_0))) (.seq (.reg g66_9) (.seq (.reg g66_10) (.seq (.seq (.reg g66_11) (.block 2 (.loop l66_1))) (.seq (.seq (.reg g66_16) (.block 4 (.loop l66_2))) (.seq (.seq (.reg g66_21) (.block 6 (.loop l66_3))) (.seq (.reg g66_26) (.ret)))))))))))
def o66 : List RR := [.tmp 2]
theorem k66 : CT 66 99 r66 o66 := ck Tryz.func66 Tryz.ntmps66 (by decide +kernel)
def g67_0 : IL := [⟨some 2, .val (.mov (.c (.str []))), none⟩]
def g67_1 : IL := [⟨some 6, .val (.mov (.t 0)), none⟩, ⟨some 7, .call (.f 72) [(.t 6), (.c (.str [97, 108, 105, 97, 115]))], none⟩, ⟨some 5, .val (.mov (.t 7)), none⟩, ⟨some 8, .val (.ext (.t 5) 0), none⟩, ⟨some 9, .val (.ext (.t 5) 1), none⟩, ⟨some 3, .allocN 3 [.int .i64 0, .int .u64 0, .str [], .nils, .nils, .nils, .nils], none⟩, ⟨none, .store 7 (.t 3) (.t 8), none⟩, ⟨some 4, .val (.mov (.t 9)), none⟩]
def g67_2 : IL := [⟨some 10, .val (.faddr 2 (.t 3)), none⟩, ⟨some 11, .val (.load none (.t 10)), none⟩, ⟨some 2, .val (.mov (.t 11)), none⟩]
def r67 : RC := .seq (.reg g67_0) (.seq (.reg g67_1) (.seq (.reg g67_2) (.ret)))
def o67 : List RR := [.tmp 2]
theorem k67 : CT 67 12 r67 o67 := ck Tryz.func67 Tryz.ntmps67 (by decide +kernel)
def g68_0 : IL := [⟨some 2, .boxN 2 (.t 0), none⟩, ⟨some 3, .boxN 3 (.t 1), none⟩, ⟨some 4, .val (.mov (.c (.int .i64 0))), none⟩]
def g68_1 : IL := [⟨some 5, .val (.faddr 0 (.t 3)), none⟩, ⟨some 6, .val (.load none (.t 5)), none⟩]
def g68_2 : IL := [⟨some 8, .val (.bin .num .eql (.t 6) (.c (.int .i64 10))), none⟩, ⟨some 7, .val (.mov (.t 8)), none⟩]
def g68_3 : IL := [⟨some 9, .val (.faddr 0 (.t 2)), none⟩, ⟨some 10, .val (.load none (.t 9)), none⟩, ⟨some 11, .val (.mkfn (.func 99) [] [(.t 3)]), none⟩, ⟨some 12, .callF (.f 98) [(.t 10), (.t 11)], none⟩, ⟨some 4, .val (.mov (.t 12)), none⟩]
def g68_4 : IL := [⟨some 14, .val (.bin .num .eql (.t 6) (.c (.int .i64 9))), none⟩, ⟨some 13, .val (.mov (.t 14)), none⟩]
def g68_5 : IL := [⟨some 15, .val (.faddr 1 (.t 2)), none⟩, ⟨some 16, .val (.load none (.t 15)), none⟩, ⟨some 17, .val (.mkfn (.func 101) [] [(.t 3)]), none⟩, ⟨some 18, .callF (.f 100) [(.t 16), (.t 17)], none⟩, ⟨some 4, .val (.mov (.t 18)), none⟩]
def g68_6 : IL := [⟨some 4, .val (.mov (.c (.int .i64 (-1)))), none⟩]
def r68 : RC := .seq (.reg g68_0) (.seq (.seq (.reg g68_1) (.block 0 (.seq (.reg g68_2) (.cond (.t 7) (.seq (.reg g68_3) (.ret)) (.seq (.reg g68_4) (.cond (.t 13) (.seq (.reg g68_5) (.ret)) (.skip))))))) (.seq (.reg g68_6) (.ret)))
def o68 : List RR := [.tmp 4]
theorem k68 : CT 68 19 r68 o68 := ck Tryz.func68 Tryz.ntmps68 (by decide +kernel)
def g69_0 : IL := [⟨some 4, .val (.mov (.c (.bool false))), none⟩]
def g69_1 : IL := [⟨some 5, .val (.mov (.t 0)), none⟩, ⟨some 6, .val (.mov (.t 1)), none⟩, ⟨some 7, .call (.f 70) [(.t 5), (.t 6)], none⟩, ⟨some 8, .val (.bin .num .geq (.t 7) (.c (.int .i64 0))), none⟩, ⟨some 4, .val (.mov (.t 8)), none⟩]
def r69 : RC := .seq (.reg g69_0) (.seq (.reg g69_1) (.ret))
def o69 : List RR := [.tmp 4]
theorem k69 : CT 69 9 r69 o69 := ck Tryz.func69 Tryz.ntmps69 (by decide +kernel)
def g70_0 : IL := [⟨some 4, .val (.mov (.c (.int .i64 0))), none⟩]
def g70_1 : IL := [⟨some 6, .val (.mov (.t 0)), none⟩, ⟨some 7, .val (.len 1 (.t 6)), none⟩, ⟨some 8, .val (.mov (.c (.int .i64 0))), none⟩]
def g70_2 : IL := [⟨some 9, .val (.bin .num .lss (.t 8) (.t 7)), none⟩]
def g70_3 : IL := [⟨some 10, .val (.mov (.t 8)), none⟩, ⟨some 5, .val (.mov (.t 10)), none⟩]
def g70_4 : IL := [⟨some 11, .val (.mov (.t 1)), none⟩, ⟨some 12, .val (.mov (.t 0)), none⟩, ⟨some 13, .val (.mov (.t 5)), none⟩, ⟨some 14, .val (.iaddr 1 none (.t 12) (.t 13)), none⟩, ⟨some 15, .val (.load none (.t 14)), none⟩, ⟨some 16, .val (.bin .str .eql (.t 11) (.t 15)), none⟩]
def g70_5 : IL := [⟨some 17, .val (.mov (.t 5)), none⟩, ⟨some 4, .val (.mov (.t 17)), none⟩]
def g70_6 : IL := [⟨some 18, .val (.bin .num .add (.t 8) (.c (.int .i64 1))), none⟩, ⟨some 8, .val (.mov (.t 18)), none⟩]
def l70_0 : RC := .seq (.reg g70_2) (.seq (.cond (.t 9) (.skip) (.exit 0)) (.seq (.block 1 (.seq (.reg g70_3) (.seq (.reg g70_4) (.cond (.t 16) (.seq (.reg g70_5) (.ret)) (.skip))))) (.reg g70_6)))
def g70_7 : IL := [⟨some 4, .val (.mov (.c (.int .i64 (-1)))), none⟩]
def r70 : RC := .seq (.reg g70_0) (.seq (.seq (.reg g70_1) (.block 0 (.loop l70_0))) (.seq (.reg g70_7) (.ret)))
def o70 : List RR := [.tmp 4]
theorem k70 : CT 70 19 r70 o70 := ck Tryz.func70 Tryz.ntmps70 (by decide +kernel)
def g72_0 : IL := [⟨some 4, .allocN 4 [.int .i64 0, .int .u64 0, .str [], .nils, .nils, .nils, .nils], none⟩, ⟨some 5, .val (.mov (.c (.bool false))), none⟩]
def g72_1 : IL := [⟨some 7, .val (.mov (.t 0)), none⟩, ⟨some 8, .val (.mov (.t 1)), none⟩, ⟨some 9, .call (.f 102) [(.t 7), (.t 8)], none⟩, ⟨some 6, .val (.mov (.t 9)), none⟩]
def g72_2 : IL := [⟨some 10, .val (.mov (.t 6)), none⟩, ⟨some 11, .val (.bin .num .lss (.t 10) (.c (.int .i64 0))), none⟩]
def g72_3 : IL := [⟨some 12, .val (.build [.int .i64 0, .int .u64 0, .str [], .nils, .nils, .nils, .nils] []), none⟩, ⟨none, .store 7 (.t 4) (.t 12), none⟩, ⟨some 5, .val (.mov (.c (.bool false))), none⟩]
def g72_4 : IL := [⟨some 13, .val (.mov (.t 0)), none⟩, ⟨some 14, .val (.mov (.t 6)), none⟩, ⟨some 15, .val (.iaddr 8 none (.t 13) (.t 14)), none⟩, ⟨some 16, .val (.faddr 1 (.t 15)), none⟩, ⟨some 17, .val (.load (some 7) (.t 16)), none⟩, ⟨none, .store 7 (.t 4) (.t 17), none⟩, ⟨some 5, .val (.mov (.c (.bool true))), none⟩]
def r72 : RC := .seq (.reg g72_0) (.seq (.reg g72_1) (.seq (.seq (.reg g72_2) (.cond (.t 11) (.seq (.reg g72_3) (.ret)) (.skip))) (.seq (.reg g72_4) (.ret))))
def o72 : List RR := [.cell 4 (some 7), .tmp 5]
theorem k72 : CT 72 18 r72 o72 := ck Tryz.func72 Tryz.ntmps72 (by decide +kernel)
def g73_0 : IL := [⟨some 2, .boxN 2 (.t 0), none⟩, ⟨some 3, .val (.mov (.c (.bool false))), none⟩]
def g73_1 : IL := [⟨some 4, .val (.faddr 1 (.t 2)), none⟩, ⟨some 5, .val (.load none (.t 4)), none⟩, ⟨some 6, .val (.load none (.t 1)), none⟩, ⟨some 7, .val (.bin .str .eql (.t 5) (.t 6)), none⟩, ⟨some 3, .val (.mov (.t 7)), none⟩]
def r73 : RC := .seq (.reg g73_0) (.seq (.reg g73_1) (.ret))
def o73 : List RR := [.tmp 3]
theorem k73 : CT 73 8 r73 o73 := ck Tryz.func73 Tryz.ntmps73 (by decide +kernel)
def g74_0 : IL := [⟨some 2, .boxN 2 (.t 0), none⟩, ⟨some 3, .boxN 3 (.t 1), none⟩, ⟨some 4, .allocN 4 [.int .i64 0, .str [], .str [], .int .i64 0, .int .i64 0, .int .i64 0, .int .i64 0, .int .i64 0], none⟩, ⟨some 5, .val (.mov (.c (.bool false))), none⟩]
def g74_1 : IL := [⟨some 7, .val (.faddr 1 (.t 3)), none⟩, ⟨some 8, .val (.load none (.t 7)), none⟩, ⟨some 9, .val (.faddr 0 (.t 2)), none⟩, ⟨some 10, .val (.load none (.t 9)), none⟩, ⟨some 11, .callF (.f 103) [(.t 8), (.t 10)], none⟩, ⟨some 6, .val (.mov (.t 11)), none⟩]
def g74_2 : IL := [⟨some 12, .val (.mov (.t 6)), none⟩, ⟨some 13, .val (.bin .num .lss (.t 12) (.c (.int .i64 0))), none⟩]
def g74_3 : IL := [⟨some 14, .val (.build [.int .i64 0, .str [], .str [], .int .i64 0, .int .i64 0, .int .i64 0, .int .i64 0, .int .i64 0] []), none⟩, ⟨none, .store 8 (.t 4) (.t 14), none⟩, ⟨some 5, .val (.mov (.c (.bool false))), none⟩]
def g74_4 : IL := [⟨some 15, .val (.faddr 1 (.t 3)), none⟩, ⟨some 16, .val (.load none (.t 15)), none⟩, ⟨some 17, .val (.mov (.t 6)), none⟩, ⟨some 18, .val (.iaddr 8 none (.t 16) (.t 17)), none⟩, ⟨some 19, .val (.load (some 8) (.t 18)), none⟩, ⟨none, .store 8 (.t 4) (.t 19), none⟩, ⟨some 5, .val (.mov (.c (.bool true))), none⟩]
def r74 : RC := .seq (.reg g74_0) (.seq (.reg g74_1) (.seq (.seq (.reg g74_2) (.cond (.t 13) (.seq (.reg g74_3) (.ret)) (.skip))) (.seq (.reg g74_4) (.ret))))
def o74 : List RR := [.cell 4 (some 8), .tmp 5]
theorem k74 : CT 74 20 r74 o74 := ck Tryz.func74 Tryz.ntmps74 (by decide +kernel)
def g75_0 : IL := [⟨some 2, .boxN 2 (.t 0), none⟩, ⟨some 3, .val (.mov (.c (.bool false))), none⟩]
def g75_1 : IL := [⟨some 4, .val (.faddr 2 (.t 2)), none⟩, ⟨some 5, .val (.load none (.t 4)), none⟩, ⟨some 6, .val (.load none (.t 1)), none⟩, ⟨some 7, .val (.bin .str .eql (.t 5) (.t 6)), none⟩, ⟨some 8, .val (.mov (.t 7)), none⟩, ⟨some 9, .val (.load none (.t 1)), (some (8, true))⟩, ⟨some 10, .val (.bin .str .neq (.t 9) (.c (.str []))), (some (8, true))⟩, ⟨some 11, .val (.pick (.t 8) (.t 10) (.c (.bool false))), none⟩, ⟨some 3, .val (.mov (.t 11)), none⟩]
def r75 : RC := .seq (.reg g75_0) (.seq (.reg g75_1) (.ret))
def o75 : List RR := [.tmp 3]
theorem k75 : CT 75 12 r75 o75 := ck Tryz.func75 Tryz.ntmps75 (by decide +kernel)
def g76_0 : IL := [⟨some 2, .boxN 2 (.t 0), none⟩, ⟨some 3, .val (.mov (.c (.bool false))), none⟩]
def g76_1 : IL := [⟨some 4, .val (.faddr 0 (.t 2)), none⟩, ⟨some 5, .val (.load none (.t 4)), none⟩, ⟨some 6, .val (.load none (.t 1)), none⟩, ⟨some 7, .val (.bin .num .eql (.t 5) (.t 6)), none⟩, ⟨some 3, .val (.mov (.t 7)), none⟩]
def r76 : RC := .seq (.reg g76_0) (.seq (.reg g76_1) (.ret))
def o76 : List RR := [.tmp 3]
theorem k76 : CT 76 8 r76 o76 := ck Tryz.func76 Tryz.ntmps76 (by decide +kernel)
def g77_0 : IL := [⟨some 3, .boxN 3 (.t 0), none⟩, ⟨some 6, .val (.mov (.c (.int .i64 0))), none⟩]
def g77_1 : IL := [⟨some 11, .val (.faddr 4 (.t 3)), none⟩, ⟨some 12, .val (.load none (.t 11)), none⟩, ⟨some 13, .val (.mov (.t 1)), none⟩, ⟨some 14, .val (.mov (.t 2)), none⟩, ⟨some 15, .call (.f 104) [(.t 12), (.t 13), (.t 14)], none⟩]
def g77_2 : IL := [⟨some 17, .val (.bin .num .eql (.t 15) (.c (.int .i64 0))), none⟩, ⟨some 16, .val (.mov (.t 17)), none⟩]
def g77_3 : IL := [⟨some 18, .val (.load (some 5) (.t 3)), none⟩, ⟨some 19, .call (.f 78) [(.t 18)], none⟩, ⟨some 6, .val (.mov (.t 19)), none⟩]
def g77_4 : IL := [⟨some 21, .val (.bin .num .eql (.t 15) (.c (.int .i64 1))), none⟩, ⟨some 20, .val (.mov (.t 21)), none⟩]
def g77_5 : IL := [⟨some 23, .val (.faddr 4 (.t 3)), none⟩, ⟨some 24, .val (.load none (.t 23)), none⟩, ⟨some 25, .val (.mov (.t 1)), none⟩, ⟨some 26, .val (.mov (.t 2)), none⟩, ⟨some 27, .call (.f 105) [(.t 24), (.t 25), (.t 26)], none⟩, ⟨some 22, .val (.mov (.t 27)), none⟩, ⟨some 28, .val (.ext (.t 22) 0), none⟩, ⟨some 29, .val (.ext (.t 22) 1), none⟩, ⟨some 7, .allocN 7 [.int .i64 0, .int .u64 0, .str [], .nils, .nils, .nils, .nils], none⟩, ⟨none, .store 7 (.t 7) (.t 28), none⟩, ⟨some 8, .val (.mov (.t 29)), none⟩]
def g77_6 : IL := [⟨some 31, .val (.faddr 4 (.t 3)), none⟩, ⟨some 32, .val (.load none (.t 31)), none⟩, ⟨some 33, .val (.mov (.t 1)), none⟩, ⟨some 34, .val (.mov (.t 2)), none⟩, ⟨some 35, .val (.load (some 7) (.t 7)), none⟩, ⟨some 36, .call (.f 106) [(.t 32), (.t 33), (.t 34), (.t 35)], none⟩, ⟨some 30, .val (.mov (.t 36)), none⟩, ⟨some 37, .val (.ext (.t 30) 0), none⟩, ⟨some 38, .val (.ext (.t 30) 1), none⟩, ⟨some 9, .allocN 9 [.int .i64 0, .int .u64 0, .str [], .nils, .nils, .nils, .nils], none⟩, ⟨none, .store 7 (.t 9) (.t 37), none⟩, ⟨some 10, .val (.mov (.t 38)), none⟩]
def g77_7 : IL := [⟨some 39, .val (.mov (.t 10)), none⟩, ⟨some 6, .val (.mov (.t 39)), none⟩]
def g77_8 : IL := [⟨some 6, .val (.mov (.c (.int .i64 0))), none⟩]
def r77 : RC := .seq (.reg g77_0) (.seq (.seq (.reg g77_1) (.block 0 (.seq (.reg g77_2) (.cond (.t 16) (.seq (.reg g77_3) (.ret)) (.seq (.reg g77_4) (.cond (.t 20) (.seq (.reg g77_5) (.seq (.reg g77_6) (.seq (.reg g77_7) (.ret)))) (.skip))))))) (.seq (.reg g77_8) (.ret)))
def o77 : List RR := [.tmp 6]
theorem k77 : CT 77 40 r77 o77 := ck Tryz.func77 Tryz.ntmps77 (by decide +kernel)
def g78_0 : IL := [⟨some 1, .boxN 1 (.t 0), none⟩, ⟨some 2, .val (.mov (.c (.int .i64 0))), none⟩]
def g78_1 : IL := [⟨some 3, .val (.faddr 4 (.t 1)), none⟩, ⟨some 4, .val (.load none (.t 3)), none⟩, ⟨some 5, .val (.bin .num .eql (.t 4) (.c (.int .i64 1))), none⟩]
def g78_2 : IL := [⟨some 2, .val (.mov (.c (.int .i64 13))), none⟩]
def g78_3 : IL := [⟨some 2, .val (.mov (.c (.int .i64 12))), none⟩]
def r78 : RC := .seq (.reg g78_0) (.seq (.seq (.reg g78_1) (.cond (.t 5) (.seq (.reg g78_2) (.ret)) (.skip))) (.seq (.reg g78_3) (.ret)))
def o78 : List RR := [.tmp 2]
theorem k78 : CT 78 6 r78 o78 := ck Tryz.func78 Tryz.ntmps78 (by decide +kernel)
def g79_0 : IL := [⟨some 2, .boxN 2 (.t 0), none⟩, ⟨some 3, .boxN 3 (.t 1), none⟩, ⟨some 4, .val (.mov (.c (.int .i64 0))), none⟩]
def g79_1 : IL := [⟨some 8, .val (.faddr 0 (.t 2)), none⟩, ⟨some 9, .val (.faddr 1 (.t 8)), none⟩, ⟨some 10, .val (.load none (.t 9)), none⟩, ⟨some 11, .val (.faddr 6 (.t 3)), none⟩, ⟨some 12, .val (.load none (.t 11)), none⟩, ⟨some 13, .val (.iaddr 5 none (.t 10) (.t 12)), none⟩, ⟨some 14, .val (.load (some 5) (.t 13)), none⟩, ⟨some 5, .allocN 5 [.str [], .bool false, .nils, .nils, .nils], none⟩, ⟨none, .store 5 (.t 5) (.t 14), none⟩]
def g79_2 : IL := [⟨some 15, .val (.faddr 1 (.t 5)), none⟩, ⟨some 16, .val (.load none (.t 15)), none⟩]
def g79_3 : IL := [⟨some 4, .val (.mov (.c (.int .i64 6))), none⟩]
def g79_4 : IL := [⟨some 17, .val (.faddr 2 (.t 5)), none⟩, ⟨some 18, .val (.load none (.t 17)), none⟩, ⟨some 19, .val (.len 1 (.t 18)), none⟩, ⟨some 20, .val (.mov (.c (.int .i64 0))), none⟩]
def g79_5 : IL := [⟨some 21, .val (.bin .num .lss (.t 20) (.t 19)), none⟩]
def g79_6 : IL := [⟨some 22, .val (.iaddr 3 none (.t 18) (.t 20)), none⟩, ⟨some 23, .val (.load (some 3) (.t 22)), none⟩, ⟨some 7, .allocN 7 [.str [], .int .i64 0, .nils], none⟩, ⟨none, .store 3 (.t 7) (.t 23), none⟩]
def g79_7 : IL := [⟨some 24, .val (.faddr 1 (.t 7)), none⟩, ⟨some 25, .val (.load none (.t 24)), none⟩, ⟨some 26, .val (.bin .num .gtr (.t 25) (.c (.int .i64 1))), none⟩]
def g79_8 : IL := [⟨some 4, .val (.mov (.c (.int .i64 6))), none⟩]
def g79_9 : IL := [⟨some 27, .val (.bin .num .add (.t 20) (.c (.int .i64 1))), none⟩, ⟨some 20, .val (.mov (.t 27)), none⟩]
def l79_0 : RC := .gho (.drop 7) (.seq (.reg g79_5) (.seq (.cond (.t 21) (.skip) (.exit 0)) (.seq (.block 1 (.seq (.reg g79_6) (.seq (.reg g79_7) (.cond (.t 26) (.seq (.reg g79_8) (.ret)) (.skip))))) (.reg g79_9))))
def g79_10 : IL := [⟨some 4, .val (.mov (.c (.int .i64 0))), none⟩]
def r79 : RC := .seq (.reg g79_0) (.seq (.reg g79_1) (.seq (.seq (.reg g79_2) (.cond (.t 16) (.seq (.reg g79_3) (.ret)) (.skip))) (.seq (.seq (.reg g79_4) (.block 0 (.loop l79_0))) (.seq (.reg g79_10) (.ret)))))
def o79 : List RR := [.tmp 4]
theorem k79 : CT 79 28 r79 o79 := ck Tryz.func79 Tryz.ntmps79 (by decide +kernel)
def g80_0 : IL := [⟨some 3, .boxN 3 (.t 0), none⟩, ⟨some 4, .boxN 4 (.t 1), none⟩, ⟨some 5, .boxN 5 (.t 2), none⟩, ⟨some 6, .val (.mov (.c (.bool false))), none⟩]
def g80_1 : IL := [⟨some 13, .val (.faddr 0 (.t 3)), none⟩, ⟨some 14, .val (.faddr 1 (.t 13)), none⟩, ⟨some 15, .val (.loadv 0 3 none (.t 14)), none⟩, ⟨some 16, .val (.faddr 6 (.t 4)), none⟩, ⟨some 17, .val (.loadv 0 4 none (.t 16)), none⟩, ⟨some 18, .val (.iaddr 5 none (.t 15) (.t 17)), none⟩, ⟨some 19, .val (.loadr (some 5) (.t 18)), none⟩, ⟨some 20, .val (.faddr 2 (.t 3)), none⟩, ⟨some 21, .val (.faddr 1 (.t 20)), none⟩, ⟨some 22, .val (.loadv 0 3 none (.t 21)), none⟩, ⟨some 23, .val (.faddr 6 (.t 5)), none⟩, ⟨some 24, .val (.loadv 0 5 none (.t 23)), none⟩, ⟨some 25, .val (.iaddr 5 none (.t 22) (.t 24)), none⟩, ⟨some 26, .val (.loadr (some 5) (.t 25)), none⟩, ⟨some 7, .allocN 7 [.str [], .bool false, .nils, .nils, .nils], none⟩, ⟨some 8, .allocN 8 [.str [], .bool false, .nils, .nils, .nils], none⟩, ⟨none, .storev 0 7 5 (.t 7) (.t 19), none⟩, ⟨none, .storev 0 8 5 (.t 8) (.t 26), none⟩]
def g80_2 : IL := [⟨some 27, .val (.faddr 2 (.t 7)), none⟩, ⟨some 28, .val (.load none (.t 27)), none⟩, ⟨some 29, .val (.len 1 (.t 28)), none⟩, ⟨some 30, .val (.mov (.c (.int .i64 0))), none⟩]
def g80_3 : IL := [⟨some 31, .val (.bin .num .lss (.t 30) (.t 29)), none⟩]
def g80_4 : IL := [⟨some 32, .val (.iaddr 3 none (.t 28) (.t 30)), none⟩, ⟨some 33, .val (.load (some 3) (.t 32)), none⟩, ⟨some 10, .allocN 10 [.str [], .int .i64 0, .nils], none⟩, ⟨none, .store 3 (.t 10) (.t 33), none⟩]
def g80_5 : IL := [⟨some 34, .val (.faddr 1 (.t 10)), none⟩, ⟨some 35, .val (.load none (.t 34)), none⟩, ⟨some 36, .val (.bin .num .neq (.t 35) (.c (.int .i64 0))), none⟩, ⟨some 37, .val (.mov (.t 36)), none⟩, ⟨some 38, .val (.faddr 3 (.t 4)), (some (37, false))⟩, ⟨some 39, .val (.load none (.t 38)), (some (37, false))⟩, ⟨some 40, .val (.bin .num .neq (.t 39) (.c (.int .i64 3))), (some (37, false))⟩, ⟨some 41, .val (.pick (.t 37) (.c (.bool true)) (.t 40)), none⟩, ⟨some 42, .val (.mov (.t 41)), none⟩, ⟨some 43, .val (.load (some 5) (.t 8)), (some (42, true))⟩, ⟨some 44, .val (.faddr 0 (.t 10)), (some (42, true))⟩, ⟨some 45, .val (.load none (.t 44)), (some (42, true))⟩, ⟨some 46, .call (.f 107) [(.t 43), (.t 45)], (some (42, true))⟩, ⟨some 47, .val (.un .not (.t 46)), (some (42, true))⟩, ⟨some 48, .val (.pick (.t 42) (.t 47) (.c (.bool false))), none⟩]
def g80_6 : IL := [⟨some 6, .val (.mov (.c (.bool false))), none⟩]
def g80_7 : IL := [⟨some 49, .val (.bin .num .add (.t 30) (.c (.int .i64 1))), none⟩, ⟨some 30, .val (.mov (.t 49)), none⟩]
def l80_0 : RC := .gho (.drop 10) (.seq (.reg g80_3) (.seq (.cond (.t 31) (.skip) (.exit 0)) (.seq (.block 1 (.seq (.reg g80_4) (.seq (.reg g80_5) (.cond (.t 48) (.seq (.reg g80_6) (.ret)) (.skip))))) (.reg g80_7))))
def g80_8 : IL := [⟨some 50, .val (.faddr 1 (.t 7)), none⟩, ⟨some 51, .val (.load none (.t 50)), none⟩, ⟨some 52, .val (.un .not (.t 51)), none⟩]
def g80_9 : IL := [⟨some 6, .val (.mov (.c (.bool true))), none⟩]
def g80_10 : IL := [⟨some 53, .val (.faddr 2 (.t 8)), none⟩, ⟨some 54, .val (.load none (.t 53)), none⟩, ⟨some 55, .val (.len 1 (.t 54)), none⟩, ⟨some 56, .val (.mov (.c (.int .i64 0))), none⟩]
def g80_11 : IL := [⟨some 57, .val (.bin .num .lss (.t 56) (.t 55)), none⟩]
def g80_12 : IL := [⟨some 58, .val (.iaddr 3 none (.t 54) (.t 56)), none⟩, ⟨some 59, .val (.load (some 3) (.t 58)), none⟩, ⟨some 12, .allocN 12 [.str [], .int .i64 0, .nils], none⟩, ⟨none, .store 3 (.t 12) (.t 59), none⟩]
def g80_13 : IL := [⟨some 60, .val (.load (some 5) (.t 7)), none⟩, ⟨some 61, .val (.faddr 1 (.t 12)), none⟩, ⟨some 62, .val (.load none (.t 61)), none⟩, ⟨some 63, .call (.f 81) [(.t 60), (.t 62)], none⟩, ⟨some 64, .val (.un .not (.t 63)), none⟩]
def g80_14 : IL := [⟨some 6, .val (.mov (.c (.bool false))), none⟩]
def g80_15 : IL := [⟨some 65, .val (.bin .num .add (.t 56) (.c (.int .i64 1))), none⟩, ⟨some 56, .val (.mov (.t 65)), none⟩]
def l80_1 : RC := .gho (.drop 12) (.seq (.reg g80_11) (.seq (.cond (.t 57) (.skip) (.exit 2)) (.seq (.block 3 (.seq (.reg g80_12) (.seq (.reg g80_13) (.cond (.t 64) (.seq (.reg g80_14) (.ret)) (.skip))))) (.reg g80_15))))
def g80_16 : IL := [⟨some 66, .val (.faddr 1 (.t 8)), none⟩, ⟨some 67, .val (.load none (.t 66)), none⟩, ⟨some 6, .val (.mov (.t 67)), none⟩]
def r80 : RC := .seq (.reg g80_0) (.seq (.draw g80_1) (.seq (.seq (.reg g80_2) (.block 0 (.loop l80_0))) (.seq (.seq (.reg g80_8) (.cond (.t 52) (.seq (.reg g80_9) (.ret)) (.skip))) (.seq (.seq (.reg g80_10) (.block 2 (.loop l80_1))) (.seq (.reg g80_16) (.ret))))))
def o80 : List RR := [.tmp 6]
theorem k80 : CT 80 68 r80 o80 := ck Tryz.func80 Tryz.ntmps80 (by decide +kernel)
def g81_0 : IL := [⟨some 2, .boxN 2 (.t 0), none⟩, ⟨some 4, .val (.mov (.c (.bool false))), none⟩]
def g81_1 : IL := [⟨some 7, .val (.faddr 2 (.t 2)), none⟩, ⟨some 8, .val (.load none (.t 7)), none⟩, ⟨some 9, .val (.len 1 (.t 8)), none⟩, ⟨some 10, .val (.mov (.c (.int .i64 0))), none⟩]
def g81_2 : IL := [⟨some 11, .val (.bin .num .lss (.t 10) (.t 9)), none⟩]
def g81_3 : IL := [⟨some 12, .val (.iaddr 3 none (.t 8) (.t 10)), none⟩, ⟨some 13, .val (.load (some 3) (.t 12)), none⟩, ⟨some 6, .allocN 6 [.str [], .int .i64 0, .nils], none⟩, ⟨none, .store 3 (.t 6) (.t 13), none⟩]
def g81_4 : IL := [⟨some 14, .val (.faddr 1 (.t 6)), none⟩, ⟨some 15, .val (.load none (.t 14)), none⟩, ⟨some 16, .val (.mov (.t 1)), none⟩, ⟨some 17, .val (.bin .num .eql (.t 15) (.t 16)), none⟩]
def g81_5 : IL := [⟨some 4, .val (.mov (.c (.bool true))), none⟩]
def g81_6 : IL := [⟨some 18, .val (.bin .num .add (.t 10) (.c (.int .i64 1))), none⟩, ⟨some 10, .val (.mov (.t 18)), none⟩]
def l81_0 : RC := .gho (.drop 6) (.seq (.reg g81_2) (.seq (.cond (.t 11) (.skip) (.exit 0)) (.seq (.block 1 (.seq (.reg g81_3) (.seq (.reg g81_4) (.cond (.t 17) (.seq (.reg g81_5) (.ret)) (.skip))))) (.reg g81_6))))
def g81_7 : IL := [⟨some 4, .val (.mov (.c (.bool false))), none⟩]
def r81 : RC := .seq (.reg g81_0) (.seq (.seq (.reg g81_1) (.block 0 (.loop l81_0))) (.seq (.reg g81_7) (.ret)))
def o81 : List RR := [.tmp 4]
theorem k81 : CT 81 19 r81 o81 := ck Tryz.func81 Tryz.ntmps81 (by decide +kernel)
def g90_0 : IL := [⟨some 1, .boxN 1 (.t 0), none⟩, ⟨some 2, .allocN 2 [.nils, .nils, .nils], none⟩]
def g90_1 : IL := [⟨some 3, .allocN 3 [.nils, .nils, .nils], none⟩]
def g90_2 : IL := [⟨some 10, .val (.faddr 0 (.t 1)), none⟩, ⟨some 11, .val (.load none (.t 10)), none⟩, ⟨some 12, .val (.len 1 (.t 11)), none⟩, ⟨some 13, .val (.mov (.c (.int .i64 0))), none⟩]
def g90_3 : IL := [⟨some 14, .val (.bin .num .lss (.t 13) (.t 12)), none⟩]
def g90_4 : IL := [⟨some 15, .val (.iaddr 5 none (.t 11) (.t 13)), none⟩, ⟨some 16, .val (.load (some 5) (.t 15)), none⟩, ⟨some 5, .allocN 5 [.str [], .nils, .nils, .nils, .nils], none⟩, ⟨none, .store 5 (.t 5) (.t 16), none⟩]
def g90_5 : IL := [⟨some 17, .val (.iaddr 1 (some 3) (.t 3) (.c (.int .i64 0))), none⟩, ⟨some 18, .val (.load none (.t 17)), none⟩, ⟨some 19, .val (.faddr 0 (.t 5)), none⟩, ⟨some 20, .val (.load none (.t 19)), none⟩, ⟨some 21, .bsl 1 1 [.str []] [(0, 1, (.t 20))], none⟩, ⟨some 22, .app 1 16 9 (.t 18) (.t 21), none⟩, ⟨some 23, .val (.iaddr 1 (some 3) (.t 3) (.c (.int .i64 0))), none⟩, ⟨none, .store 1 (.t 23) (.t 22), none⟩]
def g90_6 : IL := [⟨some 24, .val (.bin .num .add (.t 13) (.c (.int .i64 1))), none⟩, ⟨some 13, .val (.mov (.t 24)), none⟩]
def l90_0 : RC := .gho (.drop 5) (.seq (.reg g90_3) (.seq (.cond (.t 14) (.skip) (.exit 0)) (.seq (.block 1 (.seq (.reg g90_4) (.reg g90_5))) (.reg g90_6))))
def g90_7 : IL := [⟨some 25, .val (.faddr 1 (.t 1)), none⟩, ⟨some 26, .val (.load none (.t 25)), none⟩, ⟨some 27, .val (.len 1 (.t 26)), none⟩, ⟨some 28, .val (.mov (.c (.int .i64 0))), none⟩]
def g90_8 : IL := [⟨some 29, .val (.bin .num .lss (.t 28) (.t 27)), none⟩]
def g90_9 : IL := [⟨some 30, .val (.iaddr 5 none (.t 26) (.t 28)), none⟩, ⟨some 31, .val (.load (some 5) (.t 30)), none⟩, ⟨some 7, .allocN 7 [.str [], .bool false, .nils, .nils, .nils], none⟩, ⟨none, .store 5 (.t 7) (.t 31), none⟩]
def g90_10 : IL := [⟨some 32, .val (.iaddr 1 (some 3) (.t 3) (.c (.int .i64 1))), none⟩, ⟨some 33, .val (.load none (.t 32)), none⟩, ⟨some 34, .val (.faddr 0 (.t 7)), none⟩, ⟨some 35, .val (.load none (.t 34)), none⟩, ⟨some 36, .bsl 1 1 [.str []] [(0, 1, (.t 35))], none⟩, ⟨some 37, .app 1 16 9 (.t 33) (.t 36), none⟩, ⟨some 38, .val (.iaddr 1 (some 3) (.t 3) (.c (.int .i64 1))), none⟩, ⟨none, .store 1 (.t 38) (.t 37), none⟩]
def g90_11 : IL := [⟨some 39, .val (.bin .num .add (.t 28) (.c (.int .i64 1))), none⟩, ⟨some 28, .val (.mov (.t 39)), none⟩]
def l90_1 : RC := .gho (.drop 7) (.seq (.reg g90_8) (.seq (.cond (.t 29) (.skip) (.exit 2)) (.seq (.block 3 (.seq (.reg g90_9) (.reg g90_10))) (.reg g90_11))))
def g90_12 : IL := [⟨some 40, .val (.faddr 2 (.t 1)), none⟩, ⟨some 41, .val (.load none (.t 40)), none⟩, ⟨some 42, .val (.len 1 (.t 41)), none⟩, ⟨some 43, .val (.mov (.c (.int .i64 0))), none⟩]
def g90_13 : IL := [⟨some 44, .val (.bin .num .lss (.t 43) (.t 42)), none⟩]
def g90_14 : IL := [⟨some 45, .val (.iaddr 3 none (.t 41) (.t 43)), none⟩, ⟨some 46, .val (.load (some 3) (.t 45)), none⟩, ⟨some 9, .allocN 9 [.str [], .nils, .nils], none⟩, ⟨none, .store 3 (.t 9) (.t 46), none⟩]
def g90_15 : IL := [⟨some 47, .val (.iaddr 1 (some 3) (.t 3) (.c (.int .i64 2))), none⟩, ⟨some 48, .val (.load none (.t 47)), none⟩, ⟨some 49, .val (.faddr 0 (.t 9)), none⟩, ⟨some 50, .val (.load none (.t 49)), none⟩, ⟨some 51, .bsl 1 1 [.str []] [(0, 1, (.t 50))], none⟩, ⟨some 52, .app 1 16 9 (.t 48) (.t 51), none⟩, ⟨some 53, .val (.iaddr 1 (some 3) (.t 3) (.c (.int .i64 2))), none⟩, ⟨none, .store 1 (.t 53) (.t 52), none⟩]
def g90_16 : IL := [⟨some 54, .val (.bin .num .add (.t 43) (.c (.int .i64 1))), none⟩, ⟨some 43, .val (.mov (.t 54)), none⟩]
def l90_2 : RC := .gho (.drop 9) (.seq (.reg g90_13) (.seq (.cond (.t 44) (.skip) (.exit 4)) (.seq (.block 5 (.seq (.reg g90_14) (.reg g90_15))) (.reg g90_16))))
def g90_17 : IL := [⟨some 55, .val (.load (some 3) (.t 3)), none⟩, ⟨none, .store 3 (.t 2) (.t 55), none⟩]
def r90 : RC := .seq (.reg g90_0) (.seq (.reg g90_1) (.gho (.vecc 3 0 1100 1) (.gho (.vecc 3 1 1101 1) (.gho (.vecc 3 2 1102 1) (.seq (.seq (.reg g90_2) (.block 0 (.loop l90_0))) (.seq (.seq (.reg g90_7) (.block 2 (.loop l90_1))) (.seq (.seq (.reg g90_12) (.block 4 (.loop l90_2))) (.seq (.reg g90_17) (.ret)))))))))
def o90 : List RR := [.cell 2 (some 3)]
theorem k90 : CT 90 56 r90 o90 := ck Tryz.func90 Tryz.ntmps90 (by decide +kernel)
def g91_0 : IL := [⟨some 6, .val (.mov (.t 1)), none⟩, ⟨some 7, .val (.un .not (.t 6)), none⟩]
def g91_1 : IL := [⟨some 8, .val (.mov (.t 0)), none⟩, ⟨some 9, .val (.mov (.t 0)), none⟩, ⟨some 10, .val (.nilck (.t 9)), none⟩, ⟨some 11, .val (.faddr 2 (.t 10)), none⟩, ⟨some 12, .val (.loado none (.t 11)), none⟩, ⟨some 13, .val (.mov (.t 0)), none⟩, ⟨some 14, .val (.nilck (.t 13)), none⟩, ⟨some 15, .val (.faddr 0 (.t 14)), none⟩, ⟨some 16, .val (.loado none (.t 15)), none⟩, ⟨some 17, .val (.mov (.t 0)), none⟩, ⟨some 18, .val (.nilck (.t 17)), none⟩, ⟨some 19, .val (.faddr 1 (.t 18)), none⟩, ⟨some 20, .val (.loado none (.t 19)), none⟩, ⟨some 21, .val (.mov (.t 2)), none⟩, ⟨some 22, .val (.build [.str [], .int .i64 0, .int .i64 0] [(0, 1, (.t 16)), (1, 1, (.t 20)), (2, 1, (.t 21))]), none⟩, ⟨some 23, .bsl 3 1 [.str [], .int .i64 0, .int .i64 0] [(0, 3, (.t 22))], none⟩, ⟨some 24, .app 3 32 192 (.t 12) (.t 23), none⟩, ⟨some 25, .val (.nilck (.t 8)), none⟩, ⟨some 26, .val (.faddr 2 (.t 25)), none⟩, ⟨none, .store 1 (.t 26) (.t 24), none⟩]
def r91 : RC := .seq (.reg g91_0) (.cond (.t 7) (.draw g91_1) (.skip))
def o91 : List RR := []
theorem k91 : CT 91 27 r91 o91 := ck Tryz.func91 Tryz.ntmps91 (by decide +kernel)
def g92_0 : IL := [⟨some 2, .val (.mov (.c (.bool false))), none⟩]
def g92_1 : IL := [⟨some 3, .val (.mov (.c (.int .i64 1))), none⟩]
def g92_2 : IL := [⟨some 4, .val (.mov (.t 3)), none⟩, ⟨some 5, .val (.mov (.t 0)), none⟩, ⟨some 6, .val (.len 1 (.t 5)), none⟩, ⟨some 7, .val (.bin .num .lss (.t 4) (.t 6)), none⟩]
def g92_4 : IL := [⟨some 10, .val (.mov (.t 0)), none⟩, ⟨some 11, .val (.mov (.t 3)), none⟩, ⟨some 12, .val (.iaddr 1 none (.t 10) (.t 11)), none⟩, ⟨some 13, .val (.loadr none (.t 12)), none⟩, ⟨some 14, .val (.mov (.t 0)), none⟩, ⟨some 15, .val (.mov (.t 3)), none⟩, ⟨some 16, .val (.bin .num .sub (.t 15) (.c (.int .i64 1))), none⟩, ⟨some 17, .val (.iaddr 1 none (.t 14) (.t 16)), none⟩, ⟨some 18, .val (.loadr none (.t 17)), none⟩, ⟨some 19, .val (.bin .str .leq (.t 13) (.t 18)), none⟩]
def g92_5 : IL := [⟨some 2, .val (.mov (.c (.bool false))), none⟩]
def g92_3 : IL := [⟨some 8, .val (.mov (.t 3)), none⟩, ⟨some 9, .val (.bin .num .add (.t 8) (.c (.int .i64 1))), none⟩, ⟨some 3, .val (.mov (.t 9)), none⟩]
def l92_0 : RC := .seq (.seq (.reg g92_2) (.cond (.t 7) (.skip) (.exit 0))) (.seq (.block 1 (.seq (.draw g92_4) (.cond (.t 19) (.seq (.reg g92_5) (.ret)) (.skip)))) (.reg g92_3))
def g92_6 : IL := [⟨some 2, .val (.mov (.c (.bool true))), none⟩]
def r92 : RC := .seq (.reg g92_0) (.seq (.seq (.reg g92_1) (.block 0 (.loop l92_0))) (.seq (.reg g92_6) (.ret)))
def o92 : List RR := [.tmp 2]
theorem k92 : CT 92 20 r92 o92 := ck Tryz.func92 Tryz.ntmps92 (by decide +kernel)
def g93_0 : IL := [⟨some 1, .boxN 1 (.t 0), none⟩, ⟨some 2, .val (.mov (.c (.bool false))), none⟩]
def g93_1 : IL := [⟨some 5, .val (.mov (.c (.int .i64 0))), none⟩]
def g93_2 : IL := [⟨some 6, .val (.bin .num .lss (.t 5) (.c (.int .i64 3))), none⟩]
def g93_3 : IL := [⟨some 7, .val (.mov (.t 5)), none⟩, ⟨some 3, .val (.mov (.t 7)), none⟩]
def g93_4 : IL := [⟨some 8, .val (.mov (.t 3)), none⟩, ⟨some 9, .val (.mov (.c (.int .i64 0))), none⟩]
def g93_5 : IL := [⟨some 10, .val (.bin .num .lss (.t 9) (.t 8)), none⟩]
def g93_6 : IL := [⟨some 11, .val (.mov (.t 9)), none⟩, ⟨some 4, .allocN 4 [.int .i64 0], none⟩, ⟨none, .store 1 (.t 4) (.t 11), none⟩]
def g93_7 : IL := [⟨some 12, .val (.mov (.t 3)), none⟩, ⟨some 13, .val (.iaddr 1 (some 3) (.t 1) (.t 12)), none⟩, ⟨some 14, .val (.load none (.t 13)), none⟩, ⟨some 15, .val (.mkfn (.func 111) [] [(.t 1), (.t 4)]), none⟩, ⟨some 16, .callF (.f 110) [(.t 14), (.t 15)], none⟩]
def g93_8 : IL := [⟨some 2, .val (.mov (.c (.bool false))), none⟩]
def g93_9 : IL := [⟨some 17, .val (.bin .num .add (.t 9) (.c (.int .i64 1))), none⟩, ⟨some 9, .val (.mov (.t 17)), none⟩]
def l93_0 : RC := .gho (.drop 4) (.seq (.reg g93_5) (.seq (.cond (.t 10) (.skip) (.exit 2)) (.seq (.block 3 (.seq (.reg g93_6) (.seq (.reg g93_7) (.cond (.t 16) (.seq (.reg g93_8) (.ret)) (.skip))))) (.reg g93_9))))
def g93_10 : IL := [⟨some 18, .val (.bin .num .add (.t 5) (.c (.int .i64 1))), none⟩, ⟨some 5, .val (.mov (.t 18)), none⟩]
def l93_1 : RC := .gho (.drop 4) (.seq (.reg g93_2) (.seq (.cond (.t 6) (.skip) (.exit 0)) (.seq (.block 1 (.seq (.reg g93_3) (.seq (.reg g93_4) (.block 2 (.loop l93_0))))) (.reg g93_10))))
def g93_11 : IL := [⟨some 2, .val (.mov (.c (.bool true))), none⟩]
def r93 : RC := .seq (.reg g93_0) (.seq (.seq (.reg g93_1) (.block 0 (.loop l93_1))) (.seq (.reg g93_11) (.ret)))
def o93 : List RR := [.tmp 2]
theorem k93 : CT 93 19 r93 o93 := ck Tryz.func93 Tryz.ntmps93 (by decide +kernel)
def g94_0 : IL := [⟨some 1, .boxN 1 (.t 0), none⟩, ⟨some 2, .val (.mov (.c (.nilm))), none⟩]
def g94_1 : IL := [⟨some 9, .mkm 9, none⟩, ⟨some 3, .allocN 3 [.nilm], none⟩, ⟨none, .store 1 (.t 3) (.t 9), none⟩]
def g94_2 : IL := [⟨some 10, .val (.faddr 0 (.t 1)), none⟩, ⟨some 11, .val (.load none (.t 10)), none⟩, ⟨some 12, .val (.len 1 (.t 11)), none⟩, ⟨some 13, .val (.bin .num .add (.t 12) (.c (.int .i64 1))), none⟩, ⟨some 14, .val (.mov (.c (.int .i64 0))), none⟩]
def g94_3 : IL := [⟨some 15, .val (.bin .num .lss (.t 14) (.t 13)), none⟩]
def g94_4 : IL := [⟨some 16, .val (.faddr 0 (.t 1)), none⟩, ⟨some 17, .val (.load none (.t 16)), none⟩, ⟨some 18, .val (.len 1 (.t 17)), none⟩, ⟨some 19, .val (.mov (.c (.int .i64 0))), none⟩]
def g94_5 : IL := [⟨some 20, .val (.bin .num .lss (.t 19) (.t 18)), none⟩]
def g94_6 : IL := [⟨some 21, .val (.iaddr 5 none (.t 17) (.t 19)), none⟩, ⟨some 22, .val (.load (some 5) (.t 21)), none⟩, ⟨some 5, .allocN 5 [.str [], .nils, .nils, .nils, .nils], none⟩, ⟨none, .store 5 (.t 5) (.t 22), none⟩]
def g94_7 : IL := [⟨some 24, .val (.load (some 3) (.t 1)), none⟩, ⟨some 25, .val (.faddr 0 (.t 5)), none⟩, ⟨some 26, .val (.load none (.t 25)), none⟩, ⟨some 27, .call (.f 112) [(.t 24), (.t 26)], none⟩, ⟨some 23, .val (.mov (.t 27)), none⟩, ⟨some 28, .val (.ext (.t 23) 0), none⟩, ⟨some 29, .val (.ext (.t 23) 1), none⟩, ⟨some 6, .allocN 6 [.str [], .nils, .nils, .nils, .nils], none⟩, ⟨none, .store 5 (.t 6) (.t 28), none⟩, ⟨some 7, .val (.mov (.t 29)), none⟩]
def g94_8 : IL := [⟨some 30, .val (.load (some 5) (.t 6)), none⟩, ⟨some 31, .call (.f 113) [(.t 30)], none⟩, ⟨some 32, .val (.mkfn (.func 114) [] [(.t 1), (.t 3)]), none⟩, ⟨some 33, .callF (.f 110) [(.t 31), (.t 32)], none⟩, ⟨some 8, .val (.mov (.t 33)), none⟩]
def g94_9 : IL := [⟨some 34, .val (.mov (.t 8)), none⟩, ⟨some 35, .val (.un .not (.t 34)), none⟩]
def g94_10 : IL := [⟨some 36, .val (.load none (.t 3)), none⟩, ⟨some 37, .val (.faddr 0 (.t 5)), none⟩, ⟨some 38, .val (.load none (.t 37)), none⟩, ⟨none, .mput (.t 36) (.t 38) (.c (.bool true)), none⟩]
def g94_11 : IL := [⟨some 39, .val (.bin .num .add (.t 19) (.c (.int .i64 1))), none⟩, ⟨some 19, .val (.mov (.t 39)), none⟩]
def l94_0 : RC := .gho (.drop 6) (.gho (.drop 5) (.seq (.reg g94_5) (.seq (.cond (.t 20) (.skip) (.exit 2)) (.seq (.block 3 (.seq (.reg g94_6) (.seq (.reg g94_7) (.seq (.reg g94_8) (.seq (.reg g94_9) (.cond (.t 35) (.reg g94_10) (.skip))))))) (.reg g94_11)))))
def g94_12 : IL := [⟨some 40, .val (.bin .num .add (.t 14) (.c (.int .i64 1))), none⟩, ⟨some 14, .val (.mov (.t 40)), none⟩]
def l94_1 : RC := .gho (.drop 6) (.gho (.drop 5) (.seq (.reg g94_3) (.seq (.cond (.t 15) (.skip) (.exit 0)) (.seq (.block 1 (.seq (.reg g94_4) (.block 2 (.loop l94_0)))) (.reg g94_12)))))
def g94_13 : IL := [⟨some 41, .val (.load none (.t 3)), none⟩, ⟨some 2, .val (.mov (.t 41)), none⟩]
def r94 : RC := .seq (.reg g94_0) (.seq (.reg g94_1) (.seq (.seq (.reg g94_2) (.block 0 (.loop l94_1))) (.seq (.reg g94_13) (.ret))))
def o94 : List RR := [.tmp 2]
theorem k94 : CT 94 42 r94 o94 := ck Tryz.func94 Tryz.ntmps94 (by decide +kernel)
def g95_0 : IL := [⟨some 3, .boxN 3 (.t 0), none⟩, ⟨some 4, .boxN 4 (.t 1), none⟩, ⟨some 6, .val (.mov (.c (.nils))), none⟩]
def g95_1 : IL := [⟨some 11, .val (.faddr 0 (.t 4)), none⟩, ⟨some 12, .val (.load none (.t 11)), none⟩, ⟨some 13, .val (.build [.str [], .int .i64 0, .nils] [(0, 1, (.t 12)), (1, 1, (.c (.int .i64 (-1))))]), none⟩, ⟨some 14, .boxN 14 (.t 13), none⟩, ⟨some 7, .val (.mov (.t 14)), none⟩]
def g95_2 : IL := [⟨some 15, .val (.mov (.t 7)), none⟩, ⟨some 16, .val (.faddr 0 (.t 4)), none⟩, ⟨some 17, .val (.load none (.t 16)), none⟩, ⟨some 18, .call (.f 115) [(.t 17)], none⟩, ⟨some 19, .callF (.f 91) [(.t 15), (.t 18), (.c (.int .i64 8))], none⟩]
def g95_3 : IL := [⟨some 20, .val (.mov (.t 7)), none⟩, ⟨some 21, .val (.faddr 1 (.t 4)), none⟩, ⟨some 22, .val (.load none (.t 21)), none⟩, ⟨some 23, .val (.len 1 (.t 22)), none⟩, ⟨some 24, .val (.bin .num .leq (.t 23) (.c (.int .i64 64))), none⟩, ⟨some 25, .val (.mov (.t 24)), none⟩, ⟨some 26, .val (.faddr 2 (.t 4)), (some (25, true))⟩, ⟨some 27, .val (.load none (.t 26)), (some (25, true))⟩, ⟨some 28, .val (.len 1 (.t 27)), (some (25, true))⟩, ⟨some 29, .val (.faddr 3 (.t 4)), (some (25, true))⟩, ⟨some 30, .val (.load none (.t 29)), (some (25, true))⟩, ⟨some 31, .val (.len 1 (.t 30)), (some (25, true))⟩, ⟨some 32, .val (.mnx true (.t 28) (.t 31)), (some (25, true))⟩, ⟨some 33, .val (.bin .num .leq (.t 32) (.c (.int .i64 16))), (some (25, true))⟩, ⟨some 34, .val (.pick (.t 25) (.t 33) (.c (.bool false))), none⟩, ⟨some 35, .callF (.f 91) [(.t 20), (.t 34), (.c (.int .i64 3))], none⟩]
def g95_4 : IL := [⟨some 36, .val (.faddr 1 (.t 4)), none⟩, ⟨some 37, .val (.load none (.t 36)), none⟩, ⟨some 38, .val (.len 1 (.t 37)), none⟩, ⟨some 39, .val (.mov (.c (.int .i64 0))), none⟩]
def g95_5 : IL := [⟨some 40, .val (.bin .num .lss (.t 39) (.t 38)), none⟩]
def g95_6 : IL := [⟨some 41, .val (.mov (.t 39)), none⟩, ⟨some 8, .val (.mov (.t 41)), none⟩]
def g95_7 : IL := [⟨some 42, .val (.mov (.t 7)), none⟩, ⟨some 43, .val (.load (some 3) (.t 3)), none⟩, ⟨some 44, .val (.load (some 5) (.t 4)), none⟩, ⟨some 45, .val (.mov (.t 8)), none⟩, ⟨some 46, .callF (.f 116) [(.t 42), (.t 43), (.t 44), (.t 45)], none⟩]
def g95_8 : IL := [⟨some 47, .val (.bin .num .add (.t 39) (.c (.int .i64 1))), none⟩, ⟨some 39, .val (.mov (.t 47)), none⟩]
def l95_0 : RC := .seq (.reg g95_5) (.seq (.cond (.t 40) (.skip) (.exit 0)) (.seq (.block 1 (.seq (.reg g95_6) (.reg g95_7))) (.reg g95_8)))
def g95_9 : IL := [⟨some 48, .val (.mov (.t 7)), none⟩, ⟨some 49, .val (.faddr 2 (.t 4)), none⟩, ⟨some 50, .val (.load none (.t 49)), none⟩, ⟨some 51, .callF (.f 117) [(.t 48), (.t 50), (.c (.int .i64 1)), (.c (.int .i64 65535))], none⟩]
def g95_10 : IL := [⟨some 52, .val (.faddr 3 (.t 4)), none⟩, ⟨some 53, .val (.load none (.t 52)), none⟩, ⟨some 54, .val (.len 1 (.t 53)), none⟩, ⟨some 55, .val (.mov (.c (.int .i64 0))), none⟩]
def g95_11 : IL := [⟨some 56, .val (.bin .num .lss (.t 55) (.t 54)), none⟩]
def g95_12 : IL := [⟨some 57, .val (.iaddr 1 none (.t 53) (.t 55)), none⟩, ⟨some 58, .val (.load none (.t 57)), none⟩, ⟨some 10, .val (.mov (.t 58)), none⟩]
def g95_13 : IL := [⟨some 59, .val (.mov (.t 7)), none⟩, ⟨some 60, .val (.mov (.t 10)), none⟩, ⟨some 61, .call (.f 118) [(.t 60)], none⟩, ⟨some 62, .callF (.f 91) [(.t 59), (.t 61), (.c (.int .i64 7))], none⟩]
def g95_14 : IL := [⟨some 63, .val (.bin .num .add (.t 55) (.c (.int .i64 1))), none⟩, ⟨some 55, .val (.mov (.t 63)), none⟩]
def l95_1 : RC := .seq (.reg g95_11) (.seq (.cond (.t 56) (.skip) (.exit 2)) (.seq (.block 3 (.seq (.reg g95_12) (.reg g95_13))) (.reg g95_14)))
def g95_15 : IL := [⟨some 64, .val (.mov (.t 7)), none⟩, ⟨some 65, .val (.faddr 4 (.t 4)), none⟩, ⟨some 66, .val (.load none (.t 65)), none⟩, ⟨some 67, .callF (.f 119) [(.t 64), (.t 66), (.c (.int .i64 1))], none⟩]
def g95_16 : IL := [⟨some 68, .val (.mov (.t 7)), none⟩, ⟨some 69, .val (.load (some 3) (.t 3)), none⟩, ⟨some 70, .val (.load (some 5) (.t 4)), none⟩, ⟨some 71, .val (.mov (.t 2)), none⟩, ⟨some 72, .call (.f 120) [(.t 69), (.t 70), (.t 71)], none⟩, ⟨some 73, .val (.un .not (.t 72)), none⟩, ⟨some 74, .callF (.f 91) [(.t 68), (.t 73), (.c (.int .i64 19))], none⟩]
def g95_17 : IL := [⟨some 75, .val (.mov (.t 7)), none⟩, ⟨some 76, .val (.nilck (.t 75)), none⟩, ⟨some 77, .val (.faddr 2 (.t 76)), none⟩, ⟨some 78, .val (.load none (.t 77)), none⟩, ⟨some 6, .val (.mov (.t 78)), none⟩]
def r95 : RC := .seq (.reg g95_0) (.seq (.reg g95_1) (.seq (.reg g95_2) (.seq (.reg g95_3) (.seq (.seq (.reg g95_4) (.block 0 (.loop l95_0))) (.seq (.reg g95_9) (.seq (.seq (.reg g95_10) (.block 2 (.loop l95_1))) (.seq (.reg g95_15) (.seq (.reg g95_16) (.seq (.reg g95_17) (.ret))))))))))
def o95 : List RR := [.tmp 6]
theorem k95 : CT 95 79 r95 o95 := ck Tryz.func95 Tryz.ntmps95 (by decide +kernel)
def g97_0 : IL := [⟨some 2, .boxN 2 (.t 0), none⟩, ⟨some 3, .boxN 3 (.t 1), none⟩, ⟨some 4, .val (.mov (.c (.nils))), none⟩]
def g97_1 : IL := [⟨some 12, .val (.faddr 0 (.t 3)), none⟩, ⟨some 13, .val (.load none (.t 12)), none⟩, ⟨some 14, .val (.build [.str [], .int .i64 0, .nils] [(0, 1, (.t 13)), (1, 1, (.c (.int .i64 (-1))))]), none⟩, ⟨some 15, .boxN 15 (.t 14), none⟩, ⟨some 5, .val (.mov (.t 15)), none⟩]
def g97_2 : IL := [⟨some 16, .val (.mov (.t 5)), none⟩, ⟨some 17, .val (.faddr 0 (.t 3)), none⟩, ⟨some 18, .val (.load none (.t 17)), none⟩, ⟨some 19, .call (.f 115) [(.t 18)], none⟩, ⟨some 20, .callF (.f 91) [(.t 16), (.t 19), (.c (.int .i64 8))], none⟩]
def g97_3 : IL := [⟨some 21, .val (.mov (.t 5)), none⟩, ⟨some 22, .val (.faddr 1 (.t 3)), none⟩, ⟨some 23, .val (.load none (.t 22)), none⟩, ⟨some 24, .val (.len 1 (.t 23)), none⟩, ⟨some 25, .val (.bin .num .leq (.t 24) (.c (.int .i64 64))), none⟩, ⟨some 26, .callF (.f 91) [(.t 21), (.t 25), (.c (.int .i64 3))], none⟩]
def g97_4 : IL := [⟨some 27, .val (.faddr 1 (.t 3)), none⟩, ⟨some 28, .val (.load none (.t 27)), none⟩, ⟨some 29, .val (.len 1 (.t 28)), none⟩, ⟨some 30, .val (.mov (.c (.int .i64 0))), none⟩]
def g97_5 : IL := [⟨some 31, .val (.bin .num .lss (.t 30) (.t 29)), none⟩]
def g97_6 : IL := [⟨some 32, .val (.mov (.t 30)), none⟩, ⟨some 33, .val (.iaddr 5 none (.t 28) (.t 30)), none⟩, ⟨some 34, .val (.load (some 5) (.t 33)), none⟩, ⟨some 7, .allocN 7 [.str [], .str [], .str [], .int .i64 0, .nils], none⟩, ⟨some 6, .val (.mov (.t 32)), none⟩, ⟨none, .store 5 (.t 7) (.t 34), none⟩]
def g97_7 : IL := [⟨some 35, .val (.mov (.t 5)), none⟩, ⟨some 36, .val (.mov (.t 6)), none⟩, ⟨some 37, .val (.nilck (.t 35)), none⟩, ⟨some 38, .val (.faddr 1 (.t 37)), none⟩, ⟨none, .store 1 (.t 38) (.t 36), none⟩]
def g97_8 : IL := [⟨some 39, .val (.mov (.t 5)), none⟩, ⟨some 40, .val (.faddr 0 (.t 7)), none⟩, ⟨some 41, .val (.load none (.t 40)), none⟩, ⟨some 42, .call (.f 121) [(.t 41)], none⟩, ⟨some 43, .callF (.f 91) [(.t 39), (.t 42), (.c (.int .i64 8))], none⟩]
def g97_9 : IL := [⟨some 44, .val (.mov (.t 5)), none⟩, ⟨some 45, .val (.mov (.t 6)), none⟩, ⟨some 46, .val (.bin .num .eql (.t 45) (.c (.int .i64 0))), none⟩, ⟨some 47, .val (.mov (.t 46)), none⟩, ⟨some 48, .val (.faddr 0 (.t 7)), (some (47, false))⟩, ⟨some 49, .val (.loadv 0 7 none (.t 48)), (some (47, false))⟩, ⟨some 50, .val (.faddr 1 (.t 3)), (some (47, false))⟩, ⟨some 51, .val (.loadv 0 3 none (.t 50)), (some (47, false))⟩, ⟨some 52, .val (.mov (.t 6)), (some (47, false))⟩, ⟨some 53, .val (.bin .num .sub (.t 52) (.c (.int .i64 1))), (some (47, false))⟩, ⟨some 54, .val (.iaddr 5 none (.t 51) (.t 53)), (some (47, false))⟩, ⟨some 55, .val (.faddr 0 (.t 54)), (some (47, false))⟩, ⟨some 56, .val (.loadr none (.t 55)), (some (47, false))⟩, ⟨some 57, .val (.bin .str .gtr (.t 49) (.t 56)), (some (47, false))⟩, ⟨some 58, .val (.pick (.t 47) (.c (.bool true)) (.t 57)), none⟩, ⟨some 59, .callF (.f 91) [(.t 44), (.t 58), (.c (.int .i64 11))], none⟩]
def g97_10 : IL := [⟨some 61, .val (.load (some 3) (.t 2)), none⟩, ⟨some 62, .val (.faddr 1 (.t 7)), none⟩, ⟨some 63, .val (.load none (.t 62)), none⟩, ⟨some 64, .call (.f 112) [(.t 61), (.t 63)], none⟩, ⟨some 60, .val (.mov (.t 64)), none⟩, ⟨some 65, .val (.ext (.t 60) 0), none⟩, ⟨some 66, .val (.ext (.t 60) 1), none⟩, ⟨some 8, .allocN 8 [.str [], .nils, .nils, .nils, .nils], none⟩, ⟨none, .store 5 (.t 8) (.t 65), none⟩, ⟨some 9, .val (.mov (.t 66)), none⟩]
def g97_11 : IL := [⟨some 68, .val (.load (some 3) (.t 2)), none⟩, ⟨some 69, .val (.faddr 2 (.t 7)), none⟩, ⟨some 70, .val (.load none (.t 69)), none⟩, ⟨some 71, .call (.f 112) [(.t 68), (.t 70)], none⟩, ⟨some 67, .val (.mov (.t 71)), none⟩, ⟨some 72, .val (.ext (.t 67) 0), none⟩, ⟨some 73, .val (.ext (.t 67) 1), none⟩, ⟨some 10, .allocN 10 [.str [], .nils, .nils, .nils, .nils], none⟩, ⟨none, .store 5 (.t 10) (.t 72), none⟩, ⟨some 11, .val (.mov (.t 73)), none⟩]
def g97_12 : IL := [⟨some 74, .val (.mov (.t 5)), none⟩, ⟨some 75, .val (.mov (.t 9)), none⟩, ⟨some 76, .val (.mov (.t 75)), none⟩, ⟨some 77, .val (.mov (.t 11)), (some (76, true))⟩, ⟨some 78, .val (.pick (.t 76) (.t 77) (.c (.bool false))), none⟩, ⟨some 79, .callF (.f 91) [(.t 74), (.t 78), (.c (.int .i64 12))], none⟩]
def g97_13 : IL := [⟨some 80, .val (.mov (.t 5)), none⟩, ⟨some 81, .val (.faddr 3 (.t 7)), none⟩, ⟨some 82, .val (.load none (.t 81)), none⟩, ⟨some 83, .val (.bin .num .geq (.t 82) (.c (.int .i64 1))), none⟩, ⟨some 84, .val (.mov (.t 83)), none⟩, ⟨some 85, .val (.faddr 3 (.t 7)), (some (84, true))⟩, ⟨some 86, .val (.load none (.t 85)), (some (84, true))⟩, ⟨some 87, .val (.bin .num .leq (.t 86) (.c (.int .i64 4))), (some (84, true))⟩, ⟨some 88, .val (.pick (.t 84) (.t 87) (.c (.bool false))), none⟩, ⟨some 89, .callF (.f 91) [(.t 80), (.t 88), (.c (.int .i64 1))], none⟩]
def g97_14 : IL := [⟨some 90, .val (.mov (.t 5)), none⟩, ⟨some 91, .val (.faddr 4 (.t 7)), none⟩, ⟨some 92, .val (.load none (.t 91)), none⟩, ⟨some 93, .callF (.f 119) [(.t 90), (.t 92), (.c (.int .i64 6))], none⟩]
def g97_15 : IL := [⟨some 94, .val (.bin .num .add (.t 30) (.c (.int .i64 1))), none⟩, ⟨some 30, .val (.mov (.t 94)), none⟩]
def l97_0 : RC := .gho (.drop 10) (.gho (.drop 8) (.gho (.drop 7) (.seq (.reg g97_5) (.seq (.cond (.t 31) (.skip) (.exit 0)) (.seq (.block 1 (.seq (.reg g97_6) (.seq (.reg g97_7) (.seq (.reg g97_8) (.seq (.draw g97_9) (.seq (.reg g97_10) (.seq (.reg g97_11) (.seq (.reg g97_12) (.seq (.reg g97_13) (.reg g97_14)))))))))) (.reg g97_15))))))
def g97_16 : IL := [⟨some 95, .val (.mov (.t 5)), none⟩, ⟨some 96, .val (.nilck (.t 95)), none⟩, ⟨some 97, .val (.faddr 1 (.t 96)), none⟩, ⟨none, .store 1 (.t 97) (.c (.int .i64 (-1))), none⟩]
def g97_17 : IL := [⟨some 98, .val (.mov (.t 5)), none⟩, ⟨some 99, .val (.faddr 2 (.t 3)), none⟩, ⟨some 100, .val (.load none (.t 99)), none⟩, ⟨some 101, .callF (.f 119) [(.t 98), (.t 100), (.c (.int .i64 5))], none⟩]
def g97_18 : IL := [⟨some 102, .val (.mov (.t 5)), none⟩, ⟨some 103, .val (.nilck (.t 102)), none⟩, ⟨some 104, .val (.faddr 2 (.t 103)), none⟩, ⟨some 105, .val (.load none (.t 104)), none⟩, ⟨some 4, .val (.mov (.t 105)), none⟩]
def r97 : RC := .seq (.reg g97_0) (.seq (.reg g97_1) (.seq (.reg g97_2) (.seq (.reg g97_3) (.seq (.seq (.reg g97_4) (.block 0 (.loop l97_0))) (.seq (.reg g97_16) (.seq (.reg g97_17) (.seq (.reg g97_18) (.ret))))))))
def o97 : List RR := [.tmp 4]
theorem k97 : CT 97 106 r97 o97 := ck Tryz.func97 Tryz.ntmps97 (by decide +kernel)
def g98_0 : IL := [⟨some 4, .val (.mov (.c (.int .i64 0))), none⟩]
def g98_1 : IL := [⟨some 6, .val (.mov (.t 0)), none⟩, ⟨some 7, .val (.len 1 (.t 6)), none⟩, ⟨some 8, .val (.mov (.c (.int .i64 0))), none⟩]
def g98_2 : IL := [⟨some 9, .val (.bin .num .lss (.t 8) (.t 7)), none⟩]
def g98_3 : IL := [⟨some 10, .val (.mov (.t 8)), none⟩, ⟨some 5, .val (.mov (.t 10)), none⟩]
def g98_4 : IL := [⟨some 11, .val (.mov (.t 1)), none⟩, ⟨some 12, .val (.mov (.t 0)), none⟩, ⟨some 13, .val (.mov (.t 5)), none⟩, ⟨some 14, .val (.iaddr 5 none (.t 12) (.t 13)), none⟩, ⟨some 15, .val (.load (some 5) (.t 14)), none⟩, ⟨some 16, .callF (.t 11) [(.t 15)], none⟩]
def g98_5 : IL := [⟨some 17, .val (.mov (.t 5)), none⟩, ⟨some 4, .val (.mov (.t 17)), none⟩]
def g98_6 : IL := [⟨some 18, .val (.bin .num .add (.t 8) (.c (.int .i64 1))), none⟩, ⟨some 8, .val (.mov (.t 18)), none⟩]
def l98_0 : RC := .seq (.reg g98_2) (.seq (.cond (.t 9) (.skip) (.exit 0)) (.seq (.block 1 (.seq (.reg g98_3) (.seq (.reg g98_4) (.cond (.t 16) (.seq (.reg g98_5) (.ret)) (.skip))))) (.reg g98_6)))
def g98_7 : IL := [⟨some 4, .val (.mov (.c (.int .i64 (-1)))), none⟩]
def r98 : RC := .seq (.reg g98_0) (.seq (.seq (.reg g98_1) (.block 0 (.loop l98_0))) (.seq (.reg g98_7) (.ret)))
def o98 : List RR := [.tmp 4]
theorem k98 : CT 98 19 r98 o98 := ck Tryz.func98 Tryz.ntmps98 (by decide +kernel)
def g99_0 : IL := [⟨some 2, .boxN 2 (.t 0), none⟩, ⟨some 3, .val (.mov (.c (.bool false))), none⟩]
def g99_1 : IL := [⟨some 4, .val (.faddr 0 (.t 2)), none⟩, ⟨some 5, .val (.load none (.t 4)), none⟩, ⟨some 6, .val (.faddr 1 (.t 1)), none⟩, ⟨some 7, .val (.load none (.t 6)), none⟩, ⟨some 8, .val (.bin .str .eql (.t 5) (.t 7)), none⟩, ⟨some 3, .val (.mov (.t 8)), none⟩]
def r99 : RC := .seq (.reg g99_0) (.seq (.reg g99_1) (.ret))
def o99 : List RR := [.tmp 3]
theorem k99 : CT 99 9 r99 o99 := ck Tryz.func99 Tryz.ntmps99 (by decide +kernel)
def g100_0 : IL := [⟨some 4, .val (.mov (.c (.int .i64 0))), none⟩]
def g100_1 : IL := [⟨some 6, .val (.mov (.t 0)), none⟩, ⟨some 7, .val (.len 1 (.t 6)), none⟩, ⟨some 8, .val (.mov (.c (.int .i64 0))), none⟩]
def g100_2 : IL := [⟨some 9, .val (.bin .num .lss (.t 8) (.t 7)), none⟩]
def g100_3 : IL := [⟨some 10, .val (.mov (.t 8)), none⟩, ⟨some 5, .val (.mov (.t 10)), none⟩]
def g100_4 : IL := [⟨some 11, .val (.mov (.t 1)), none⟩, ⟨some 12, .val (.mov (.t 0)), none⟩, ⟨some 13, .val (.mov (.t 5)), none⟩, ⟨some 14, .val (.iaddr 5 none (.t 12) (.t 13)), none⟩, ⟨some 15, .val (.load (some 5) (.t 14)), none⟩, ⟨some 16, .callF (.t 11) [(.t 15)], none⟩]
def g100_5 : IL := [⟨some 17, .val (.mov (.t 5)), none⟩, ⟨some 4, .val (.mov (.t 17)), none⟩]
def g100_6 : IL := [⟨some 18, .val (.bin .num .add (.t 8) (.c (.int .i64 1))), none⟩, ⟨some 8, .val (.mov (.t 18)), none⟩]
def l100_0 : RC := .seq (.reg g100_2) (.seq (.cond (.t 9) (.skip) (.exit 0)) (.seq (.block 1 (.seq (.reg g100_3) (.seq (.reg g100_4) (.cond (.t 16) (.seq (.reg g100_5) (.ret)) (.skip))))) (.reg g100_6)))
def g100_7 : IL := [⟨some 4, .val (.mov (.c (.int .i64 (-1)))), none⟩]
def r100 : RC := .seq (.reg g100_0) (.seq (.seq (.reg g100_1) (.block 0 (.loop l100_0))) (.seq (.reg g100_7) (.ret)))
def o100 : List RR := [.tmp 4]
theorem k100 : CT 100 19 r100 o100 := ck Tryz.func100 Tryz.ntmps100 (by decide +kernel)
def g101_0 : IL := [⟨some 2, .boxN 2 (.t 0), none⟩, ⟨some 3, .val (.mov (.c (.bool false))), none⟩]
def g101_1 : IL := [⟨some 4, .val (.faddr 0 (.t 2)), none⟩, ⟨some 5, .val (.load none (.t 4)), none⟩, ⟨some 6, .val (.faddr 1 (.t 1)), none⟩, ⟨some 7, .val (.load none (.t 6)), none⟩, ⟨some 8, .val (.bin .str .eql (.t 5) (.t 7)), none⟩, ⟨some 3, .val (.mov (.t 8)), none⟩]
def r101 : RC := .seq (.reg g101_0) (.seq (.reg g101_1) (.ret))
def o101 : List RR := [.tmp 3]
theorem k101 : CT 101 9 r101 o101 := ck Tryz.func101 Tryz.ntmps101 (by decide +kernel)
def g102_0 : IL := [⟨some 3, .boxN 3 (.t 1), none⟩, ⟨some 4, .val (.mov (.c (.int .i64 0))), none⟩]
def g102_1 : IL := [⟨some 5, .val (.mov (.t 0)), none⟩, ⟨some 6, .val (.mkfn (.func 126) [] [(.t 3)]), none⟩, ⟨some 7, .callF (.f 125) [(.t 5), (.t 6)], none⟩, ⟨some 4, .val (.mov (.t 7)), none⟩]
def r102 : RC := .seq (.reg g102_0) (.seq (.reg g102_1) (.ret))
def o102 : List RR := [.tmp 4]
theorem k102 : CT 102 8 r102 o102 := ck Tryz.func102 Tryz.ntmps102 (by decide +kernel)
def g103_0 : IL := [⟨some 4, .val (.mov (.c (.int .i64 0))), none⟩]
def g103_1 : IL := [⟨some 6, .val (.mov (.t 0)), none⟩, ⟨some 7, .val (.len 1 (.t 6)), none⟩, ⟨some 8, .val (.mov (.c (.int .i64 0))), none⟩]
def g103_2 : IL := [⟨some 9, .val (.bin .num .lss (.t 8) (.t 7)), none⟩]
def g103_3 : IL := [⟨some 10, .val (.mov (.t 8)), none⟩, ⟨some 5, .val (.mov (.t 10)), none⟩]
def g103_4 : IL := [⟨some 11, .val (.mov (.t 1)), none⟩, ⟨some 12, .val (.mov (.t 0)), none⟩, ⟨some 13, .val (.mov (.t 5)), none⟩, ⟨some 14, .val (.iaddr 8 none (.t 12) (.t 13)), none⟩, ⟨some 15, .val (.load (some 8) (.t 14)), none⟩, ⟨some 16, .callF (.t 11) [(.t 15)], none⟩]
def g103_5 : IL := [⟨some 17, .val (.mov (.t 5)), none⟩, ⟨some 4, .val (.mov (.t 17)), none⟩]
def g103_6 : IL := [⟨some 18, .val (.bin .num .add (.t 8) (.c (.int .i64 1))), none⟩, ⟨some 8, .val (.mov (.t 18)), none⟩]
def l103_0 : RC := .seq (.reg g103_2) (.seq (.cond (.t 9) (.skip) (.exit 0)) (.seq (.block 1 (.seq (.reg g103_3) (.seq (.reg g103_4) (.cond (.t 16) (.seq (.reg g103_5) (.ret)) (.skip))))) (.reg g103_6)))
def g103_7 : IL := [⟨some 4, .val (.mov (.c (.int .i64 (-1)))), none⟩]
def r103 : RC := .seq (.reg g103_0) (.seq (.seq (.reg g103_1) (.block 0 (.loop l103_0))) (.seq (.reg g103_7) (.ret)))
def o103 : List RR := [.tmp 4]
theorem k103 : CT 103 19 r103 o103 := ck Tryz.func103 Tryz.ntmps103 (by decide +kernel)
def g104_0 : IL := [⟨some 6, .val (.mov (.c (.int .i64 0))), none⟩]
def g104_1 : IL := [⟨some 10, .val (.mov (.t 0)), none⟩, ⟨some 11, .val (.mov (.t 1)), none⟩, ⟨some 12, .val (.mov (.t 2)), none⟩, ⟨some 13, .call (.f 127) [(.t 10), (.t 11), (.t 12)], none⟩, ⟨some 14, .val (.un .not (.t 13)), none⟩, ⟨some 9, .val (.mov (.t 14)), none⟩]
def g104_2 : IL := [⟨some 6, .val (.mov (.c (.int .i64 0))), none⟩]
def g104_3 : IL := [⟨some 16, .val (.mov (.t 1)), none⟩, ⟨some 17, .val (.mov (.t 2)), none⟩, ⟨some 18, .val (.bin .num .eql (.t 16) (.t 17)), none⟩, ⟨some 15, .val (.mov (.t 18)), none⟩]
def g104_4 : IL := [⟨some 6, .val (.mov (.c (.int .i64 2))), none⟩]
def g104_5 : IL := [⟨some 20, .val (.mov (.t 1)), none⟩, ⟨some 21, .call (.f 128) [(.t 20)], none⟩, ⟨some 19, .val (.mov (.t 21)), none⟩]
def g104_6 : IL := [⟨some 22, .val (.mov (.t 1)), none⟩, ⟨some 23, .val (.bin .num .sub (.t 22) (.c (.int .i64 1))), none⟩, ⟨some 24, .val (.iaddr 2 (some 9) (.g 1 gl1) (.t 23)), none⟩, ⟨some 25, .val (.loadr (some 2) (.t 24)), none⟩, ⟨some 26, .val (.mov (.t 2)), none⟩, ⟨some 27, .val (.bin .num .sub (.t 26) (.c (.int .i64 1))), none⟩, ⟨some 28, .val (.iaddr 2 (some 9) (.g 1 gl1) (.t 27)), none⟩, ⟨some 29, .val (.loadr (some 2) (.t 28)), none⟩, ⟨some 7, .allocN 7 [.int .u64 0, .int .u64 0], none⟩, ⟨some 8, .allocN 8 [.int .u64 0, .int .u64 0], none⟩, ⟨none, .storev 0 7 2 (.t 7) (.t 25), none⟩, ⟨none, .storev 0 8 2 (.t 8) (.t 29), none⟩]
def g104_7 : IL := [⟨some 30, .val (.faddr 0 (.t 7)), none⟩, ⟨some 31, .val (.load none (.t 30)), none⟩, ⟨some 32, .val (.faddr 0 (.t 8)), none⟩, ⟨some 33, .val (.load none (.t 32)), none⟩, ⟨some 34, .val (.bin .num .gtr (.t 31) (.t 33)), none⟩, ⟨some 35, .val (.mov (.t 34)), none⟩, ⟨some 36, .val (.faddr 1 (.t 7)), (some (35, false))⟩, ⟨some 37, .val (.load none (.t 36)), (some (35, false))⟩, ⟨some 38, .val (.faddr 1 (.t 8)), (some (35, false))⟩, ⟨some 39, .val (.load none (.t 38)), (some (35, false))⟩, ⟨some 40, .val (.bin .num .gtr (.t 37) (.t 39)), (some (35, false))⟩, ⟨some 41, .val (.pick (.t 35) (.c (.bool true)) (.t 40)), none⟩]
def g104_8 : IL := [⟨some 6, .val (.mov (.c (.int .i64 1))), none⟩]
def g104_9 : IL := [⟨some 6, .val (.mov (.c (.int .i64 2))), none⟩]
def g104_10 : IL := [⟨some 43, .val (.mov (.t 1)), none⟩, ⟨some 44, .val (.bin .num .eql (.t 43) (.c (.int .i64 8))), none⟩, ⟨some 42, .val (.mov (.t 44)), none⟩]
def g104_11 : IL := [⟨some 6, .val (.mov (.c (.int .i64 1))), none⟩]
def g104_12 : IL := [⟨some 6, .val (.mov (.c (.int .i64 2))), none⟩]
def r104 : RC := .seq (.reg g104_0) (.seq (.block 0 (.seq (.reg g104_1) (.cond (.t 9) (.seq (.reg g104_2) (.ret)) (.seq (.reg g104_3) (.cond (.t 15) (.seq (.reg g104_4) (.ret)) (.seq (.reg g104_5) (.cond (.t 19) (.seq (.draw g104_6) (.seq (.seq (.reg g104_7) (.cond (.t 41) (.seq (.reg g104_8) (.ret)) (.skip))) (.seq (.reg g104_9) (.ret)))) (.seq (.reg g104_10) (.cond (.t 42) (.seq (.reg g104_11) (.ret)) (.skip)))))))))) (.seq (.reg g104_12) (.ret)))
def o104 : List RR := [.tmp 6]
theorem k104 : CT 104 45 r104 o104 := ck Tryz.func104 Tryz.ntmps104 (by decide +kernel)
def g105_0 : IL := [⟨some 6, .allocN 6 [.int .i64 0, .int .u64 0, .str [], .nils, .nils, .nils, .nils], none⟩, ⟨some 7, .val (.mov (.c (.bool false))), none⟩]
def g105_1 : IL := [⟨some 9, .val (.mov (.t 0)), none⟩, ⟨some 10, .call (.f 129) [(.t 9)], none⟩, ⟨some 11, .val (.bin .num .lss (.t 10) (.c (.int .i64 0))), none⟩, ⟨some 12, .val (.mov (.t 11)), none⟩, ⟨some 13, .val (.mov (.t 1)), (some (12, false))⟩, ⟨some 14, .call (.f 130) [(.t 13)], (some (12, false))⟩, ⟨some 15, .val (.un .not (.t 14)), (some (12, false))⟩, ⟨some 16, .val (.pick (.t 12) (.c (.bool true)) (.t 15)), none⟩, ⟨some 17, .val (.mov (.t 16)), none⟩, ⟨some 18, .val (.mov (.t 2)), (some (17, false))⟩, ⟨some 19, .call (.f 130) [(.t 18)], (some (17, false))⟩, ⟨some 20, .val (.un .not (.t 19)), (some (17, false))⟩, ⟨some 21, .val (.pick (.t 17) (.c (.bool true)) (.t 20)), none⟩, ⟨some 22, .val (.mov (.t 21)), none⟩, ⟨some 23, .val (.mov (.t 0)), (some (22, false))⟩, ⟨some 24, .val (.mov (.t 1)), (some (22, false))⟩, ⟨some 25, .val (.mov (.t 2)), (some (22, false))⟩, ⟨some 26, .call (.f 104) [(.t 23), (.t 24), (.t 25)], (some (22, false))⟩, ⟨some 27, .val (.bin .num .eql (.t 26) (.c (.int .i64 2))), (some (22, false))⟩, ⟨some 28, .val (.pick (.t 22) (.c (.bool true)) (.t 27)), none⟩]
def g105_2 : IL := [⟨some 29, .val (.build [.int .i64 0, .int .u64 0, .str [], .nils, .nils, .nils, .nils] []), none⟩, ⟨none, .store 7 (.t 6) (.t 29), none⟩, ⟨some 7, .val (.mov (.c (.bool false))), none⟩]
def g105_3 : IL := [⟨some 30, .val (.mov (.t 0)), none⟩, ⟨some 31, .val (.mov (.t 1)), none⟩, ⟨some 32, .val (.mov (.t 2)), none⟩, ⟨some 33, .call (.f 104) [(.t 30), (.t 31), (.t 32)], none⟩, ⟨some 34, .val (.bin .num .eql (.t 33) (.c (.int .i64 0))), none⟩]
def g105_4 : IL := [⟨some 35, .val (.mov (.t 1)), none⟩, ⟨some 36, .call (.f 131) [(.t 35)], none⟩, ⟨none, .store 7 (.t 6) (.t 36), none⟩, ⟨some 7, .val (.mov (.c (.bool true))), none⟩]
def g105_5 : IL := [⟨some 37, .val (.mov (.t 1)), none⟩, ⟨some 38, .val (.bin .num .eql (.t 37) (.c (.int .i64 8))), none⟩]
def g105_6 : IL := [⟨some 39, .val (.mov (.t 1)), none⟩, ⟨some 40, .val (.build [.int .i64 0, .int .u64 0, .str [], .nils, .nils, .nils, .nils] [(0, 1, (.t 39)), (2, 1, (.c (.str [255])))]), none⟩, ⟨none, .store 7 (.t 6) (.t 40), none⟩, ⟨some 7, .val (.mov (.c (.bool true))), none⟩]
def g105_7 : IL := [⟨some 41, .val (.mov (.t 2)), none⟩, ⟨some 42, .val (.bin .num .sub (.t 41) (.c (.int .i64 1))), none⟩, ⟨some 43, .val (.iaddr 2 (some 9) (.g 1 gl1) (.t 42)), none⟩, ⟨some 44, .val (.faddr 1 (.t 43)), none⟩, ⟨some 45, .val (.load none (.t 44)), none⟩, ⟨some 46, .val (.bin .num .add (.t 45) (.c (.int .u64 1))), none⟩, ⟨some 8, .val (.mov (.t 46)), none⟩]
def g105_8 : IL := [⟨some 47, .val (.mov (.t 8)), none⟩, ⟨some 48, .val (.bin .num .eql (.t 47) (.c (.int .u64 0))), none⟩, ⟨some 49, .val (.mov (.t 48)), none⟩, ⟨some 50, .val (.mov (.t 8)), (some (49, false))⟩, ⟨some 51, .val (.mov (.t 1)), (some (49, false))⟩, ⟨some 52, .val (.bin .num .sub (.t 51) (.c (.int .i64 1))), (some (49, false))⟩, ⟨some 53, .val (.iaddr 2 (some 9) (.g 1 gl1) (.t 52)), (some (49, false))⟩, ⟨some 54, .val (.faddr 1 (.t 53)), (some (49, false))⟩, ⟨some 55, .val (.load none (.t 54)), (some (49, false))⟩, ⟨some 56, .val (.bin .num .gtr (.t 50) (.t 55)), (some (49, false))⟩, ⟨some 57, .val (.pick (.t 49) (.c (.bool true)) (.t 56)), none⟩]
def g105_9 : IL := [⟨some 8, .val (.mov (.c (.int .u64 18446744073709551615))), none⟩]
def g105_10 : IL := [⟨some 58, .val (.mov (.t 1)), none⟩, ⟨some 59, .val (.mov (.t 8)), none⟩, ⟨some 60, .val (.build [.int .i64 0, .int .u64 0, .str [], .nils, .nils, .nils, .nils] [(0, 1, (.t 58)), (1, 1, (.t 59))]), none⟩, ⟨none, .store 7 (.t 6) (.t 60), none⟩, ⟨some 7, .val (.mov (.c (.bool true))), none⟩]
def r105 : RC := .seq (.reg g105_0) (.seq (.seq (.reg g105_1) (.cond (.t 28) (.seq (.reg g105_2) (.ret)) (.skip))) (.seq (.seq (.reg g105_3) (.cond (.t 34) (.seq (.reg g105_4) (.ret)) (.skip))) (.seq (.seq (.reg g105_5) (.cond (.t 38) (.seq (.reg g105_6) (.ret)) (.skip))) (.seq (.reg g105_7) (.seq (.seq (.reg g105_8) (.cond (.t 57) (.reg g105_9) (.skip))) (.seq (.reg g105_10) (.ret)))))))
def o105 : List RR := [.cell 6 (some 7), .tmp 7]
theorem k105 : CT 105 61 r105 o105 := ck Tryz.func105 Tryz.ntmps105 (by decide +kernel)
def g106_0 : IL := [⟨some 7, .boxN 7 (.t 3), none⟩, ⟨some 8, .allocN 8 [.int .i64 0, .int .u64 0, .str [], .nils, .nils, .nils, .nils], none⟩, ⟨some 9, .val (.mov (.c (.int .i64 0))), none⟩]
def g106_1 : IL := [⟨some 10, .val (.mov (.t 0)), none⟩, ⟨some 11, .call (.f 129) [(.t 10)], none⟩, ⟨some 12, .val (.bin .num .lss (.t 11) (.c (.int .i64 0))), none⟩, ⟨some 13, .val (.mov (.t 12)), none⟩, ⟨some 14, .val (.mov (.t 1)), (some (13, false))⟩, ⟨some 15, .call (.f 130) [(.t 14)], (some (13, false))⟩, ⟨some 16, .val (.un .not (.t 15)), (some (13, false))⟩, ⟨some 17, .val (.pick (.t 13) (.c (.bool true)) (.t 16)), none⟩, ⟨some 18, .val (.mov (.t 17)), none⟩, ⟨some 19, .val (.mov (.t 2)), (some (18, false))⟩, ⟨some 20, .call (.f 130) [(.t 19)], (some (18, false))⟩, ⟨some 21, .val (.un .not (.t 20)), (some (18, false))⟩, ⟨some 22, .val (.pick (.t 18) (.c (.bool true)) (.t 21)), none⟩, ⟨some 23, .val (.mov (.t 22)), none⟩, ⟨some 24, .val (.mov (.t 1)), (some (23, false))⟩, ⟨some 25, .val (.load (some 7) (.t 7)), (some (23, false))⟩, ⟨some 26, .call (.f 132) [(.t 24), (.t 25)], (some (23, false))⟩, ⟨some 27, .val (.un .not (.t 26)), (some (23, false))⟩, ⟨some 28, .val (.pick (.t 23) (.c (.bool true)) (.t 27)), none⟩]
def g106_2 : IL := [⟨some 29, .val (.build [.int .i64 0, .int .u64 0, .str [], .nils, .nils, .nils, .nils] []), none⟩, ⟨none, .store 7 (.t 8) (.t 29), none⟩, ⟨some 9, .val (.mov (.c (.int .i64 1))), none⟩]
def g106_3 : IL := [⟨some 31, .val (.mov (.t 0)), none⟩, ⟨some 32, .val (.mov (.t 1)), none⟩, ⟨some 33, .val (.mov (.t 2)), none⟩, ⟨some 34, .call (.f 127) [(.t 31), (.t 32), (.t 33)], none⟩, ⟨some 35, .val (.un .not (.t 34)), none⟩, ⟨some 36, .val (.mov (.t 35)), none⟩, ⟨some 37, .val (.mov (.t 0)), (some (36, true))⟩, ⟨some 38, .val (.bin .num .eql (.t 37) (.c (.int .i64 1))), (some (36, true))⟩, ⟨some 39, .val (.pick (.t 36) (.t 38) (.c (.bool false))), none⟩, ⟨some 30, .val (.mov (.t 39)), none⟩]
def g106_4 : IL := [⟨some 40, .val (.build [.int .i64 0, .int .u64 0, .str [], .nils, .nils, .nils, .nils] []), none⟩, ⟨none, .store 7 (.t 8) (.t 40), none⟩, ⟨some 9, .val (.mov (.c (.int .i64 13))), none⟩]
def g106_5 : IL := [⟨some 42, .val (.mov (.t 0)), none⟩, ⟨some 43, .val (.mov (.t 1)), none⟩, ⟨some 44, .val (.mov (.t 2)), none⟩, ⟨some 45, .call (.f 127) [(.t 42), (.t 43), (.t 44)], none⟩, ⟨some 46, .val (.un .not (.t 45)), none⟩, ⟨some 41, .val (.mov (.t 46)), none⟩]
def g106_6 : IL := [⟨some 47, .val (.build [.int .i64 0, .int .u64 0, .str [], .nils, .nils, .nils, .nils] []), none⟩, ⟨none, .store 7 (.t 8) (.t 47), none⟩, ⟨some 9, .val (.mov (.c (.int .i64 12))), none⟩]
def g106_7 : IL := [⟨some 49, .val (.mov (.t 1)), none⟩, ⟨some 50, .call (.f 128) [(.t 49)], none⟩, ⟨some 51, .val (.mov (.t 50)), none⟩, ⟨some 52, .val (.mov (.t 1)), (some (51, true))⟩, ⟨some 53, .val (.mov (.t 2)), (some (51, true))⟩, ⟨some 54, .val (.faddr 1 (.t 7)), (some (51, true))⟩, ⟨some 55, .val (.load none (.t 54)), (some (51, true))⟩, ⟨some 56, .call (.f 133) [(.t 52), (.t 53), (.t 55)], (some (51, true))⟩, ⟨some 57, .val (.un .not (.t 56)), (some (51, true))⟩, ⟨some 58, .val (.pick (.t 51) (.t 57) (.c (.bool false))), none⟩, ⟨some 48, .val (.mov (.t 58)), none⟩]
def g106_8 : IL := [⟨some 59, .val (.build [.int .i64 0, .int .u64 0, .str [], .nils, .nils, .nils, .nils] []), none⟩, ⟨none, .store 7 (.t 8) (.t 59), none⟩, ⟨some 9, .val (.mov (.c (.int .i64 6))), none⟩]
def g106_9 : IL := [⟨some 61, .val (.mov (.t 2)), none⟩, ⟨some 62, .val (.bin .num .eql (.t 61) (.c (.int .i64 7))), none⟩, ⟨some 63, .val (.mov (.t 62)), none⟩, ⟨some 64, .val (.faddr 2 (.t 7)), (some (63, true))⟩, ⟨some 65, .val (.load none (.t 64)), (some (63, true))⟩, ⟨some 66, .call (.f 118) [(.t 65)], (some (63, true))⟩, ⟨some 67, .val (.un .not (.t 66)), (some (63, true))⟩, ⟨some 68, .val (.pick (.t 63) (.t 67) (.c (.bool false))), none⟩, ⟨some 60, .val (.mov (.t 68)), none⟩]
def g106_10 : IL := [⟨some 69, .val (.build [.int .i64 0, .int .u64 0, .str [], .nils, .nils, .nils, .nils] []), none⟩, ⟨none, .store 7 (.t 8) (.t 69), none⟩, ⟨some 9, .val (.mov (.c (.int .i64 7))), none⟩]
def g106_11 : IL := [⟨some 70, .val (.mov (.t 2)), none⟩, ⟨some 71, .val (.faddr 1 (.t 7)), none⟩, ⟨some 72, .val (.load none (.t 71)), none⟩, ⟨some 73, .val (.faddr 2 (.t 7)), none⟩, ⟨some 74, .val (.load none (.t 73)), none⟩, ⟨some 75, .val (.build [.int .i64 0, .int .u64 0, .str [], .nils, .nils, .nils, .nils] [(0, 1, (.t 70)), (1, 1, (.t 72)), (2, 1, (.t 74))]), none⟩, ⟨some 76, .call (.f 134) [(.t 75)], none⟩, ⟨none, .store 7 (.t 8) (.t 76), none⟩, ⟨some 9, .val (.mov (.c (.int .i64 0))), none⟩]
def r106 : RC := .seq (.reg g106_0) (.seq (.seq (.reg g106_1) (.cond (.t 28) (.seq (.reg g106_2) (.ret)) (.skip))) (.seq (.block 0 (.seq (.reg g106_3) (.cond (.t 30) (.seq (.reg g106_4) (.ret)) (.seq (.reg g106_5) (.cond (.t 41) (.seq (.reg g106_6) (.ret)) (.seq (.reg g106_7) (.cond (.t 48) (.seq (.reg g106_8) (.ret)) (.seq (.reg g106_9) (.cond (.t 60) (.seq (.reg g106_10) (.ret)) (.skip)))))))))) (.seq (.reg g106_11) (.ret))))
def o106 : List RR := [.cell 8 (some 7), .tmp 9]
theorem k106 : CT 106 77 r106 o106 := ck Tryz.func106 Tryz.ntmps106 (by decide +kernel)
def g107_0 : IL := [⟨some 2, .boxN 2 (.t 0), none⟩, ⟨some 4, .val (.mov (.c (.bool false))), none⟩]
def g107_1 : IL := [⟨some 7, .val (.faddr 2 (.t 2)), none⟩, ⟨some 8, .val (.load none (.t 7)), none⟩, ⟨some 9, .val (.len 1 (.t 8)), none⟩, ⟨some 10, .val (.mov (.c (.int .i64 0))), none⟩]
def g107_2 : IL := [⟨some 11, .val (.bin .num .lss (.t 10) (.t 9)), none⟩]
def g107_3 : IL := [⟨some 12, .val (.iaddr 3 none (.t 8) (.t 10)), none⟩, ⟨some 13, .val (.load (some 3) (.t 12)), none⟩, ⟨some 6, .allocN 6 [.str [], .int .i64 0, .nils], none⟩, ⟨none, .store 3 (.t 6) (.t 13), none⟩]
def g107_4 : IL := [⟨some 14, .val (.faddr 0 (.t 6)), none⟩, ⟨some 15, .val (.load none (.t 14)), none⟩, ⟨some 16, .val (.mov (.t 1)), none⟩, ⟨some 17, .val (.bin .str .eql (.t 15) (.t 16)), none⟩]
def g107_5 : IL := [⟨some 4, .val (.mov (.c (.bool true))), none⟩]
def g107_6 : IL := [⟨some 18, .val (.bin .num .add (.t 10) (.c (.int .i64 1))), none⟩, ⟨some 10, .val (.mov (.t 18)), none⟩]
def l107_0 : RC := .gho (.drop 6) (.seq (.reg g107_2) (.seq (.cond (.t 11) (.skip) (.exit 0)) (.seq (.block 1 (.seq (.reg g107_3) (.seq (.reg g107_4) (.cond (.t 17) (.seq (.reg g107_5) (.ret)) (.skip))))) (.reg g107_6))))
def g107_7 : IL := [⟨some 4, .val (.mov (.c (.bool false))), none⟩]
def r107 : RC := .seq (.reg g107_0) (.seq (.seq (.reg g107_1) (.block 0 (.loop l107_0))) (.seq (.reg g107_7) (.ret)))
def o107 : List RR := [.tmp 4]
theorem k107 : CT 107 19 r107 o107 := ck Tryz.func107 Tryz.ntmps107 (by decide +kernel)
def g110_0 : IL := [⟨some 4, .val (.mov (.c (.bool false))), none⟩]
def g110_1 : IL := [⟨some 5, .val (.mov (.t 0)), none⟩, ⟨some 6, .val (.mov (.t 1)), none⟩, ⟨some 7, .callF (.f 135) [(.t 5), (.t 6)], none⟩, ⟨some 8, .val (.bin .num .geq (.t 7) (.c (.int .i64 0))), none⟩, ⟨some 4, .val (.mov (.t 8)), none⟩]
def r110 : RC := .seq (.reg g110_0) (.seq (.reg g110_1) (.ret))
def o110 : List RR := [.tmp 4]
theorem k110 : CT 110 9 r110 o110 := ck Tryz.func110 Tryz.ntmps110 (by decide +kernel)
def g111_0 : IL := [⟨some 4, .val (.mov (.c (.bool false))), none⟩]
def g111_1 : IL := [⟨some 5, .val (.load none (.t 2)), none⟩, ⟨some 6, .val (.iaddr 1 (some 3) (.t 1) (.t 5)), none⟩, ⟨some 7, .val (.load none (.t 6)), none⟩, ⟨some 8, .val (.mov (.t 0)), none⟩, ⟨some 9, .call (.f 69) [(.t 7), (.t 8)], none⟩, ⟨some 4, .val (.mov (.t 9)), none⟩]
def r111 : RC := .seq (.reg g111_0) (.seq (.reg g111_1) (.ret))
def o111 : List RR := [.tmp 4]
theorem k111 : CT 111 10 r111 o111 := ck Tryz.func111 Tryz.ntmps111 (by decide +kernel)
def g112_0 : IL := [⟨some 2, .boxN 2 (.t 0), none⟩, ⟨some 3, .boxN 3 (.t 1), none⟩, ⟨some 4, .allocN 4 [.str [], .nils, .nils, .nils, .nils], none⟩, ⟨some 5, .val (.mov (.c (.bool false))), none⟩]
def g112_1 : IL := [⟨some 7, .val (.faddr 0 (.t 2)), none⟩, ⟨some 8, .val (.load none (.t 7)), none⟩, ⟨some 9, .val (.mkfn (.func 136) [] [(.t 3)]), none⟩, ⟨some 10, .callF (.f 98) [(.t 8), (.t 9)], none⟩, ⟨some 6, .val (.mov (.t 10)), none⟩]
def g112_2 : IL := [⟨some 11, .val (.mov (.t 6)), none⟩, ⟨some 12, .val (.bin .num .lss (.t 11) (.c (.int .i64 0))), none⟩]
def g112_3 : IL := [⟨some 13, .val (.build [.str [], .nils, .nils, .nils, .nils] []), none⟩, ⟨none, .store 5 (.t 4) (.t 13), none⟩, ⟨some 5, .val (.mov (.c (.bool false))), none⟩]
def g112_4 : IL := [⟨some 14, .val (.faddr 0 (.t 2)), none⟩, ⟨some 15, .val (.load none (.t 14)), none⟩, ⟨some 16, .val (.mov (.t 6)), none⟩, ⟨some 17, .val (.iaddr 5 none (.t 15) (.t 16)), none⟩, ⟨some 18, .val (.load (some 5) (.t 17)), none⟩, ⟨none, .store 5 (.t 4) (.t 18), none⟩, ⟨some 5, .val (.mov (.c (.bool true))), none⟩]
def r112 : RC := .seq (.reg g112_0) (.seq (.reg g112_1) (.seq (.seq (.reg g112_2) (.cond (.t 12) (.seq (.reg g112_3) (.ret)) (.skip))) (.seq (.reg g112_4) (.ret))))
def o112 : List RR := [.cell 4 (some 5), .tmp 5]
theorem k112 : CT 112 19 r112 o112 := ck Tryz.func112 Tryz.ntmps112 (by decide +kernel)
def g113_0 : IL := [⟨some 1, .boxN 1 (.t 0), none⟩, ⟨some 2, .val (.mov (.c (.nils))), none⟩]
def g113_1 : IL := [⟨some 3, .val (.mov (.c (.nils))), none⟩]
def g113_2 : IL := [⟨some 6, .val (.faddr 1 (.t 1)), none⟩, ⟨some 7, .val (.load none (.t 6)), none⟩, ⟨some 8, .val (.len 1 (.t 7)), none⟩, ⟨some 9, .val (.mov (.c (.int .i64 0))), none⟩]
def g113_3 : IL := [⟨some 10, .val (.bin .num .lss (.t 9) (.t 8)), none⟩]
def g113_4 : IL := [⟨some 11, .val (.iaddr 16 none (.t 7) (.t 9)), none⟩, ⟨some 12, .val (.load (some 16) (.t 11)), none⟩, ⟨some 5, .allocN 5 [.int .i64 0, .str [], .int .i64 0, .int .i64 0, .int .i64 0, .str [], .str [], .bool false, .int .i64 0, .int .u64 0, .str [], .nils, .nils, .nils, .nils, .nils], none⟩, ⟨none, .store 16 (.t 5) (.t 12), none⟩]
def g113_5 : IL := [⟨some 13, .val (.faddr 2 (.t 5)), none⟩, ⟨some 14, .val (.load none (.t 13)), none⟩, ⟨some 15, .val (.bin .num .eql (.t 14) (.c (.int .i64 1))), none⟩, ⟨some 16, .val (.mov (.t 15)), none⟩, ⟨some 17, .val (.faddr 4 (.t 5)), (some (16, true))⟩, ⟨some 18, .val (.faddr 0 (.t 17)), (some (16, true))⟩, ⟨some 19, .val (.load none (.t 18)), (some (16, true))⟩, ⟨some 20, .val (.bin .num .eql (.t 19) (.c (.int .i64 10))), (some (16, true))⟩, ⟨some 21, .val (.pick (.t 16) (.t 20) (.c (.bool false))), none⟩]
def g113_6 : IL := [⟨some 22, .val (.mov (.t 3)), none⟩, ⟨some 23, .val (.faddr 4 (.t 5)), none⟩, ⟨some 24, .val (.faddr 1 (.t 23)), none⟩, ⟨some 25, .val (.load none (.t 24)), none⟩, ⟨some 26, .bsl 1 1 [.str []] [(0, 1, (.t 25))], none⟩, ⟨some 27, .app 1 16 9 (.t 22) (.t 26), none⟩, ⟨some 3, .val (.mov (.t 27)), none⟩]
def g113_7 : IL := [⟨some 28, .val (.bin .num .add (.t 9) (.c (.int .i64 1))), none⟩, ⟨some 9, .val (.mov (.t 28)), none⟩]
def l113_0 : RC := .gho (.drop 5) (.seq (.reg g113_3) (.seq (.cond (.t 10) (.skip) (.exit 0)) (.seq (.block 1 (.seq (.reg g113_4) (.seq (.reg g113_5) (.cond (.t 21) (.reg g113_6) (.skip))))) (.reg g113_7))))
def g113_8 : IL := [⟨some 29, .val (.mov (.t 3)), none⟩, ⟨some 2, .val (.mov (.t 29)), none⟩]
def r113 : RC := .seq (.reg g113_0) (.seq (.reg g113_1) (.gho (.vec 3 3 1) (.seq (.seq (.reg g113_2) (.block 0 (.loop l113_0))) (.seq (.reg g113_8) (.ret)))))
def o113 : List RR := [.tmp 2]
theorem k113 : CT 113 30 r113 o113 := ck Tryz.func113 Tryz.ntmps113 (by decide +kernel)
def g114_0 : IL := [⟨some 4, .val (.mov (.c (.bool false))), none⟩]
def g114_1 : IL := [⟨some 8, .val (.load (some 3) (.t 1)), none⟩, ⟨some 9, .val (.mov (.t 0)), none⟩, ⟨some 10, .call (.f 112) [(.t 8), (.t 9)], none⟩, ⟨some 7, .val (.mov (.t 10)), none⟩, ⟨some 11, .val (.ext (.t 7) 0), none⟩, ⟨some 12, .val (.ext (.t 7) 1), none⟩, ⟨some 5, .allocN 5 [.str [], .nils, .nils, .nils, .nils], none⟩, ⟨none, .store 5 (.t 5) (.t 11), none⟩, ⟨some 6, .val (.mov (.t 12)), none⟩]
def g114_2 : IL := [⟨some 13, .val (.mov (.t 6)), none⟩, ⟨some 14, .val (.mov (.t 13)), none⟩, ⟨some 15, .val (.load none (.t 2)), (some (14, true))⟩, ⟨some 16, .val (.mov (.t 0)), (some (14, true))⟩, ⟨some 17, .val (.mget false (.bool false) (.t 15) (.t 16)), (some (14, true))⟩, ⟨some 18, .val (.un .not (.t 17)), (some (14, true))⟩, ⟨some 19, .val (.pick (.t 14) (.t 18) (.c (.bool false))), none⟩, ⟨some 4, .val (.mov (.t 19)), none⟩]
def r114 : RC := .seq (.reg g114_0) (.seq (.reg g114_1) (.seq (.reg g114_2) (.ret)))
def o114 : List RR := [.tmp 4]
theorem k114 : CT 114 20 r114 o114 := ck Tryz.func114 Tryz.ntmps114 (by decide +kernel)
def g115_0 : IL := [⟨some 2, .val (.mov (.c (.bool false))), none⟩]
def g115_1 : IL := [⟨some 3, .val (.mov (.t 0)), none⟩, ⟨some 4, .call (.f 137) [(.t 3)], none⟩, ⟨some 5, .val (.mov (.t 4)), none⟩, ⟨some 6, .val (.mov (.t 0)), (some (5, true))⟩, ⟨some 7, .call (.f 138) [(.t 6), (.c (.str [46]))], (some (5, true))⟩, ⟨some 8, .callF (.f 110) [(.t 7), (.f 139)], (some (5, true))⟩, ⟨some 9, .val (.un .not (.t 8)), (some (5, true))⟩, ⟨some 10, .val (.pick (.t 5) (.t 9) (.c (.bool false))), none⟩, ⟨some 2, .val (.mov (.t 10)), none⟩]
def r115 : RC := .seq (.reg g115_0) (.seq (.reg g115_1) (.ret))
def o115 : List RR := [.tmp 2]
theorem k115 : CT 115 11 r115 o115 := ck Tryz.func115 Tryz.ntmps115 (by decide +kernel)
end Go.Proofs.YtaobkcgjidhpkaaGreatDoor.Rc
