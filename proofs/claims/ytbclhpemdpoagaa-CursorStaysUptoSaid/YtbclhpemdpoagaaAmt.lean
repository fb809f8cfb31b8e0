/- The abstract machine: several variables of a loop's body, dropped at once; append to a part of a row. -/
import Derived.Test.YtbclhpemdpoagaaAms
namespace Go.Proofs.Ytbclhpemdpoagaa.Am
open Go

variable {P : Program} {f : Fr} {m : Mem} {ds : List DF} {its : List Item} {d : Nat}

theorem aops_appL {K : St → Prop} {sz bytes el : Nat} {s r : RA} {site g n : Nat} {fr : Nat → Ob} {xs ys : List AV} (hs : s.ev f = .vec 0 site g 0 n false) (hl : fr site = .vec g sz xs) (ht : tyOk site el = true) (hn : n ≤ xs.length) (hr : r.ev f = .list ys) (hz : ys.all (fun e => e.cells.length == sz) = true) (hm : n + ys.length ≤ maxLen) (hb : (n + ys.length) * bytes ≤ 140737488355328)
    (h : aops P its ⟨upd f d (.vec 0 site (g + 1) 0 (n + ys.length) false), upd fr site (.vec (g + 1) sz (xs.take n ++ ys)) :: m, ds⟩ K) : aops P (⟨some d, .app sz bytes el s r, none⟩ :: its) ⟨f, fr :: m, ds⟩ K := by
  refine ⟨0, site, g, n, xs, ys, hs, hl, ht, hn, ?_, hz, hm, hb, h⟩
  show elemsOf (fr :: m) (r.ev f) = some ys
  rw [hr]; rfl

def drops : List Nat → RC → RC
  | [], a => a
  | s :: l, a => .gho (.drop s) (drops l a)
def scrs : List Nat → AV → AV
  | [], x => x
  | s :: l, x => scrs l (x.scrub s)
def oscrs : List Nat → Ob → Ob
  | [], x => x
  | s :: l, x => oscrs l (x.scrub s)

theorem oscrs_none (l : List Nat) : oscrs l .none = .none := by
  induction l with
  | nil => rfl
  | cons s l ih => exact ih

theorem awp_drops {Q : Exit → St → Prop} {a : RC} (l : List Nat) : ∀ {f : Fr} {fr : Nat → Ob}, (∀ s ∈ l, (fr s).isRow = false) →
    (∀ f' fr', (∀ i, f' i = scrs l (f i)) → (∀ i, i ∉ l → fr' i = oscrs l (fr i)) → (∀ i ∈ l, fr' i = .none) → awp P a ⟨f', fr' :: m, []⟩ Q) → awp P (drops l a) ⟨f, fr :: m, []⟩ Q := by
  induction l with
  | nil => intro f fr _ h; exact h f fr (fun _ => rfl) (fun _ _ => rfl) (fun _ h => by cases h)
  | cons s l ih =>
    intro f fr hr h
    show awp P (.gho (.drop s) (drops l a)) _ _
    rw [e_drop]
    refine ⟨hr s (by simp), ?_⟩
    show awp P (drops l a) ⟨_, _ :: m, []⟩ Q
    refine ih ?_ ?_
    · intro t ht
      by_cases e : t = s
      · subst e; rw [upd_same]; rfl
      · rw [upd_ne _ _ e, e_scr_isRow]; exact hr t (by simp [ht])
    · intro f' fr' h1 h2 h3
      refine h f' fr' h1 ?_ ?_
      · intro i hi
        rw [h2 i (fun h => hi (List.mem_cons_of_mem _ h)), upd_ne _ _ (fun e => hi (by rw [e]; exact List.mem_cons_self))]; rfl
      · intro i hi
        by_cases hl : i ∈ l
        · exact h3 i hl
        · have e : i = s := by
            rcases List.mem_cons.1 hi with e | e
            · exact e
            · exact absurd e hl
          rw [h2 i hl, e, upd_same, oscrs_none]

end Go.Proofs.Ytbclhpemdpoagaa.Am
