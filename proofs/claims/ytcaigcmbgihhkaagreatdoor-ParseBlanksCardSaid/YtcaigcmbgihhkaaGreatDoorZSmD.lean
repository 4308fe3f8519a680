/-
  Part of a proof: SmD.
-/
import Derived.Test.YtcaigcmbgihhkaaGreatDoorZSmA
import Derived.Test.YtcaigcmbgihhkaaGreatDoorZPsA
import Derived.LoopTactic
namespace Go.Proofs.YtcaigcmbgihhkaaGreatDoor
open Go Go.RowKit Go.Shelf
set_option linter.unusedVariables false
set_option linter.unusedSimpArgs false
attribute [local go_sem] Oper.semAt_some
def eqL {α : Type} (f : α → α → Bool) : List α → List α → Bool
  | [], [] => true
  | [], _ :: _ => false
  | _ :: _, [] => false
  | a :: r, b :: s => f a b && eqL f r s
theorem eqL_len {α : Type} {f : α → α → Bool} : ∀ {a b : List α}, a.length ≠ b.length → eqL f a b = false
  | [], [], h => absurd rfl h
  | [], _ :: _, _ => by simp [eqL]
  | _ :: _, [], _ => by simp [eqL]
  | a :: r, b :: s, h => by
    rw [eqL, eqL_len (a := r) (b := s) (by simpa using h), Bool.and_false]
theorem eqL_drop {α : Type} {f : α → α → Bool} {l l' : List α} {k : Nat} {a b : α} (h : l[k]? = some a) (h' : l'[k]? = some b) : eqL f (l.drop k) (l'.drop k) = (f a b && eqL f (l.drop (k + 1)) (l'.drop (k + 1))) := by
  obtain ⟨hk, rfl⟩ := List.getElem?_eq_some_iff.1 h
  obtain ⟨hk', rfl⟩ := List.getElem?_eq_some_iff.1 h'
  rw [List.drop_eq_getElem_cons hk, List.drop_eq_getElem_cons hk', eqL]
theorem eqL_iff {α β : Type} {f : α → α → Bool} {g : α → β} (hf : ∀ a b, f a b = true ↔ g a = g b) : ∀ a b, eqL f a b = true ↔ a.map g = b.map g
  | [], [] => by simp [eqL]
  | [], _ :: _ => by simp [eqL]
  | _ :: _, [] => by simp [eqL]
  | a :: r, b :: s => by
    have h := eqL_iff hf r s
    simp only [eqL, Bool.and_eq_true, List.map_cons, List.cons.injEq, hf, h]
def sameP (p q : ParamD) : Bool := (p.name == q.name) && (p.type == q.type)
def sameM (m n : MethodD) : Bool := (m.name == n.name) && ((m.gives == n.gives) && (eqL sameP m.takes n.takes && sameN m.body n.body))
def sameC (c d : ClassD) : Bool := (c.name == d.name) && ((c.super == d.super) && (eqL sameP c.fields d.fields && eqL sameM c.methods d.methods))
theorem sameP_iff (p q : ParamD) : sameP p q = true ↔ bareP p = bareP q := by simp [sameP, bareP]
theorem sameM_iff (m n : MethodD) : sameM m n = true ↔ bareM m = bareM n := by simp [sameM, bareM, eqL_iff sameP_iff, sameN_iff]
theorem sameC_iff (c d : ClassD) : sameC c d = true ↔ bareC c = bareC d := by simp [sameC, bareC, eqL_iff sameP_iff, eqL_iff sameM_iff]
def sameCs (a b : List ClassD) : Bool := eqL sameC a b
theorem sameCs_iff (a b : List ClassD) : sameCs a b = true ↔ a.map bareC = b.map bareC := eqL_iff sameC_iff a b
end Go.Proofs.YtcaigcmbgihhkaaGreatDoor
