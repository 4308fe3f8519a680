/-
  Rows that a call makes: what stays of them, and what an append leaves.
-/
import Derived.Test.YtmlcififmjpcpaaSliceIn
import Derived.Maps.AppendAt
namespace Go.Proofs.Ytmlcififmjpcpaa
open Go.RowKit

theorem own_below {W W' : World} {base sz n : Nat} {e : TypeId} {v : Value} {cs : List Value} (h : W.ownsRow base e sz v n cs) (hb : Below W.heap.size W W') : W'.ownsRow base e sz v n cs :=
  h.kept (row := none) ⟨hb.os, hb.tape, hb.output, hb.size, fun k hk _ => hb.block k hk⟩ (by cases v.ownBlock <;> simp)
/-- A store into a block that is not the row's. -/
theorem own_set {W : World} {base sz n : Nat} {e : TypeId} {v : Value} {cs : List Value} (h : W.ownsRow base e sz v n cs) {B : Nat} (hB : some B ≠ v.ownBlock) (i : Nat) (u : Value) : (W.setCell ⟨B, i, none⟩ u).ownsRow base e sz v n cs :=
  h.kept (row := some B) ⟨rfl, rfl, rfl, by simp [World.setCell], fun k _ hk => Below.heap_setCell _ _ _ k (fun e => hk (by rw [e]))⟩ (.inr (fun e => hB e.symm))
/-- A newer block is not the row's. -/
theorem own_new {W : World} {base sz n : Nat} {e : TypeId} {v : Value} {cs : List Value} (h : W.ownsRow base e sz v n cs) {B : Nat} (hB : W.heap.size ≤ B) : some B ≠ v.ownBlock := fun e => by
  have := (h.lt B e.symm).2
  omega
theorem news_at (W : World) (t : TypeId) (cs : List Value) : ∀ j u, cs[j]? = some u → (W.alloc (.cells cs.toArray t)).cell? ((⟨W.heap.size, 0, none⟩ : Addr).add j) = some u := fun j u hu => by
  rw [addr_add_lit, Nat.zero_add, (Blk.new W t cs.toArray).cell]
  simpa using hu
theorem news_at' (W : World) (t : TypeId) (cs : List Value) (g : Nat) (hg : g = W.heap.size) : ∀ j u, cs[j]? = some u → (W.alloc (.cells cs.toArray t)).cell? ((⟨g, 0, none⟩ : Addr).add j) = some u := by
  subst hg
  exact news_at W t cs
/-- What an append to a row of the call's own leaves of what was there before. -/
theorem below_append {w w2 W : World} {base sz n : Nat} {e : TypeId} {v : Value} {cs : List Value} {o : Obj} (h : w.ownsRow base e sz v n cs) (hb : Below base W w) (hbw : base ≤ w.heap.size) (hg : (w.alloc o).grownBy w2 v.ownBlock) : Below base W w2 :=
  Below.grown (hb.alloc hbw o) hg (by simp; omega) (fun k hk => (h.lt k hk).1)
theorem own_nil (W : World) (base sz : Nat) (e : TypeId) : W.ownsRow base e sz (.slice none 0 0) 0 [] := World.ownsRow_nil _ _ _ _
theorem own_form {W : World} {base sz n : Nat} {e : TypeId} {v : Value} {cs : List Value} (h : W.ownsRow base e sz v n cs) : ∃ ao cap, v = .slice ao n cap := by
  rcases h.2 with ⟨rfl, rfl⟩ | ⟨g, cap, _, rfl, _⟩
  · exact ⟨none, 0, rfl⟩
  · exact ⟨_, _, rfl⟩
theorem info_of {P : Program} {t : TypeId} {z : Value} {s b : Nat} (h : (P.info? t).map (fun i => (i.zero, i.size, i.bytes)) = some (some z, s, b)) : ∃ i, P.info? t = some i ∧ i.zero = some z ∧ i.size = s ∧ i.bytes = b := by
  obtain ⟨i, hi, he⟩ := Option.map_eq_some_iff.1 h
  simp only [Prod.mk.injEq] at he
  exact ⟨i, hi, he.1, he.2.1, he.2.2⟩
end Go.Proofs.Ytmlcififmjpcpaa
