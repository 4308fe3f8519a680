/-
  Words on worlds: rows of cells, what a call may have touched, rows set cell by cell, 'clear' at elements of several cells.
-/
import Derived.RangeFuncBox
import Derived.Laws.IdiomCopy
import Derived.Lib.SliceRun
import Derived.RowKit
import Derived.Below
import Derived.Deep.Draws
import Derived.Maps.AppendAt
namespace Go.Proofs.Ytmlcififmjpcpaa
open Go.RowKit

/-- Block B is a row of cells of type t, not frozen. -/
def Blk (W : World) (B : Nat) (t : TypeId) (cs : Array Value) : Prop := W.heap[B]? = some (.cells cs t (0, 0))
theorem Blk.lt {W : World} {B : Nat} {t : TypeId} {cs : Array Value} (h : Blk W B t cs) : B < W.heap.size := (Array.getElem?_eq_some_iff.1 h).1
theorem Blk.cell {W : World} {B : Nat} {t : TypeId} {cs : Array Value} (h : Blk W B t cs) (i : Nat) : W.cell? ⟨B, i, none⟩ = cs[i]? := by simp [World.cell?, show W.heap[B]? = _ from h]
theorem Blk.frozen {W : World} {B : Nat} {t : TypeId} {cs : Array Value} (h : Blk W B t cs) (i : Nat) : W.frozen? ⟨B, i, none⟩ = false := by simp [World.frozen?, show W.heap[B]? = _ from h]
theorem Blk.new (W : World) (t : TypeId) (cs : Array Value) : Blk (W.alloc (.cells cs t)) W.heap.size t cs := World.alloc_heap_new W _
theorem Blk.kept {W W' : World} {row : Option Nat} {B : Nat} {t : TypeId} {cs : Array Value} (h : Blk W B t cs) (hg : W.grownBy W' row) (hne : some B ≠ row) : Blk W' B t cs := (hg.block B h.lt hne).trans h
theorem Blk.alloc {W : World} {B : Nat} {t : TypeId} {cs : Array Value} (h : Blk W B t cs) (o : Obj) : Blk (W.alloc o) B t cs := h.kept (World.grownBy_alloc W o none) (by simp)
theorem Blk.below {W W' : World} {n : Nat} {B : Nat} {t : TypeId} {cs : Array Value} (h : Blk W B t cs) (hb : Below n W W') (hB : B < n) : Blk W' B t cs := (hb.block B hB).trans h
theorem Blk.other {W : World} {B B' : Nat} {t : TypeId} {cs : Array Value} (h : Blk W B t cs) (hne : B ≠ B') (i : Nat) (u : Value) : Blk (W.setCell ⟨B', i, none⟩ u) B t cs := (Below.heap_setCell W ⟨B', i, none⟩ u B hne).trans h
theorem Blk.set {W : World} {B : Nat} {t : TypeId} {cs : Array Value} (h : Blk W B t cs) (i : Nat) (u : Value) : Blk (W.setCell ⟨B, i, none⟩ u) B t (cs.setIfInBounds i u) := by
  obtain ⟨hlt, hk⟩ := Array.getElem?_eq_some_iff.1 h
  show (W.heap.modify B _)[B]? = _
  rw [Array.getElem?_eq_getElem (by rw [Array.size_modify]; exact hlt), Array.getElem_modify_self, hk]
  rfl
theorem Blk.drew {W : World} {B : Nat} {t : TypeId} {cs : Array Value} (h : Blk W B t cs) : Blk W.drew B t cs := h
theorem Blk.drewN {W : World} {B : Nat} {t : TypeId} {cs : Array Value} (h : Blk W B t cs) (n : Nat) : Blk (W.drewN n) B t cs := h
theorem Blk.ne {W : World} {B B' : Nat} {t t' : TypeId} {cs cs' : Array Value} (h : Blk W B t cs) (h' : Blk W B' t' cs') (hne : t ≠ t') : B ≠ B' := by
  intro e; subst e
  have := (show W.heap[B]? = _ from h).symm.trans h'
  simp at this
  exact hne this.2
theorem blk_own {β : Type} (B : Nat) (t : TypeId) (f : β → Array Value) : Own (fun s W => Blk W B t (f s)) := fun s X Y row hs hg hrow =>
  hs.kept hg (fun e' => by obtain ⟨o, ho, hc⟩ := hrow B e'.symm; rw [show X.heap[B]? = _ from hs] at ho; cases ho; cases hc)

/-- A row with cells set one by one from place o on. -/
def splice : Array Value → Nat → List Value → Array Value
  | cur, _, [] => cur
  | cur, o, v :: r => splice (cur.setIfInBounds o v) (o + 1) r
theorem splice_size : ∀ (vs : List Value) (cur : Array Value) (o : Nat), (splice cur o vs).size = cur.size
  | [], _, _ => rfl
  | _ :: r, cur, o => by rw [splice, splice_size r, Array.size_setIfInBounds]
theorem Blk.setCells : ∀ (vs : List Value) (o : Nat) {W : World} {B : Nat} {t : TypeId} {cs : Array Value}, Blk W B t cs → Blk (W.setCells B o vs) B t (splice cs o vs)
  | [], _, _, _, _, _, h => h
  | v :: r, o, _, _, _, _, h => Blk.setCells r (o + 1) (h.set o v)
theorem splice_list : ∀ (vs : List Value) (cur : Array Value) (o : Nat), o + vs.length ≤ cur.size → (splice cur o vs).toList = cur.toList.take o ++ vs ++ cur.toList.drop (o + vs.length)
  | [], cur, o, _ => by simp [splice]
  | v :: r, cur, o, h => by
    simp only [List.length_cons] at h
    rw [splice, splice_list r _ (o + 1) (by rw [Array.size_setIfInBounds]; omega), Array.toList_setIfInBounds]
    have hlt : o < cur.toList.length := by simp; omega
    rw [List.take_set, List.drop_set]
    rw [if_pos (by omega), List.take_succ_eq_append_getElem hlt]
    have e : (cur.toList.take o ++ [cur.toList[o]]).set o v = cur.toList.take o ++ [v] := by
      rw [List.set_append_right _ _ (by simp; omega)]
      have : o - (cur.toList.take o).length = 0 := by simp; omega
      rw [this]; rfl
    rw [e, List.length_cons, show o + (r.length + 1) = o + 1 + r.length by omega]
    simp
theorem heap_setCells (g o : Nat) (vs : List Value) (W : World) (k : Nat) (hk : k ≠ g) : (W.setCells g o vs).heap[k]? = W.heap[k]? := by
  induction vs generalizing o W with
  | nil => rfl
  | cons v r ih => rw [World.setCells, ih, Below.heap_setCell W ⟨g, o, none⟩ v k hk]
theorem size_setCells (g o : Nat) (vs : List Value) (W : World) : (W.setCells g o vs).heap.size = W.heap.size := by
  induction vs generalizing o W with
  | nil => rfl
  | cons v r ih => rw [World.setCells, ih]; simp [World.setCell]
theorem grownBy_setCells (W : World) (g o : Nat) (vs : List Value) : W.grownBy (W.setCells g o vs) (some g) := by
  induction vs generalizing o W with
  | nil => exact ⟨rfl, rfl, rfl, Nat.le_refl _, fun _ _ _ => rfl⟩
  | cons v r ih =>
    have h := ih (W.setCell ⟨g, o, none⟩ v) (o + 1)
    refine ⟨h.os, h.tape, h.output, Nat.le_trans (by simp [World.setCell]) h.size, fun k hk hne => ?_⟩
    exact (h.block k (by simpa [World.setCell] using hk) hne).trans (Below.heap_setCell W ⟨g, o, none⟩ v k (fun e => hne (by rw [e])))

/-- What lay before the call and outside of S lies as it lay; the streams are as they were. -/
structure Touch (S : Nat → Prop) (w w' : World) : Prop where
  os : w'.os = w.os
  tape : w'.tape = w.tape
  output : w'.output = w.output
  size : w.heap.size ≤ w'.heap.size
  block : ∀ k, k < w.heap.size → ¬ S k → w'.heap[k]? = w.heap[k]?
theorem Touch.refl (S : Nat → Prop) (w : World) : Touch S w w := ⟨rfl, rfl, rfl, Nat.le_refl _, fun _ _ _ => rfl⟩
theorem pw_below_drewN {B : Nat} {w W : World} (h : Below B w W) (n : Nat) : Below B w (W.drewN n) := ⟨h.os, h.tape, h.output, h.size, h.block⟩
/-- What a call may own behind it: what it owned, and what is new. -/
def grow (S : Nat → Prop) (w w' : World) (k : Nat) : Prop := S k ∨ (w.heap.size ≤ k ∧ k < w'.heap.size)
theorem Touch.trans {S T : Nat → Prop} {a b c : World} (h : Touch S a b) (k : Touch T b c) (hT : ∀ i, T i → grow S a b i) : Touch S a c :=
  ⟨k.os.trans h.os, k.tape.trans h.tape, k.output.trans h.output, Nat.le_trans h.size k.size, fun i hi hS => (k.block i (Nat.lt_of_lt_of_le hi h.size) (fun ht => by rcases hT i ht with h1 | h1; exact hS h1; omega)).trans (h.block i hi hS)⟩
theorem Touch.of_below {S : Nat → Prop} {w w' : World} (h : Below w.heap.size w w') : Touch S w w' := ⟨h.os, h.tape, h.output, h.size, fun k hk _ => h.block k hk⟩
theorem Touch.of_grownBy {S : Nat → Prop} {w w' : World} {row : Option Nat} (h : w.grownBy w' row) (hr : ∀ k, row = some k → k < w.heap.size → S k) : Touch S w w' :=
  ⟨h.os, h.tape, h.output, h.size, fun k hk hS => h.block k hk (fun e => hS (hr k e.symm hk))⟩
theorem Touch.mono {S T : Nat → Prop} {w w' : World} (h : Touch S w w') (hST : ∀ k, k < w.heap.size → S k → T k) : Touch T w w' := ⟨h.os, h.tape, h.output, h.size, fun k hk hT => h.block k hk (fun hs => hT (hST k hk hs))⟩
theorem Touch.setCell {S : Nat → Prop} {a w : World} (h : Touch S a w) {p : Addr} (hp : grow S a w p.block) (u : Value) : Touch S a (w.setCell p u) :=
  ⟨h.os, h.tape, h.output, Nat.le_trans h.size (by simp [World.setCell]), fun k hk hS => (Below.heap_setCell w p u k (fun e => by subst e; rcases hp with h1 | h1; exact hS h1; omega)).trans (h.block k hk hS)⟩
theorem Touch.alloc {S : Nat → Prop} {a w : World} (h : Touch S a w) (o : Obj) : Touch S a (w.alloc o) :=
  ⟨h.os, h.tape, h.output, Nat.le_trans h.size (by simp), fun k hk hS => (Below.heap_alloc w o k (Nat.lt_of_lt_of_le hk h.size)).trans (h.block k hk hS)⟩
theorem Touch.drew {S : Nat → Prop} {a w : World} (h : Touch S a w) : Touch S a w.drew := ⟨h.os, h.tape, h.output, h.size, h.block⟩
theorem Touch.drewN {S : Nat → Prop} {a w : World} (h : Touch S a w) (n : Nat) : Touch S a (w.drewN n) := ⟨h.os, h.tape, h.output, h.size, h.block⟩
theorem Touch.step {S : Nat → Prop} {a b c : World} (h : Touch S a b) (k : Below b.heap.size b c) : Touch S a c := h.trans (Touch.of_below (S := fun _ => False) k) (fun _ hf => hf.elim)
theorem Touch.grown {S : Nat → Prop} {a b c : World} {row : Option Nat} (h : Touch S a b) (k : b.grownBy c row) (hr : ∀ i, row = some i → grow S a b i) : Touch S a c := by
  refine h.trans (T := fun i => row = some i) (Touch.of_grownBy k (fun i e _ => e)) (fun i e => hr i e)
theorem Touch.below {S : Nat → Prop} {a b : World} (h : Touch S a b) {n : Nat} (hn : n ≤ a.heap.size) (hS : ∀ k, S k → n ≤ k) : Below n a b :=
  ⟨h.os, h.tape, h.output, h.size, fun k hk => h.block k (by omega) (fun hs => by have := hS k hs; omega)⟩
theorem Blk.touch {S : Nat → Prop} {W W' : World} {B : Nat} {t : TypeId} {cs : Array Value} (h : Blk W B t cs) (hb : Touch S W W') (hB : ¬ S B) : Blk W' B t cs := (hb.block B h.lt hB).trans h
theorem grow_lt {S : Nat → Prop} {w w' : World} (hS : ∀ k, S k → k < w.heap.size) (h : w.heap.size ≤ w'.heap.size) : ∀ k, grow S w w' k → k < w'.heap.size := fun k hk => by
  rcases hk with h1 | h1
  · exact Nat.lt_of_lt_of_le (hS k h1) h
  · exact h1.2
theorem grow_ge {S : Nat → Prop} {w w' : World} {n : Nat} (hS : ∀ k, S k → n ≤ k) (h : n ≤ w.heap.size) : ∀ k, grow S w w' k → n ≤ k := fun k hk => by
  rcases hk with h1 | h1
  · exact hS k h1
  · omega
theorem grow_apart {S T : Nat → Prop} {w w' : World} (hd : ∀ k, S k → T k → False) (hT : ∀ k, T k → k < w.heap.size) : ∀ k, grow S w w' k → T k → False := fun k hk ht => by
  rcases hk with h1 | h1
  · exact hd k h1 ht
  · have := hT k ht; omega

/-- A row of values that a slice value owns, at blocks of S. -/
def RowAt (W : World) (S : Nat → Prop) (e : TypeId) (size : Nat) (v : Value) (n : Nat) (xs : List Value) : Prop := W.ownsRow 0 e size v n xs ∧ ∀ k, v.ownBlock = some k → S k
theorem RowAt.mono {W : World} {S T : Nat → Prop} {e : TypeId} {size n : Nat} {v : Value} {xs : List Value} (h : RowAt W S e size v n xs) (hST : ∀ k, S k → T k) : RowAt W T e size v n xs := ⟨h.1, fun k hk => hST k (h.2 k hk)⟩
theorem RowAt.touch {W W' : World} {S T : Nat → Prop} {e : TypeId} {size n : Nat} {v : Value} {xs : List Value} (h : RowAt W S e size v n xs) (ht : Touch T W W') (hd : ∀ k, S k → T k → False) : RowAt W' S e size v n xs := by
  refine ⟨?_, h.2⟩
  obtain ⟨h1, h2⟩ := h.1
  refine ⟨h1, ?_⟩
  rcases h2 with h2 | ⟨g, cap, cur, hv, hg, hh, r⟩
  · exact .inl h2
  · refine .inr ⟨g, cap, cur, hv, hg, ?_, r⟩
    rw [ht.block g (Array.getElem?_eq_some_iff.1 hh).1 (fun hT => hd g (h.2 g (by rw [hv]; rfl)) hT)]
    exact hh
theorem RowAt.below {W W' : World} {S : Nat → Prop} {e : TypeId} {size n : Nat} {v : Value} {xs : List Value} (h : RowAt W S e size v n xs) (hb : Below W.heap.size W W') : RowAt W' S e size v n xs :=
  h.touch (Touch.of_below (S := fun _ => False) hb) (fun _ _ hf => hf)
/-- The two ways that such a value can be. -/
theorem RowAt.open_ {W : World} {S : Nat → Prop} {e : TypeId} {size n : Nat} {v : Value} {xs : List Value} (h : RowAt W S e size v n xs) :
    xs.length = n * size ∧ ((v = .slice none 0 0 ∧ n = 0) ∨ ∃ g cap cur, v = .slice (some ⟨g, 0, none⟩) n cap ∧ S g ∧ Blk W g e cur ∧ n ≤ cap ∧ cap ≤ maxLen ∧ cur.size = cap * size ∧ cur.toList.take (n * size) = xs) := by
  obtain ⟨⟨h1, h2⟩, h3⟩ := h
  refine ⟨h1, ?_⟩
  rcases h2 with h2 | ⟨g, cap, cur, hv, hg, hh, r⟩
  · exact .inl h2
  · exact .inr ⟨g, cap, cur, hv, h3 g (by rw [hv]; rfl), hh, r⟩
theorem RowAt.mk_ {W : World} {S : Nat → Prop} {e : TypeId} {size n g cap : Nat} {cur : Array Value} {xs : List Value} (hS : S g) (hb : Blk W g e cur) (hn : n ≤ cap) (hm : cap ≤ maxLen) (hs : cur.size = cap * size) (hx : cur.toList.take (n * size) = xs) (hl : xs.length = n * size) :
    RowAt W S e size (.slice (some ⟨g, 0, none⟩) n cap) n xs :=
  ⟨⟨hl, .inr ⟨g, cap, cur, rfl, Nat.zero_le _, hb, hn, hm, hs, hx⟩⟩, fun k hk => by simp [Value.ownBlock] at hk; subst hk; exact hS⟩
theorem take_get {cur : Array Value} {k : Nat} {xs : List Value} (h : cur.toList.take k = xs) (i : Nat) (hi : i < k) : cur[i]? = xs[i]? := by
  rw [← h, List.getElem?_take_of_lt hi, Array.getElem?_toList]

/-- Behind an append to such a row ('wpList_append_own_at' over the world with the new values' block). -/
theorem RowAt.appended {w1 w2 : World} {S : Nat → Prop} {e : TypeId} {size n m : Nat} {v v' : Value} {xs ys : List Value} {tmp : Obj} (hr : RowAt w1 S e size v n xs) (hown' : w2.ownsRow 0 e size v' m ys) (hgrow : (w1.alloc tmp).grownBy w2 v.ownBlock)
    (hat : v'.ownBlock = v.ownBlock ∨ v'.ownBlock = some (w1.alloc tmp).heap.size) : RowAt w2 (grow S w1 w2) e size v' m ys ∧ Touch S w1 w2 := by
  refine ⟨⟨hown', fun k hk => ?_⟩, ?_⟩
  · rcases hat with h | h
    · exact .inl (hr.2 k (by rw [← h]; exact hk))
    · have := (hown'.lt k hk).2
      rw [hk] at h
      simp at h
      exact .inr ⟨by omega, this⟩
  · exact ((Touch.refl S w1).alloc tmp).grown hgrow (fun i hi => .inl (hr.2 i hi))
theorem grow_mono {S : Nat → Prop} {w w1 w2 : World} (h : w.heap.size ≤ w1.heap.size) : ∀ k, grow S w1 w2 k → grow S w w2 k := fun k hk => by
  rcases hk with h1 | h1
  · exact .inl h1
  · exact .inr ⟨by omega, h1.2⟩
/-- A store into another block leaves the row. -/
theorem RowAt.setOther {W : World} {S : Nat → Prop} {e : TypeId} {size n : Nat} {v : Value} {xs : List Value} (h : RowAt W S e size v n xs) {B : Nat} (hB : some B ≠ v.ownBlock) (i : Nat) (u : Value) : RowAt (W.setCell ⟨B, i, none⟩ u) S e size v n xs := by
  refine ⟨h.1.kept (row := some B) ⟨rfl, rfl, rfl, by simp [World.setCell], fun k _ hk => Below.heap_setCell _ _ _ k (fun e => hk (by rw [e]))⟩ (.inr (fun e => hB e.symm)), h.2⟩

/-- 'clear(s)' at elements of several cells. -/
theorem run_clear_cells {P : Program} (w : World) (t e ty : TypeId) (z : Value) (ht : P.underlying t = some (.slice e)) (hv : ∀ w, (zeroValue e).run P w = .ok z w) (h1 : ∀ u ∈ z.cells.toList, u.oneCell' = true) (b o n c : Nat) (hn : 0 < n)
    (hc : ∀ j, j < n * z.cells.size → (w.cell? ⟨b, o + j, none⟩).isSome = true) (hf : ∀ j, j < n * z.cells.size → w.frozen? ⟨b, o + j, none⟩ = false) :
    (Builtin.clear_ #[t] ty #[.slice (some ⟨b, o, none⟩) n c]).run P w = .ok (.tuple #[]) (w.setCells b o (Builtin.zeroCells z.cells n).toList) := by
  have hl : (Builtin.zeroCells z.cells n).toList.length = n * z.cells.size := by simp [Builtin.zeroCells]
  have hst := run_storeCells_cells (P := P) b o (Builtin.zeroCells z.cells n).toList 0 w (by rw [hl]; simpa using hc) (by rw [hl]; simpa using hf) (by
    intro u hu
    simp only [Builtin.zeroCells, Array.toList_map, List.mem_map] at hu
    obtain ⟨i, hi, rfl⟩ := hu
    have hi' : i < n * z.cells.size := by simpa using hi
    have hz : 0 < z.cells.size := by
      rcases Nat.eq_zero_or_pos z.cells.size with h | h
      · rw [h] at hi'; omega
      · exact h
    have hm : i % z.cells.size < z.cells.size := Nat.mod_lt _ hz
    rw [getElem!_pos z.cells (i % z.cells.size) hm]
    exact h1 _ (by simp))
  simp only [Nat.add_zero] at hst
  obtain ⟨m, rfl⟩ : ∃ m, n = m + 1 := ⟨n - 1, by omega⟩
  simp [Builtin.clear_, run_underlying ht, hv, hst]
end Go.Proofs.Ytmlcififmjpcpaa
