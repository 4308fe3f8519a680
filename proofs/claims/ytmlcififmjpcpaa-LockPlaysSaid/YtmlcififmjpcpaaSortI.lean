/-
  slices.Sort and slices.Compact at int64, on a row of the call's own.
-/
import Derived.Test.YtmlcififmjpcpaaRefA
import Derived.Test.YtmlcififmjpcpaaShelf
import Derived.Lib.SlicesCompact
import Derived.Lib.RowBridge
namespace Go.Proofs.Ytmlcififmjpcpaa
open Go.RowKit
set_option linter.unusedVariables false
set_option linter.unusedSimpArgs false

def intV (pre : List Int) : List Value := pre.map (Value.int .i64)
theorem intV_len (xs : List Int) : (intV xs).length = xs.length := by simp [intV]
/-- In order, each once. -/
def Strict (l : List Int) : Prop := l.Pairwise (· < ·)

theorem compact_sorted (zs : List Int) (hs : zs.Pairwise (· ≤ ·)) : Strict (Lib.compact zs) ∧ ∀ y, y ∈ Lib.compact zs ↔ y ∈ zs := by
  have hle : ∀ i j, i < j → j < zs.length → zs.toArray[i]! ≤ zs.toArray[j]! := fun i j hij hj => by
    have := List.pairwise_iff_getElem.1 hs i j (by omega) hj hij
    simpa [getElem!_pos, hj, show i < zs.length by omega] using this
  have key : ∀ m, m ≤ zs.length → Strict (Lib.compactUpTo zs.toArray m) ∧ (∀ y, y ∈ Lib.compactUpTo zs.toArray m ↔ ∃ j, j < m ∧ zs.toArray[j]! = y) := by
    intro m
    induction m with
    | zero => intro _; simp [Lib.compactUpTo, Strict]
    | succ m ih =>
      intro hm
      obtain ⟨h1, h2⟩ := ih (by omega)
      rw [Lib.compactUpTo_succ]
      by_cases hk : Lib.keeps zs.toArray m = true
      · rw [if_pos hk]
        constructor
        · refine List.pairwise_append.2 ⟨h1, by simp, fun a ha b hb => ?_⟩
          simp only [List.mem_singleton] at hb
          subst hb
          obtain ⟨j, hj, rfl⟩ := (h2 a).1 ha
          simp only [Lib.keeps, decide_eq_true_eq] at hk
          have h3 := hle (m - 1) m (by omega) (by omega)
          have h4 : zs.toArray[j]! ≤ zs.toArray[m - 1]! := by
            rcases Nat.lt_or_ge j (m - 1) with h | h
            · exact hle j (m - 1) h (by omega)
            · have : j = m - 1 := by omega
              subst this; exact Int.le_refl _
          rcases hk with hk | hk
          · omega
          · omega
        · intro y
          rw [List.mem_append, h2]
          simp only [List.mem_singleton]
          constructor
          · rintro (⟨j, hj, rfl⟩ | rfl)
            · exact ⟨j, by omega, rfl⟩
            · exact ⟨m, by omega, rfl⟩
          · rintro ⟨j, hj, rfl⟩
            rcases Nat.lt_or_ge j m with h | h
            · exact .inl ⟨j, h, rfl⟩
            · have : j = m := by omega
              subst this; exact .inr rfl
      · rw [if_neg hk, List.append_nil]
        refine ⟨h1, fun y => ?_⟩
        rw [h2]
        simp only [Lib.keeps, decide_eq_true_eq, not_or, Decidable.not_not] at hk
        constructor
        · rintro ⟨j, hj, rfl⟩
          exact ⟨j, by omega, rfl⟩
        · rintro ⟨j, hj, rfl⟩
          rcases Nat.lt_or_ge j m with h | h
          · exact ⟨j, h, rfl⟩
          · have : j = m := by omega
            subst this
            exact ⟨j - 1, by omega, hk.2.symm⟩
  obtain ⟨h1, h2⟩ := key zs.length (Nat.le_refl _)
  refine ⟨h1, fun y => ?_⟩
  rw [Lib.compact, h2]
  constructor
  · rintro ⟨j, hj, rfl⟩
    simp [getElem!_pos, hj]
  · intro hy
    obtain ⟨j, hj, rfl⟩ := List.getElem_of_mem hy
    exact ⟨j, hj, by simp [getElem!_pos, hj]⟩

theorem putRow_block {w : World} {blk off : Nat} {d : Array Int} {c : Array Value} {t : TypeId} {fr : Nat × Nat} (h : w.heap[blk]? = some (.cells c t fr)) :
    (Go.Sort.putRow (Value.int .i64) w blk off d).heap[blk]? = some (.cells (Go.Sort.putCells (Value.int .i64) off d c) t fr) := by
  show (w.heap.modify blk _)[blk]? = _
  rw [Array.getElem?_modify, if_pos rfl, h]
  rfl
theorem putRow_other {w : World} {blk off k : Nat} {d : Array Int} (h : k ≠ blk) : (Go.Sort.putRow (Value.int .i64) w blk off d).heap[k]? = w.heap[k]? := by
  show (w.heap.modify blk _)[k]? = _
  rw [Array.getElem?_modify, if_neg (fun e => h e.symm)]
theorem putRow_size (w : World) (blk off : Nat) (d : Array Int) : (Go.Sort.putRow (Value.int .i64) w blk off d).heap.size = w.heap.size := by
  show (w.heap.modify blk _).size = _
  simp
theorem putCells_take (d : List Int) (c : Array Value) (h : d.length ≤ c.size) : (Go.Sort.putCells (Value.int .i64) 0 d.toArray c).size = c.size ∧ (Go.Sort.putCells (Value.int .i64) 0 d.toArray c).toList.take d.length = intV d := by
  have hs : (Go.Sort.putCells (Value.int .i64) 0 d.toArray c).size = c.size := by simp [Go.Sort.putCells]
  refine ⟨hs, ?_⟩
  apply List.ext_getElem
  · simp [intV, hs]; omega
  · intro i h1 h2
    have hi : i < d.length := by simpa [intV] using h2
    simp [Go.Sort.putCells, intV, hi]

/-- A row of whole numbers that the call owns, as the sort asks it. -/
theorem own_holds {W : World} {base g cap : Nat} {zs : List Int} (h : W.ownsRow base 2 1 (.slice (some ⟨g, 0, none⟩) zs.length cap) zs.length (intV zs)) : Go.Sort.Holds (Value.int .i64) W g 0 zs.toArray ∧ g < W.heap.size ∧ base ≤ g ∧ zs.length ≤ cap ∧ cap ≤ maxLen := by
  obtain ⟨hl, hr⟩ := h
  rcases hr with ⟨hr, _⟩ | ⟨g2, cap2, cur, hv, hb, hh, h1, h2, h3, h4⟩
  · cases hr
  · cases hv
    refine ⟨fun j hj => ?_, (Array.getElem?_eq_some_iff.1 hh).1, hb, h1, h2⟩
    have hj' : j < zs.length := by simpa using hj
    rw [Nat.zero_add]
    refine ⟨?_, by simp [World.frozen?, hh]⟩
    have e := take_get h4 j (by omega)
    simp only [World.cell?, hh]
    simp only [intV, List.getElem?_map] at e
    rw [show zs[j]? = some zs[j] from List.getElem?_eq_getElem hj'] at e
    simp [e, getElem!_pos, hj']
theorem own_put {W : World} {base g cap n : Nat} {zs ys : List Int} (h : W.ownsRow base 2 1 (.slice (some ⟨g, 0, none⟩) zs.length cap) zs.length (intV zs)) (hn : n ≤ zs.length) (hy : ys.length = zs.length) (W' : World)
    (hW : ∀ k, k < W.heap.size → W'.heap[k]? = (Go.Sort.putRow (Value.int .i64) W g 0 ys.toArray).heap[k]?) : W'.ownsRow base 2 1 (.slice (some ⟨g, 0, none⟩) n cap) n (intV (ys.take n)) := by
  obtain ⟨hl, hr⟩ := h
  rcases hr with ⟨hr, _⟩ | ⟨g2, cap2, cur, hv, hb, hh, h1, h2, h3, h4⟩
  · cases hr
  · cases hv
    have hlt := (Array.getElem?_eq_some_iff.1 hh).1
    have hp := putCells_take ys cur (by omega)
    refine ⟨by rw [intV_len, List.length_take]; omega, .inr ⟨g, cap, _, rfl, hb, (hW g hlt).trans (putRow_block hh), by omega, h2, by rw [hp.1]; omega, ?_⟩⟩
    rw [Nat.mul_one, intV, List.map_take, show List.map (Value.int .i64) ys = intV ys from rfl, ← hp.2, List.take_take]
    congr 1
    omega
theorem below_put {W W' : World} {g : Nat} {ys : Array Int} {base : Nat} (hb : base ≤ g) (ho : W'.os = W.os) (ht : W'.tape = W.tape) (hu : W'.output = W.output) (hs : W.heap.size ≤ W'.heap.size) (hlt : base ≤ W.heap.size)
    (hW : ∀ k, k < W.heap.size → W'.heap[k]? = (Go.Sort.putRow (Value.int .i64) W g 0 ys).heap[k]?) : Below base W W' :=
  ⟨ho, ht, hu, by omega, fun k hk => (hW k (by omega)).trans (putRow_other (by omega))⟩

/-- Sorted and compacted, one behind the other. -/
theorem sort_row (W : World) (base : Nat) (v : Value) (zs : List Int) (h : W.ownsRow base 2 1 v zs.length (intV zs)) (hz : zs.length ≤ 1000000) (hbw : base ≤ W.heap.size) :
    Calls Try.prog 37 #[v] W fun e W' => e = .returned (.tuple #[]) ∧ W'.ownsRow base 2 1 v zs.length (intV (zs.mergeSort fun x y => decide (x ≤ y))) ∧ Below base W W' := by
  by_cases h0 : v = .slice none 0 0
  · subst h0
    have hl : zs.length = 0 := by
      rcases h.2 with ⟨_, hn⟩ | ⟨g, cap, cur, hv, _⟩
      · exact hn
      · cases hv
    have : zs = [] := List.eq_nil_of_length_eq_zero hl
    subst this
    refine (Try.slices_Sort_int_none none 0 W).mono ?_
    rintro e w' ⟨rfl, rfl⟩
    exact ⟨rfl, by simpa [intV] using h, Below.refl _ _⟩
  · obtain ⟨g, cap, rfl⟩ : ∃ g cap, v = .slice (some ⟨g, 0, none⟩) zs.length cap := by
      rcases h.2 with ⟨hv, hn⟩ | ⟨g, cap, cur, hv, _⟩
      · exact absurd hv h0
      · exact ⟨g, cap, hv⟩
    obtain ⟨hH, hlt, hbg, hc1, hc2⟩ := own_holds h
    refine (Try.slices_Sort_int g 0 cap zs W hH hlt (by omega)).mono ?_
    rintro e w' ⟨rfl, n, os, rfl⟩
    have hlen : (zs.mergeSort fun x y => decide (x ≤ y)).length = zs.length := List.length_mergeSort _
    have hW : ∀ k, k < W.heap.size → (Go.Sort.grow (Go.Sort.putRow (Value.int .i64) (Go.Sort.ahead W n) g 0 (zs.mergeSort fun x y => decide (x ≤ y)).toArray) os).heap[k]? = (Go.Sort.putRow (Value.int .i64) W g 0 (zs.mergeSort fun x y => decide (x ≤ y)).toArray).heap[k]? := fun k hk => by
      rw [Go.Sort.heap_grow_old _ _ (by rw [putRow_size]; exact hk)]
      rfl
    refine ⟨rfl, ?_, below_put hbg rfl rfl rfl (by rw [Go.Sort.size_grow, putRow_size]; exact Nat.le_add_right _ _) hbw hW⟩
    have := own_put h (Nat.le_refl _) hlen _ hW
    rwa [List.take_of_length_le (by omega)] at this

theorem compact_row (W : World) (base : Nat) (v : Value) (zs : List Int) (h : W.ownsRow base 2 1 v zs.length (intV zs)) (hz : zs.length ≤ 1000000) (hbw : base ≤ W.heap.size) :
    Calls Try.prog 33 #[v] W fun e W' => ∃ a cap, e = .returned (.slice a (Lib.compact zs).length cap) ∧ W'.ownsRow base 2 1 v zs.length (intV (Lib.compact zs ++ List.replicate (zs.length - (Lib.compact zs).length) 0)) ∧ Below base W W' := by
  by_cases h0 : v = .slice none 0 0
  · subst h0
    have hl : zs.length = 0 := by
      rcases h.2 with ⟨_, hn⟩ | ⟨g, cap, cur, hv, _⟩
      · exact hn
      · cases hv
    have : zs = [] := List.eq_nil_of_length_eq_zero hl
    subst this
    refine (Try.slices_Compact_int_empty none 0 W).mono ?_
    rintro e w' ⟨rfl, rfl⟩
    exact ⟨_, _, rfl, by simpa [intV, Lib.compact, Lib.compactUpTo] using h, Below.refl _ _⟩
  · obtain ⟨g, cap, rfl⟩ : ∃ g cap, v = .slice (some ⟨g, 0, none⟩) zs.length cap := by
      rcases h.2 with ⟨hv, hn⟩ | ⟨g, cap, cur, hv, _⟩
      · exact absurd hv h0
      · exact ⟨g, cap, hv⟩
    obtain ⟨hH, hlt, hbg, hc1, hc2⟩ := own_holds h
    have hcl := Lib.compact_length_le zs
    refine (Try.slices_Compact_int g 0 cap zs W hH (by omega) hc1).mono ?_
    rintro e w' ⟨rfl, q, rfl⟩
    have hlen : (Lib.compact zs ++ List.replicate (zs.length - (Lib.compact zs).length) (0 : Int)).length = zs.length := by simp; omega
    have hW : ∀ k, k < W.heap.size → (Go.Sort.putRow (Value.int .i64) (Go.Sort.ahead W q) g 0 (Lib.compact zs ++ List.replicate (zs.length - (Lib.compact zs).length) 0).toArray).heap[k]? = (Go.Sort.putRow (Value.int .i64) W g 0 (Lib.compact zs ++ List.replicate (zs.length - (Lib.compact zs).length) 0).toArray).heap[k]? := fun k hk => rfl
    refine ⟨_, _, rfl, ?_, below_put hbg rfl rfl rfl (by rw [putRow_size]; exact Nat.le_refl _) hbw hW⟩
    have := own_put h (Nat.le_refl _) hlen _ hW
    rwa [List.take_of_length_le (by omega)] at this
end Go.Proofs.Ytmlcififmjpcpaa
