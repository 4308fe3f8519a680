/-
  Whole numbers in a row of the call's own: sorted, and each once.
-/
import Derived.Test.YtmlcififmjpcpaaDoorFlowP
import Derived.Test.YtmlcififmjpcpaaDoorOwn
import Derived.Test.YtmlcififmjpcpaaDoorShelf
import Derived.LoopN
import Derived.Lib.RowBridge
namespace Go.Proofs.YtmlcififmjpcpaaDoor
open Go.RowKit
set_option linter.unusedVariables false
set_option linter.unusedSimpArgs false

attribute [local go_sem] Oper.semAt_some

theorem putRow_block {w : World} {blk off : Nat} {d : Array Int} {c : Array Value} {t : TypeId} {fr : Nat × Nat} (h : w.heap[blk]? = some (.cells c t fr)) :
    (Go.Sort.putRow (Value.int .i64) w blk off d).heap[blk]? = some (.cells (Go.Sort.putCells (Value.int .i64) off d c) t fr) := by
  show (w.heap.modify blk _)[blk]? = _
  rw [Array.getElem?_modify, if_pos rfl, h]
  rfl
theorem putRow_other {w : World} {blk off k : Nat} {d : Array Int} (h : k ≠ blk) : (Go.Sort.putRow (Value.int .i64) w blk off d).heap[k]? = w.heap[k]? := by
  show (w.heap.modify blk _)[k]? = _
  rw [Array.getElem?_modify, if_neg (fun e => h e.symm)]
theorem putRow_size (w : World) (blk off : Nat) (d : Array Int) : (Go.Sort.putRow (Value.int .i64) w blk off d).heap.size = w.heap.size := by
  show (w.heap.modify blk _).size = _
  simp
theorem putCells_take (d : List Int) (c : Array Value) (h : d.length ≤ c.size) : (Go.Sort.putCells (Value.int .i64) 0 d.toArray c).size = c.size ∧ (Go.Sort.putCells (Value.int .i64) 0 d.toArray c).toList.take d.length = icell d := by
  have hs : (Go.Sort.putCells (Value.int .i64) 0 d.toArray c).size = c.size := by simp [Go.Sort.putCells]
  refine ⟨hs, ?_⟩
  apply List.ext_getElem
  · simp [icell, hs]; omega
  · intro i h1 h2
    have hi : i < d.length := by simpa [icell] using h2
    simp [Go.Sort.putCells, icell, hi]

/-- A row of whole numbers that the call owns, as the sort asks it. -/
theorem own_holds {W : World} {base g cap : Nat} {zs : List Int} (h : W.ownsRow base 3 1 (.slice (some ⟨g, 0, none⟩) zs.length cap) zs.length (icell zs)) : Go.Sort.Holds (Value.int .i64) W g 0 zs.toArray ∧ g < W.heap.size ∧ base ≤ g ∧ zs.length ≤ cap ∧ cap ≤ maxLen := by
  obtain ⟨hl, hr⟩ := h
  rcases hr with ⟨hr, _⟩ | ⟨g2, cap2, cur, hv, hb, hh, h1, h2, h3, h4⟩
  · cases hr
  · cases hv
    refine ⟨fun j hj => ?_, (Array.getElem?_eq_some_iff.1 hh).1, hb, h1, h2⟩
    have hj' : j < zs.length := by simpa using hj
    rw [Nat.zero_add]
    refine ⟨?_, by simp [World.frozen?, hh]⟩
    have e := take_get h4 j (by omega)
    simp only [World.cell?, hh]
    simp only [icell, List.getElem?_map] at e
    rw [show zs[j]? = some zs[j] from List.getElem?_eq_getElem hj'] at e
    simp [e, getElem!_pos, hj']
theorem own_put {W : World} {base g cap n : Nat} {zs ys : List Int} (h : W.ownsRow base 3 1 (.slice (some ⟨g, 0, none⟩) zs.length cap) zs.length (icell zs)) (hn : n ≤ zs.length) (hy : ys.length = zs.length) (W' : World)
    (hW : ∀ k, k < W.heap.size → W'.heap[k]? = (Go.Sort.putRow (Value.int .i64) W g 0 ys.toArray).heap[k]?) : W'.ownsRow base 3 1 (.slice (some ⟨g, 0, none⟩) n cap) n (icell (ys.take n)) := by
  obtain ⟨hl, hr⟩ := h
  rcases hr with ⟨hr, _⟩ | ⟨g2, cap2, cur, hv, hb, hh, h1, h2, h3, h4⟩
  · cases hr
  · cases hv
    have hlt := (Array.getElem?_eq_some_iff.1 hh).1
    have hp := putCells_take ys cur (by omega)
    refine ⟨by rw [icell_len, List.length_take]; omega, .inr ⟨g, cap, _, rfl, hb, (hW g hlt).trans (putRow_block hh), by omega, h2, by rw [hp.1]; omega, ?_⟩⟩
    rw [Nat.mul_one, icell, List.map_take, show List.map (Value.int .i64) ys = icell ys from rfl, ← hp.2, List.take_take]
    congr 1
    omega
theorem below_put {W W' : World} {g : Nat} {ys : Array Int} {base : Nat} (hb : base ≤ g) (ho : W'.os = W.os) (ht : W'.tape = W.tape) (hu : W'.output = W.output) (hs : W.heap.size ≤ W'.heap.size) (hlt : base ≤ W.heap.size)
    (hW : ∀ k, k < W.heap.size → W'.heap[k]? = (Go.Sort.putRow (Value.int .i64) W g 0 ys).heap[k]?) : Below base W W' :=
  ⟨ho, ht, hu, by omega, fun k hk => (hW k (by omega)).trans (putRow_other (by omega))⟩

set_option maxRecDepth 100000 in
theorem insertion_none (W : World) (p : Option Addr) (cap : Nat) : Calls Tryd.prog 48 #[.slice p 0 cap, .int .i64 0, .int .i64 0] W fun e W' => e = .returned (.tuple #[]) ∧ W' = W := by
  go_enter Tryd.func48, Tryd.ntmps48
  go_wp2
  refine wp_loop_rounds 1 ?_
  rw [rounds_succ]
  go_wp2
  go_end0
  exact ⟨rfl, rfl⟩
set_option maxRecDepth 100000 in
theorem pdq_none (W : World) (p : Option Addr) (cap : Nat) (k : Int) : Calls Tryd.prog 45 #[.slice p 0 cap, .int .i64 0, .int .i64 0, .int .i64 k] W fun e W' => e = .returned (.tuple #[]) ∧ W' = W := by
  go_enter Tryd.func45, Tryd.ntmps45
  go_wp2
  refine wp_loop_rounds 1 ?_
  rw [rounds_succ]
  go_wp2_with (go_at_call 48; refine (insertion_none _ p cap).mono ?_; rintro e w' ⟨rfl, rfl⟩)
  (try simp only [Exit.inBlock, Exit.then]); refine bodyPost_ret (results_none rfl _ _ _) rfl ?_
  exact ⟨rfl, rfl⟩
set_option maxRecDepth 100000 in
theorem sort_none (W : World) (p : Option Addr) (cap : Nat) : Calls Tryd.prog 39 #[.slice p 0 cap] W fun e W' => e = .returned (.tuple #[]) ∧ W' = W := by
  go_enter Tryd.func39, Tryd.ntmps39
  go_wp2_with (first | (go_at_call 46; refine (Tryd.bits_Len 0 _ (by decide) (by decide)).mono ?_; rintro e w' ⟨rfl, rfl⟩) | (go_at_call 45; refine (pdq_none _ p cap _).mono ?_; rintro e w' ⟨rfl, rfl⟩))
  go_end0
  exact ⟨rfl, rfl⟩

/-- Sorted and compacted, one behind the other. -/
theorem sort_row (W : World) (base : Nat) (v : Value) (zs : List Int) (h : W.ownsRow base 3 1 v zs.length (icell zs)) (hz : zs.length ≤ 1000000) (hbw : base ≤ W.heap.size) :
    Calls Tryd.prog 39 #[v] W fun e W' => e = .returned (.tuple #[]) ∧ W'.ownsRow base 3 1 v zs.length (icell (zs.mergeSort fun x y => decide (x ≤ y))) ∧ Below base W W' := by
  by_cases h0 : v = .slice none 0 0
  · subst h0
    have hl : zs.length = 0 := by
      rcases h.2 with ⟨_, hn⟩ | ⟨g, cap, cur, hv, _⟩
      · exact hn
      · cases hv
    have : zs = [] := List.eq_nil_of_length_eq_zero hl
    subst this
    refine (sort_none W none 0).mono ?_
    rintro e w' ⟨rfl, rfl⟩
    exact ⟨rfl, by simpa [icell] using h, Below.refl _ _⟩
  · obtain ⟨g, cap, rfl⟩ : ∃ g cap, v = .slice (some ⟨g, 0, none⟩) zs.length cap := by
      rcases h.2 with ⟨hv, hn⟩ | ⟨g, cap, cur, hv, _⟩
      · exact absurd hv h0
      · exact ⟨g, cap, hv⟩
    obtain ⟨hH, hlt, hbg, hc1, hc2⟩ := own_holds h
    refine (Tryd.slices_Sort_int g 0 cap zs W hH hlt (by omega)).mono ?_
    rintro e w' ⟨rfl, n, os, rfl⟩
    have hlen : (zs.mergeSort fun x y => decide (x ≤ y)).length = zs.length := List.length_mergeSort _
    have hW : ∀ k, k < W.heap.size → (Go.Sort.grow (Go.Sort.putRow (Value.int .i64) (Go.Sort.ahead W n) g 0 (zs.mergeSort fun x y => decide (x ≤ y)).toArray) os).heap[k]? = (Go.Sort.putRow (Value.int .i64) W g 0 (zs.mergeSort fun x y => decide (x ≤ y)).toArray).heap[k]? := fun k hk => by
      rw [Go.Sort.heap_grow_old _ _ (by rw [putRow_size]; exact hk)]
      rfl
    refine ⟨rfl, ?_, below_put hbg rfl rfl rfl (by rw [Go.Sort.size_grow, putRow_size]; exact Nat.le_add_right _ _) hbw hW⟩
    have := own_put h (Nat.le_refl _) hlen _ hW
    rwa [List.take_of_length_le (by omega)] at this

theorem compact_row (W : World) (base : Nat) (v : Value) (zs : List Int) (h : W.ownsRow base 3 1 v zs.length (icell zs)) (hz : zs.length ≤ 1000000) (hbw : base ≤ W.heap.size) :
    Calls Tryd.prog 40 #[v] W fun e W' => ∃ v', e = .returned v' ∧ W'.ownsRow base 3 1 v' (Lib.compact zs).length (icell (Lib.compact zs)) ∧ Below base W W' := by
  by_cases h0 : v = .slice none 0 0
  · subst h0
    have hl : zs.length = 0 := by
      rcases h.2 with ⟨_, hn⟩ | ⟨g, cap, cur, hv, _⟩
      · exact hn
      · cases hv
    have : zs = [] := List.eq_nil_of_length_eq_zero hl
    subst this
    refine (Tryd.slices_Compact_int_empty none 0 W).mono ?_
    rintro e w' ⟨rfl, rfl⟩
    exact ⟨_, rfl, by simpa [icell, Lib.compact, Lib.compactUpTo] using h, Below.refl _ _⟩
  · obtain ⟨g, cap, rfl⟩ : ∃ g cap, v = .slice (some ⟨g, 0, none⟩) zs.length cap := by
      rcases h.2 with ⟨hv, hn⟩ | ⟨g, cap, cur, hv, _⟩
      · exact absurd hv h0
      · exact ⟨g, cap, hv⟩
    obtain ⟨hH, hlt, hbg, hc1, hc2⟩ := own_holds h
    have hcl := Lib.compact_length_le zs
    refine (Tryd.slices_Compact_int g 0 cap zs W hH (by omega) hc1).mono ?_
    rintro e w' ⟨rfl, q, rfl⟩
    have hlen : (Lib.compact zs ++ List.replicate (zs.length - (Lib.compact zs).length) (0 : Int)).length = zs.length := by simp; omega
    have hW : ∀ k, k < W.heap.size → (Go.Sort.putRow (Value.int .i64) (Go.Sort.ahead W q) g 0 (Lib.compact zs ++ List.replicate (zs.length - (Lib.compact zs).length) 0).toArray).heap[k]? = (Go.Sort.putRow (Value.int .i64) W g 0 (Lib.compact zs ++ List.replicate (zs.length - (Lib.compact zs).length) 0).toArray).heap[k]? := fun k hk => rfl
    refine ⟨_, rfl, ?_, below_put hbg rfl rfl rfl (by rw [putRow_size]; exact Nat.le_refl _) hbw hW⟩
    have := own_put h hcl hlen _ hW
    rwa [List.take_left] at this
end Go.Proofs.YtmlcififmjpcpaaDoor
