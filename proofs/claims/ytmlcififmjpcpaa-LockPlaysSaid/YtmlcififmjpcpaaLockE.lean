/-
  slices.Delete of one hold.
-/
import Derived.Test.YtmlcififmjpcpaaLockD
import Derived.Deep.RegionLaw
import Derived.Deep.LoopGhost
import Derived.Lib.Walk
namespace Go.Proofs.Ytmlcififmjpcpaa
open Go.RowKit

theorem zeroHold (w : World) : (zeroValue 51).run Try.prog w = .ok (.agg #[.int .i64 0, .int .i64 0, .int .i64 0]) w := by kernel_rfl

theorem cellsH_drop (hs : List Hold) (j : Nat) : (cellsH hs).drop (j * 3) = cellsH (hs.drop j) := by
  induction hs generalizing j with
  | nil => simp [cellsH]
  | cons h r ih =>
    cases j with
    | zero => simp
    | succ j =>
      have := ih j
      simp only [cellsH, List.flatMap_cons, List.drop_succ_cons] at this ⊢
      rw [show (j + 1) * 3 = h.cells.length + j * 3 by simp [Hold.cells]; omega, List.drop_length_add_append, this]
theorem cellsH_take (hs : List Hold) (j : Nat) : (cellsH hs).take (j * 3) = cellsH (hs.take j) := by
  induction hs generalizing j with
  | nil => simp [cellsH]
  | cons h r ih =>
    cases j with
    | zero => simp [cellsH]
    | succ j =>
      have := ih j
      simp only [cellsH, List.flatMap_cons, List.take_succ_cons] at this ⊢
      rw [show (j + 1) * 3 = h.cells.length + j * 3 by simp [Hold.cells]; omega, List.take_length_add_append, this]
theorem cellsH_one' (hs : List Hold) : ∀ u ∈ cellsH hs, u.oneCell' = true := by
  intro u hu
  obtain ⟨h, _, hu⟩ := List.mem_flatMap.1 hu
  simp [Hold.cells] at hu
  rcases hu with rfl | rfl | rfl <;> rfl

set_option maxHeartbeats 4000000 in
set_option maxRecDepth 1000000 in
theorem delete_any (W : World) (g cap i : Nat) (cur : Array Value) (hs : List Hold) (hB : Blk W g 51 cur) (hn : hs.length ≤ cap) (hm : cap ≤ maxLen) (hsz : cur.size = cap * 3) (hx : cur.toList.take (hs.length * 3) = cellsH hs) (hi : i < hs.length) :
    Calls Try.prog 22 #[.slice (some ⟨g, 0, none⟩) hs.length cap, .int .i64 i, .int .i64 ((i : Int) + 1)] W fun e W' =>
      e = .returned (.slice (some ⟨g, 0, none⟩) (hs.length - 1) cap) ∧ ∃ cur', Blk W' g 51 cur' ∧ cur'.size = cap * 3 ∧ cur'.toList.take ((hs.length - 1) * 3) = cellsH (hs.take i ++ hs.drop (i + 1)) ∧ Touch (fun k => k = g) W W' := by
  have hm' : cap ≤ 9223372036854775807 := by unfold maxLen at hm; omega
  obtain ⟨i0, hi0, hz0, hz1, hz2⟩ := info_parts info_hold
  obtain ⟨news, hnews⟩ : ∃ news, news = cellsH (hs.drop (i + 1)) := ⟨_, rfl⟩
  have hlen : news.length = (hs.length - (i + 1)) * 3 := by rw [hnews, cellsH_length]; simp
  have hget : ∀ t u, news[t]? = some u → W.drew.cell? ⟨g, (i + 1) * 3 + t, none⟩ = some u := by
    intro t u hu
    have ht : t < news.length := (List.getElem?_eq_some_iff.1 hu).1
    rw [hB.drew.cell, take_get hx _ (by omega), ← hu, hnews, ← cellsH_drop, List.getElem?_drop]
  obtain ⟨A, hA, hsrc⟩ : ∃ A : Addr, (if cap = i + 1 then (some ⟨g, 0, none⟩ : Option Addr) else some ⟨g, (i + 1) * 3, none⟩) = some A ∧ Hid (∀ t u, news[t]? = some u → W.drew.cell? (A.add t) = some u) := by
    by_cases h : cap = i + 1
    · refine ⟨⟨g, 0, none⟩, by simp [h], fun t u hu => ?_⟩
      have h0 : news.length = 0 := by rw [hlen]; omega
      rw [List.length_eq_zero_iff.1 h0] at hu
      simp at hu
    · refine ⟨⟨g, (i + 1) * 3, none⟩, by simp [h], fun t u hu => ?_⟩
      have e : (⟨g, (i + 1) * 3, none⟩ : Addr).add t = ⟨g, (i + 1) * 3 + t, none⟩ := by unfold Addr.add; split <;> simp_all
      rw [e]; exact hget t u hu
  have s1 : Hid (news.length = (hs.length - (i + 1)) * 3) := hlen
  have s2 : Hid (∀ u ∈ news, u.oneCell' = true) := by rw [hnews]; exact cellsH_one' _
  have hBs : ∀ t, t < cap * 3 → (W.drew.cell? ⟨g, t, none⟩).isSome = true ∧ W.drew.frozen? ⟨g, t, none⟩ = false := fun t ht => ⟨by rw [hB.drew.cell, Array.getElem?_eq_getElem (by omega)]; rfl, hB.drew.frozen _⟩
  have s3 : Hid (∀ t, t < news.length → (W.drew.cell? ⟨g, 0 + i * 3 + t, none⟩).isSome = true ∧ W.drew.frozen? ⟨g, 0 + i * 3 + t, none⟩ = false) := by
    intro t ht
    rw [hlen] at ht
    exact hBs _ (by omega)
  obtain ⟨W1, hW1⟩ : ∃ W1, W1 = W.drew.setCells g (0 + i * 3) news := ⟨_, rfl⟩
  have hB1 : Blk W1 g 51 (splice cur (i * 3) news) := by rw [hW1, Nat.zero_add]; exact hB.drew.setCells news (i * 3)
  have hS1 : (splice cur (i * 3) news).size = cap * 3 := by rw [splice_size]; exact hsz
  have hcl : ∀ ty, (Builtin.clear_ #[46] ty #[.slice (some ⟨g, (i + (hs.length - (i + 1))) * 3, none⟩) (hs.length - (i + (hs.length - (i + 1)))) (cap - (i + (hs.length - (i + 1))))]).run Try.prog W1 = .ok (.tuple #[]) (W1.setCells g ((i + (hs.length - (i + 1))) * 3) (Builtin.zeroCells #[.int .i64 0, .int .i64 0, .int .i64 0] (hs.length - (i + (hs.length - (i + 1))))).toList) :=
    fun ty => run_clear_cells W1 _ _ ty (.agg #[.int .i64 0, .int .i64 0, .int .i64 0]) Try.underlying46 zeroHold (by simp [Value.cells, Value.oneCell']) g _ _ _ (by omega)
      (fun t ht => by simp [Value.cells] at ht; rw [hB1.cell, Array.getElem?_eq_getElem (by omega)]; rfl) (fun t ht => hB1.frozen _)
  have hW : Hid (W1 = W.drew.setCells g (0 + i * 3) news) := hW1
  have hlen' := Lib.hid hlen
  have hnews' := Lib.hid hnews
  have hsz' := Lib.hid hsz
  have hx' := Lib.hid hx
  have hS1' := Lib.hid hS1
  have hic : i + 1 ≤ cap := by omega
  have hic0 : i ≤ cap := by omega
  have hin : i + 1 ≤ hs.length := by omega
  have hz1' : 0 ≤ (i : Int) + 1 := by omega
  have hz2' : (i : Int) + 1 ≤ (hs.length : Int) := by omega
  clear hW1 hget hnews hlen hsz hx hBs hS1
  go_enter Try.func22, Try.ntmps22
  go_wp2_with fail
  go_region_law (refine step_append_room rfl (.tmp 22) (.tmp 25) 46 rfl 51 i0 3 Try.underlying46 hi0 hz1 g 0 i cap (by simp [Act.eval, Act.put]) A (hs.length - (i + 1)) (cap - (i + 1)) news (by simp [Act.eval, Act.put]) s1.out hsrc.out s2.out (by omega) s3.out ?_; rw [← hW.out])
  go_wp2
  go_ret
  have ep : i + (hs.length - (i + 1)) = hs.length - 1 := by omega
  rw [ep]
  have hz : (Builtin.zeroCells #[Value.int .i64 0, .int .i64 0, .int .i64 0] (hs.length - (hs.length - 1))).toList.length = 3 := by simp [Builtin.zeroCells]; omega
  have hW' := hW.out
  have hS1 := hS1'.out
  have hsz := hsz'.out
  have hlen := hlen'.out
  refine ⟨rfl, _, hB1.setCells _ _, by rw [splice_size]; exact hS1, ?_, ?_⟩
  · rw [splice_list _ _ _ (by rw [hz, hS1]; omega), List.append_assoc, List.take_append_of_le_length (by simp [hS1]; omega), List.take_take, Nat.min_self]
    rw [splice_list _ _ _ (by rw [hlen, hsz]; omega), List.take_append_of_le_length (by simp [hlen, hsz]; omega), List.take_of_length_le (by simp [hlen, hsz]; omega)]
    rw [cellsH_append, hnews'.out, ← cellsH_take, ← hx'.out, List.take_take, Nat.min_eq_left (by omega)]
  · rw [hW', Nat.zero_add]
    exact ((((Touch.refl _ W).drew).grown (grownBy_setCells _ _ _ _) (fun k e => .inl (by cases e; rfl))).grown (grownBy_setCells _ _ _ _) (fun k e => .inl (by cases e; rfl)))
end Go.Proofs.Ytmlcififmjpcpaa
