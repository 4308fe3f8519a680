/-
  'New'; what a nil pointer answers; the fixed calls of 'known'.
-/
import Derived.Test.YtmlcififmjpcpaaLockF
namespace Go.Proofs.Ytmlcififmjpcpaa
open Go.RowKit

set_option maxRecDepth 100000 in
theorem new_any (W : World) : Calls Try.prog 7 #[] W fun e W' => e = .returned (.pointer (some ⟨W.heap.size, 0, none⟩)) ∧ LockObj W' (grow (fun _ => False) W W') W.heap.size [] ∧ Below W.heap.size W W' := by
  go_enter Try.func7, Try.ntmps7
  go_wp2
  go_ret
  refine ⟨rfl, ⟨.inr ⟨Nat.le_refl _, by simp⟩, _, Boxed.new _ _ _, ⟨World.ownsRow_nil _ _ _ _, fun k hk => by simp [Value.ownBlock] at hk⟩⟩, (Below.refl _ _).alloc (Nat.le_refl _) _⟩

theorem nilP (n₀ : Nat) (W : World) : LocksP n₀ W none [] := .inl ⟨rfl, rfl⟩

set_option maxRecDepth 100000 in
theorem enter_nil (W : World) (a who : Int) : Calls Try.prog 8 #[.pointer none, .int .i64 a, .int .i64 who] W fun e W' => e = .returned (.int .i64 1) ∧ Below W.heap.size W W' := by
  have hfind := find_any none a [] (by simp) W (nilP _ _)
  go_enter Try.func8, Try.ntmps8
  go_wp2_with (go_at_call 21; refine hfind.mono ?_; rintro e w1 ⟨rfl, hb⟩)
  go_ret
  exact ⟨rfl, ‹_›⟩

set_option maxRecDepth 100000 in
theorem exit_nil (W : World) (a who : Int) : Calls Try.prog 9 #[.pointer none, .int .i64 a, .int .i64 who] W fun e W' => e = .returned (.int .i64 1) ∧ Below W.heap.size W W' := by
  have hfind := find_any none a [] (by simp) W (nilP _ _)
  go_enter Try.func9, Try.ntmps9
  go_wp2_with (go_at_call 21; refine hfind.mono ?_; rintro e w1 ⟨rfl, hb⟩)
  go_ret
  exact ⟨rfl, ‹_›⟩

set_option maxRecDepth 100000 in
theorem owner_nil (W : World) (a : Int) : Calls Try.prog 15 #[.pointer none, .int .i64 a] W fun e W' => e = .returned (.tuple #[.int .i64 0, .int .i64 0, .bool false]) ∧ Below W.heap.size W W' := by
  have hfind := find_any none a [] (by simp) W (nilP _ _)
  go_enter Try.func15, Try.ntmps15
  go_wp2_with (go_at_call 21; refine hfind.mono ?_; rintro e w1 ⟨rfl, hb⟩)
  go_ret3
  exact ⟨rfl, ‹_›⟩

set_option maxRecDepth 100000 in
theorem put_nil (W : World) (v : Value) : Calls Try.prog 20 #[.pointer none, v] W fun e W' => e = .returned (.int .i64 1) ∧ Below W.heap.size W W' := by
  go_enter Try.func20, Try.ntmps20
  go_wp2
  go_ret
  exact ⟨rfl, Below.refl _ _⟩

set_option maxRecDepth 100000 in
theorem free_nil (W : World) (who : Int) : Calls Try.prog 11 #[.pointer none, .int .i64 who] W fun e W' => e = .returned (.int .i64 0) ∧ Below W.heap.size W W' := by
  have hof := fun w1 => of_any none who [] (by simp) w1 (nilP _ _)
  go_enter Try.func11, Try.ntmps11
  go_wp2_with (go_at_call 18; refine (hof _).mono ?_; rintro e w1 ⟨rfl, hb⟩; simp only [ofL, List.filter_nil, List.length_nil])
  go_ret
  exact ⟨rfl, ((Below.refl W.heap.size W).alloc (Nat.le_refl _) _).trans (Below.mono ‹_› (by simp))⟩

set_option maxRecDepth 100000 in
set_option maxHeartbeats 1000000 in
theorem known_any (W : World) : Calls Try.prog 10 #[] W fun e W' => e = .returned (.bool true) ∧ Below W.heap.size W W' := by
  go_enter Try.func10, Try.ntmps10
  go_wp2_with (go_at_call 7; refine (new_any _).mono ?_; rintro e w1 ⟨rfl, h1, hb1⟩)
  go_wp2_with fail
  refine (enter_any _ _ _ _ 5 1 h1 (by simp)).mono ?_
  rintro e w2 ⟨rfl, h2, t2⟩
  have e2 : enterL [] 5 1 = (0, [⟨5, 1, 1⟩]) := by kernel_rfl
  rw [e2] at h2 ⊢
  go_wp2_with fail
  refine (enter_any _ _ _ _ 5 1 h2 (by simp)).mono ?_
  rintro e w3 ⟨rfl, h3, t3⟩
  have e3 : enterL [⟨5, 1, 1⟩] 5 1 = (0, [⟨5, 1, 2⟩]) := by kernel_rfl
  rw [e3] at h3 ⊢
  go_wp2_with fail
  refine (enter_any _ _ _ _ 5 2 h3 (by simp)).mono ?_
  rintro e w4 ⟨rfl, h4, t4⟩
  have e4 : enterL [⟨5, 1, 2⟩] 5 2 = (29, [⟨5, 1, 2⟩]) := by kernel_rfl
  rw [e4] at h4 ⊢
  go_wp2_with fail
  refine (exit_any _ _ _ _ 5 1 h4 (by simp)).mono ?_
  rintro e w5 ⟨rfl, h5, t5⟩
  have e5 : exitL [⟨5, 1, 2⟩] 5 1 = (0, [⟨5, 1, 1⟩]) := by kernel_rfl
  rw [e5] at h5 ⊢
  go_wp2_with fail
  refine (owner_any _ _ _ _ 5 h5 (by simp)).mono ?_
  rintro e w6 ⟨rfl, b6⟩
  have e6 : ownerL [⟨5, 1, 1⟩] 5 = (1, 1, true) := by kernel_rfl
  rw [e6]
  clear h1 h2 h3 h4 h5 e2 e3 e4 e5 e6
  have g1 := grow_ge (S := fun _ => False) (w := W) (w' := w1) (n := W.heap.size) (fun _ h => h.elim) (Nat.le_refl _)
  have c1 := hb1
  have c2 := c1.trans (t2.below c1.size g1)
  have g2 := grow_ge (w' := w2) g1 c1.size
  have c3 := c2.trans (t3.below c2.size g2)
  have g3 := grow_ge (w' := w3) g2 c2.size
  have c4 := c3.trans (t4.below c3.size g3)
  have g4 := grow_ge (w' := w4) g3 c3.size
  have c5 := c4.trans (t5.below c4.size g4)
  have c6 := c5.trans (b6.mono c5.size)
  go_wp2
  go_ret
  exact ⟨rfl, c6⟩
end Go.Proofs.Ytmlcififmjpcpaa
