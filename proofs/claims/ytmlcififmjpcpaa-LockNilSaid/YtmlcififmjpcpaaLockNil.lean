/-
  The walk of LockNil: locks that are not there answer so, at every place and every thread.
-/
import Derived.Test.YtmlcififmjpcpaaLockG
namespace Go.Proofs.Ytmlcififmjpcpaa
open Go.RowKit

set_option maxRecDepth 100000 in
set_option maxHeartbeats 1000000 in
theorem lockNil_walk (a0 : Int) (a1 : Int) (_w0 : (Lit.int .i64 a0).wf = true) (_w1 : (Lit.int .i64 a1).wf = true) (w : World) :
    Calls Try.prog 6 #[.int .i64 a0, .int .i64 a1] w fun e w' => e = .returned (.bool true) ∧ Below w.heap.size w w' := by
  clear _w0 _w1
  go_enter Try.func6, Try.ntmps6
  go_wp2_with fail
  refine (owner_nil _ _).mono ?_
  rintro e w1 ⟨rfl, b1⟩
  go_wp2_with fail
  refine (enter_nil _ _ _).mono ?_
  rintro e w2 ⟨rfl, b2⟩
  go_wp2_with fail
  refine (exit_nil _ _ _).mono ?_
  rintro e w3 ⟨rfl, b3⟩
  go_wp2_with fail
  refine (held_any none [] (by simp) _ (nilP _ _)).mono ?_
  rintro e w4 ⟨v, rfl, ho, b4⟩
  obtain ⟨_, ⟨rfl, _⟩ | ⟨g, cap, cur, rfl, _⟩⟩ := ho
  all_goals
    go_wp2_with fail
    refine (of_any none _ [] (by simp) _ (nilP _ _)).mono ?_
    rintro e w5 ⟨rfl, b5⟩
    simp only [ofL, List.filter_nil, List.length_nil]
    go_wp2_with fail
    refine (put_nil _ _).mono ?_
    rintro e w6 ⟨rfl, b6⟩
    go_wp2_with fail
    refine (free_nil _ _).mono ?_
    rintro e w7 ⟨rfl, b7⟩
    go_wp2_with fail
    refine (known_any _).mono ?_
    rintro e w8 ⟨rfl, b8⟩
    have c2 := b1.trans (b2.mono b1.size)
    have c3 := c2.trans (b3.mono c2.size)
    have c4 := c3.trans (b4.mono c3.size)
    have c5 := c4.trans (b5.mono c4.size)
    have c6 := c5.trans (b6.mono c5.size)
    have c7 := c6.trans (b7.mono c6.size)
    have c8 := c7.trans (b8.mono c7.size)
    clear b1 b2 b3 b4 b5 b6 b7 b8 c2 c3 c4 c5 c6 c7
    go_wp2
    go_ret
    exact ⟨rfl, c8⟩
end Go.Proofs.Ytmlcififmjpcpaa
