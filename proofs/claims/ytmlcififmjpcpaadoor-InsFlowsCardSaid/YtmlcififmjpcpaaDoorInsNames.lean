/-
  The law on names and kinds: its walk.
-/
import Derived.Test.YtmlcififmjpcpaaDoorInsF
namespace Go.Proofs.YtmlcififmjpcpaaDoor
open Go.RowKit
set_option linter.unusedVariables false
set_option linter.unusedSimpArgs false

attribute [local go_sem] Oper.semAt_some

theorem FormsAt.pos {W : World} (h : FormsAt W) : 0 < W.heap.size := by
  have := World.block_lt_of_cell? W _ (h.kind (i := 0) (by decide))
  exact Nat.lt_of_le_of_lt (Nat.zero_le _) this

set_option maxRecDepth 100000 in
set_option maxHeartbeats 2000000 in
theorem insNames_any (op : Int) (s : ByteArray) (hop : (Lit.int .i64 op).wf = true) (hs : s.size ≤ 140737488351232) (W : World) (hF : FormsAt W) : Calls Tryd.prog 3 #[.int .i64 op, .string s] W fun e W' => e = .returned (.bool true) ∧ Below W.heap.size W W' := by
  have hz := hF.pos
  have k1 := Lib.hid (kind_any W op hF hz)
  have k2 := Lib.hid (fun w (h : Below W.heap.size W w) => refKind_any w op)
  have k3 := Lib.hid (fun w (h : Below W.heap.size W w) => name_any w op (hF.mono hz h) (Nat.lt_of_lt_of_le hz h.size))
  have k4 := Lib.hid (fun w (h : Below W.heap.size W w) => refName_any w op)
  have k5 := Lib.hid (fun w (h : Below W.heap.size W w) => find1_any w s (hF.mono hz h) (Nat.lt_of_lt_of_le hz h.size))
  have k6 := Lib.hid (fun w (h : Below W.heap.size W w) => refFind_any w s)
  have k7 := Lib.hid (fun w (h : Below W.heap.size W w) => known4_any w (hF.mono hz h) (Nat.lt_of_lt_of_le hz h.size))
  have e1 : (insKind op == insKind op) = true := beq_self_eq_true _
  have e2 : ((insName op).toList == (insName op).toList) = true := beq_self_eq_true _
  have e3 : (insFind s == insFind s) = true := beq_self_eq_true _
  generalize insKind op = x1 at k1 k2 e1
  generalize insName op = x2 at k3 k4 e2
  generalize insFind s = x3 at k5 k6 e3
  clear hF hop hs
  go_enter Tryd.func3, Tryd.ntmps3
  go_wp2_with fail
  refine k1.out.mono ?_; rintro e w1 ⟨rfl, b1⟩; have c1 := Lib.hid b1; clear b1
  go_wp2_with fail
  refine (k2.out w1 c1.out).mono ?_; rintro e w2 ⟨rfl, b2⟩; have c2 := Lib.hid (c1.out.trans (b2.mono c1.out.size)); clear b2
  go_wp2_with fail
  refine (k3.out w2 c2.out).mono ?_; rintro e w3 ⟨rfl, b3⟩; have c3 := Lib.hid (c2.out.trans (b3.mono c2.out.size)); clear b3
  go_wp2_with fail
  refine (k4.out w3 c3.out).mono ?_; rintro e w4 ⟨rfl, b4⟩; have c4 := Lib.hid (c3.out.trans (b4.mono c3.out.size)); clear b4
  go_wp2_with fail
  refine (k5.out w4 c4.out).mono ?_; rintro e w5 ⟨rfl, b5⟩; have c5 := Lib.hid (c4.out.trans (b5.mono c4.out.size)); clear b5
  go_wp2_with fail
  refine (k6.out w5 c5.out).mono ?_; rintro e w6 ⟨rfl, b6⟩; have c6 := Lib.hid (c5.out.trans (b6.mono c5.out.size)); clear b6
  go_wp2_with fail
  refine (k7.out w6 c6.out).mono ?_; rintro e w7 ⟨rfl, b7⟩; have c7 := Lib.hid (c6.out.trans (b7.mono c6.out.size)); clear b7
  go_wp2
  go_ret
  exact ⟨rfl, c7.out⟩
end Go.Proofs.YtmlcififmjpcpaaDoor
