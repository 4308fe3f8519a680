/-
  The law on where code goes on: its walk.
-/
import Derived.Test.YtmlcififmjpcpaaDoorFlowC
namespace Go.Proofs.YtmlcififmjpcpaaDoor
open Go.RowKit
set_option linter.unusedVariables false
set_option linter.unusedSimpArgs false

attribute [local go_sem] Oper.semAt_some

theorem goesOn_len (op a k : Int) : (goesOn op a k).length ≤ 2 := by
  unfold goesOn
  split
  · simp
  · split
    · simp
    · split
      · split
        · simp
        · split <;> simp
      · simp
theorem nextL_len (code : List InsD) (at_ : Int) : (nextL code at_).length ≤ 1000 := by
  unfold nextL
  split
  · simp
  · split
    · simp
    · split
      · have := goesOn_len ‹InsD›.op ‹InsD›.a at_; omega
      · simp

set_option maxRecDepth 100000 in
set_option maxHeartbeats 4000000 in
theorem insFlows_any (v0 : Value) (code : List InsD) (at_ : Int) (W : World)
    (h0' : RSlice KIns 2 W v0 code ∧ (code.length * 16 ≤ 140737488351232 ∧ ∀ x ∈ code, (Lit.int .i64 x.op).wf = true ∧ (Lit.int .i64 x.a).wf = true)) (w2 : (Lit.int .i64 at_).wf = true) (hF : FormsAt W) :
    Calls Tryd.prog 6 #[v0, .int .i64 at_] W fun e W' => e = .returned (.bool true) ∧ Below W.heap.size W W' := by
  have hz := hF.pos
  have hc := code_in h0'.1
  obtain ⟨ao2, cap2, rfl, hcap2, _⟩ := SliceIn.form hc
  have k7 := Lib.hid (fun w (h : Below W.heap.size W w) => known4_any w (hF.mono hz h) (Nat.lt_of_lt_of_le hz h.size))
  clear h0'
  by_cases hl6 : code.length > 600
  · have hb : decide (600 < (code.length : Int)) = true := decide_eq_true (by omega)
    have hb0 := Lib.hid (Below.refl W.heap.size W)
    clear hF hc w2
    go_enter Tryd.func6, Tryd.ntmps6
    go_wp2_with fail
    refine (k7.out _ hb0.out).mono ?_
    rintro e w2 ⟨rfl, hb2⟩
    have hb2' := Lib.hid hb2
    clear hb2
    go_wp2
    go_ret
    exact ⟨rfl, hb2'.out⟩
  · have hb : decide (600 < (code.length : Int)) = false := decide_eq_false (by omega)
    have HF := Lib.hid hF
    have HC := Lib.hid hc
    have hl : code.length ≤ 600 := by omega
    have c0 := Lib.hid (next_any W _ code at_ hc hl)
    have hcl := fun w (h : Below W.heap.size W w) => (SliceIn.later hc (Nat.le_refl _) h).up h.size
    have c1 := Lib.hid (fun w (h : Below W.heap.size W w) => rnext_any w _ code at_ (hcl w h) hl)
    have c2 := Lib.hid (fun w (h : Below W.heap.size W w) => back_any w _ code at_ (hF.mono hz h) (hcl w h) hl)
    have c3 := Lib.hid (fun w (h : Below W.heap.size W w) => rback_any w _ code at_ (hcl w h) hl)
    have c4 := Lib.hid (fun w (h : Below W.heap.size W w) => uses_any w _ code (hF.mono hz h) (hcl w h) hl)
    have c5 := Lib.hid (fun w (h : Below W.heap.size W w) => ruses_any w _ code (hcl w h) hl)
    have hnl := nextL_len code at_
    have hpl := putAll_len code code.length
    rw [List.take_length] at hpl
    generalize nextL code at_ = nx at c0 c1 hnl
    generalize putAll code = us at c4 c5 hpl
    generalize backL code at_ = bk at c2 c3
    have ebk : (bk == bk) = true := beq_self_eq_true _
    clear hF hc w2 hl6 hcl HF HC
    go_enter Tryd.func6, Tryd.ntmps6
    go_wp2_with fail
    refine c0.out.mono ?_
    rintro e w1 ⟨⟨x, rfl, hx⟩, b1⟩
    have B1 := Lib.hid b1
    have X1 := Lib.hid hx
    clear b1 hx
    go_wp2_with fail
    refine (c1.out _ B1.out).mono ?_
    rintro e w2 ⟨⟨y, rfl, hy⟩, b2⟩
    have B2 := Lib.hid (B1.out.trans (b2.mono B1.out.size))
    have X2 := Lib.hid ((SliceIn.later X1.out (Nat.le_refl _) b2).up b2.size)
    have Y2 := Lib.hid hy
    clear b2 hy X1 B1
    go_wp2_with fail
    refine (ints_any w2 x y nx X2.out Y2.out hnl).mono ?_
    rintro e w3 ⟨rfl, b3⟩
    have B3 := Lib.hid (B2.out.trans (b3.mono B2.out.size))
    clear b3 X2 Y2 B2
    go_wp2_with fail
    refine (c2.out _ B3.out).mono ?_
    rintro e w4 ⟨rfl, b4⟩
    have B4 := Lib.hid (B3.out.trans (b4.mono B3.out.size))
    clear b4 B3
    go_wp2_with fail
    refine (c3.out _ B4.out).mono ?_
    rintro e w5 ⟨rfl, b5⟩
    have B5 := Lib.hid (B4.out.trans (b5.mono B4.out.size))
    clear b5 B4
    go_wp2_with fail
    refine (c4.out _ B5.out).mono ?_
    rintro e w6 ⟨⟨p, rfl, hp⟩, b6⟩
    have B6 := Lib.hid (B5.out.trans (b6.mono B5.out.size))
    have P6 := Lib.hid hp
    clear b6 hp B5
    go_wp2_with fail
    refine (c5.out _ B6.out).mono ?_
    rintro e w7 ⟨⟨q, rfl, hq⟩, b7⟩
    have B7 := Lib.hid (B6.out.trans (b7.mono B6.out.size))
    have P7 := Lib.hid ((SliceIn.later P6.out (Nat.le_refl _) b7).up b7.size)
    have Q7 := Lib.hid hq
    clear b7 hq P6 B6
    go_wp2_with fail
    refine (ints_any w7 p q us P7.out Q7.out (by omega)).mono ?_
    rintro e w8 ⟨rfl, b8⟩
    have B8 := Lib.hid (B7.out.trans (b8.mono B7.out.size))
    clear b8 P7 Q7 B7
    go_wp2_with fail
    refine (k7.out _ B8.out).mono ?_
    rintro e w9 ⟨rfl, b9⟩
    have B9 := Lib.hid (B8.out.trans (b9.mono B8.out.size))
    clear b9 B8
    go_wp2
    go_ret
    exact ⟨rfl, B9.out⟩
end Go.Proofs.YtmlcififmjpcpaaDoor
