/-
  Part of a proof: NdE.
-/
import Derived.Test.YtcaigcmbgihhkaaDoorZNdD
import Derived.Deep.RegionLaw
namespace Go.Proofs.YtcaigcmbgihhkaaDoor
open Go Go.RowKit Go.Shelf
set_option linter.unusedVariables false
set_option linter.unusedSimpArgs false
attribute [local go_sem] Oper.semAt_some
theorem sameN_self (a : NodeD) : sameN a a = true := (sameN_iff a a).2 rfl
set_option maxRecDepth 100000 in
set_option maxHeartbeats 8000000 in
theorem parseNodes_any (v1 : Value) (a : NodeD) (v2 : Value) (b : NodeD) (W : World) (ha : NodeG W v1 a) (hb : NodeG W v2 b) (hS : SpaceAt W) : Calls Tryd.prog 3 #[v1, v2] W fun e W' => e = .returned (.bool true) ∧ Below W.heap.size W W' := by
  obtain ⟨k1, rfl, hk1⟩ := ha
  obtain ⟨k2, rfl, hk2⟩ := hb
  obtain ⟨ao1, c1, rfl⟩ := hk1.form
  obtain ⟨ao2, c2, rfl⟩ := hk2.form
  have HS := Lib.hid hS
  have q0 := (Blk.new W 24 #[.int .i64 a.op, .string (mkB a.text), .string (mkB a.type), .int .i64 a.n, .slice ao1 a.kids.length c1, .int .i64 a.at_]).alloc (.cells #[.int .i64 b.op, .string (mkB b.text), .string (mkB b.type), .int .i64 b.n, .slice ao2 b.kids.length c2, .int .i64 b.at_] 24)
  have q1 := Blk.new (W.alloc (.cells #[.int .i64 a.op, .string (mkB a.text), .string (mkB a.type), .int .i64 a.n, .slice ao1 a.kids.length c1, .int .i64 a.at_] 24)) 24 #[.int .i64 b.op, .string (mkB b.text), .string (mkB b.type), .int .i64 b.n, .slice ao2 b.kids.length c2, .int .i64 b.at_]
  simp only [World.size_alloc] at q1
  have hb0 := Lib.hid (((Below.refl W.heap.size W).alloc (Nat.le_refl _) (.cells #[.int .i64 a.op, .string (mkB a.text), .string (mkB a.type), .int .i64 a.n, .slice ao1 a.kids.length c1, .int .i64 a.at_] 24)).alloc (by simp) (.cells #[.int .i64 b.op, .string (mkB b.text), .string (mkB b.type), .int .i64 b.n, .slice ao2 b.kids.length c2, .int .i64 b.at_] 24))
  have hz0 : ((W.alloc (.cells #[.int .i64 a.op, .string (mkB a.text), .string (mkB a.type), .int .i64 a.n, .slice ao1 a.kids.length c1, .int .i64 a.at_] 24)).alloc (.cells #[.int .i64 b.op, .string (mkB b.text), .string (mkB b.type), .int .i64 b.n, .slice ao2 b.kids.length c2, .int .i64 b.at_] 24)).heap.size = W.heap.size + 1 + 1 := by simp
  have s12 : ∀ wq, Below (W.heap.size + 1 + 1) ((W.alloc (.cells #[.int .i64 a.op, .string (mkB a.text), .string (mkB a.type), .int .i64 a.n, .slice ao1 a.kids.length c1, .int .i64 a.at_] 24)).alloc (.cells #[.int .i64 b.op, .string (mkB b.text), .string (mkB b.type), .int .i64 b.n, .slice ao2 b.kids.length c2, .int .i64 b.at_] 24)) wq → wq.cell? ⟨W.heap.size, 0, none⟩ = some (Value.int .i64 a.op) ∧ wq.cell? ⟨W.heap.size, 1, none⟩ = some (Value.string (mkB a.text)) ∧ wq.cell? ⟨W.heap.size, 2, none⟩ = some (Value.string (mkB a.type)) ∧ wq.cell? ⟨W.heap.size, 3, none⟩ = some (Value.int .i64 a.n) ∧ wq.cell? ⟨W.heap.size, 4, none⟩ = some (Value.slice ao1 a.kids.length c1) ∧ wq.cell? ⟨W.heap.size, 5, none⟩ = some (Value.int .i64 a.at_) ∧ wq.cell? ⟨W.heap.size + 1, 0, none⟩ = some (Value.int .i64 b.op) ∧ wq.cell? ⟨W.heap.size + 1, 1, none⟩ = some (Value.string (mkB b.text)) ∧ wq.cell? ⟨W.heap.size + 1, 2, none⟩ = some (Value.string (mkB b.type)) ∧ wq.cell? ⟨W.heap.size + 1, 3, none⟩ = some (Value.int .i64 b.n) ∧ wq.cell? ⟨W.heap.size + 1, 4, none⟩ = some (Value.slice ao2 b.kids.length c2) ∧ wq.cell? ⟨W.heap.size + 1, 5, none⟩ = some (Value.int .i64 b.at_) := fun wq h => by
    have p0 := q0.below h (by omega)
    have p1 := q1.below h (by omega)
    exact ⟨p0.cell 0, p0.cell 1, p0.cell 2, p0.cell 3, p0.cell 4, p0.cell 5, p1.cell 0, p1.cell 1, p1.cell 2, p1.cell 3, p1.cell 4, p1.cell 5⟩
  have S12 := Lib.hid s12
  have L0 := Lib.hid hz0
  have K1 := Lib.hid (hk1.later hb0.out)
  have K2 := Lib.hid (hk2.later hb0.out)
  clear hS hk1 hk2 q0 q1 s12 hz0
  go_enter Tryd.func3, Tryd.ntmps3
  go_wp2_with fail
  obtain ⟨W0, hW0⟩ : ∃ W0, W0 = ((W.alloc (.cells #[.int .i64 a.op, .string (mkB a.text), .string (mkB a.type), .int .i64 a.n, .slice ao1 a.kids.length c1, .int .i64 a.at_] 24)).alloc (.cells #[.int .i64 b.op, .string (mkB b.text), .string (mkB b.type), .int .i64 b.n, .slice ao2 b.kids.length c2, .int .i64 b.at_] 24)) := ⟨_, rfl⟩
  rw [← hW0] at S12 K1 K2 L0 hb0 ⊢
  clear hW0
  rw [← L0.out] at S12
  refine (size_any a W0 _ 0 (by omega) K1.out).mono ?_
  rintro e w1 ⟨s1, rfl, p1, p2, p3, b1⟩
  by_cases h1 : s1 ≤ 300
  · have hs1 : cntN a ≤ 1000000 := by have := p3 h1; omega
    have B1 := Lib.hid b1
    have x1 := S12.out _ B1.out
    clear b1 p3
    obtain ⟨-, -, -, -, -, -, y0, y1, y2, y3, y4, y5⟩ := x1
    go_wp2_with fail
    refine (size_any b w1 _ 0 (by omega) (K2.out.later B1.out)).mono ?_
    rintro e w2 ⟨s2, rfl, q1, q2, q3, b2⟩
    clear y0 y1 y2 y3 y4 y5
    have B2 := Lib.hid (B1.out.trans (b2.mono B1.out.size))
    by_cases h2 : s2 ≤ 300
    · have hs2 : cntN b ≤ 1000000 := by have := q3 h2; omega
      have B2d := Lib.hid (below_drew B2.out)
      have x2d := S12.out _ B2d.out
      clear b2 q3
      go_wp2_with fail
      go_region_held3 (fun wq => wq.cell? ⟨W.heap.size, 0, none⟩ = some (Value.int .i64 a.op) ∧ wq.cell? ⟨W.heap.size, 1, none⟩ = some (Value.string (mkB a.text)) ∧ wq.cell? ⟨W.heap.size, 2, none⟩ = some (Value.string (mkB a.type)) ∧ wq.cell? ⟨W.heap.size, 3, none⟩ = some (Value.int .i64 a.n) ∧ wq.cell? ⟨W.heap.size, 4, none⟩ = some (Value.slice ao1 a.kids.length c1) ∧ wq.cell? ⟨W.heap.size, 5, none⟩ = some (Value.int .i64 a.at_) ∧ wq.cell? ⟨W.heap.size + 1, 0, none⟩ = some (Value.int .i64 b.op) ∧ wq.cell? ⟨W.heap.size + 1, 1, none⟩ = some (Value.string (mkB b.text)) ∧ wq.cell? ⟨W.heap.size + 1, 2, none⟩ = some (Value.string (mkB b.type)) ∧ wq.cell? ⟨W.heap.size + 1, 3, none⟩ = some (Value.int .i64 b.n) ∧ wq.cell? ⟨W.heap.size + 1, 4, none⟩ = some (Value.slice ao2 b.kids.length c2) ∧ wq.cell? ⟨W.heap.size + 1, 5, none⟩ = some (Value.int .i64 b.at_)) (first | exact x10 | exact x9 | exact x8 | exact x7 | exact x6 | exact x5 | exact x4 | exact x3 | exact x2d) (first | (go_at_call 8; refine (known25_any _ (HS.out.mono (hb0.out.trans (B9.out.mono hb0.out.size)))).mono ?_; rintro e w10 ⟨rfl, b10⟩; have B10 := Lib.hid (B9.out.trans (b10.mono B9.out.size)); have x10 := S12.out _ B10.out; clear b10) | (go_at_call 9; refine (same_any a a w8 _ _ T78.out T8.out).mono ?_; rintro e w9 ⟨rfl, b9⟩; rw [sameN_self]; have B9 := Lib.hid (B8.out.trans (b9.mono B8.out.size)); have x9 := S12.out _ B9.out; clear b9) | (go_at_call 10; refine (back_any a hs1 _ _ (K1.out.later B7.out)).mono ?_; rintro e w8 ⟨v8, rfl, t8, b8⟩; have B8 := Lib.hid (B7.out.trans (b8.mono B7.out.size)); have x8 := S12.out _ B8.out; have T8 := Lib.hid t8.all; have T78 := Lib.hid (T7.out.later b8); clear b8 t8) | (go_at_call 10; refine (back_any a hs1 _ _ (K1.out.later B6.out)).mono ?_; rintro e w7 ⟨v7, rfl, t7, b7⟩; have B7 := Lib.hid (B6.out.trans (b7.mono B6.out.size)); have x7 := S12.out _ B7.out; have T7 := Lib.hid t7.all; clear b7 t7) | (go_at_call 11; refine (rsameG_any a b _ _ _ (K1.out.later B5.out) (K2.out.later B5.out)).mono ?_; rintro e w6 ⟨rfl, b6⟩; have B6 := Lib.hid (B5.out.trans (b6.mono B5.out.size)); have x6 := S12.out _ B6.out; clear b6) | (go_at_call 9; refine (same_any a b w4 _ _ T34.out T4.out).mono ?_; rintro e w5 ⟨rfl, b5⟩; have B5 := Lib.hid (B4.out.trans (b5.mono B4.out.size)); have x5 := S12.out _ B5.out; clear b5) | (go_at_call 10; refine (back_any b hs2 _ _ (K2.out.later B3.out)).mono ?_; rintro e w4 ⟨v4, rfl, t4, b4⟩; have B4 := Lib.hid (B3.out.trans (b4.mono B3.out.size)); have x4 := S12.out _ B4.out; have T4 := Lib.hid t4.all; have T34 := Lib.hid (T3.out.later b4); clear b4 t4) | (go_at_call 10; refine (back_any a hs1 _ _ (K1.out.later B2d.out)).mono ?_; rintro e w3 ⟨v3, rfl, t3, b3⟩; have B3 := Lib.hid (B2d.out.trans (b3.mono B2d.out.size)); have x3 := S12.out _ B3.out; have T3 := Lib.hid t3.all; clear b3 t3))
      all_goals
        clear x2d x3 x4 x5 x6 x7 x8 x9 x10
        go_wp2_with fail
        go_ret
        exact ⟨rfl, hb0.out.trans (B10.out.mono hb0.out.size)⟩
    · clear b2 q3
      go_wp2_with fail
      refine (known25_any _ (HS.out.mono (hb0.out.trans (B2.out.mono hb0.out.size)))).mono ?_
      rintro e w3 ⟨rfl, b3⟩
      have B3 := Lib.hid (B2.out.trans (b3.mono B2.out.size))
      clear b3
      go_wp2_with fail
      go_ret
      exact ⟨rfl, hb0.out.trans (B3.out.mono hb0.out.size)⟩
  · have B1 := Lib.hid b1
    clear b1 p3
    go_wp2_with fail
    refine (known25_any _ (HS.out.mono (hb0.out.trans (B1.out.mono hb0.out.size)))).mono ?_
    rintro e w3 ⟨rfl, b3⟩
    have B3 := Lib.hid (B1.out.trans (b3.mono B1.out.size))
    clear b3
    go_wp2_with fail
    go_ret
    exact ⟨rfl, hb0.out.trans (B3.out.mono hb0.out.size)⟩
end Go.Proofs.YtcaigcmbgihhkaaDoor
