/-
  'Same' of codes; the document's code back out of bytes.
-/
import Derived.Test.YtmlcififmjpcpaaDoorInsL
namespace Go.Proofs.YtmlcififmjpcpaaDoor
open Go.RowKit
set_option linter.unusedVariables false
set_option linter.unusedSimpArgs false

attribute [local go_sem] Oper.semAt_some

set_option maxRecDepth 100000 in
set_option maxHeartbeats 2000000 in
theorem same_any (W : World) (v1 v2 : Value) (xs ys : List InsD) (h1 : CodeIn W.heap.size W v1 xs) (h2 : CodeIn W.heap.size W v2 ys) (hl : xs.length ≤ 1000) :
    Calls Tryd.prog 21 #[v1, v2] W fun e W' => e = .returned (.bool (decide (xs = ys))) ∧ Below W.heap.size W W' := by
  obtain ⟨ao, cap, rfl, hcap, _⟩ := SliceIn.form h1
  obtain ⟨ao2, cap2, rfl, hcap2, _⟩ := SliceIn.form h2
  obtain ⟨r, hr⟩ : ∃ r, r = decide (xs = ys) := ⟨_, rfl⟩
  rw [← hr]
  by_cases hne : xs.length = ys.length
  · have hb : ((xs.length : Int) != (ys.length : Int)) = false := by simp [hne]
    have hb2 : (xs.length != ys.length) = false := by simp [hne]
    have hb3 : (xs.length == ys.length) = true := by simp [hne]
    have H1 := Lib.hid h1
    have H2 := Lib.hid h2
    have HR := Lib.hid hr
    have hW := Below.refl W.heap.size W
    have hne' := Lib.hid hne
    rw [← hne] at hcap2
    clear h1 h2 hr hne
    go_enter Tryd.func21, Tryd.ntmps21
    go_wp2
    go_loopw [5] (fun i wr => ∃ k : Nat, k ≤ xs.length ∧ i = .int .i64 k ∧ Hid (xs.take k = ys.take k) ∧ Hid (Below W.heap.size W wr)) (fun i _ => xs.length - (intOf i).toNat)
    case atStart => exact ⟨0, Nat.zero_le _, rfl, Lib.hid (by simp), Lib.hid hW⟩
    case round =>
      obtain ⟨k, hk, rfl, ht, hb'⟩ := hrel
      by_cases hlt : k < xs.length
      · obtain ⟨⟨o1, a1⟩, hx⟩ : ∃ x, xs[k]? = some x := ⟨_, List.getElem?_eq_getElem hlt⟩
        obtain ⟨⟨o2, a2⟩, hy⟩ : ∃ y, ys[k]? = some y := ⟨_, List.getElem?_eq_getElem (by have := hne'.out; omega)⟩
        obtain ⟨b1, _, hv1, _⟩ := SliceIn.some_ H1.out (by omega)
        obtain ⟨b2, _, hv2, _⟩ := SliceIn.some_ H2.out (by have := hne'.out; omega)
        cases hv1
        cases hv2
        have c1 := fun w (h : Below wr.heap.size wr w) => code_at H1.out (Nat.le_refl _) (hb'.out.trans (h.mono hb'.out.size)) rfl hx
        have c2 := fun w (h : Below wr.heap.size wr w) => code_at H2.out (Nat.le_refl _) (hb'.out.trans (h.mono hb'.out.size)) rfl hy
        have c10 := fun k => (c1 (wr.drewN k) (pw_below_drewN (Below.refl _ _) k)).1
        have c11 := fun k => (c1 (wr.drewN k) (pw_below_drewN (Below.refl _ _) k)).2
        have c20 := fun k => (c2 (wr.drewN k) (pw_below_drewN (Below.refl _ _) k)).1
        have c21 := fun k => (c2 (wr.drewN k) (pw_below_drewN (Below.refl _ _) k)).2
        have d1 := (c1 wr (Below.refl _ _)).1
        have d2 := (c1 wr (Below.refl _ _)).2
        have d3 := (c2 wr (Below.refl _ _)).1
        have d4 := (c2 wr (Below.refl _ _)).2
        have hlt2 : k < ys.length := by have := hne'.out; omega
        have hD := Lib.hid (pw_below_drewN hb'.out)
        clear c1 c2
        by_cases he : o1 = o2 ∧ a1 = a2
        · have ht2 : xs.take (k + 1) = ys.take (k + 1) := by rw [List.take_add_one, List.take_add_one, ht.out, hx, hy, he.1, he.2]
          have ht2' := Lib.hid ht2
          obtain ⟨rfl, rfl⟩ := he
          clear ht2 hx hy
          go_wp2
          go_quiet (fail)
          go_wp2
          go_roundw
          case rel => exact ⟨k + 1, by omega, by simp, ht2', Lib.hid (hD.out _)⟩
          case measure => simp [intOf]; omega
        · have hr2 : r = false := by
            rw [HR.out]
            apply decide_eq_false
            intro h
            rw [h, hy] at hx
            cases hx
            exact he ⟨rfl, rfl⟩
          subst hr2
          by_cases ho : o1 = o2
          · subst ho
            have h4 : (a1 == a2) = false := beq_eq_false_iff_ne.2 (fun h => he ⟨rfl, h⟩)
            clear he hx hy
            go_wp2
            go_quiet (fail)
            go_wp2
            go_ret
            exact ⟨rfl, hD.out _⟩
          · have h4 : (o1 == o2) = false := beq_eq_false_iff_ne.2 ho
            clear he hx hy ho
            go_wp2
            go_quiet (fail)
            go_wp2
            go_ret
            exact ⟨rfl, hD.out _⟩
      · obtain rfl : k = xs.length := by omega
        have hr2 : r = true := by
          rw [HR.out]
          apply decide_eq_true
          have := ht.out
          rwa [List.take_length, hne'.out, List.take_length] at this
        subst hr2
        go_wp2
        go_ret
        exact ⟨rfl, hb'.out⟩
  · have hr2 : r = false := by
      rw [hr]
      apply decide_eq_false
      intro h
      exact hne (by rw [h])
    subst hr2
    have hb : ((xs.length : Int) != (ys.length : Int)) = true := by simp; omega
    have hb2 : (xs.length != ys.length) = true := by simp [hne]
    have hb3 : (xs.length == ys.length) = false := by simp [hne]
    clear h1 h2 hr hne
    go_enter Tryd.func21, Tryd.ntmps21
    go_wp2
    go_ret
    exact ⟨rfl, Below.refl _ _⟩
end Go.Proofs.YtmlcififmjpcpaaDoor
