/-
  Part of a proof: SmF.
-/
import Derived.Test.YtcaigcmbgihhkaaGreatDoorZSmD
import Derived.Test.YtcaigcmbgihhkaaGreatDoorZPsD
import Derived.Deep.RegionLaw
namespace Go.Proofs.YtcaigcmbgihhkaaGreatDoor
open Go Go.RowKit Go.Shelf
set_option linter.unusedVariables false
set_option linter.unusedSimpArgs false
attribute [local go_sem] Oper.semAt_some
def RSameC (a b : NodeD) : Prop := ∀ W va vb, KidsIn W a.kids va → KidsIn W b.kids vb → Calls Tryz.prog 37 #[nodeV a va, nodeV b vb, .bool false] W fun e W' => e = .returned (.bool (sameN a b)) ∧ Below W.heap.size W W'
set_option maxRecDepth 100000 in
set_option maxHeartbeats 8000000 in
theorem rsame_step (a b : NodeD) (HF : ∀ x ∈ a.kids, ∀ y ∈ b.kids, RSameC x y) : RSameC a b := fun W va vb ha hb => by
  obtain ⟨xa, xc, rfl⟩ := ha.form
  obtain ⟨ya, yc, rfl⟩ := hb.form
  have hl := ha.len
  have hl' := hb.len
  have H := Lib.hid ha
  have H' := Lib.hid hb
  have HC := Lib.hid HF
  obtain ⟨o, t, y, n, k, p⟩ := a
  obtain ⟨o', t', y', n', k', p'⟩ := b
  obtain ⟨R, hR⟩ : ∃ R, R = sameN (.mk o t y n k p) (.mk o' t' y' n' k' p') := ⟨_, rfl⟩
  rw [← hR]
  simp only [sameN] at hR
  clear ha hb HF
  dsimp only [nodeV, NodeD.op, NodeD.text, NodeD.type, NodeD.n, NodeD.at_, NodeD.kids] at HC H H' hl hl' ⊢
  obtain ⟨N, hN⟩ : ∃ N, N = k.length := ⟨_, rfl⟩
  obtain ⟨N', hN'⟩ : ∃ N, N = k'.length := ⟨_, rfl⟩
  rw [← hN] at hl H ⊢
  rw [← hN'] at hl' H' ⊢
  have HN := Lib.hid hN
  have HN' := Lib.hid hN'
  clear hN hN'
  have hl3 : (N : Int) ≤ 9223372036854775807 := by unfold maxLen at hl; omega
  have hbb := fun (u v : Array Value) => (Below.refl W.heap.size W).alloc (Nat.le_refl _) (.cells u 93) |>.alloc (by simp) (.cells v 93)
  have HB := Lib.hid hbb
  clear hbb
  by_cases h1 : o = o'
  · subst h1
    by_cases h2 : t = t'
    · subst h2
      by_cases h3 : y = y'
      · subst h3
        by_cases h4 : n = n'
        · subst h4
          simp only [BEq.rfl, Bool.true_and] at hR
          by_cases hne : N = N'
          · subst hne
            have hd : ((N : Int) != (N : Int)) = false := by simp
            have HR := Lib.hid hR
            clear hR
            have b0 := Lib.hid ((Blk.new W 93 #[.int .i64 o, .string (mkB t), .string (mkB y), .int .i64 n, .slice xa N xc, .int .i64 p]).alloc (.cells #[.int .i64 o, .string (mkB t), .string (mkB y), .int .i64 n, .slice ya N yc, .int .i64 p'] 93))
            have b1 := Blk.new (W.alloc (.cells #[.int .i64 o, .string (mkB t), .string (mkB y), .int .i64 n, .slice xa N xc, .int .i64 p] 93)) 93 #[.int .i64 o, .string (mkB t), .string (mkB y), .int .i64 n, .slice ya N yc, .int .i64 p']
            simp only [World.size_alloc] at b1
            have B1 := Lib.hid b1
            clear b1
            go_enter Tryz.func37, Tryz.ntmps37
            go_wp2_with fail
            go_loopw [7] (fun s7 wr => ∃ (j : Nat), j ≤ N ∧ s7 = .int .i64 (j : Int) ∧ Hid (R = sameL (k.drop j) (k'.drop j)) ∧ Hid (Blk wr W.heap.size 93 #[.int .i64 o, .string (mkB t), .string (mkB y), .int .i64 n, .slice xa N xc, .int .i64 p]) ∧ Hid (Blk wr (W.heap.size + 1) 93 #[.int .i64 o, .string (mkB t), .string (mkB y), .int .i64 n, .slice ya N yc, .int .i64 p']) ∧ Hid (Below W.heap.size W wr)) (fun s7 _ => N - (intOf s7).toNat)
            case atStart => exact ⟨0, Nat.zero_le _, rfl, HR, b0, B1, Lib.hid (HB.out _ _)⟩
            case round =>
              clear b0 B1
              obtain ⟨j, hj, rfl, hm, B0, B1, hb⟩ := hrel
              have c0 : wr.cell? ⟨W.heap.size, 4, none⟩ = some (.slice xa N xc) := B0.out.cell 4
              have c1 : wr.cell? ⟨W.heap.size + 1, 4, none⟩ = some (.slice ya N yc) := B1.out.cell 4
              have l0 := B0.out.lt
              have l1 := B1.out.lt
              by_cases hkn : j < N
              · obtain ⟨x, hx⟩ : ∃ x, k[j]? = some x := ⟨_, List.getElem?_eq_getElem (by rw [← HN.out]; exact hkn)⟩
                obtain ⟨z, hz⟩ : ∃ x, k'[j]? = some x := ⟨_, List.getElem?_eq_getElem (by rw [← HN'.out]; exact hkn)⟩
                have K := (show KidsIn W k _ from H.out).later hb.out
                have K' := (show KidsIn W k' _ from H'.out).later hb.out
                obtain ⟨g, q, s1, va, e, q1, q2, hka, a0, a1, a2, a3, a4, a5⟩ := K.six hx
                obtain ⟨g', q', s2, vb, e', q1', q2', hkb, d0, d1, d2, d3, d4, d5⟩ := K'.six hz
                simp only [Value.slice.injEq] at e e'
                obtain ⟨rfl, -, rfl⟩ := e
                obtain ⟨rfl, -, rfl⟩ := e'
                have lg := cell_lt a0
                have lg' := cell_lt d0
                obtain ⟨ua, uc, rfl⟩ := hka.form
                obtain ⟨wa, wc, rfl⟩ := hkb.form
                have hm' := hm.out
                rw [sameL_drop hx hz] at hm'
                have hcc := HC.out x (List.mem_of_getElem? hx) z (List.mem_of_getElem? hz)
                have CC := Lib.hid hcc
                have KA := Lib.hid hka
                have KB := Lib.hid hkb
                have HM := Lib.hid hm'
                clear hm hm' hcc hka hkb K K' hx hz
                go_wp2_with fail
                go_region_law (go_simp; go_at_call 37; go_loud (refine (CC.out _ _ _ (KA.out.later (below_drew (Below.refl _ _))) (KB.out.later (below_drew (Below.refl _ _)))).mono ?_; rintro e w1 ⟨rfl, hb1⟩; have HB1 := Lib.hid hb1; clear hb1))
                all_goals
                  have r0 := Lib.hid (B0.out.drew.below HB1.out l0)
                  have r1 := Lib.hid (B1.out.drew.below HB1.out l1)
                  have r2 := Lib.hid ((below_drew hb.out).trans (HB1.out.mono hb.out.size))
                  cases hq : sameN x z with
                  | true =>
                    have hm' := HM.out
                    rw [hq, Bool.true_and] at hm'
                    have HM2 := Lib.hid hm'
                    clear hm' hq HM
                    go_wp2_with fail
                    go_roundw
                    case rel => exact ⟨j + 1, by omega, by go_num, HM2, r0, r1, r2⟩
                    case measure => simp [intOf]; omega
                  | false =>
                    have hm' := HM.out
                    rw [hq, Bool.false_and] at hm'
                    subst hm'
                    clear hq HM
                    go_wp2_with fail
                    go_ret
                    exact ⟨rfl, r2.out⟩
              · obtain rfl : j = N := by omega
                have hm' := hm.out
                rw [List.drop_eq_nil_of_le (by rw [← HN.out]; exact Nat.le_refl _), List.drop_eq_nil_of_le (by rw [← HN'.out]; exact Nat.le_refl _)] at hm'
                have HM := Lib.hid hm'
                clear hm hm'
                go_wp2_with fail
                go_ret
                exact ⟨by rw [HM.out]; rfl, hb.out⟩
          · have hd : ((N : Int) != (N' : Int)) = true := by simp only [bne_iff_ne, ne_eq, Int.ofNat_inj]; exact hne
            rw [sameL_len (by rw [← HN.out, ← HN'.out]; exact hne)] at hR
            subst hR
            go_enter Tryz.func37, Tryz.ntmps37
            go_wp2_with fail
            go_ret
            exact ⟨rfl, HB.out _ _⟩
        · have e : (n == n') = false := beq_eq_false_iff_ne.2 h4
          have e2 : (n != n') = true := by simpa using h4
          simp only [e, Bool.false_and, Bool.and_false] at hR
          subst hR
          go_enter Tryz.func37, Tryz.ntmps37
          go_wp2_with fail
          go_ret
          exact ⟨rfl, HB.out _ _⟩
      · have e : (y == y') = false := beq_eq_false_iff_ne.2 h3
        have t2 : ((mkB y).toList == (mkB y').toList) = false := by rw [mkB_list, mkB_list]; exact e
        have t3 : ¬ (mkB y).toList = (mkB y').toList := by rw [mkB_list, mkB_list]; exact h3
        simp only [e, Bool.false_and, Bool.and_false] at hR
        subst hR
        go_enter Tryz.func37, Tryz.ntmps37
        go_wp2_with fail
        go_ret
        exact ⟨rfl, HB.out _ _⟩
    · have e : (t == t') = false := beq_eq_false_iff_ne.2 h2
      have t2 : ((mkB t).toList == (mkB t').toList) = false := by rw [mkB_list, mkB_list]; exact e
      have t3 : ¬ (mkB t).toList = (mkB t').toList := by rw [mkB_list, mkB_list]; exact h2
      simp only [e, Bool.false_and, Bool.and_false] at hR
      subst hR
      go_enter Tryz.func37, Tryz.ntmps37
      go_wp2_with fail
      go_ret
      exact ⟨rfl, HB.out _ _⟩
  · have e : (o == o') = false := beq_eq_false_iff_ne.2 h1
    have e2 : (o != o') = true := by simpa using h1
    simp only [e, Bool.false_and, Bool.and_false] at hR
    subst hR
    go_enter Tryz.func37, Tryz.ntmps37
    go_wp2_with fail
    go_ret
    exact ⟨rfl, HB.out _ _⟩
theorem rsame_any : ∀ a b : NodeD, RSameC a b := by
  have h : ∀ (n : Nat) (a b : NodeD), cntN a < n → RSameC a b := by
    intro n
    induction n with
    | zero => intro a b h; exact absurd h (by omega)
    | succ n ih =>
      intro a b h
      refine rsame_step a b fun x hx y hy => ih x y ?_
      have := cntL_mem hx
      have := cntN_kids a
      omega
  exact fun a b => h _ a b (Nat.lt_succ_self _)
end Go.Proofs.YtcaigcmbgihhkaaGreatDoor
