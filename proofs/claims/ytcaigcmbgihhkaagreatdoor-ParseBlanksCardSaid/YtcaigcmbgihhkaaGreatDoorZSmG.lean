/-
  Part of a proof: SmG.
-/
import Derived.Test.YtcaigcmbgihhkaaGreatDoorZSmF
import Derived.BigQuiet
import Derived.Deep.QuietTactic
namespace Go.Proofs.YtcaigcmbgihhkaaGreatDoor
open Go Go.RowKit Go.Shelf
set_option linter.unusedVariables false
set_option linter.unusedSimpArgs false
attribute [local go_sem] Oper.semAt_some
set_option maxRecDepth 100000 in
set_option maxHeartbeats 4000000 in
theorem rparams_any (l l' : List ParamD) (v v' : Value) (w : World) (h : ParamsIn w l v) (h' : ParamsIn w l' v') :
    Calls Tryz.prog 36 #[v, v', .bool false] w fun e w' => e = .returned (.bool (eqL sameP l l')) ∧ Below w.heap.size w w' := by
  obtain ⟨ao, c, rfl⟩ := h.form
  obtain ⟨ao', c', rfl⟩ := h'.form
  have hl : l.length ≤ maxLen := by
    obtain ⟨_, _, e, h1, h2, _⟩ := h
    omega
  have hl' : l'.length ≤ maxLen := by
    obtain ⟨_, _, e, h1, h2, _⟩ := h'
    omega
  have H := Lib.hid h
  have H' := Lib.hid h'
  obtain ⟨n, hn⟩ : ∃ n, n = l.length := ⟨_, rfl⟩
  obtain ⟨n', hn'⟩ : ∃ n, n = l'.length := ⟨_, rfl⟩
  rw [← hn] at hl ⊢
  rw [← hn'] at hl' ⊢
  have HN := Lib.hid hn
  have HN' := Lib.hid hn'
  have hl3 : (n : Int) ≤ 9223372036854775807 := by unfold maxLen at hl; omega
  clear h h'
  by_cases hne : n = n'
  · subst hne
    have hd : ((n : Int) != (n : Int)) = false := by simp
    obtain ⟨R, hR⟩ : ∃ R, R = eqL sameP l l' := ⟨_, rfl⟩
    rw [← hR]
    have HR := Lib.hid hR
    clear hR hn hn'
    go_enter Tryz.func36, Tryz.ntmps36
    go_wp2_with fail
    go_loopw [7] (fun s7 wr => ∃ (k : Nat), k ≤ n ∧ s7 = .int .i64 (k : Int) ∧ Hid (R = eqL sameP (l.drop k) (l'.drop k)) ∧ Hid (Below w.heap.size w wr)) (fun s7 _ => n - (intOf s7).toNat)
    case atStart => exact ⟨0, Nat.zero_le _, rfl, HR, Lib.hid (Below.refl _ _)⟩
    case round =>
      obtain ⟨k, hk, rfl, hm, hb⟩ := hrel
      by_cases hkn : k < n
      · obtain ⟨a, ha⟩ : ∃ a, l[k]? = some a := ⟨_, List.getElem?_eq_getElem (by rw [← HN.out]; exact hkn)⟩
        obtain ⟨b, hb2⟩ : ∃ a, l'[k]? = some a := ⟨_, List.getElem?_eq_getElem (by rw [← HN'.out]; exact hkn)⟩
        have K := H.out.later hb.out
        have K' := H'.out.later hb.out
        obtain ⟨g, o, c1, e, q1, q2, a0, a1, a2⟩ := K.at_ ha
        obtain ⟨g', o', c2, e', q1', q2', b0, b1, b2⟩ := K'.at_ hb2
        simp only [Value.slice.injEq] at e e'
        obtain ⟨rfl, -, rfl⟩ := e
        obtain ⟨rfl, -, rfl⟩ := e'
        have lg := cell_lt a0
        have lg' := cell_lt b0
        have hm' := hm.out
        rw [eqL_drop ha hb2] at hm'
        have HM := Lib.hid hm'
        obtain ⟨t, y, p⟩ := a
        obtain ⟨t', y', p'⟩ := b
        dsimp only at a0 a1 a2 b0 b1 b2
        clear hm hm' K K' ha hb2
        have hbd := Lib.hid (fun nq => pw_below_drewN hb.out nq)
        by_cases h2 : t = t'
        · subst h2
          by_cases h3 : y = y'
          · subst h3
            have hm' := HM.out
            simp only [sameP, BEq.rfl, Bool.true_and] at hm'
            have HM2 := Lib.hid hm'
            clear hm' HM
            go_wp2_with fail
            go_quiet (fail)
            all_goals
              go_wp2_with fail
              go_roundw
              case rel => exact ⟨k + 1, by omega, by go_num, HM2, Lib.hid (hbd.out _)⟩
              case measure => simp [intOf]; omega
          · have e : (y == y') = false := beq_eq_false_iff_ne.2 h3
            have t2 : ((mkB y).toList == (mkB y').toList) = false := by rw [mkB_list, mkB_list]; exact e
            have t3 : ¬ (mkB y).toList = (mkB y').toList := by rw [mkB_list, mkB_list]; exact h3
            have hm' := HM.out
            simp only [sameP, e, Bool.false_and, Bool.and_false] at hm'
            subst hm'
            clear HM
            go_wp2_with fail
            go_quiet (fail)
            all_goals
              go_wp2_with fail
              go_ret
              exact ⟨rfl, hbd.out _⟩
        · have e : (t == t') = false := beq_eq_false_iff_ne.2 h2
          have t2 : ((mkB t).toList == (mkB t').toList) = false := by rw [mkB_list, mkB_list]; exact e
          have t3 : ¬ (mkB t).toList = (mkB t').toList := by rw [mkB_list, mkB_list]; exact h2
          have hm' := HM.out
          simp only [sameP, e, Bool.false_and, Bool.and_false] at hm'
          subst hm'
          clear HM
          go_wp2_with fail
          go_quiet (fail)
          all_goals
            go_wp2_with fail
            go_ret
            exact ⟨rfl, hbd.out _⟩
      · obtain rfl : k = n := by omega
        have hm' := hm.out
        rw [List.drop_eq_nil_of_le (by rw [← HN.out]; exact Nat.le_refl _), List.drop_eq_nil_of_le (by rw [← HN'.out]; exact Nat.le_refl _)] at hm'
        have HM := Lib.hid hm'
        clear hm hm'
        go_wp2_with fail
        go_ret
        exact ⟨by rw [HM.out]; rfl, hb.out⟩
  · have hd : ((n : Int) != (n' : Int)) = true := by simp only [bne_iff_ne, ne_eq, Int.ofNat_inj]; exact hne
    have hs : eqL sameP l l' = false := eqL_len (by rw [← hn, ← hn']; exact hne)
    rw [hs]
    clear hn hn' hs
    go_enter Tryz.func36, Tryz.ntmps36
    go_wp2_with fail
    go_ret
    exact ⟨rfl, Below.refl _ _⟩
end Go.Proofs.YtcaigcmbgihhkaaGreatDoor
