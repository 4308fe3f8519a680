/-
  The document's code back out of bytes: 'Get'.
-/
import Derived.Test.YtmlcififmjpcpaaDoorInsM
namespace Go.Proofs.YtmlcififmjpcpaaDoor
open Go.RowKit
set_option linter.unusedVariables false
set_option linter.unusedSimpArgs false

attribute [local go_sem] Oper.semAt_some

theorem numL_err {bs : List UInt8} {at_ high bad g1 g2 g3 : Int} (hg : getL bs at_ = (g1, g2, g3)) (h : g3 ≠ 0) : numL bs at_ high bad = (0, 0, g3) := by rw [numL, hg, if_pos h]
theorem numL_bad {bs : List UInt8} {at_ high bad g1 g2 g3 : Int} (hg : getL bs at_ = (g1, g2, g3)) (h : g3 = 0) (hb : g1 < 0 ∨ high < g1) : numL bs at_ high bad = (0, 0, bad) := by rw [numL, hg, if_neg (by simp [h]), if_pos hb]
theorem numL_ok {bs : List UInt8} {at_ high bad g1 g2 g3 : Int} (hg : getL bs at_ = (g1, g2, g3)) (h : g3 = 0) (hb : ¬ (g1 < 0 ∨ high < g1)) : numL bs at_ high bad = (g1, g2, 0) := by rw [numL, hg, if_neg (by simp [h]), if_neg hb]
theorem insKind_pos (op : Int) (h0 : 0 ≤ op) (h1 : op ≤ 45) (hk : insKind op ≠ 0) : 0 < insKind op := by
  obtain ⟨k, rfl⟩ : ∃ k : Nat, op = k := ⟨op.toNat, by omega⟩
  have h : ∀ k : Fin 46, 0 ≤ insKind ((k.val : Nat) : Int) := by decide
  have := h ⟨k, by omega⟩
  dsimp only at this
  omega

set_option maxRecDepth 100000 in
set_option maxHeartbeats 4000000 in
theorem rgetc_any (W : World) (v : Value) (bs : List UInt8) (at_ : Int) (n : Nat) (hn : n ≤ W.heap.size) (hv : BytesIn n W v bs) (hl : bs.length ≤ 200000000000000) :
    Calls Tryd.prog 20 #[v, .int .i64 at_] W fun e W' => (∃ v', e = .returned (.tuple #[v', .int .i64 (getCode bs at_).2.1, .int .i64 (getCode bs at_).2.2]) ∧ CodeIn W'.heap.size W' v' (getCode bs at_).1) ∧ Below W.heap.size W W' := by
  obtain ⟨ao, cap, rfl, hcap, hm, hao⟩ := SliceIn.form hv
  have hget : ∀ (w2 : World) (at2 : Int), Below W.heap.size W w2 → Calls Tryd.prog 38 #[.slice ao bs.length cap, .int .i64 at2] w2 fun e W' => e = .returned (.tuple #[.int .i64 (getL bs at2).1, .int .i64 (getL bs at2).2.1, .int .i64 (getL bs at2).2.2]) ∧ Below w2.heap.size w2 W' :=
    fun w2 at2 hb => rget_any w2 _ bs at2 n (Nat.le_trans hn hb.size) (SliceIn.later hv hn hb) hl
  obtain ⟨⟨T, Ta, Tw⟩, hT⟩ : ∃ T, T = getCode bs at_ := ⟨_, rfl⟩
  rw [← hT]
  rw [getCode] at hT
  have h1 := hget W at_ (Below.refl _ _)
  obtain ⟨⟨g1, g2, g3⟩, hg⟩ : ∃ g, g = getL bs at_ := ⟨_, rfl⟩
  rw [← hg] at h1
  dsimp only at h1 ⊢
  have HN := Lib.hid hget
  have H1 := Lib.hid h1
  clear hget h1 hv hao
  by_cases hw : g3 = 0
  · by_cases hr : g1 < 0 ∨ 512 < g1
    · rw [numL_bad hg.symm hw hr, if_pos (by decide)] at hT
      cases hT
      have hw1 : (g3 == 0) = true := by simp [hw]
      have hw2 : (g3 != 0) = false := by simp [hw]
      clear hw hg
      by_cases h0 : g1 < 0
      · have d0 : decide (g1 < 0) = true := decide_eq_true h0
        clear hr h0
        go_enter Tryd.func20, Tryd.ntmps20
        go_wp2_with (go_at_call 38; refine H1.out.mono ?_; rintro e w1 ⟨rfl, hb1⟩; have B1 := Lib.hid hb1; clear hb1)
        go_ret3
        exact ⟨⟨_, rfl, SliceIn.nil _ _ _⟩, B1.out⟩
      · have d0 : decide (g1 < 0) = false := decide_eq_false h0
        have d1 : decide (512 < g1) = true := decide_eq_true (by omega)
        clear hr h0
        go_enter Tryd.func20, Tryd.ntmps20
        go_wp2_with (go_at_call 38; refine H1.out.mono ?_; rintro e w1 ⟨rfl, hb1⟩; have B1 := Lib.hid hb1; clear hb1)
        go_ret3
        exact ⟨⟨_, rfl, SliceIn.nil _ _ _⟩, B1.out⟩
    · rw [numL_ok hg.symm hw hr, if_neg (by simp)] at hT
      dsimp only at hT
      have hw1 : (g3 == 0) = true := by simp [hw]
      have hw2 : (g3 != 0) = false := by simp [hw]
      obtain ⟨N, rfl⟩ : ∃ N : Nat, g1 = N := ⟨g1.toNat, by omega⟩
      rw [Int.toNat_natCast] at hT
      have hN : N ≤ 512 := by omega
      have d0 : decide ((N : Int) < 0) = false := decide_eq_false (by omega)
      have d1 : decide (512 < (N : Int)) = false := decide_eq_false (by omega)
      have HT := Lib.hid hT
      clear hT hr hw hg
      go_enter Tryd.func20, Tryd.ntmps20
      go_wp2_with fail
      refine H1.out.mono ?_
      rintro e w1 ⟨rfl, hb1⟩
      have B1 := Lib.hid hb1
      clear hb1
      go_wp2
      go_loopw [1, 9, 10] (fun s1 s9 s10 wr => ∃ (i : Nat) (a2 : Int) (acc : List InsD), s1 = .int .i64 a2 ∧ s10 = .int .i64 (i : Int) ∧ i ≤ N ∧ Hid (acc.length = i) ∧ Hid (wr.ownsRow W.heap.size 55 2 s9 acc.length (acc.flatMap icells)) ∧ Hid (Below W.heap.size W wr) ∧ Hid (codeFrom bs (N - i) a2 acc = (T, Ta, Tw))) (fun _ _ s10 _ => N - (intOf s10).toNat)
      case atStart => exact ⟨0, g2, [], rfl, rfl, Nat.zero_le _, Lib.hid rfl, Lib.hid (own_nil _ _ _ _), B1, Lib.hid HT.out.symm⟩
      case round =>
        obtain ⟨i, a2, acc, rfl, rfl, hi, hal, hown, hb, ht0⟩ := hrel
        by_cases hlt : i < N
        · have hal' := hal.out
          have e := ht0.out
          obtain ⟨m, hm1⟩ : ∃ m, N - i = m + 1 := ⟨N - (i + 1), by omega⟩
          have hm2 : N - (i + 1) = m := by omega
          rw [hm1, codeFrom] at e
          have hal3 : acc.length ≤ 512 := by omega
          obtain ⟨i0, hi0, hz0, hz1, hz2⟩ := info_of ins_info
          have hcall := HN.out _ a2 hb.out
          obtain ⟨⟨g1, g2, g3⟩, hg⟩ : ∃ g, g = getL bs a2 := ⟨_, rfl⟩
          rw [← hg] at hcall
          dsimp only at hcall
          have HC := Lib.hid hcall
          have hm2' := Lib.hid hm2
          clear hcall ht0 HT hal' hm1 hm2
          by_cases hw : g3 = 0
          · have hv1 : (g3 == 0) = true := by simp [hw]
            have hv2 : (g3 != 0) = false := by simp [hw]
            by_cases hr : g1 < 0 ∨ 45 < g1
            · rw [numL_bad hg.symm hw hr, if_pos (by decide)] at e
              cases e
              clear hw hg
              by_cases h0 : g1 < 0
              · have d0 : decide (g1 < 0) = true := decide_eq_true h0
                clear hr h0
                go_wp2_with (go_at_call 38; refine HC.out.mono ?_; rintro e w2 ⟨rfl, hb2⟩; have B2 := Lib.hid (hb.out.trans (hb2.mono hb.out.size)); clear hb2)
                go_ret3
                exact ⟨⟨_, rfl, SliceIn.nil _ _ _⟩, B2.out⟩
              · have d0 : decide (g1 < 0) = false := decide_eq_false h0
                have d1 : decide (46 ≤ g1) = true := decide_eq_true (by omega)
                clear hr h0
                go_wp2_with (go_at_call 38; refine HC.out.mono ?_; rintro e w2 ⟨rfl, hb2⟩; have B2 := Lib.hid (hb.out.trans (hb2.mono hb.out.size)); clear hb2)
                go_ret3
                exact ⟨⟨_, rfl, SliceIn.nil _ _ _⟩, B2.out⟩
            · rw [numL_ok hg.symm hw hr, if_neg (by simp)] at e
              dsimp only at e
              have d0 : decide (g1 < 0) = false := decide_eq_false (by omega)
              have d1 : decide (46 ≤ g1) = false := decide_eq_false (by omega)
              have hk0 : insKind g1 ≠ 0 → 0 < insKind g1 := insKind_pos g1 (by omega) (by omega)
              have HE := Lib.hid e
              have hr' := Lib.hid hr
              clear hw hg hr e
              go_wp2_with fail
              refine HC.out.mono ?_
              rintro ee w2 ⟨rfl, hb2⟩
              have hown2 := own_below hown.out hb2
              have hB2 := hb.out.trans (hb2.mono hb.out.size)
              have hX0 := Blk.new w2 55 #[.int .i64 g1, .int .i64 0]
              have hne2 : some w2.heap.size ≠ u9.ownBlock := own_new hown2 (Nat.le_refl _)
              have hown3 := own_below hown2 ((Below.refl w2.heap.size w2).alloc (Nat.le_refl _) (.cells #[.int .i64 g1, .int .i64 0] 55))
              have hB3 := hB2.alloc hB2.size (.cells #[.int .i64 g1, .int .i64 0] 55)
              have hW2 : W.heap.size ≤ w2.heap.size := hB2.size
              have hc0 := hX0.cell 0
              have hc1 := hX0.cell 1
              simp only [List.getElem?_toArray, List.getElem?_cons_succ, List.getElem?_cons_zero] at hc0 hc1
              have HX := Lib.hid hX0
              have HO := Lib.hid hown3
              have HB := Lib.hid hB3
              have hkc := Lib.hid (fun w => refKind_any w g1)
              clear hX0 hown2 hB2 hb2 hown3 hB3 HC
              by_cases hk : insKind g1 = 0
              · have HE2 := HE.out
                rw [if_pos hk] at HE2
                have HE3 := Lib.hid HE2
                have hk1 : decide (0 < insKind g1) = false := decide_eq_false (by omega)
                clear hk HE2 HE hk0
                go_wp2_with fail
                refine (hkc.out _).mono ?_
                rintro ee w3 ⟨rfl, hb3⟩
                have hX3 := HX.out.below hb3 HX.out.lt
                have HO3 := Lib.hid (own_below HO.out hb3)
                have HB3 := Lib.hid (HB.out.trans (hb3.mono HB.out.size))
                have hd0 := hX3.cell 0
                have hd1 := hX3.cell 1
                simp only [List.getElem?_toArray, List.getElem?_cons_succ, List.getElem?_cons_zero] at hd0 hd1
                clear hX3 hb3 hc0 hc1
                go_wp2_with (at_builtin; go_loud (refine wpList_append_own_at _ rfl _ _ 27 rfl W.heap.size 55 i0 (.agg #[.int .i64 0, .int .i64 0]) 2 16 Tryd.underlying27 hi0 hz0 hz1 hz2 rfl (by decide) u9 acc.length _ rfl (HO3.out.alloc _) ⟨_, 0, none⟩ 1 1 [.int .i64 g1, .int .i64 0] rfl rfl (news_at' _ _ _ _ (by simp [World.setCell])) (by simp [Value.oneCell']) (by unfold maxLen; omega) (by omega) (by have := HB3.out.size; simp [World.setCell] at this ⊢; omega) ?_); intro v' w9 hown' hgrow _ hat; have HO9 := Lib.hid hown'; have HB9 := Lib.hid (below_append HO3.out HB3.out HB3.out.size hgrow); clear hown' hgrow hat)
                go_roundw
                case rel =>
                  refine ⟨i + 1, g2, acc ++ [⟨g1, 0⟩], rfl, by simp, by omega, Lib.hid (by rw [List.length_append, List.length_singleton, hal.out]), Lib.hid (by rw [icode_append, List.length_append]; exact HO9.out), HB9, Lib.hid ?_⟩
                  rw [hm2'.out]; exact HE3.out
                case measure => simp [intOf]; omega
              · have HE2 := HE.out
                rw [if_neg hk] at HE2
                have HE3 := Lib.hid HE2
                have hk1 : decide (0 < insKind g1) = true := decide_eq_true (hk0 hk)
                clear hk HE2 HE hk0
                go_wp2_with fail
                refine (hkc.out _).mono ?_
                rintro ee w3 ⟨rfl, hb3⟩
                have hX3 := HX.out.below hb3 HX.out.lt
                have HO3 := Lib.hid (own_below HO.out hb3)
                have HB3 := Lib.hid (HB.out.trans (hb3.mono HB.out.size))
                have HX3 := Lib.hid hX3
                have hcall := HN.out _ g2 HB3.out
                obtain ⟨⟨a1, a3, a4⟩, hg⟩ : ∃ g, g = getL bs g2 := ⟨_, rfl⟩
                rw [← hg] at hcall
                dsimp only at hcall
                have HC := Lib.hid hcall
                clear hX3 hb3 hc0 hc1 hcall
                by_cases hw : a4 = 0
                · have hv3 : (a4 == 0) = true := by simp [hw]
                  have hv4 : (a4 != 0) = false := by simp [hw]
                  by_cases hr : a1 < 0 ∨ 65535 < a1
                  · have e := HE3.out
                    rw [numL_bad hg.symm hw hr, if_pos (by decide)] at e
                    cases e
                    clear hw hg HE3
                    by_cases h0 : a1 < 0
                    · have d0 : decide (a1 < 0) = true := decide_eq_true h0
                      clear hr h0
                      go_wp2_with (go_at_call 38; refine HC.out.mono ?_; rintro e w4 ⟨rfl, hb4⟩; have B4 := Lib.hid (HB3.out.trans (hb4.mono HB3.out.size)); clear hb4)
                      go_ret3
                      exact ⟨⟨_, rfl, SliceIn.nil _ _ _⟩, B4.out⟩
                    · have d0 : decide (a1 < 0) = false := decide_eq_false h0
                      have d1 : decide (65535 < a1) = true := decide_eq_true (by omega)
                      clear hr h0
                      go_wp2_with (go_at_call 38; refine HC.out.mono ?_; rintro e w4 ⟨rfl, hb4⟩; have B4 := Lib.hid (HB3.out.trans (hb4.mono HB3.out.size)); clear hb4)
                      go_ret3
                      exact ⟨⟨_, rfl, SliceIn.nil _ _ _⟩, B4.out⟩
                  · have e := HE3.out
                    rw [numL_ok hg.symm hw hr, if_neg (by simp)] at e
                    dsimp only at e
                    have HE4 := Lib.hid e
                    have d2 : decide (a1 < 0) = false := decide_eq_false (by omega)
                    have d3 : decide (65535 < a1) = false := decide_eq_false (by omega)
                    clear hw hg HE3 e hr
                    go_wp2_with fail
                    refine HC.out.mono ?_
                    rintro ee w4 ⟨rfl, hb4⟩
                    have hX4 := HX3.out.below hb4 HX3.out.lt
                    have hown4 := own_below HO3.out hb4
                    have hB4 := HB3.out.trans (hb4.mono HB3.out.size)
                    have he1 := hX4.cell 1
                    have hfe := hX4.frozen 1
                    have hX5 := hX4.set 1 (.int .i64 a1)
                    have he0 := hX5.cell 0
                    have he2 := hX5.cell 1
                    have hO5 := own_set hown4 hne2 1 (.int .i64 a1)
                    have hB5 := hB4.setCell (p := ⟨w2.heap.size, 1, none⟩) hW2 (.int .i64 a1)
                    simp only [List.setIfInBounds_toArray, List.set_cons_zero, List.set_cons_succ, List.getElem?_toArray, List.getElem?_cons_succ, List.getElem?_cons_zero] at he1 he0 he2
                    have HO5 := Lib.hid hO5
                    have HB5 := Lib.hid hB5
                    clear hX4 hown4 hB4 hX5 hO5 hB5 hb4 HC
                    go_wp2_with (at_builtin; go_loud (refine wpList_append_own_at _ rfl _ _ 27 rfl W.heap.size 55 i0 (.agg #[.int .i64 0, .int .i64 0]) 2 16 Tryd.underlying27 hi0 hz0 hz1 hz2 rfl (by decide) u9 acc.length _ rfl (HO5.out.alloc _) ⟨_, 0, none⟩ 1 1 [.int .i64 g1, .int .i64 a1] rfl rfl (news_at' _ _ _ _ (by simp [World.setCell])) (by simp [Value.oneCell']) (by unfold maxLen; omega) (by omega) (by have := HB5.out.size; simp [World.setCell] at this ⊢; omega) ?_); intro v' w9 hown' hgrow _ hat; have HO9 := Lib.hid hown'; have HB9 := Lib.hid (below_append HO5.out HB5.out HB5.out.size hgrow); clear hown' hgrow hat)
                    go_roundw
                    case rel =>
                      refine ⟨i + 1, a3, acc ++ [⟨g1, a1⟩], rfl, by simp, by omega, Lib.hid (by rw [List.length_append, List.length_singleton, hal.out]), Lib.hid (by rw [icode_append, List.length_append]; exact HO9.out), HB9, Lib.hid ?_⟩
                      rw [hm2'.out]; exact HE4.out
                    case measure => simp [intOf]; omega
                · have hv3 : (a4 == 0) = false := beq_eq_false_iff_ne.2 hw
                  have hv4 : (a4 != 0) = true := by simp [bne, hv3]
                  have e := HE3.out
                  rw [numL_err hg.symm hw, if_pos hw] at e
                  cases e
                  clear hw hg HE3
                  go_wp2_with (go_at_call 38; refine HC.out.mono ?_; rintro e w4 ⟨rfl, hb4⟩; have B4 := Lib.hid (HB3.out.trans (hb4.mono HB3.out.size)); clear hb4)
                  go_ret3
                  exact ⟨⟨_, rfl, SliceIn.nil _ _ _⟩, B4.out⟩
          · have hv1 : (g3 == 0) = false := beq_eq_false_iff_ne.2 hw
            have hv2 : (g3 != 0) = true := by simp [bne, hv1]
            rw [numL_err hg.symm hw, if_pos hw] at e
            cases e
            clear hw hg
            go_wp2_with (go_at_call 38; refine HC.out.mono ?_; rintro e w2 ⟨rfl, hb2⟩; have B2 := Lib.hid (hb.out.trans (hb2.mono hb.out.size)); clear hb2)
            go_ret3
            exact ⟨⟨_, rfl, SliceIn.nil _ _ _⟩, B2.out⟩
        · obtain rfl : i = N := by omega
          have e := ht0.out
          rw [Nat.sub_self, codeFrom] at e
          cases e
          clear ht0 HT
          go_wp2
          go_ret3
          exact ⟨⟨_, rfl, SliceIn.of_own hown.out⟩, hb.out⟩
  · rw [numL_err hg.symm hw, if_pos hw] at hT
    cases hT
    have hw1 : (g3 == 0) = false := beq_eq_false_iff_ne.2 hw
    have hw2 : (g3 != 0) = true := by simp [bne, hw1]
    clear hw hg
    go_enter Tryd.func20, Tryd.ntmps20
    go_wp2_with (go_at_call 38; refine H1.out.mono ?_; rintro e w1 ⟨rfl, hb1⟩; have B1 := Lib.hid hb1; clear hb1)
    go_ret3
    exact ⟨⟨_, rfl, SliceIn.nil _ _ _⟩, B1.out⟩
end Go.Proofs.YtmlcififmjpcpaaDoor
