/-
  Part of a proof: SmH.
-/
import Derived.Test.YtcaigcmbgihhkaaGreatDoorZSmG
namespace Go.Proofs.YtcaigcmbgihhkaaGreatDoor
open Go Go.RowKit Go.Shelf
set_option linter.unusedVariables false
set_option linter.unusedSimpArgs false
attribute [local go_sem] Oper.semAt_some
set_option maxRecDepth 100000 in
set_option maxHeartbeats 40000000 in
theorem rsameAll_any (l l' : List ClassD) (v v' : Value) (w : World) (h : ClassesIn w l v) (h' : ClassesIn w l' v') :
    Calls Tryz.prog 17 #[v, v', .bool false] w fun e w' => e = .returned (.bool (sameCs l l')) ∧ Below w.heap.size w w' := by
  obtain ⟨ao, c, rfl⟩ := h.form
  obtain ⟨ao', c', rfl⟩ := h'.form
  have hl : l.length ≤ maxLen := by
    obtain ⟨_, _, e, h1, h2, _⟩ := h
    omega
  have hl' : l'.length ≤ maxLen := by
    obtain ⟨_, _, e, h1, h2, _⟩ := h'
    omega
  have H := Lib.hid h
  have H' := Lib.hid h'
  unfold sameCs
  obtain ⟨n, hn⟩ : ∃ n, n = l.length := ⟨_, rfl⟩
  obtain ⟨n', hn'⟩ : ∃ n, n = l'.length := ⟨_, rfl⟩
  rw [← hn] at hl ⊢
  rw [← hn'] at hl' ⊢
  have HN := Lib.hid hn
  have HN' := Lib.hid hn'
  have hl3 : (n : Int) ≤ 9223372036854775807 := by unfold maxLen at hl; omega
  clear h h'
  by_cases hne : n = n'
  · subst hne
    have hd : ((n : Int) != (n : Int)) = false := by simp
    obtain ⟨R, hR⟩ : ∃ R, R = eqL sameC l l' := ⟨_, rfl⟩
    rw [← hR]
    have HR := Lib.hid hR
    clear hR hn hn'
    go_enter Tryz.func17, Tryz.ntmps17
    go_wp2_with fail
    go_loopw [7] (fun s7 wr => ∃ (k : Nat), k ≤ n ∧ s7 = .int .i64 (k : Int) ∧ Hid (R = eqL sameC (l.drop k) (l'.drop k)) ∧ Hid (Below w.heap.size w wr)) (fun s7 _ => n - (intOf s7).toNat)
    case atStart => exact ⟨0, Nat.zero_le _, rfl, HR, Lib.hid (Below.refl _ _)⟩
    case round =>
      obtain ⟨k, hk, rfl, hm, hb⟩ := hrel
      by_cases hkn : k < n
      · obtain ⟨a, ha⟩ : ∃ a, l[k]? = some a := ⟨_, List.getElem?_eq_getElem (by rw [← HN.out]; exact hkn)⟩
        obtain ⟨b, hb2⟩ : ∃ a, l'[k]? = some a := ⟨_, List.getElem?_eq_getElem (by rw [← HN'.out]; exact hkn)⟩
        have K := H.out.later hb.out
        have K' := H'.out.later hb.out
        obtain ⟨g, o, c1, tv, kv, e, q1, q2, ⟨hf, hms⟩, a0, a1, a2, a3, a4⟩ := K.at_ ha
        obtain ⟨g', o', c2, tv', kv', e', q1', q2', ⟨hf', hms'⟩, b0, b1, b2, b3, b4⟩ := K'.at_ hb2
        simp only [Value.slice.injEq] at e e'
        obtain ⟨rfl, -, rfl⟩ := e
        obtain ⟨rfl, -, rfl⟩ := e'
        have lg := cell_lt a0
        have lg' := cell_lt b0
        obtain ⟨fa, fc, rfl⟩ := hf.form
        obtain ⟨ma, mc, rfl⟩ := hms.form
        obtain ⟨fa', fc', rfl⟩ := hf'.form
        obtain ⟨ma', mc', rfl⟩ := hms'.form
        have hml : a.methods.length ≤ maxLen := by
          obtain ⟨_, _, e, h1, h2, _⟩ := hms
          omega
        have hm' := hm.out
        rw [eqL_drop ha hb2] at hm'
        have HM := Lib.hid hm'
        obtain ⟨t, y, ps, ks, p⟩ := a
        obtain ⟨t', y', ps', ks', p'⟩ := b
        dsimp only at a0 a1 a2 a3 a4 b0 b1 b2 b3 b4 hml
        have HF := Lib.hid (show ParamsIn wr ps _ from hf)
        have HF' := Lib.hid (show ParamsIn wr ps' _ from hf')
        have HMS := Lib.hid (show MethodsIn wr ks _ from hms)
        have HMS' := Lib.hid (show MethodsIn wr ks' _ from hms')
        clear hm hm' K K' ha hb2 hf hms hf' hms'
        obtain ⟨N, hN⟩ : ∃ N, N = ks.length := ⟨_, rfl⟩
        obtain ⟨N', hN'⟩ : ∃ N, N = ks'.length := ⟨_, rfl⟩
        rw [← hN] at hml a3 HMS
        rw [← hN'] at b3 HMS'
        have HNN := Lib.hid hN
        have HNN' := Lib.hid hN'
        have hml3 : (N : Int) ≤ 9223372036854775807 := by unfold maxLen at hml; omega
        clear hN hN'
        have hbb := fun (u v : Array Value) => hb.out.alloc hb.out.size (.cells u 55) |>.alloc (by have := hb.out.size; simp; omega) (.cells v 55)
        have HB := Lib.hid hbb
        have hrr := fun (u v : Array Value) => (Below.refl wr.heap.size wr).alloc (Nat.le_refl _) (.cells u 55) |>.alloc (by simp) (.cells v 55)
        have HRR := Lib.hid hrr
        clear hbb hrr
        by_cases h1 : t = t'
        · subst h1
          by_cases h2 : y = y'
          · subst h2
            have hm' := HM.out
            simp only [sameC, BEq.rfl, Bool.true_and] at hm'
            have HM1 := Lib.hid hm'
            clear hm' HM
            go_wp2_with fail
            refine (rparams_any ps ps' _ _ _ (HF.out.later (HRR.out _ _)) (HF'.out.later (HRR.out _ _))).mono ?_
            rintro e w1 ⟨rfl, hb1⟩
            have n0 := Lib.hid (((Blk.new wr 55 #[.string (mkB t), .string (mkB y), .slice fa ps.length fc, .slice ma N mc, .int .i64 p]).alloc (.cells #[.string (mkB t), .string (mkB y), .slice fa' ps'.length fc', .slice ma' N' mc', .int .i64 p'] 55)).below hb1 (by simp; omega))
            have n1 := (Blk.new (wr.alloc (.cells #[.string (mkB t), .string (mkB y), .slice fa ps.length fc, .slice ma N mc, .int .i64 p] 55)) 55 #[.string (mkB t), .string (mkB y), .slice fa' ps'.length fc', .slice ma' N' mc', .int .i64 p']).below hb1 (by simp)
            simp only [World.size_alloc] at n1
            have N1 := Lib.hid n1
            have HB1 := Lib.hid ((HB.out _ _).trans (hb1.mono (HB.out _ _).size))
            have HQ1 := Lib.hid ((HRR.out _ _).trans (hb1.mono (HRR.out _ _).size))
            clear n1 hb1
            have x3 : w1.cell? ⟨wr.heap.size, 3, none⟩ = some (.slice ma N mc) := n0.out.cell 3
            have z3 : w1.cell? ⟨wr.heap.size + 1, 3, none⟩ = some (.slice ma' N' mc') := N1.out.cell 3
            have l0 := n0.out.lt
            have l1 := N1.out.lt
            cases hq : eqL sameP ps ps' with
            | false =>
              have hm' := HM1.out
              rw [hq, Bool.false_and, Bool.false_and] at hm'
              subst hm'
              clear hq HM1
              go_wp2_with fail
              go_ret
              exact ⟨rfl, HB1.out⟩
            | true =>
              have hm' := HM1.out
              rw [hq, Bool.true_and] at hm'
              clear hq HM1
              by_cases hNN : N = N'
              · subst hNN
                have hd2 : ((N : Int) != (N : Int)) = false := by simp
                have HM2 := Lib.hid hm'
                clear hm'
                have HMS1 := Lib.hid (HMS.out.later HQ1.out)
                have HMS1' := Lib.hid (HMS'.out.later HQ1.out)
                obtain ⟨X, hX⟩ : ∃ X, X = wr.heap.size := ⟨_, rfl⟩
                rw [← hX] at x3 z3 l0 l1 n0 N1
                simp only [← hX]
                clear HF HF' HMS HMS' HRR HB a0 a1 a2 a3 a4 b0 b1 b2 b3 b4 HQ1 hX lg lg' hb
                go_wp2_with fail
                go_loopw [10] (fun s10 ws => ∃ (j : Nat), j ≤ N ∧ s10 = .int .i64 (j : Int) ∧ Hid (R = (eqL sameM (ks.drop j) (ks'.drop j) && eqL sameC (l.drop (k + 1)) (l'.drop (k + 1)))) ∧ Hid (Below w.heap.size w ws) ∧ Hid (Blk ws X 55 #[.string (mkB t), .string (mkB y), .slice fa ps.length fc, .slice ma N mc, .int .i64 p]) ∧ Hid (Blk ws (X + 1) 55 #[.string (mkB t), .string (mkB y), .slice fa' ps'.length fc', .slice ma' N mc', .int .i64 p']) ∧ Hid (MethodsIn ws ks (.slice ma N mc)) ∧ Hid (MethodsIn ws ks' (.slice ma' N mc'))) (fun s10 _ => N - (intOf s10).toNat)
                case atStart => exact ⟨0, Nat.zero_le _, rfl, HM2, HB1, n0, N1, HMS1, HMS1'⟩
                case round =>
                  clear HM2 HB1 n0 N1 HMS1 HMS1' x3 z3 l0 l1
                  obtain ⟨j, hj, rfl, hm, hb, n0, N1, HMS, HMS'⟩ := hrel
                  have x3 : wr.cell? ⟨X, 3, none⟩ = some (.slice ma N mc) := n0.out.cell 3
                  have z3 : wr.cell? ⟨X + 1, 3, none⟩ = some (.slice ma' N mc') := N1.out.cell 3
                  have l0 := n0.out.lt
                  have l1 := N1.out.lt
                  by_cases hjn : j < N
                  · obtain ⟨a, ha⟩ : ∃ a, ks[j]? = some a := ⟨_, List.getElem?_eq_getElem (by rw [← HNN.out]; exact hjn)⟩
                    obtain ⟨b, hb2⟩ : ∃ a, ks'[j]? = some a := ⟨_, List.getElem?_eq_getElem (by rw [← HNN'.out]; exact hjn)⟩
                    obtain ⟨g2, o2, c3, tv, kv, e, q3, q4, ⟨hf, hms⟩, a0, a1, a2, a3, a4, a5, a6, a7, a8, a9⟩ := HMS.out.at_ ha
                    obtain ⟨g3, o3, c4, tv', kv', e', q3', q4', ⟨hf', hms'⟩, b0, b1, b2, b3, b4, b5, b6, b7, b8, b9⟩ := HMS'.out.at_ hb2
                    simp only [Value.slice.injEq] at e e'
                    obtain ⟨rfl, -, rfl⟩ := e
                    obtain ⟨rfl, -, rfl⟩ := e'
                    have lg2 := cell_lt a0
                    have lg3 := cell_lt b0
                    obtain ⟨ta, tc, rfl⟩ := hf.form
                    obtain ⟨ua, uc, rfl⟩ := hms.form
                    obtain ⟨ta', tc', rfl⟩ := hf'.form
                    obtain ⟨ua', uc', rfl⟩ := hms'.form
                    have hm' := hm.out
                    rw [eqL_drop ha hb2] at hm'
                    have HM := Lib.hid hm'
                    have HS := Lib.hid (rsame_any a.body b.body)
                    obtain ⟨t2, y2, ps2, bd, p2⟩ := a
                    obtain ⟨t2', y2', ps2', bd', p2'⟩ := b
                    obtain ⟨bo, bt, by_, bn, bk, bp⟩ := bd
                    obtain ⟨bo', bt', by_', bn', bk', bp'⟩ := bd'
                    dsimp only [NodeD.op, NodeD.text, NodeD.type, NodeD.n, NodeD.at_, NodeD.kids] at a0 a1 a2 a3 a4 a5 a6 a7 a8 a9 b0 b1 b2 b3 b4 b5 b6 b7 b8 b9 HS
                    have HF := Lib.hid (show ParamsIn wr ps2 _ from hf)
                    have HF' := Lib.hid (show ParamsIn wr ps2' _ from hf')
                    have HK := Lib.hid (show KidsIn wr bk _ from hms)
                    have HK' := Lib.hid (show KidsIn wr bk' _ from hms')
                    clear hm hm' ha hb2 hf hms hf' hms'
                    have hbb := fun (u v : Array Value) => hb.out.alloc hb.out.size (.cells u 95) |>.alloc (by have := hb.out.size; simp; omega) (.cells v 95)
                    have HB := Lib.hid hbb
                    have hrr := fun (u v : Array Value) => (Below.refl wr.heap.size wr).alloc (Nat.le_refl _) (.cells u 95) |>.alloc (by simp) (.cells v 95)
                    have HRR := Lib.hid hrr
                    clear hbb hrr
                    by_cases h1 : t2 = t2'
                    · subst h1
                      by_cases h2 : y2 = y2'
                      · subst h2
                        have hm' := HM.out
                        simp only [sameM, BEq.rfl, Bool.true_and] at hm'
                        have HM1 := Lib.hid hm'
                        clear hm' HM
                        go_wp2_with fail
                        refine (rparams_any ps2 ps2' _ _ _ (HF.out.later (HRR.out _ _)) (HF'.out.later (HRR.out _ _))).mono ?_
                        rintro e w1 ⟨rfl, hb1⟩
                        have m0 := Lib.hid (((Blk.new wr 95 #[.string (mkB t2), .string (mkB y2), .slice ta ps2.length tc, .int .i64 bo, .string (mkB bt), .string (mkB by_), .int .i64 bn, .slice ua bk.length uc, .int .i64 bp, .int .i64 p2]).alloc (.cells #[.string (mkB t2), .string (mkB y2), .slice ta' ps2'.length tc', .int .i64 bo', .string (mkB bt'), .string (mkB by_'), .int .i64 bn', .slice ua' bk'.length uc', .int .i64 bp', .int .i64 p2'] 95)).below hb1 (by simp; omega))
                        have m1 := (Blk.new (wr.alloc (.cells #[.string (mkB t2), .string (mkB y2), .slice ta ps2.length tc, .int .i64 bo, .string (mkB bt), .string (mkB by_), .int .i64 bn, .slice ua bk.length uc, .int .i64 bp, .int .i64 p2] 95)) 95 #[.string (mkB t2), .string (mkB y2), .slice ta' ps2'.length tc', .int .i64 bo', .string (mkB bt'), .string (mkB by_'), .int .i64 bn', .slice ua' bk'.length uc', .int .i64 bp', .int .i64 p2']).below hb1 (by simp)
                        simp only [World.size_alloc] at m1
                        have HB1 := Lib.hid ((HB.out _ _).trans (hb1.mono (HB.out _ _).size))
                        have HQ1 := Lib.hid ((HRR.out _ _).trans (hb1.mono (HRR.out _ _).size))
                        cases hq : eqL sameP ps2 ps2' with
                        | false =>
                          have hm' := HM1.out
                          rw [hq, Bool.false_and, Bool.false_and, Bool.false_and] at hm'
                          subst hm'
                          clear hq HM1 m0 m1 hb1
                          go_wp2_with fail
                          go_ret
                          exact ⟨rfl, HB1.out⟩
                        | true =>
                          have hm' := HM1.out
                          rw [hq, Bool.true_and] at hm'
                          have HM2 := Lib.hid hm'
                          clear hq HM1 hm' hb1
                          obtain ⟨ma0, ma1, ma2, ma3, ma4, ma5, ma6, ma7, ma8, ma9, maf, mal⟩ := m0.out.ten
                          obtain ⟨mb0, mb1, mb2, mb3, mb4, mb5, mb6, mb7, mb8, mb9, mbf, mbl⟩ := m1.ten
                          clear m0 m1
                          go_wp2_with fail
                          refine (HS.out _ _ _ (HK.out.later HQ1.out) (HK'.out.later HQ1.out)).mono ?_
                          rintro e w2 ⟨rfl, hb2⟩
                          have HB2 := Lib.hid (HB1.out.trans (hb2.mono HB1.out.size))
                          have HQ2 := Lib.hid (HQ1.out.trans (hb2.mono HQ1.out.size))
                          clear hb2
                          cases hq : sameN (.mk bo bt by_ bn bk bp) (.mk bo' bt' by_' bn' bk' bp') with
                          | false =>
                            have hm' := HM2.out
                            rw [hq, Bool.false_and, Bool.false_and] at hm'
                            subst hm'
                            clear hq HM2
                            go_wp2_with fail
                            go_ret
                            exact ⟨rfl, HB2.out⟩
                          | true =>
                            have hm' := HM2.out
                            rw [hq, Bool.true_and] at hm'
                            have HM3 := Lib.hid hm'
                            clear hq HM2 hm'
                            have r0 := Lib.hid (n0.out.below HQ2.out l0)
                            have r1 := Lib.hid (N1.out.below HQ2.out l1)
                            have r2 := Lib.hid (HMS.out.later HQ2.out)
                            have r3 := Lib.hid (HMS'.out.later HQ2.out)
                            go_wp2_with fail
                            go_roundw
                            case rel => exact ⟨j + 1, by omega, by go_num, HM3, HB2, r0, r1, r2, r3⟩
                            case measure => simp [intOf]; omega
                      · have e : (y2 == y2') = false := beq_eq_false_iff_ne.2 h2
                        have t2' : ((mkB y2).toList == (mkB y2').toList) = false := by rw [mkB_list, mkB_list]; exact e
                        have t3' : ¬ (mkB y2).toList = (mkB y2').toList := by rw [mkB_list, mkB_list]; exact h2
                        have hm' := HM.out
                        simp only [sameM, e, Bool.false_and, Bool.and_false] at hm'
                        subst hm'
                        clear HM
                        go_wp2_with fail
                        go_ret
                        exact ⟨rfl, HB.out _ _⟩
                    · have e : (t2 == t2') = false := beq_eq_false_iff_ne.2 h1
                      have u2' : ((mkB t2).toList == (mkB t2').toList) = false := by rw [mkB_list, mkB_list]; exact e
                      have u3' : ¬ (mkB t2).toList = (mkB t2').toList := by rw [mkB_list, mkB_list]; exact h1
                      have hm' := HM.out
                      simp only [sameM, e, Bool.false_and, Bool.and_false] at hm'
                      subst hm'
                      clear HM
                      go_wp2_with fail
                      go_ret
                      exact ⟨rfl, HB.out _ _⟩
                  · obtain rfl : j = N := by omega
                    have hm' := hm.out
                    rw [List.drop_eq_nil_of_le (by rw [← HNN.out]; exact Nat.le_refl _), List.drop_eq_nil_of_le (by rw [← HNN'.out]; exact Nat.le_refl _), eqL, Bool.true_and] at hm'
                    have HM := Lib.hid hm'
                    clear hm hm'
                    go_wp2_with fail
                    go_roundw
                    case rel => exact ⟨k + 1, by omega, by go_num, HM, hb⟩
                    case measure => simp [intOf]; omega
              · have hd2 : ((N : Int) != (N' : Int)) = true := by simp only [bne_iff_ne, ne_eq, Int.ofNat_inj]; exact hNN
                rw [eqL_len (by rw [← HNN.out, ← HNN'.out]; exact hNN), Bool.false_and] at hm'
                subst hm'
                go_wp2_with fail
                go_ret
                exact ⟨rfl, HB1.out⟩
          · have e : (y == y') = false := beq_eq_false_iff_ne.2 h2
            have t2 : ((mkB y).toList == (mkB y').toList) = false := by rw [mkB_list, mkB_list]; exact e
            have t3 : ¬ (mkB y).toList = (mkB y').toList := by rw [mkB_list, mkB_list]; exact h2
            have hm' := HM.out
            simp only [sameC, e, Bool.false_and, Bool.and_false] at hm'
            subst hm'
            clear HM
            go_wp2_with fail
            go_ret
            exact ⟨rfl, HB.out _ _⟩
        · have e : (t == t') = false := beq_eq_false_iff_ne.2 h1
          have t2 : ((mkB t).toList == (mkB t').toList) = false := by rw [mkB_list, mkB_list]; exact e
          have t3 : ¬ (mkB t).toList = (mkB t').toList := by rw [mkB_list, mkB_list]; exact h1
          have hm' := HM.out
          simp only [sameC, e, Bool.false_and, Bool.and_false] at hm'
          subst hm'
          clear HM
          go_wp2_with fail
          go_ret
          exact ⟨rfl, HB.out _ _⟩
      · obtain rfl : k = n := by omega
        have hm' := hm.out
        rw [List.drop_eq_nil_of_le (by rw [← HN.out]; exact Nat.le_refl _), List.drop_eq_nil_of_le (by rw [← HN'.out]; exact Nat.le_refl _)] at hm'
        have HM := Lib.hid hm'
        clear hm hm'
        go_wp2_with fail
        go_ret
        exact ⟨by rw [HM.out]; rfl, hb.out⟩
  · have hd : ((n : Int) != (n' : Int)) = true := by simp only [bne_iff_ne, ne_eq, Int.ofNat_inj]; exact hne
    have hs : eqL sameC l l' = false := eqL_len (by rw [← hn, ← hn']; exact hne)
    rw [hs]
    clear hn hn' hs
    go_enter Tryz.func17, Tryz.ntmps17
    go_wp2_with fail
    go_ret
    exact ⟨rfl, Below.refl _ _⟩
end Go.Proofs.YtcaigcmbgihhkaaGreatDoor
