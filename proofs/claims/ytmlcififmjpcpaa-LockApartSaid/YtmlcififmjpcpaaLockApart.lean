/-
  The walk of LockApart.
-/
import Derived.Test.YtmlcififmjpcpaaLockSame
import Derived.Test.YtmlcififmjpcpaaLockApartP
namespace Go.Proofs.Ytmlcififmjpcpaa
open Go.RowKit
set_option linter.unusedVariables false

set_option maxRecDepth 100000 in
set_option maxHeartbeats 8000000 in
theorem lockApart_walk (v0 : Value) (xs : List ActD) (a1 : Int) (w : World) (h0 : RSlice KAct 4 w v0 xs ∧ (xs.length * 48 ≤ 140737488351232 ∧ ∀ x ∈ xs, goodAct x)) (_w1 : (Lit.int .i64 a1).wf = true) :
    Calls Try.prog 4 #[v0, .int .i64 a1] w fun e w' => e = .returned (.bool true) ∧ Below w.heap.size w w' := by
  obtain ⟨h0, hlen, _⟩ := h0
  obtain ⟨A0, c0, rfl⟩ := acts_slice h0
  clear _w1
  have hl63 : xs.length ≤ 9223372036854775807 := by omega
  have H0 := Lib.hid h0
  clear h0 hlen
  obtain ⟨p, hp, hp8⟩ := pick8 a1
  have HP := Lib.hid hp
  clear hp
  go_enter Try.func4, Try.ntmps4
  go_wp2_with fail
  refine (new_lk (Below.refl _ w)).mono ?_
  rintro e w1 ⟨b, rfl, hLK⟩
  go_wp2_with fail
  refine (new_lk2 hLK).mono ?_
  rintro e w2 ⟨c, rfl, hLK2⟩
  clear hLK
  go_wp2_with fail
  go_loopw [7] (fun i wr => ∃ k : Nat, ∃ hs : List Hold, k ≤ xs.length ∧ k ≤ 60 ∧ i = .int .i64 k ∧ Hid (LK2 w b hs c (filt hs p) wr) ∧ Hid (Own8 hs) ∧ hs.length ≤ k)
    (fun i _ => xs.length - (intOf i).toNat)
  case atStart => exact ⟨0, [], by omega, by omega, rfl, hLK2, fun _ h => by simp at h, by simp⟩
  case round =>
    clear hLK2
    obtain ⟨k, hs, hk, hk4, rfl, hL, hC, hhl⟩ := hrel
    by_cases hlt : k < xs.length ∧ k < 60
    · obtain ⟨hlt, hlt4⟩ := hlt
      obtain ⟨⟨kind, a, who, now⟩, hx⟩ : ∃ x, xs[k]? = some x := ⟨_, List.getElem?_eq_getElem hlt⟩
      obtain ⟨A, cap, nv, he, hc0, hc1, hc2, hc3, hnv⟩ := act_at hL.out.below H0.out hlt hx
      obtain ⟨An, cn, rfl⟩ := ints_slice hnv
      clear hnv
      obtain ⟨rfl, -, rfl⟩ := Value.slice.inj he
      clear he hx
      obtain ⟨q, hq, hq8⟩ := pick8 who
      have HQ := Lib.hid hq
      clear hq
      have hq1 := hL.out.quiet (Below.alloc (Below.refl wr.heap.size wr) (Nat.le_refl _) (.cells #[.int .i64 kind, .int .i64 a, .int .i64 who, .slice An now.length cn] 27))
      have hL1 := Lib.hid hq1
      clear hq1
      by_cases h5 : 5 ≤ kind
      · go_wp2
        go_roundw
        case rel => exact ⟨k + 1, hs, by omega, by omega, by go_num, hL1, hC, by omega⟩
        case measure => simp [intOf]; omega
      · by_cases ha : a < 1
        · go_wp2
          go_roundw
          case rel => exact ⟨k + 1, hs, by omega, by omega, by go_num, hL1, hC, by omega⟩
          case measure => simp [intOf]; omega
        · have ha1 : 1 ≤ a := by omega
          have hE8 : (wrap64 (a % 100 * 8 + (wrap64 (who.tmod 8 + 8)).tmod 8)) % 8 = (wrap64 (who.tmod 8 + 8)).tmod 8 := by
            rw [HQ.out]
            have e : wrap64 (a % 100 * 8 + (q : Int)) = a % 100 * 8 + (q : Int) := by unfold wrap64; omega
            rw [e]
            omega
          have HE8 := Lib.hid hE8
          clear hE8 ha
          by_cases h1E : wrap64 (a % 100 * 8 + (wrap64 (who.tmod 8 + 8)).tmod 8) < 1
          · go_wp2
            go_roundw
            case rel => exact ⟨k + 1, hs, by omega, by omega, by go_num, hL1, hC, by omega⟩
            case measure => simp [intOf]; omega
          · have h1E : 1 ≤ wrap64 (a % 100 * 8 + (wrap64 (who.tmod 8 + 8)).tmod 8) := by omega
            by_cases h3 : kind < 3
            · have hkb : decide (kind < 3) = true := by simp; omega
              have hH8 := enter8 (q := (wrap64 (who.tmod 8 + 8)).tmod 8) hC.out h1E HE8.out
              have hl2 := hH8.2.1
              have HH := Lib.hid hH8
              clear hH8
              by_cases hqp : (wrap64 (who.tmod 8 + 8)).tmod 8 = (wrap64 (a1.tmod 8 + 8)).tmod 8
              · have hqb : ((wrap64 (who.tmod 8 + 8)).tmod 8 != (wrap64 (a1.tmod 8 + 8)).tmod 8) = false := by simp [hqp]
                have HQP := Lib.hid hqp
                clear hqp
                go_wp2_with fail
                refine (enter_lk2b hL.out (by omega) _ _ _ _).mono ?_
                rintro e w3 ⟨rfl, hL3, hB3⟩
                have hk0 := hB3.cell 0
                have hk1 := hB3.cell 1
                have hk2 := hB3.cell 2
                simp only [List.getElem?_toArray, List.getElem?_cons_zero, List.getElem?_cons_succ] at hk0 hk1 hk2
                clear hB3
                have e2 := HH.out.2.2.2
                have hL4 : Hid (LK2 w b (enterL hs (wrap64 (a % 100 * 8 + (wrap64 (who.tmod 8 + 8)).tmod 8)) ((wrap64 (who.tmod 8 + 8)).tmod 8)).2 c (filt (enterL hs (wrap64 (a % 100 * 8 + (wrap64 (who.tmod 8 + 8)).tmod 8)) ((wrap64 (who.tmod 8 + 8)).tmod 8)).2 p) w3) := by
                  have e3 : (p : Int) = (wrap64 (who.tmod 8 + 8)).tmod 8 := by rw [HQP.out, HP.out]
                  have e4 := e2
                  rw [← e3] at e4
                  rw [e3] at hL3 ⊢
                  rw [e2]
                  exact hL3
                clear hL3 e2
                go_wp2
                go_roundw
                case rel => exact ⟨k + 1, _, by omega, by omega, by go_num, hL4, HH.out.1, by omega⟩
                case measure => simp [intOf]; omega
              · have hqb : ((wrap64 (who.tmod 8 + 8)).tmod 8 != (wrap64 (a1.tmod 8 + 8)).tmod 8) = true := by simp [hqp]
                have HQP := Lib.hid hqp
                clear hqp
                go_wp2_with fail
                refine (enter_lk2b hL.out (by omega) _ _ _ _).mono ?_
                rintro e w3 ⟨rfl, hL3, hB3⟩
                have hk0 := hB3.cell 0
                have hk1 := hB3.cell 1
                have hk2 := hB3.cell 2
                simp only [List.getElem?_toArray, List.getElem?_cons_zero, List.getElem?_cons_succ] at hk0 hk1 hk2
                clear hB3
                have hfl : (filt hs p).length ≤ hs.length := List.length_filter_le _ _
                have hh2 := enter_lk2' hL3 (by omega) (wrap64 (a % 100 * 8 + (wrap64 (who.tmod 8 + 8)).tmod 8)) ((wrap64 (who.tmod 8 + 8)).tmod 8)
                clear hL3 hfl
                go_wp2_with fail
                refine hh2.mono ?_
                rintro e w4 ⟨rfl, hL5⟩
                have e2 := HH.out.2.2.1 p (by intro h; exact HQP.out (by rw [h, HP.out]))
                have hL4 : Hid (LK2 w b (enterL hs (wrap64 (a % 100 * 8 + (wrap64 (who.tmod 8 + 8)).tmod 8)) ((wrap64 (who.tmod 8 + 8)).tmod 8)).2 c (filt (enterL hs (wrap64 (a % 100 * 8 + (wrap64 (who.tmod 8 + 8)).tmod 8)) ((wrap64 (who.tmod 8 + 8)).tmod 8)).2 p) w4) := by rw [e2]; exact hL5
                clear hL5 e2
                go_wp2
                go_roundw
                case rel => exact ⟨k + 1, _, by omega, by omega, by go_num, hL4, HH.out.1, by omega⟩
                case measure => simp [intOf]; omega
            · have hkb : decide (kind < 3) = false := by simp; omega
              have hH8 := exit8 (q := (wrap64 (who.tmod 8 + 8)).tmod 8) hC.out HE8.out
              have hl2 := hH8.2.1
              have HH := Lib.hid hH8
              clear hH8
              by_cases hqp : (wrap64 (who.tmod 8 + 8)).tmod 8 = (wrap64 (a1.tmod 8 + 8)).tmod 8
              · have hqb : ((wrap64 (who.tmod 8 + 8)).tmod 8 != (wrap64 (a1.tmod 8 + 8)).tmod 8) = false := by simp [hqp]
                have HQP := Lib.hid hqp
                clear hqp
                go_wp2_with fail
                refine (exit_lk2b hL.out (by omega) _ _ _ _).mono ?_
                rintro e w3 ⟨rfl, hL3, hB3⟩
                have hk0 := hB3.cell 0
                have hk1 := hB3.cell 1
                have hk2 := hB3.cell 2
                simp only [List.getElem?_toArray, List.getElem?_cons_zero, List.getElem?_cons_succ] at hk0 hk1 hk2
                clear hB3
                have e2 := HH.out.2.2.2
                have hL4 : Hid (LK2 w b (exitL hs (wrap64 (a % 100 * 8 + (wrap64 (who.tmod 8 + 8)).tmod 8)) ((wrap64 (who.tmod 8 + 8)).tmod 8)).2 c (filt (exitL hs (wrap64 (a % 100 * 8 + (wrap64 (who.tmod 8 + 8)).tmod 8)) ((wrap64 (who.tmod 8 + 8)).tmod 8)).2 p) w3) := by
                  have e3 : (p : Int) = (wrap64 (who.tmod 8 + 8)).tmod 8 := by rw [HQP.out, HP.out]
                  have e4 := e2
                  rw [← e3] at e4
                  rw [e3] at hL3 ⊢
                  rw [e2]
                  exact hL3
                clear hL3 e2
                go_wp2
                go_roundw
                case rel => exact ⟨k + 1, _, by omega, by omega, by go_num, hL4, HH.out.1, by omega⟩
                case measure => simp [intOf]; omega
              · have hqb : ((wrap64 (who.tmod 8 + 8)).tmod 8 != (wrap64 (a1.tmod 8 + 8)).tmod 8) = true := by simp [hqp]
                have HQP := Lib.hid hqp
                clear hqp
                go_wp2_with fail
                refine (exit_lk2b hL.out (by omega) _ _ _ _).mono ?_
                rintro e w3 ⟨rfl, hL3, hB3⟩
                have hk0 := hB3.cell 0
                have hk1 := hB3.cell 1
                have hk2 := hB3.cell 2
                simp only [List.getElem?_toArray, List.getElem?_cons_zero, List.getElem?_cons_succ] at hk0 hk1 hk2
                clear hB3
                have hfl : (filt hs p).length ≤ hs.length := List.length_filter_le _ _
                have hh2 := exit_lk2' hL3 (by omega) (wrap64 (a % 100 * 8 + (wrap64 (who.tmod 8 + 8)).tmod 8)) ((wrap64 (who.tmod 8 + 8)).tmod 8)
                clear hL3 hfl
                go_wp2_with fail
                refine hh2.mono ?_
                rintro e w4 ⟨rfl, hL5⟩
                have e2 := HH.out.2.2.1 p (by intro h; exact HQP.out (by rw [h, HP.out]))
                have hL4 : Hid (LK2 w b (exitL hs (wrap64 (a % 100 * 8 + (wrap64 (who.tmod 8 + 8)).tmod 8)) ((wrap64 (who.tmod 8 + 8)).tmod 8)).2 c (filt (exitL hs (wrap64 (a % 100 * 8 + (wrap64 (who.tmod 8 + 8)).tmod 8)) ((wrap64 (who.tmod 8 + 8)).tmod 8)).2 p) w4) := by rw [e2]; exact hL5
                clear hL5 e2
                go_wp2
                go_roundw
                case rel => exact ⟨k + 1, _, by omega, by omega, by go_num, hL4, HH.out.1, by omega⟩
                case measure => simp [intOf]; omega
    · have hg : decide (k < xs.length) = false ∨ (decide (k < xs.length) = true ∧ decide ((k : Int) < 60) = false) := by
        by_cases h : k < xs.length
        · exact .inr ⟨by simp; omega, by simp; omega⟩
        · exact .inl (by simp; omega)
      clear hlt
      have hh1 := free_lk2 hL.out (by omega) ((wrap64 (a1.tmod 8 + 8)).tmod 8)
      have hfl : (filt hs ((wrap64 (a1.tmod 8 + 8)).tmod 8)).length ≤ hs.length := List.length_filter_le _ _
      rcases hg with hg | ⟨hg, hg2⟩
      all_goals
        go_wp2_with fail
        refine hh1.mono ?_
        rintro e w3 ⟨rfl, hL3⟩
        dsimp only [freeL] at hL3
        go_wp2_with fail
        refine (held_lk2 hL3 (by omega)).mono ?_
        rintro e w4 ⟨x1, rfl, hr1, hL4, hb4⟩
        go_wp2_with fail
        refine (held_lk2 hL4.swap (by rw [← HP.out]; omega)).mono ?_
        rintro e w5 ⟨x2, rfl, hr2, hL5, hb5⟩
        go_wp2_with fail
        refine (same_any _ _ _ _ _ (RSlice_below hb5 hr1) hr2 (by simp; omega) (by rw [← HP.out]; simp; omega)).mono ?_
        rintro e w6 ⟨rfl, hb6⟩
        have hdec : decide ((filt hs ((wrap64 (a1.tmod 8 + 8)).tmod 8)).map (·.a) = (filt hs p).map (·.a)) = true := by rw [HP.out]; simp
        rw [hdec]
        have hb : Below w.heap.size w w6 := hL5.below.trans (hb6.mono hL5.below.size)
        have HB := Lib.hid hb
        clear hL3 hL4 hL5 hr1 hr2 hb4 hb5 hb6 hb hdec
        go_wp2_with fail
        refine (known_any _).mono ?_
        rintro e w7 ⟨rfl, hb7⟩
        have hb : Below w.heap.size w w7 := HB.out.trans (hb7.mono HB.out.size)
        have HB2 := Lib.hid hb
        clear hb hb7
        go_wp2
        go_ret
        exact ⟨rfl, HB2.out⟩
end Go.Proofs.Ytmlcififmjpcpaa
