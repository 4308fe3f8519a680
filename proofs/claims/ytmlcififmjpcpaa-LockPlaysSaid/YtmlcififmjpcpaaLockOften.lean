/-
  The walk of LockOften.
-/
import Derived.Test.YtmlcififmjpcpaaLockActs
import Derived.Test.YtmlcififmjpcpaaLockPlain
import Derived.StillTailTactics
namespace Go.Proofs.Ytmlcififmjpcpaa
open Go.RowKit
set_option linter.unusedVariables false

/-- What a loop over one object keeps: the locks at block b hold hs, in blocks from n₀ on; what lay below n₀ lies as it lay. -/
def LK (w0 : World) (b : Nat) (hs : List Hold) (w : World) : Prop := ∃ S, LockObj w S b hs ∧ (∀ k, S k → w0.heap.size ≤ k) ∧ (∀ k, S k → k < w.heap.size) ∧ Below w0.heap.size w0 w
theorem LK.step {w0 w w' : World} {b : Nat} {hs' : List Hold} {S : Nat → Prop} (h1 : LockObj w' (grow S w w') b hs') (h2 : Touch S w w') (g1 : ∀ k, S k → w0.heap.size ≤ k) (g2 : ∀ k, S k → k < w.heap.size) (hb : Below w0.heap.size w0 w) : LK w0 b hs' w' :=
  ⟨_, h1, grow_ge g1 hb.size, grow_lt g2 h2.size, hb.trans (h2.below hb.size g1)⟩
theorem LK.quiet {w0 w w' : World} {b : Nat} {hs : List Hold} (h : LK w0 b hs w) (hq : Below w.heap.size w w') : LK w0 b hs w' := by
  obtain ⟨S, h1, h2, h3, h4⟩ := h
  exact ⟨S, h1.below hq, h2, fun k hk => Nat.lt_of_lt_of_le (h3 k hk) hq.size, h4.trans (hq.mono h4.size)⟩
theorem LK.drew {w0 w : World} {b : Nat} {hs : List Hold} (h : LK w0 b hs w) : LK w0 b hs w.drew := h.quiet ((Below.refl _ w).drew)

theorem enter_lk {w0 w : World} {b : Nat} {hs : List Hold} (h : LK w0 b hs w) (hl : hs.length ≤ 1000000) (a who : Int) :
    Calls Try.prog 8 #[.pointer (some ⟨b, 0, none⟩), .int .i64 a, .int .i64 who] w fun e w' => e = .returned (.int .i64 (enterL hs a who).1) ∧ LK w0 b (enterL hs a who).2 w' := by
  obtain ⟨S, h1, h2, h3, h4⟩ := h
  exact (enter_any w S b hs a who h1 hl).mono fun e w' ⟨he, ho, ht⟩ => ⟨he, LK.step ho ht h2 h3 h4⟩
theorem exit_lk {w0 w : World} {b : Nat} {hs : List Hold} (h : LK w0 b hs w) (hl : hs.length ≤ 1000000) (a who : Int) :
    Calls Try.prog 9 #[.pointer (some ⟨b, 0, none⟩), .int .i64 a, .int .i64 who] w fun e w' => e = .returned (.int .i64 (exitL hs a who).1) ∧ LK w0 b (exitL hs a who).2 w' := by
  obtain ⟨S, h1, h2, h3, h4⟩ := h
  exact (exit_any w S b hs a who h1 hl).mono fun e w' ⟨he, ho, ht⟩ => ⟨he, LK.step ho ht h2 h3 h4⟩
theorem new_lk {w0 w : World} (hb : Below w0.heap.size w0 w) : Calls Try.prog 7 #[] w fun e w' => ∃ b, e = .returned (.pointer (some ⟨b, 0, none⟩)) ∧ LK w0 b [] w' :=
  (new_any w).mono fun e w' ⟨he, ho, ht⟩ => ⟨_, he, _, ho, grow_ge (fun _ hk => hk.elim) hb.size, grow_lt (fun _ hk => hk.elim) ht.size, hb.trans (ht.mono hb.size)⟩
theorem known_lk {w0 w : World} {b : Nat} {hs : List Hold} (h : LK w0 b hs w) : Calls Try.prog 10 #[] w fun e w' => e = .returned (.bool true) ∧ LK w0 b hs w' :=
  (known_any w).mono fun e w' ⟨he, ho⟩ => ⟨he, h.quiet ho⟩

set_option maxRecDepth 100000 in
set_option maxHeartbeats 4000000 in
theorem lockOften_walk (v0 : Value) (xs : List ActD) (a1 a2 a3 a4 : Int) (w : World) (h0 : RSlice KAct 4 w v0 xs ∧ (xs.length * 48 ≤ 140737488351232 ∧ ∀ x ∈ xs, goodAct x)) (_w1 : (Lit.int .i64 a1).wf = true) (_w2 : (Lit.int .i64 a2).wf = true) (_w3 : (Lit.int .i64 a3).wf = true) (w4 : (Lit.int .i64 a4).wf = true) :
    Calls Try.prog 3 #[v0, .int .i64 a1, .int .i64 a2, .int .i64 a3, .int .i64 a4] w fun e w' => e = .returned (.bool true) ∧ Below w.heap.size w w' := by
  obtain ⟨h0, hlen, _⟩ := h0
  obtain ⟨A0, c0, rfl⟩ := acts_slice h0
  clear _w1 _w2 _w3
  have hl63 : xs.length ≤ 9223372036854775807 := by omega
  have H0 := Lib.hid h0
  clear h0 hlen
  go_enter Try.func3, Try.ntmps3
  go_wp2_with fail
  refine (new_lk (Below.refl _ w)).mono ?_
  rintro e w1 ⟨b, rfl, hLK⟩
  go_wp2_with fail
  go_loopw [12] (fun i wr => ∃ k : Nat, ∃ hs : List Hold, k ≤ xs.length ∧ k ≤ 40 ∧ i = .int .i64 k ∧ Hid (LK w b hs wr) ∧ Hid (Clear hs a1) ∧ hs.length ≤ k)
    (fun i _ => xs.length - (intOf i).toNat)
  case atStart => exact ⟨0, [], by omega, by omega, rfl, hLK, fun _ h => by simp at h, by simp⟩
  case round =>
    clear hLK
    obtain ⟨k, hs, hk, hk4, rfl, hL, hC, hhl⟩ := hrel
    by_cases hlt : k < xs.length ∧ k < 40
    · obtain ⟨hlt, hlt4⟩ := hlt
      obtain ⟨⟨kind, a, who, now⟩, hx⟩ : ∃ x, xs[k]? = some x := ⟨_, List.getElem?_eq_getElem hlt⟩
      obtain ⟨_, _, _, _, hb⟩ := hL.out
      obtain ⟨A, cap, nv, he, hc0, hc1, hc2, _, _⟩ := act_at hb H0.out hlt hx
      obtain ⟨rfl, -, rfl⟩ := Value.slice.inj he
      clear he hx hb
      by_cases ha : a = a1
      · have hab : (a != a1) = false := by simp [ha]
        have HA := Lib.hid ha
        clear ha
        go_wp2
        go_roundw
        case rel => exact ⟨k + 1, hs, by omega, by omega, by go_num, hL, hC, by omega⟩
        case measure => simp [intOf]; omega
      · have hab : (a != a1) = true := by simp [ha]
        have HA := Lib.hid ha
        clear ha
        by_cases h5 : kind < 5
        · by_cases h3 : kind < 3
          · go_wp2
            go_still_tail 11, (by kernel_rfl)
            go_wp2_with fail
            refine (enter_lk hL.out.drew (by omega) a who).mono ?_
            rintro e w2 ⟨rfl, hL2⟩
            have hC2 := enter_clear (who := who) hC.out HA.out
            have hl2 := hC2.2
            have hC2' := Lib.hid hC2.1
            have hL2' := Lib.hid hL2
            clear hC2 hL2
            go_wp2
            go_roundw
            case rel => exact ⟨k + 1, _, by omega, by omega, by go_num, hL2', hC2', by omega⟩
            case measure => simp [intOf]; omega
          · go_wp2
            go_still_tail 11, (by kernel_rfl)
            go_wp2_with fail
            refine (exit_lk hL.out.drew (by omega) a who).mono ?_
            rintro e w2 ⟨rfl, hL2⟩
            have hC2 := exit_clear (p := a) (who := who) hC.out
            have hl2 := hC2.2
            have hC2' := Lib.hid hC2.1
            have hL2' := Lib.hid hL2
            clear hC2 hL2
            go_wp2
            go_roundw
            case rel => exact ⟨k + 1, _, by omega, by omega, by go_num, hL2', hC2', by omega⟩
            case measure => simp [intOf]; omega
        · go_wp2
          go_roundw
          case rel => exact ⟨k + 1, hs, by omega, by omega, by go_num, hL, hC, by omega⟩
          case measure => simp [intOf]; omega
    · have hg : decide (k < xs.length) = false ∨ (decide (k < xs.length) = true ∧ decide ((k : Int) < 40) = false) := by
        by_cases h : k < xs.length
        · exact .inr ⟨by simp; omega, by simp; omega⟩
        · exact .inl (by simp; omega)
      have hL' := hL.out
      have hCl := hC.out
      have hC' := Lib.hid hCl
      clear hCl
      clear hlt hC
      by_cases h1 : a1 < 1
      · have hEL : enterL hs a1 a2 = (2, hs) := enter_low h1
        have hh := enter_lk hL' (by omega) a1 a2
        rw [hEL] at hh
        clear hL' hEL
        have h1b : decide (a1 < 1) = true := by simp; omega
        rcases hg with hg | ⟨hg, hg2⟩
        all_goals
          go_wp2_with (go_at_call 8; refine hh.mono ?_; rintro e w2 ⟨rfl, hL2⟩; have hL2' := Lib.hid hL2; clear hL2)
          go_ret
          obtain ⟨_, _, _, _, hb⟩ := hL2'.out
          exact ⟨rfl, hb⟩
      · have h1b : decide (a1 < 1) = false := by simp; omega
        by_cases h2 : a2 = a3
        · have h2b : (a2 == a3) = true := by simp [h2]
          have hne := enter_not2 (hs := hs) (who := a2) (show 1 ≤ a1 by omega)
          have hneb : ((enterL hs a1 a2).1 == 2) = false := beq_eq_false_iff_ne.2 hne
          have h1c : decide (1 ≤ a1) = true := by simp; omega
          have hh := enter_lk hL' (by omega) a1 a2
          clear hL' hne h2
          rcases hg with hg | ⟨hg, hg2⟩
          all_goals
            go_wp2_with (first | (go_at_call 8; refine hh.mono ?_; rintro e w2 ⟨rfl, hL2⟩; have hL2' := Lib.hid hL2; clear hL2) | (go_at_call 10; refine (known_lk hL2'.out).mono ?_; rintro e w3 ⟨rfl, hL3⟩; have hL3' := Lib.hid hL3; clear hL3))
            go_ret
            obtain ⟨_, _, _, _, hb⟩ := hL3'.out
            exact ⟨rfl, hb⟩
        · have h2b : (a2 == a3) = false := beq_eq_false_iff_ne.2 h2
          have h1c : 1 ≤ a1 := by omega
          have hne : a2 ≠ a3 := h2
          have HN := Lib.hid hne
          obtain ⟨q, hq, hq1, hq5⟩ : ∃ q : Nat, wrap64 (1 + (wrap64 (a4.tmod 5 + 5)).tmod 5) = (q : Int) ∧ 1 ≤ q ∧ q ≤ 5 := pick5 a4
          have hL0 : Hid (LK w b (st hs a1 a2 0) wr) := hL'
          clear hL' h2 hne h1 hL w4
          have HQ := Lib.hid hq
          clear hq
          rcases hg with hg | ⟨hg, hg2⟩
          all_goals
            go_wp2_with fail
            rw [HQ.out]
            clear HQ
            obtain ⟨wo, rfl⟩ : ∃ w', w' = wr := ⟨_, rfl⟩
            go_loopw [14] (fun i w2 => ∃ j : Nat, j ≤ q ∧ i = .int .i64 j ∧ Hid (LK w b (st hs a1 a2 j) w2)) (fun i _ => q - (intOf i).toNat)
            case atStart => exact ⟨0, by omega, rfl, hL0⟩
            case round =>
              clear hL0
              obtain ⟨j, hj, rfl, hL⟩ := hrel
              by_cases hlt : j < q
              · have hsl := st_length hs a1 a2 j
                have hsl' := st_length hs a1 a2 (j + 1)
                have eE := enter_own (j := j) (who := a2) hC'.out h1c (by omega)
                have hh := enter_lk hL.out (by omega) a1 a2
                rw [eE] at hh
                have eO := enter_other (j := j + 1) (who := a2) hC'.out h1c HN.out (by omega)
                have eX := exit_other (j := j + 1) (who := a2) hC'.out HN.out (by omega)
                have HO := Lib.hid eO
                have HX := Lib.hid eX
                clear eE eO eX
                go_wp2_with fail
                refine hh.mono ?_
                rintro e w3 ⟨rfl, hL3⟩
                have hh2 := enter_lk hL3 (by omega) a1 a3
                rw [HO.out] at hh2
                clear hL3
                go_wp2_with fail
                refine hh2.mono ?_
                rintro e w4 ⟨rfl, hL4⟩
                have hh3 := exit_lk hL4 (by omega) a1 a3
                rw [HX.out] at hh3
                clear hL4
                go_wp2_with fail
                refine hh3.mono ?_
                rintro e w5 ⟨rfl, hL5⟩
                have hL5' := Lib.hid hL5
                clear hL5
                go_wp2
                go_roundw
                case rel => exact ⟨j + 1, by omega, by go_num, hL5'⟩
                case measure => simp [intOf]; omega
              · have hjb : decide (j < q) = false := by simp; omega
                have hjq : j = q := by omega
                have HJ := Lib.hid hjq
                have hL0 : Hid (LK w b (st hs a1 a2 (q - 0)) wr) := by rw [Nat.sub_zero, ← hjq]; exact hL
                clear hjq hlt hL hj
                go_wp2_with fail
                obtain ⟨wo2, rfl⟩ : ∃ w', w' = wr := ⟨_, rfl⟩
                go_loopw [15] (fun i w2 => ∃ t : Nat, t ≤ q ∧ i = .int .i64 t ∧ Hid (LK w b (st hs a1 a2 (q - t)) w2)) (fun i _ => q - (intOf i).toNat)
                case atStart => exact ⟨0, by omega, rfl, hL0⟩
                case round =>
                  clear hL0
                  obtain ⟨t, ht, rfl, hL⟩ := hrel
                  by_cases hlt : t < q
                  · have hsl := st_length hs a1 a2 (q - t)
                    have hsl' := st_length hs a1 a2 (q - (t + 1))
                    have eO := enter_other (j := q - t) (who := a2) hC'.out h1c HN.out (by omega)
                    have hh := enter_lk hL.out (by omega) a1 a3
                    rw [eO] at hh
                    have eX := exit_own (j := q - (t + 1)) (who := a2) hC'.out (by omega)
                    rw [show q - (t + 1) + 1 = q - t by omega] at eX
                    have HX := Lib.hid eX
                    clear eO eX
                    go_wp2_with fail
                    refine hh.mono ?_
                    rintro e w3 ⟨rfl, hL3⟩
                    have hh2 := exit_lk hL3 (by omega) a1 a2
                    rw [HX.out] at hh2
                    clear hL3
                    go_wp2_with fail
                    refine hh2.mono ?_
                    rintro e w4 ⟨rfl, hL4⟩
                    have hL4' := Lib.hid hL4
                    clear hL4
                    go_wp2
                    go_roundw
                    case rel => exact ⟨t + 1, by omega, by go_num, hL4'⟩
                    case measure => simp [intOf]; omega
                  · have htb : decide (t < q) = false := by simp; omega
                    have htq : q - t = 0 := by omega
                    have hL1 := hL.out
                    rw [htq] at hL1
                    clear htq hlt hL ht
                    have hL1 : LK w b hs wr := hL1
                    have eX := exit_none (who := a2) hC'.out
                    have eN := enter_none (who := a3) hC'.out h1c
                    have hh := exit_lk hL1 (by omega) a1 a2
                    rw [eX] at hh
                    have HE := Lib.hid eN
                    clear eX eN hL1
                    go_wp2_with fail
                    refine hh.mono ?_
                    rintro e w3 ⟨rfl, hL3⟩
                    have hh2 := enter_lk hL3 (by omega) a1 a3
                    rw [HE.out] at hh2
                    clear hL3
                    go_wp2_with fail
                    refine hh2.mono ?_
                    rintro e w4 ⟨rfl, hL4⟩
                    go_wp2_with fail
                    refine (known_lk hL4).mono ?_
                    rintro e w5 ⟨rfl, hL5⟩
                    have hL5' := Lib.hid hL5
                    clear hL5 hL4
                    go_wp2
                    go_ret
                    obtain ⟨_, _, _, _, hb⟩ := hL5'.out
                    exact ⟨rfl, hb⟩
end Go.Proofs.Ytmlcififmjpcpaa
