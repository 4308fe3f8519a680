/-
  Code back out of bytes: 'Get'.
-/
import Derived.Test.YtmlcififmjpcpaaDoorInsH
import Derived.Test.YtmlcififmjpcpaaDoorOwn
namespace Go.Proofs.YtmlcififmjpcpaaDoor
open Go.RowKit
set_option linter.unusedVariables false
set_option linter.unusedSimpArgs false

attribute [local go_sem] Oper.semAt_some

def codeFrom (bs : List UInt8) : Nat → Int → List InsD → List InsD × Int × Int
  | 0, at_, acc => (acc, at_, 0)
  | m + 1, at_, acc =>
    if (numL bs at_ 45 12).2.2 ≠ 0 then ([], 0, (numL bs at_ 45 12).2.2)
    else if insKind (numL bs at_ 45 12).1 = 0 then codeFrom bs m (numL bs at_ 45 12).2.1 (acc ++ [⟨(numL bs at_ 45 12).1, 0⟩])
    else if (numL bs (numL bs at_ 45 12).2.1 65535 12).2.2 ≠ 0 then ([], 0, (numL bs (numL bs at_ 45 12).2.1 65535 12).2.2)
    else codeFrom bs m (numL bs (numL bs at_ 45 12).2.1 65535 12).2.1 (acc ++ [⟨(numL bs at_ 45 12).1, (numL bs (numL bs at_ 45 12).2.1 65535 12).1⟩])
/-- What 'Get' answers. -/
def getCode (bs : List UInt8) (at_ : Int) : List InsD × Int × Int :=
  if (numL bs at_ 512 6).2.2 ≠ 0 then ([], 0, (numL bs at_ 512 6).2.2) else codeFrom bs (numL bs at_ 512 6).1.toNat (numL bs at_ 512 6).2.1 []

theorem numL_range (bs : List UInt8) (at_ high bad : Int) (hh : 0 ≤ high) : 0 ≤ (numL bs at_ high bad).1 ∧ (numL bs at_ high bad).1 ≤ high ∧ ((numL bs at_ high bad).2.2 ≠ 0 → (numL bs at_ high bad).1 = 0) := by
  unfold numL
  split
  · exact ⟨Int.le_refl _, hh, fun _ => rfl⟩
  · split
    · exact ⟨Int.le_refl _, hh, fun _ => rfl⟩
    · simp only
      refine ⟨by omega, by omega, fun h => absurd rfl h⟩

theorem ins_info : (Tryd.prog.info? 55).map (fun i => (i.zero, i.size, i.bytes)) = some (some (.agg #[.int .i64 0, .int .i64 0]), 2, 16) := by kernel_rfl
theorem icode_append (xs : List InsD) (x : InsD) : (xs ++ [x]).flatMap icells = xs.flatMap icells ++ [.int .i64 x.op, .int .i64 x.a] := by simp [icells]

set_option maxRecDepth 100000 in
set_option maxHeartbeats 4000000 in
theorem get_any (W : World) (v : Value) (bs : List UInt8) (at_ : Int) (n : Nat) (hn : n ≤ W.heap.size) (hF : FormsAt W) (hv : BytesIn n W v bs) (hl : bs.length ≤ 200000000000000) :
    Calls Tryd.prog 19 #[v, .int .i64 at_] W fun e W' => (∃ v', e = .returned (.tuple #[v', .int .i64 (getCode bs at_).2.1, .int .i64 (getCode bs at_).2.2]) ∧ CodeIn W'.heap.size W' v' (getCode bs at_).1) ∧ Below W.heap.size W W' := by
  have hz := hF.pos
  obtain ⟨ao, cap, rfl, hcap, hm, hao⟩ := SliceIn.form hv
  have hnum : ∀ (w2 : World) (at2 high bad : Int), bad ≠ 0 → Below W.heap.size W w2 → Calls Tryd.prog 37 #[.slice ao bs.length cap, .int .i64 at2, .int .i64 high, .int .i64 bad] w2 fun e W' => e = .returned (.tuple #[.int .i64 (numL bs at2 high bad).1, .int .i64 (numL bs at2 high bad).2.1, .int .i64 (numL bs at2 high bad).2.2]) ∧ Below w2.heap.size w2 W' :=
    fun w2 at2 high bad h hb => number_any w2 _ bs at2 high bad n (Nat.le_trans hn hb.size) (SliceIn.later hv hn hb) hl h
  have hkind : ∀ (w2 : World) (op : Int), Below W.heap.size W w2 → Calls Tryd.prog 7 #[.int .i64 op] w2 fun e W' => e = .returned (.int .i64 (insKind op)) ∧ Below w2.heap.size w2 W' := fun w2 op h => kind_any w2 op (hF.mono hz h) (Nat.lt_of_lt_of_le hz h.size)
  obtain ⟨⟨T, Ta, Tw⟩, hT⟩ : ∃ T, T = getCode bs at_ := ⟨_, rfl⟩
  rw [← hT]
  rw [getCode] at hT
  have hrg := numL_range bs at_ 512 6 (by decide)
  have h1 := hnum W at_ 512 6 (by decide) (Below.refl _ _)
  generalize numL bs at_ 512 6 = g at hT hrg h1
  obtain ⟨g1, g2, g3⟩ := g
  dsimp only at hT hrg h1 ⊢
  obtain ⟨N, rfl⟩ : ∃ N : Nat, g1 = N := ⟨g1.toNat, by omega⟩
  rw [Int.toNat_natCast] at hT
  have hN : N ≤ 512 := by omega
  have hN0 : g3 ≠ 0 → N = 0 := fun h => by have := hrg.2.2 h; omega
  have HN := Lib.hid hnum
  have HK := Lib.hid hkind
  have H1 := Lib.hid h1
  have HT := Lib.hid hT
  have HN0 := Lib.hid hN0
  clear hnum hkind h1 hT hrg hN0 hv hF hao
  go_enter Tryd.func19, Tryd.ntmps19
  go_wp2_with fail
  refine H1.out.mono ?_
  rintro e w1 ⟨rfl, hb1⟩
  have B1 := Lib.hid hb1
  clear hb1
  go_wp2
  go_loopw [1, 8, 9, 10] (fun s1 s8 s9 s10 wr => ∃ (i : Nat) (a2 w : Int) (acc : List InsD), s1 = .int .i64 a2 ∧ s8 = .int .i64 w ∧ s10 = .int .i64 (i : Int) ∧ i ≤ N ∧ Hid (acc.length = i) ∧ Hid (wr.ownsRow W.heap.size 55 2 s9 acc.length (acc.flatMap icells)) ∧ Hid (Below W.heap.size W wr) ∧ Hid (w = 0 → codeFrom bs (N - i) a2 acc = (T, Ta, Tw)) ∧ Hid (w ≠ 0 → (([], 0, w) : List InsD × Int × Int) = (T, Ta, Tw))) (fun _ _ _ s10 _ => N - (intOf s10).toNat)
  case atStart =>
    refine ⟨0, g2, g3, [], rfl, rfl, rfl, Nat.zero_le _, Lib.hid rfl, Lib.hid (own_nil _ _ _ _), B1, Lib.hid (fun h => ?_), Lib.hid (fun h => ?_)⟩
    · have := HT.out; rw [if_neg (by simp [h])] at this; exact this.symm
    · have := HT.out; rw [if_pos h] at this; exact this.symm
  case round =>
    obtain ⟨i, a2, w, acc, rfl, rfl, rfl, hi, hal, hown, hb, ht0, ht1⟩ := hrel
    by_cases hw : w = 0
    · by_cases hlt : i < N
      · have hal' := hal.out
        have e := ht0.out hw
        obtain ⟨m, hm1⟩ : ∃ m, N - i = m + 1 := ⟨N - (i + 1), by omega⟩
        have hm2 : N - (i + 1) = m := by omega
        rw [hm1, codeFrom] at e
        subst hw
        have hal2 := Lib.hid hal'
        have hal3 : acc.length ≤ 512 := by omega
        obtain ⟨i0, hi0, hz0, hz1, hz2⟩ := info_of ins_info
        have hba := hb.out.alloc hb.out.size (.cells #[.int .i64 0, .int .i64 0] 55)
        have hnew := Blk.new wr 55 #[.int .i64 0, .int .i64 0]
        have hcall := HN.out _ a2 45 12 (by decide) hba
        have hrg := numL_range bs a2 45 12 (by decide)
        generalize numL bs a2 45 12 = g at e hcall hrg
        obtain ⟨o, a3, w1⟩ := g
        dsimp only at e hcall hrg
        have HBA := Lib.hid hba
        have HNEW := Lib.hid hnew
        have HC := Lib.hid hcall
        have HE := Lib.hid e
        have hm2' := Lib.hid hm2
        clear hba hnew hcall e ht0 ht1 HT hal' hm1 hm2
        go_wp2_with fail
        refine HC.out.mono ?_
        rintro ee w2 ⟨rfl, hb2⟩
        have hX2 := HNEW.out.below hb2 (by simp)
        have hown2 := own_below (own_below hown.out ((Below.refl wr.heap.size wr).alloc (Nat.le_refl _) (.cells #[.int .i64 0, .int .i64 0] 55))) hb2
        have hne2 : some wr.heap.size ≠ u9.ownBlock := own_new hown.out (Nat.le_refl _)
        have hB2 := HBA.out.trans (hb2.mono HBA.out.size)
        have hW2 : W.heap.size ≤ wr.heap.size := hb.out.size
        have hc0 := hX2.cell 0
        have hf0 := hX2.frozen 0
        have hXs := hX2.set 0 (.int .i64 o)
        have hcs0 := hXs.cell 0
        have hcs1 := hXs.cell 1
        have hOs := own_set hown2 hne2 0 (.int .i64 o)
        have hBs := hB2.setCell (p := ⟨wr.heap.size, 0, none⟩) hW2 (.int .i64 o)
        simp only [List.setIfInBounds_toArray, List.set_cons_zero, List.getElem?_toArray, List.getElem?_cons_succ, List.getElem?_cons_zero] at hc0 hcs0 hcs1
        have HX := Lib.hid hXs
        have HO := Lib.hid hOs
        have HB := Lib.hid hBs
        clear hX2 hown2 hB2 hb2 hXs hOs hBs HC
        by_cases hw1 : w1 = 0
        · rw [if_neg (by simp [hw1])] at HE
          have hv1 : (w1 == 0) = true := by simp [hw1]
          subst hw1
          go_wp2_with fail
          refine (HK.out _ o HB.out).mono ?_
          rintro ee w3 ⟨rfl, hb3⟩
          have hX3 := HX.out.below hb3 HX.out.lt
          have HO3 := Lib.hid (own_below HO.out hb3)
          have HB3 := Lib.hid (HB.out.trans (hb3.mono HB.out.size))
          have hd0 := hX3.cell 0
          have hd1 := hX3.cell 1
          simp only [List.setIfInBounds_toArray, List.set_cons_zero, List.getElem?_toArray, List.getElem?_cons_succ, List.getElem?_cons_zero] at hd0 hd1
          have HX3 := Lib.hid hX3
          clear hX3 hb3 hcs0 hcs1 hc0 hf0
          by_cases hk : insKind o = 0
          · rw [if_pos hk] at HE
            have hk1 : (insKind o != 0) = false := by simp [hk]
            have hk2 : (insKind o == 0) = true := by simp [hk]
            clear hk
            go_wp2_with (at_builtin; go_loud (refine wpList_append_own_at _ rfl _ _ 27 rfl W.heap.size 55 i0 (.agg #[.int .i64 0, .int .i64 0]) 2 16 Tryd.underlying27 hi0 hz0 hz1 hz2 rfl (by decide) u9 acc.length _ rfl (HO3.out.alloc _) ⟨_, 0, none⟩ 1 1 [.int .i64 o, .int .i64 0] rfl rfl (news_at' _ _ _ _ (by simp [World.setCell])) (by simp [Value.oneCell']) (by unfold maxLen; omega) (by omega) (by have := HB3.out.size; simp [World.setCell] at this ⊢; omega) ?_); intro v' w9 hown' hgrow _ hat; have HO9 := Lib.hid hown'; have HB9 := Lib.hid (below_append HO3.out HB3.out HB3.out.size hgrow); clear hown' hgrow hat)
            go_roundw
            case rel =>
              refine ⟨i + 1, a3, 0, acc ++ [⟨o, 0⟩], rfl, rfl, by simp, by omega, Lib.hid (by rw [List.length_append, List.length_singleton, hal.out]), Lib.hid (by rw [icode_append, List.length_append]; exact HO9.out), HB9, Lib.hid (fun h => ?_), Lib.hid (fun h => ?_)⟩
              · rw [hm2'.out]; exact HE.out
              · exact absurd rfl h
            case measure => simp [intOf]; omega
          · rw [if_neg hk] at HE
            have hk2 : (insKind o == 0) = false := beq_eq_false_iff_ne.2 hk
            have hk1 : (insKind o != 0) = true := by simp [bne, hk2]
            clear hk
            have hcall := HN.out _ a3 65535 12 (by decide) HB3.out
            have hE := HE.out
            have hrg2 := numL_range bs a3 65535 12 (by decide)
            generalize numL bs a3 65535 12 = g at hE hcall hrg2
            obtain ⟨a, a4, w5⟩ := g
            dsimp only at hE hcall hrg2
            have HE2 := Lib.hid hE
            have HC := Lib.hid hcall
            clear hE hcall HE
            go_wp2_with fail
            refine HC.out.mono ?_
            rintro ee w4 ⟨rfl, hb4⟩
            have hX4 := HX3.out.below hb4 HX3.out.lt
            have hown4 := own_below HO3.out hb4
            have hB4 := HB3.out.trans (hb4.mono HB3.out.size)
            have he1 := hX4.cell 1
            have hfe := hX4.frozen 1
            have hX5 := hX4.set 1 (.int .i64 a)
            have he0 := hX5.cell 0
            have hO5 := own_set hown4 hne2 1 (.int .i64 a)
            have hB5 := hB4.setCell (p := ⟨wr.heap.size, 1, none⟩) hW2 (.int .i64 a)
            simp only [List.setIfInBounds_toArray, List.set_cons_zero, List.set_cons_succ, List.getElem?_toArray, List.getElem?_cons_succ, List.getElem?_cons_zero] at he1 he0
            have HO5 := Lib.hid hO5
            have HB5 := Lib.hid hB5
            clear hX4 hown4 hB4 hX5 hO5 hB5 hb4 hd0 hd1 HC
            by_cases hw5 : w5 = 0
            · rw [if_neg (by simp [hw5])] at HE2
              subst hw5
              go_wp2_with (at_builtin; go_loud (refine wpList_append_own_at _ rfl _ _ 27 rfl W.heap.size 55 i0 (.agg #[.int .i64 0, .int .i64 0]) 2 16 Tryd.underlying27 hi0 hz0 hz1 hz2 rfl (by decide) u9 acc.length _ rfl (HO5.out.alloc _) ⟨_, 0, none⟩ 1 1 [.int .i64 o, .int .i64 a] rfl rfl (news_at' _ _ _ _ (by simp [World.setCell])) (by simp [Value.oneCell']) (by unfold maxLen; omega) (by omega) (by have := HB5.out.size; simp [World.setCell] at this ⊢; omega) ?_); intro v' w9 hown' hgrow _ hat; have HO9 := Lib.hid hown'; have HB9 := Lib.hid (below_append HO5.out HB5.out HB5.out.size hgrow); clear hown' hgrow hat)
              go_roundw
              case rel =>
                refine ⟨i + 1, a4, 0, acc ++ [⟨o, a⟩], rfl, rfl, by simp, by omega, Lib.hid (by rw [List.length_append, List.length_singleton, hal.out]), Lib.hid (by rw [icode_append, List.length_append]; exact HO9.out), HB9, Lib.hid (fun h => ?_), Lib.hid (fun h => ?_)⟩
                · rw [hm2'.out]; exact HE2.out
                · exact absurd rfl h
              case measure => simp [intOf]; omega
            · rw [if_pos hw5] at HE2
              have hw5' := Lib.hid hw5
              clear hw5
              go_wp2_with (at_builtin; go_loud (refine wpList_append_own_at _ rfl _ _ 27 rfl W.heap.size 55 i0 (.agg #[.int .i64 0, .int .i64 0]) 2 16 Tryd.underlying27 hi0 hz0 hz1 hz2 rfl (by decide) u9 acc.length _ rfl (HO5.out.alloc _) ⟨_, 0, none⟩ 1 1 [.int .i64 o, .int .i64 a] rfl rfl (news_at' _ _ _ _ (by simp [World.setCell])) (by simp [Value.oneCell']) (by unfold maxLen; omega) (by omega) (by have := HB5.out.size; simp [World.setCell] at this ⊢; omega) ?_); intro v' w9 hown' hgrow _ hat; have HO9 := Lib.hid hown'; have HB9 := Lib.hid (below_append HO5.out HB5.out HB5.out.size hgrow); clear hown' hgrow hat)
              go_roundw
              case rel =>
                refine ⟨i + 1, a4, w5, acc ++ [⟨o, a⟩], rfl, rfl, by simp, by omega, Lib.hid (by rw [List.length_append, List.length_singleton, hal.out]), Lib.hid (by rw [icode_append, List.length_append]; exact HO9.out), HB9, Lib.hid (fun h => ?_), Lib.hid (fun h => ?_)⟩
                · exact absurd h hw5'.out
                · exact HE2.out
              case measure => simp [intOf]; omega
        · rw [if_pos hw1] at HE
          have hv1 : (w1 == 0) = false := beq_eq_false_iff_ne.2 hw1
          have hw1' := Lib.hid hw1
          clear hw1
          go_wp2_with (at_builtin; go_loud (refine wpList_append_own_at _ rfl _ _ 27 rfl W.heap.size 55 i0 (.agg #[.int .i64 0, .int .i64 0]) 2 16 Tryd.underlying27 hi0 hz0 hz1 hz2 rfl (by decide) u9 acc.length _ rfl (HO.out.alloc _) ⟨_, 0, none⟩ 1 1 [.int .i64 o, .int .i64 0] rfl rfl (news_at' _ _ _ _ (by simp [World.setCell])) (by simp [Value.oneCell']) (by unfold maxLen; omega) (by omega) (by have := HB.out.size; simp [World.setCell] at this ⊢; omega) ?_); intro v' w9 hown' hgrow _ hat; have HO9 := Lib.hid hown'; have HB9 := Lib.hid (below_append HO.out HB.out HB.out.size hgrow); clear hown' hgrow hat)
          go_roundw
          case rel =>
            refine ⟨i + 1, a3, w1, acc ++ [⟨o, 0⟩], rfl, rfl, by simp, by omega, Lib.hid (by rw [List.length_append, List.length_singleton, hal.out]), Lib.hid (by rw [icode_append, List.length_append]; exact HO9.out), HB9, Lib.hid (fun h => ?_), Lib.hid (fun h => ?_)⟩
            · exact absurd h hw1'.out
            · exact HE.out
          case measure => simp [intOf]; omega
      · obtain rfl : i = N := by omega
        have e := ht0.out hw
        rw [Nat.sub_self, codeFrom] at e
        cases e
        subst hw
        clear ht0 ht1 HT
        go_wp2
        go_ret3
        refine ⟨⟨_, rfl, ?_⟩, hb.out⟩
        exact SliceIn.of_own hown.out
    · have hw1 : (w == 0) = false := beq_eq_false_iff_ne.2 hw
      have hw2 : (w != 0) = true := by simp [bne, hw1]
      have e := ht1.out hw
      cases e
      clear ht0 ht1 HT hw
      by_cases hlt : i < N
      · go_wp2
        go_ret3
        exact ⟨⟨_, rfl, SliceIn.nil _ _ _⟩, hb.out⟩
      · go_wp2
        go_ret3
        exact ⟨⟨_, rfl, SliceIn.nil _ _ _⟩, hb.out⟩
end Go.Proofs.YtmlcififmjpcpaaDoor
