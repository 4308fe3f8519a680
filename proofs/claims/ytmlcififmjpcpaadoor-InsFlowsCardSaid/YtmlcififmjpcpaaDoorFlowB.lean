/-
  Where code goes on, where it goes back: 'Next', 'Back'.
-/
import Derived.Test.YtmlcififmjpcpaaDoorFlowA
import Derived.Test.YtmlcififmjpcpaaDoorInsP
namespace Go.Proofs.YtmlcififmjpcpaaDoor
open Go.RowKit
set_option linter.unusedVariables false
set_option linter.unusedSimpArgs false

attribute [local go_sem] Oper.semAt_some

theorem own_mk {W : World} {base size n g cap : Nat} {e : TypeId} {cur : Array Value} {xs : List Value} (hb : Blk W g e cur) (hg : base ≤ g) (hn : n ≤ cap) (hm : cap ≤ maxLen) (hs : cur.size = cap * size) (hx : cur.toList.take (n * size) = xs) (hl : xs.length = n * size) :
    W.ownsRow base e size (.slice (some ⟨g, 0, none⟩) n cap) n xs := ⟨hl, .inr ⟨g, cap, cur, rfl, hg, hb, hn, hm, hs, hx⟩⟩

theorem ints_info : (Tryd.prog.info? 3).map (fun i => (i.zero, i.size, i.bytes)) = some (some (.int .i64 0), 1, 8) := by kernel_rfl

set_option maxRecDepth 100000 in
set_option maxHeartbeats 2000000 in
theorem next_any (W : World) (cv : Value) (code : List InsD) (at_ : Int) (hc : CodeIn W.heap.size W cv code) (hl : code.length ≤ 600) :
    Calls Tryd.prog 24 #[cv, .int .i64 at_] W fun e W' => (∃ v', e = .returned v' ∧ IntsIn W'.heap.size W' v' (nextL code at_)) ∧ Below W.heap.size W W' := by
  obtain ⟨ao, cap, rfl, hcap, _⟩ := SliceIn.form hc
  by_cases c0 : at_ < 0
  · have d0 : decide (at_ < 0) = true := decide_eq_true c0
    rw [nextL, if_pos c0]
    clear hc c0
    go_enter Tryd.func24, Tryd.ntmps24
    go_wp2
    go_ret
    exact ⟨⟨_, rfl, SliceIn.nil _ _ _⟩, Below.refl _ _⟩
  · have d0 : decide (at_ < 0) = false := decide_eq_false c0
    rw [nextL, if_neg c0]
    obtain ⟨k, rfl⟩ : ∃ k : Nat, at_ = k := ⟨at_.toNat, by omega⟩
    rw [Int.toNat_natCast]
    clear c0
    by_cases c1 : code.length ≤ k
    · have d1 : decide (code.length ≤ k) = true := decide_eq_true c1
      rw [List.getElem?_eq_none c1]
      clear hc c1
      go_enter Tryd.func24, Tryd.ntmps24
      go_wp2
      go_ret
      exact ⟨⟨_, rfl, SliceIn.nil _ _ _⟩, Below.refl _ _⟩
    · have d1 : decide (code.length ≤ k) = false := decide_eq_false c1
      have hk : k < code.length := by omega
      obtain ⟨⟨op, a⟩, hx⟩ : ∃ x, code[k]? = some x := ⟨_, List.getElem?_eq_getElem hk⟩
      rw [hx]
      dsimp only
      obtain ⟨b, _, hv1, _⟩ := SliceIn.some_ hc (by omega)
      cases hv1
      have hcell := fun w (h : Below W.heap.size W w) => code_at hc (Nat.le_refl _) h rfl hx
      have HC := Lib.hid hcell
      have k0 := (hcell W (Below.refl _ _)).1
      have k1 := (hcell W (Below.refl _ _)).2
      have hkn := known1_any W op
      clear hcell hc c1 hx
      cases hq : insKnown op
      · rw [hq] at hkn
        have HK := Lib.hid hkn
        clear hkn hq
        go_enter Tryd.func24, Tryd.ntmps24
        go_wp2_with (go_at_call 30; refine HK.out.mono ?_; rintro e w2 ⟨rfl, hb2⟩; have B2 := Lib.hid hb2; clear hb2)
        go_ret
        exact ⟨⟨_, rfl, SliceIn.nil _ _ _⟩, B2.out⟩
      · rw [hq] at hkn
        rw [if_pos rfl]
        obtain ⟨T, hT⟩ : ∃ T, T = goesOn op a (k : Int) := ⟨_, rfl⟩
        rw [← hT]
        have HK := Lib.hid hkn
        have HT := Lib.hid hT
        clear hkn hq hT
        go_enter Tryd.func24, Tryd.ntmps24
        go_wp2_with fail
        refine HK.out.mono ?_
        rintro e w2 ⟨rfl, hb2⟩
        have B2 := Lib.hid hb2
        have B3 := Lib.hid (hb2.alloc hb2.size (.cells #[.int .i64 ((k : Int) + 1)] 3))
        have m0 := (HC.out _ B3.out).1
        have m1 := (HC.out _ B3.out).2
        clear hb2
        have hi := info_of ints_info
        obtain ⟨i0, hi0, hz0, hz1, hz2⟩ := hi
        have hsz2 := B2.out.size
        by_cases hr : op = 33 ∨ op = 34 ∨ op = 35
        · have hT := HT.out
          rw [goesOn, if_pos hr] at hT
          subst hT
          clear HT
          rcases hr with rfl | rfl | rfl
          all_goals
            go_wp2
            go_ret
            exact ⟨⟨_, rfl, SliceIn.nil _ _ _⟩, (B3.out.alloc B3.out.size _)⟩
        · have n33 : (op == 33) = false := beq_eq_false_iff_ne.2 (fun h => hr (.inl h))
          have n34 : (op == 34) = false := beq_eq_false_iff_ne.2 (fun h => hr (.inr (.inl h)))
          have n35 : (op == 35) = false := beq_eq_false_iff_ne.2 (fun h => hr (.inr (.inr h)))
          have HR := Lib.hid hr
          clear hr
          by_cases h22 : op = 22
          · subst h22
            go_wp2_with fail
            refine (sort_row _ W.heap.size _ [a] (own_mk (((Blk.new w2 3 #[.int .i64 a])).alloc _) hsz2 (Nat.le_refl 1) (by simp [maxLen]) rfl rfl rfl) (by simp) (by have := B3.out.size; simp at this ⊢; omega)).mono ?_
            rintro e w4 ⟨rfl, ho4, hb4⟩
            have O4 := Lib.hid ho4
            have B4 := Lib.hid (((B2.out.alloc B2.out.size _).alloc (by have := B2.out.size; simp; omega) _).trans hb4)
            clear ho4 hb4
            obtain ⟨ao9, cap9, hv9⟩ := own_form O4.out
            go_wp2_with fail
            refine (compact_row _ W.heap.size _ _ (by rw [List.length_mergeSort]; exact O4.out) (by rw [List.length_mergeSort]; simp) B4.out.size).mono ?_
            rintro e w5 ⟨v5, rfl, ho5, hb5⟩
            have O5 := Lib.hid ho5
            have B5 := Lib.hid (B4.out.trans hb5)
            clear ho5 hb5
            go_wp2
            go_ret
            refine ⟨⟨_, rfl, ?_⟩, B5.out⟩
            have e := O5.out
            rw [show Lib.compact (List.mergeSort [a] fun x y => decide (x ≤ y)) = sortC [a] from rfl, sortC_one] at e
            have hT := HT.out
            rw [goesOn, if_neg HR.out, if_pos rfl] at hT
            subst hT
            exact SliceIn.of_own e
          · have n22 : (op == 22) = false := beq_eq_false_iff_ne.2 h22
            have H22 := Lib.hid h22
            clear h22
            by_cases hj : op = 23 ∨ op = 24
            · have hT := HT.out
              rw [goesOn, if_neg HR.out, if_neg H22.out, if_pos hj] at hT
              have HT2 := Lib.hid hT
              clear hT HT
              rcases hj with rfl | rfl
              all_goals
                go_wp2_with (at_builtin; go_loud (refine wpList_append_own_at _ rfl _ _ 44 rfl W.heap.size 3 i0 (.int .i64 0) 1 8 Tryd.underlying44 hi0 hz0 hz1 hz2 rfl (by decide) _ 1 _ rfl ((own_mk ((Blk.new w2 3 #[.int .i64 ((k : Int) + 1)]).alloc _) hsz2 (Nat.le_refl 1) (by simp [maxLen]) rfl rfl rfl : World.ownsRow _ W.heap.size 3 1 _ 1 (icell [(k : Int) + 1])).alloc _) ⟨_, 0, none⟩ 1 1 [.int .i64 a] rfl rfl (news_at' _ _ _ _ (by simp)) (by simp [Value.oneCell']) (by unfold maxLen; omega) (by omega) (by simp; omega) ?_); intro v' w3 hown' hgrow _ hat; have O3 := Lib.hid hown'; have hg3 := Lib.hid hgrow; clear hown' hgrow hat)
                obtain ⟨ao3, cap3, rfl⟩ := own_form O3.out
                have hb3 := below_append (base := W.heap.size) (W := W) (own_mk ((Blk.new w2 3 #[.int .i64 ((k : Int) + 1)]).alloc (.cells #[.int .i64 _, .int .i64 a] 55)) hsz2 (Nat.le_refl 1) (by simp [maxLen]) rfl rfl rfl : World.ownsRow _ W.heap.size 3 1 _ 1 (icell [(k : Int) + 1])) (B3.out.alloc B3.out.size _) (by simp; omega) hg3.out
                have HB3 := Lib.hid hb3
                clear hb3
                go_wp2_with fail
                refine (sort_row _ W.heap.size _ [(k : Int) + 1, a] O3.out (by simp) HB3.out.size).mono ?_
                rintro e w4 ⟨rfl, ho4, hb4⟩
                have O4 := Lib.hid ho4
                have B4 := Lib.hid (HB3.out.trans hb4)
                clear ho4 hb4
                go_wp2_with fail
                refine (compact_row _ W.heap.size _ _ (by rw [List.length_mergeSort]; exact O4.out) (by rw [List.length_mergeSort]; simp) B4.out.size).mono ?_
                rintro e w5 ⟨v5, rfl, ho5, hb5⟩
                have O5 := Lib.hid ho5
                have B5 := Lib.hid (B4.out.trans hb5)
                clear ho5 hb5
                go_wp2
                go_ret
                refine ⟨⟨_, rfl, ?_⟩, B5.out⟩
                have e := O5.out
                rw [show Lib.compact (List.mergeSort [(k : Int) + 1, a] fun x y => decide (x ≤ y)) = sortC [(k : Int) + 1, a] from rfl, sortC_two] at e
                have hT := HT2.out
                subst hT
                exact SliceIn.of_own e
            · have n23 : (op == 23) = false := beq_eq_false_iff_ne.2 (fun h => hj (.inl h))
              have n24 : (op == 24) = false := beq_eq_false_iff_ne.2 (fun h => hj (.inr h))
              have HJ := Lib.hid hj
              clear hj
              go_wp2_with fail
              refine (sort_row _ W.heap.size _ [(k : Int) + 1] (own_mk ((Blk.new w2 3 #[.int .i64 ((k : Int) + 1)]).alloc _) hsz2 (Nat.le_refl 1) (by simp [maxLen]) rfl rfl rfl) (by simp) (by have := B3.out.size; simp at this ⊢; omega)).mono ?_
              rintro e w4 ⟨rfl, ho4, hb4⟩
              have O4 := Lib.hid ho4
              have B4 := Lib.hid (((B2.out.alloc B2.out.size _).alloc (by have := B2.out.size; simp; omega) _).trans hb4)
              clear ho4 hb4
              obtain ⟨ao9, cap9, hv9⟩ := own_form O4.out
              go_wp2_with fail
              refine (compact_row _ W.heap.size _ _ (by rw [List.length_mergeSort]; exact O4.out) (by rw [List.length_mergeSort]; simp) B4.out.size).mono ?_
              rintro e w5 ⟨v5, rfl, ho5, hb5⟩
              have O5 := Lib.hid ho5
              have B5 := Lib.hid (B4.out.trans hb5)
              clear ho5 hb5
              go_wp2
              go_ret
              refine ⟨⟨_, rfl, ?_⟩, B5.out⟩
              have e := O5.out
              rw [show Lib.compact (List.mergeSort [(k : Int) + 1] fun x y => decide (x ≤ y)) = sortC [(k : Int) + 1] from rfl, sortC_one] at e
              have hT := HT.out
              rw [goesOn, if_neg HR.out, if_neg H22.out, if_neg HJ.out] at hT
              subst hT
              exact SliceIn.of_own e

theorem back_cases (code : List InsD) (at_ : Int) : (at_ < 0 ∧ backL code at_ = false) ∨ (∃ k : Nat, at_ = k ∧ code.length ≤ k ∧ backL code at_ = false) ∨
    ∃ (k : Nat) (op a : Int), at_ = k ∧ k < code.length ∧ code[k]? = some ⟨op, a⟩ ∧ backL code at_ = (decide (insKind op = 7) && decide (a ≤ at_)) := by
  by_cases c0 : at_ < 0
  · exact .inl ⟨c0, by rw [backL, if_pos c0]⟩
  · obtain ⟨k, rfl⟩ : ∃ k : Nat, at_ = k := ⟨at_.toNat, by omega⟩
    right
    by_cases c1 : code.length ≤ k
    · exact .inl ⟨k, rfl, c1, by rw [backL, if_neg c0, Int.toNat_natCast, List.getElem?_eq_none c1]⟩
    · obtain ⟨⟨op, a⟩, hx⟩ : ∃ x, code[k]? = some x := ⟨_, List.getElem?_eq_getElem (by omega)⟩
      exact .inr ⟨k, op, a, rfl, by omega, hx, by rw [backL, if_neg c0, Int.toNat_natCast, hx]⟩

set_option maxRecDepth 100000 in
set_option maxHeartbeats 2000000 in
theorem back_any (W : World) (cv : Value) (code : List InsD) (at_ : Int) (hF : FormsAt W) (hc : CodeIn W.heap.size W cv code) (hl : code.length ≤ 600) :
    Calls Tryd.prog 26 #[cv, .int .i64 at_] W fun e W' => e = .returned (.bool (backL code at_)) ∧ Below W.heap.size W W' := by
  obtain ⟨ao, cap, rfl, hcap, _⟩ := SliceIn.form hc
  obtain ⟨r, hr⟩ : ∃ r, r = backL code at_ := ⟨_, rfl⟩
  rw [← hr]
  rcases back_cases code at_ with ⟨c0, e⟩ | ⟨k, rfl, c1, e⟩ | ⟨k, op, a, rfl, hk, hx, e⟩
  · rw [e] at hr
    subst hr
    have d0 : decide (0 ≤ at_) = false := decide_eq_false (by omega)
    clear hc c0 e
    go_enter Tryd.func26, Tryd.ntmps26
    go_wp2
    go_ret
    exact ⟨rfl, Below.refl _ _⟩
  · rw [e] at hr
    subst hr
    have d0 : decide (k < code.length) = false := decide_eq_false (by omega)
    clear hc c1 e
    go_enter Tryd.func26, Tryd.ntmps26
    go_wp2
    go_ret
    exact ⟨rfl, Below.refl _ _⟩
  · rw [e] at hr
    obtain ⟨b, _, hv1, _⟩ := SliceIn.some_ hc (by omega)
    cases hv1
    have hcell := fun w (h : Below W.heap.size W w) => code_at hc (Nat.le_refl _) h rfl hx
    have HC := Lib.hid hcell
    have k0 := (hcell W (Below.refl _ _)).1
    have k1 := (hcell W (Below.refl _ _)).2
    have HK := Lib.hid (kind_any W op hF hF.pos)
    have d0 : decide (0 ≤ (k : Int)) = true := decide_eq_true (by omega)
    have d1 : decide (k < code.length) = true := decide_eq_true hk
    clear hcell hc hx e hF
    by_cases h7 : insKind op = 7
    · have h7b : (insKind op == 7) = true := by simp [h7]
      rw [decide_eq_true h7, Bool.true_and] at hr
      have HR := Lib.hid hr
      clear hr h7
      go_enter Tryd.func26, Tryd.ntmps26
      go_wp2_with fail
      refine HK.out.mono ?_
      rintro e w2 ⟨rfl, hb2⟩
      have m0 := (HC.out w2 hb2).1
      have m1 := (HC.out w2 hb2).2
      have B2 := Lib.hid hb2
      clear hb2
      go_wp2
      go_ret
      exact ⟨by rw [HR.out]; rfl, B2.out⟩
    · have h7b : (insKind op == 7) = false := beq_eq_false_iff_ne.2 h7
      rw [decide_eq_false h7, Bool.false_and] at hr
      subst hr
      clear h7
      go_enter Tryd.func26, Tryd.ntmps26
      go_wp2_with fail
      refine HK.out.mono ?_
      rintro e w2 ⟨rfl, hb2⟩
      have B2 := Lib.hid hb2
      clear hb2
      go_wp2
      go_ret
      exact ⟨rfl, B2.out⟩

set_option maxRecDepth 100000 in
set_option maxHeartbeats 2000000 in
theorem rback_any (W : World) (cv : Value) (code : List InsD) (at_ : Int) (hc : CodeIn W.heap.size W cv code) (hl : code.length ≤ 600) :
    Calls Tryd.prog 27 #[cv, .int .i64 at_] W fun e W' => e = .returned (.bool (backL code at_)) ∧ Below W.heap.size W W' := by
  obtain ⟨ao, cap, rfl, hcap, _⟩ := SliceIn.form hc
  obtain ⟨r, hr⟩ : ∃ r, r = backL code at_ := ⟨_, rfl⟩
  rw [← hr]
  rcases back_cases code at_ with ⟨c0, e⟩ | ⟨k, rfl, c1, e⟩ | ⟨k, op, a, rfl, hk, hx, e⟩
  · rw [e] at hr
    subst hr
    have d0 : decide (0 ≤ at_) = false := decide_eq_false (by omega)
    clear hc c0 e
    go_enter Tryd.func27, Tryd.ntmps27
    go_wp2
    go_ret
    exact ⟨rfl, Below.refl _ _⟩
  · rw [e] at hr
    subst hr
    have d0 : decide (k < code.length) = false := decide_eq_false (by omega)
    clear hc c1 e
    go_enter Tryd.func27, Tryd.ntmps27
    go_wp2
    go_ret
    exact ⟨rfl, Below.refl _ _⟩
  · rw [e] at hr
    obtain ⟨b, _, hv1, _⟩ := SliceIn.some_ hc (by omega)
    cases hv1
    have hcell := fun w (h : Below W.heap.size W w) => code_at hc (Nat.le_refl _) h rfl hx
    have HC := Lib.hid hcell
    have k0 := (hcell W (Below.refl _ _)).1
    have k1 := (hcell W (Below.refl _ _)).2
    have HK := Lib.hid (refKind_any W op)
    have d0 : decide (0 ≤ (k : Int)) = true := decide_eq_true (by omega)
    have d1 : decide (k < code.length) = true := decide_eq_true hk
    clear hcell hc hx e
    by_cases h7 : insKind op = 7
    · have h7b : (insKind op == 7) = true := by simp [h7]
      rw [decide_eq_true h7, Bool.true_and] at hr
      have HR := Lib.hid hr
      clear hr h7
      go_enter Tryd.func27, Tryd.ntmps27
      go_wp2_with fail
      refine HK.out.mono ?_
      rintro e w2 ⟨rfl, hb2⟩
      have m0 := (HC.out w2 hb2).1
      have m1 := (HC.out w2 hb2).2
      have B2 := Lib.hid hb2
      clear hb2
      go_wp2
      go_ret
      exact ⟨by rw [HR.out]; rfl, B2.out⟩
    · have h7b : (insKind op == 7) = false := beq_eq_false_iff_ne.2 h7
      rw [decide_eq_false h7, Bool.false_and] at hr
      subst hr
      clear h7
      go_enter Tryd.func27, Tryd.ntmps27
      go_wp2_with fail
      refine HK.out.mono ?_
      rintro e w2 ⟨rfl, hb2⟩
      have B2 := Lib.hid hb2
      clear hb2
      go_wp2
      go_ret
      exact ⟨rfl, B2.out⟩

theorem empty_name (op : Int) : ((insName op).toList == ([] : List UInt8)) = !insKnown op := by
  rcases insKnown_cases op with ⟨k, rfl, hk, hb⟩ | ⟨hn, hb⟩
  · rw [hb, insName, if_pos ⟨by omega, by omega⟩, Lib.toList_data]
    have h : ∀ k : Fin 46, ((insNms.getD k.val []) == ([] : List UInt8)) = false := by decide
    have := h ⟨k, hk⟩
    simpa using this
  · rw [hb, insName, if_neg hn, Lib.toList_data]
    rfl

set_option maxRecDepth 100000 in
set_option maxHeartbeats 2000000 in
theorem rnext_any (W : World) (cv : Value) (code : List InsD) (at_ : Int) (hc : CodeIn W.heap.size W cv code) (hl : code.length ≤ 600) :
    Calls Tryd.prog 25 #[cv, .int .i64 at_] W fun e W' => (∃ v', e = .returned v' ∧ IntsIn W'.heap.size W' v' (nextL code at_)) ∧ Below W.heap.size W W' := by
  obtain ⟨ao, cap, rfl, hcap, _⟩ := SliceIn.form hc
  by_cases c0 : at_ < 0
  · have d0 : decide (at_ < 0) = true := decide_eq_true c0
    rw [nextL, if_pos c0]
    clear hc c0
    go_enter Tryd.func25, Tryd.ntmps25
    go_wp2
    go_ret
    exact ⟨⟨_, rfl, SliceIn.nil _ _ _⟩, Below.refl _ _⟩
  · have d0 : decide (at_ < 0) = false := decide_eq_false c0
    rw [nextL, if_neg c0]
    obtain ⟨k, rfl⟩ : ∃ k : Nat, at_ = k := ⟨at_.toNat, by omega⟩
    rw [Int.toNat_natCast]
    clear c0
    by_cases c1 : code.length ≤ k
    · have d1 : decide (code.length ≤ k) = true := decide_eq_true c1
      rw [List.getElem?_eq_none c1]
      clear hc c1
      go_enter Tryd.func25, Tryd.ntmps25
      go_wp2
      go_ret
      exact ⟨⟨_, rfl, SliceIn.nil _ _ _⟩, Below.refl _ _⟩
    · have d1 : decide (code.length ≤ k) = false := decide_eq_false c1
      have hk : k < code.length := by omega
      obtain ⟨⟨op, a⟩, hx⟩ : ∃ x, code[k]? = some x := ⟨_, List.getElem?_eq_getElem hk⟩
      rw [hx]
      dsimp only
      obtain ⟨b, _, hv1, _⟩ := SliceIn.some_ hc (by omega)
      cases hv1
      have hcell := fun w (h : Below W.heap.size W w) => code_at hc (Nat.le_refl _) h rfl hx
      have HC := Lib.hid hcell
      have k0 := (hcell W (Below.refl _ _)).1
      have k1 := (hcell W (Below.refl _ _)).2
      have HK := Lib.hid (refName_any W op)
      have hemp := empty_name op
      clear hcell hc c1 hx
      generalize insName op = nm at hemp HK
      cases hq : insKnown op
      · rw [hq] at hemp
        have hemp2 : nm.toList.isEmpty = true := by simpa using hemp
        have hemp3 : (nm.toList == []) = true := by simpa using hemp
        clear hq hemp
        go_enter Tryd.func25, Tryd.ntmps25
        go_wp2_with (go_at_call 10; refine HK.out.mono ?_; rintro e w2 ⟨rfl, hb2⟩; have B2 := Lib.hid hb2; clear hb2)
        go_ret
        exact ⟨⟨_, rfl, SliceIn.nil _ _ _⟩, B2.out⟩
      · rw [hq] at hemp
        rw [if_pos rfl]
        have hemp2 : nm.toList.isEmpty = false := by simpa using hemp
        have hemp3 : (nm.toList == []) = false := by simpa using hemp
        obtain ⟨T, hT⟩ : ∃ T, T = goesOn op a (k : Int) := ⟨_, rfl⟩
        rw [← hT]
        have HT := Lib.hid hT
        clear hq hemp hT
        go_enter Tryd.func25, Tryd.ntmps25
        go_wp2_with fail
        refine HK.out.mono ?_
        rintro e w2 ⟨rfl, hb2⟩
        have m0 := (HC.out w2 hb2).1
        have m1 := (HC.out w2 hb2).2
        have hz2 := hb2.size
        have B2 := Lib.hid hb2
        clear hb2
        by_cases hr : op = 33 ∨ op = 34 ∨ op = 35
        · have hT := HT.out
          rw [goesOn, if_pos hr] at hT
          subst hT
          clear HT
          rcases hr with rfl | rfl | rfl
          all_goals
            go_wp2
            go_ret
            exact ⟨⟨_, rfl, SliceIn.nil _ _ _⟩, B2.out⟩
        · have n33 : (op == 33) = false := beq_eq_false_iff_ne.2 (fun h => hr (.inl h))
          have n34 : (op == 34) = false := beq_eq_false_iff_ne.2 (fun h => hr (.inr (.inl h)))
          have n35 : (op == 35) = false := beq_eq_false_iff_ne.2 (fun h => hr (.inr (.inr h)))
          have HR := Lib.hid hr
          clear hr
          by_cases h22 : op = 22
          · subst h22
            have hT := HT.out
            rw [goesOn, if_neg HR.out, if_pos rfl] at hT
            subst hT
            clear HT
            go_wp2
            go_ret
            refine ⟨⟨_, rfl, ?_⟩, B2.out.alloc B2.out.size _⟩
            exact SliceIn.of_own (own_mk (Blk.new w2 3 #[.int .i64 a]) (Nat.le_refl _) (Nat.le_refl 1) (by simp [maxLen]) rfl rfl rfl)
          · have n22 : (op == 22) = false := beq_eq_false_iff_ne.2 h22
            have H22 := Lib.hid h22
            clear h22
            by_cases hj : op = 23 ∨ op = 24
            · have hT := HT.out
              rw [goesOn, if_neg HR.out, if_neg H22.out, if_pos hj] at hT
              by_cases h1 : a < (k : Int) + 1
              · have e1 : decide (a < (k : Int) + 1) = true := decide_eq_true h1
                rw [if_pos h1] at hT
                subst hT
                clear HT h1
                rcases hj with rfl | rfl
                all_goals
                  go_wp2
                  go_ret
                  refine ⟨⟨_, rfl, ?_⟩, B2.out.alloc B2.out.size _⟩
                  exact SliceIn.of_own (own_mk (Blk.new w2 3 #[.int .i64 a, .int .i64 ((k : Int) + 1)]) (Nat.le_refl _) (Nat.le_refl 2) (by simp [maxLen]) rfl rfl rfl)
              · have e1 : decide (a < (k : Int) + 1) = false := decide_eq_false h1
                rw [if_neg h1] at hT
                by_cases h2 : (k : Int) + 1 < a
                · have e2 : decide ((k : Int) + 1 < a) = true := decide_eq_true h2
                  rw [if_pos h2] at hT
                  subst hT
                  clear HT h1 h2
                  rcases hj with rfl | rfl
                  all_goals
                    go_wp2
                    go_ret
                    refine ⟨⟨_, rfl, ?_⟩, B2.out.alloc B2.out.size _⟩
                    exact SliceIn.of_own (own_mk (Blk.new w2 3 #[.int .i64 ((k : Int) + 1), .int .i64 a]) (Nat.le_refl _) (Nat.le_refl 2) (by simp [maxLen]) rfl rfl rfl)
                · have e2 : decide ((k : Int) + 1 < a) = false := decide_eq_false h2
                  rw [if_neg h2] at hT
                  subst hT
                  clear HT h1 h2
                  rcases hj with rfl | rfl
                  all_goals
                    go_wp2
                    go_ret
                    refine ⟨⟨_, rfl, ?_⟩, B2.out.alloc B2.out.size _⟩
                    exact SliceIn.of_own (own_mk (Blk.new w2 3 #[.int .i64 ((k : Int) + 1)]) (Nat.le_refl _) (Nat.le_refl 1) (by simp [maxLen]) rfl rfl rfl)
            · have n23 : (op == 23) = false := beq_eq_false_iff_ne.2 (fun h => hj (.inl h))
              have n24 : (op == 24) = false := beq_eq_false_iff_ne.2 (fun h => hj (.inr h))
              have hT := HT.out
              rw [goesOn, if_neg HR.out, if_neg H22.out, if_neg hj] at hT
              subst hT
              clear HT hj
              go_wp2
              go_ret
              refine ⟨⟨_, rfl, ?_⟩, B2.out.alloc B2.out.size _⟩
              exact SliceIn.of_own (own_mk (Blk.new w2 3 #[.int .i64 ((k : Int) + 1)]) (Nat.le_refl _) (Nat.le_refl 1) (by simp [maxLen]) rfl rfl rfl)
end Go.Proofs.YtmlcififmjpcpaaDoor
