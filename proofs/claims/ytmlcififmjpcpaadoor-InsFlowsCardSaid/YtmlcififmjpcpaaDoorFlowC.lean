/-
  The constants that code uses; lists of whole numbers held against each other.
-/
import Derived.Test.YtmlcififmjpcpaaDoorFlowB
namespace Go.Proofs.YtmlcififmjpcpaaDoor
open Go.RowKit
set_option linter.unusedVariables false
set_option linter.unusedSimpArgs false

attribute [local go_sem] Oper.semAt_some

theorem int_at {n : Nat} {W : World} {v : Value} {xs : List Int} (h : IntsIn n W v xs) {b : Addr} {cap k : Nat} {x : Int} (hv : v = .slice (some b) xs.length cap) (hx : xs[k]? = some x) : W.cell? (b.add k) = some (.int .i64 x) := by
  have := SliceIn.at_ (k := k) (j := 0) h hv (u := .int .i64 x) (by simp [icell, hx])
  simpa using this

set_option maxRecDepth 100000 in
set_option maxHeartbeats 2000000 in
theorem ints_any (W : World) (v1 v2 : Value) (xs : List Int) (h1 : IntsIn W.heap.size W v1 xs) (h2 : IntsIn W.heap.size W v2 xs) (hl : xs.length ≤ 1000) :
    Calls Tryd.prog 23 #[v1, v2] W fun e W' => e = .returned (.bool true) ∧ Below W.heap.size W W' := by
  obtain ⟨ao, cap, rfl, hcap, _⟩ := SliceIn.form h1
  obtain ⟨ao2, cap2, rfl, hcap2, _⟩ := SliceIn.form h2
  have H1 := Lib.hid h1
  have H2 := Lib.hid h2
  have hW := Lib.hid (Below.refl W.heap.size W)
  clear h1 h2
  go_enter Tryd.func23, Tryd.ntmps23
  go_wp2
  go_loopw [5] (fun i wr => ∃ k : Nat, k ≤ xs.length ∧ i = .int .i64 k ∧ Hid (Below W.heap.size W wr)) (fun i _ => xs.length - (intOf i).toNat)
  case atStart => exact ⟨0, Nat.zero_le _, rfl, hW⟩
  case round =>
    obtain ⟨k, hk, rfl, hb'⟩ := hrel
    by_cases hlt : k < xs.length
    · obtain ⟨x, hx⟩ : ∃ x, xs[k]? = some x := ⟨_, List.getElem?_eq_getElem hlt⟩
      obtain ⟨b1, _, hv1, _⟩ := SliceIn.some_ H1.out (by omega)
      obtain ⟨b2, _, hv2, _⟩ := SliceIn.some_ H2.out (by omega)
      cases hv1
      cases hv2
      have c1 := int_at (SliceIn.later H1.out (Nat.le_refl _) hb'.out) rfl hx
      have c2 := int_at (SliceIn.later H2.out (Nat.le_refl _) hb'.out) rfl hx
      have hD := Lib.hid (fun j => pw_below_drewN hb'.out j)
      have e1 : (x != x) = false := by simp
      clear hx
      go_wp2
      go_quiet (fail)
      go_wp2
      go_roundw
      case rel => exact ⟨k + 1, by omega, by simp, Lib.hid (hD.out _)⟩
      case measure => simp [intOf]; omega
    · obtain rfl : k = xs.length := by omega
      go_wp2
      go_ret
      exact ⟨rfl, hb'.out⟩

theorem usedL_snoc (code : List InsD) (k : Nat) (x : InsD) (hx : code[k]? = some x) : usedL (code.take (k + 1)) = if usesB x then usedL (code.take k) ++ [x.a] else usedL (code.take k) := by
  rw [List.take_add_one, hx, usedL, Option.toList_some, List.filter_append, List.map_append]
  by_cases h : usesB x = true
  · simp [h, usedL]
  · simp [h, usedL]
theorem usedL_len (code : List InsD) (k : Nat) : (usedL (code.take k)).length ≤ k := by
  rw [usedL, List.length_map]
  exact Nat.le_trans (List.length_filter_le _ _) (List.length_take_le _ _)

set_option maxRecDepth 100000 in
set_option maxHeartbeats 2000000 in
theorem uses_any (W : World) (cv : Value) (code : List InsD) (hF : FormsAt W) (hc : CodeIn W.heap.size W cv code) (hl : code.length ≤ 600) :
    Calls Tryd.prog 28 #[cv] W fun e W' => (∃ v', e = .returned v' ∧ IntsIn W'.heap.size W' v' (putAll code)) ∧ Below W.heap.size W W' := by
  obtain ⟨ao, cap, rfl, hcap, _⟩ := SliceIn.form hc
  have hz := hF.pos
  have HC := Lib.hid hc
  have HF := Lib.hid hF
  have hW := Lib.hid (Below.refl W.heap.size W)
  obtain ⟨i0, hi0, hz0, hz1, hz2⟩ := info_of ints_info
  clear hc hF
  go_enter Tryd.func28, Tryd.ntmps28
  go_wp2
  go_loopw [3, 9] (fun s3 s9 wr => ∃ k : Nat, k ≤ code.length ∧ s9 = .int .i64 k ∧ Hid (wr.ownsRow W.heap.size 3 1 s3 (usedL (code.take k)).length (icell (usedL (code.take k)))) ∧ Hid (Below W.heap.size W wr)) (fun _ s9 _ => code.length - (intOf s9).toNat)
  case atStart => exact ⟨0, Nat.zero_le _, rfl, Lib.hid (own_nil _ _ _ _), hW⟩
  case round =>
    obtain ⟨k, hk, rfl, hown, hb⟩ := hrel
    by_cases hlt : k < code.length
    · obtain ⟨⟨op, a⟩, hx⟩ : ∃ x, code[k]? = some x := ⟨_, List.getElem?_eq_getElem hlt⟩
      obtain ⟨b, _, hv1, _⟩ := SliceIn.some_ HC.out (by omega)
      cases hv1
      have hcell := code_at HC.out (Nat.le_refl _) hb.out rfl hx
      have k0 := hcell.1
      have k1 := hcell.2
      have hsn := usedL_snoc code k _ hx
      have hln := usedL_len code k
      have hba := hb.out.alloc hb.out.size (.cells #[.int .i64 op, .int .i64 a] 55)
      have HK := Lib.hid (kind_any _ op (HF.out.mono hz hba) (Nat.lt_of_lt_of_le hz hba.size))
      have HX := Lib.hid (Blk.new wr 55 #[.int .i64 op, .int .i64 a])
      have HA := Lib.hid hba
      have HO := Lib.hid (own_below hown.out ((Below.refl wr.heap.size wr).alloc (Nat.le_refl _) (.cells #[.int .i64 op, .int .i64 a] 55)))
      have HSN := Lib.hid hsn
      clear hcell hx hsn hba
      go_wp2_with fail
      refine HK.out.mono ?_
      rintro e w2 ⟨rfl, hb2⟩
      have B2 := Lib.hid (HA.out.trans (hb2.mono HA.out.size))
      have O2 := Lib.hid (own_below HO.out hb2)
      have hX2 := HX.out.below hb2 HX.out.lt
      have m0 := hX2.cell 0
      have m1 := hX2.cell 1
      simp only [List.getElem?_toArray, List.getElem?_cons_succ, List.getElem?_cons_zero] at m0 m1
      clear hb2 hX2 HX HO HA k0 k1
      by_cases hu : 1 ≤ insKind op ∧ insKind op ≤ 5
      · have d0 : decide (1 ≤ insKind op) = true := decide_eq_true hu.1
        have d1 : decide (insKind op ≤ 5) = true := decide_eq_true hu.2
        have e := HSN.out
        rw [if_pos (by simp [usesB, hu.1, hu.2])] at e
        have HE := Lib.hid e
        clear hu HSN e
        generalize hL : (usedL (code.take k)).length = L at hln O2 hown
        go_wp2_with (at_builtin; go_loud (refine wpList_append_own_at _ rfl _ _ 44 rfl W.heap.size 3 i0 (.int .i64 0) 1 8 Tryd.underlying44 hi0 hz0 hz1 hz2 rfl (by decide) u3 L _ rfl (O2.out.alloc _) ⟨_, 0, none⟩ 1 1 [.int .i64 a] rfl rfl (news_at' _ _ _ _ (by simp)) (by simp [Value.oneCell']) (by unfold maxLen; omega) (by omega) (by have := B2.out.size; simp; omega) ?_); intro v' w9 hown' hgrow _ hat; have HO9 := Lib.hid hown'; have HB9 := Lib.hid (below_append O2.out B2.out B2.out.size hgrow); clear hown' hgrow hat)
        go_roundw
        case rel =>
          refine ⟨k + 1, by omega, by simp, Lib.hid ?_, HB9⟩
          rw [HE.out, List.length_append, hL, icell_append]
          exact HO9.out
        case measure => simp [intOf]; omega
      · have e := HSN.out
        rw [if_neg (by simp [usesB]; omega)] at e
        have HE := Lib.hid e
        by_cases h1 : 1 ≤ insKind op
        · have d0 : decide (1 ≤ insKind op) = true := decide_eq_true h1
          have d1 : decide (insKind op ≤ 5) = false := decide_eq_false (by omega)
          clear hu HSN e h1
          go_wp2
          go_roundw
          case rel =>
            refine ⟨k + 1, by omega, by simp, Lib.hid ?_, B2⟩
            rw [HE.out]
            exact O2.out
          case measure => simp [intOf]; omega
        · have d0 : decide (1 ≤ insKind op) = false := decide_eq_false h1
          clear hu HSN e h1
          go_wp2
          go_roundw
          case rel =>
            refine ⟨k + 1, by omega, by simp, Lib.hid ?_, B2⟩
            rw [HE.out]
            exact O2.out
          case measure => simp [intOf]; omega
    · obtain rfl : k = code.length := by omega
      have ho := hown.out
      rw [List.take_length] at ho
      have HO := Lib.hid ho
      have hul := usedL_len code code.length
      rw [List.take_length] at hul
      have hua := Lib.hid (uses_alike code)
      clear ho hown
      generalize usedL code = zs at HO hul hua
      go_wp2_with fail
      refine (sort_row wr W.heap.size u3 zs HO.out (by omega) hb.out.size).mono ?_
      rintro e w4 ⟨rfl, ho4, hb4⟩
      have O4 := Lib.hid ho4
      have B4 := Lib.hid (hb.out.trans hb4)
      clear ho4 hb4
      go_wp2_with fail
      refine (compact_row _ W.heap.size u3 _ (by rw [List.length_mergeSort]; exact O4.out) (by rw [List.length_mergeSort]; omega) B4.out.size).mono ?_
      rintro e w5 ⟨v5, rfl, ho5, hb5⟩
      have O5 := Lib.hid ho5
      have B5 := Lib.hid (B4.out.trans hb5)
      clear ho5 hb5
      go_wp2
      go_ret
      refine ⟨⟨_, rfl, ?_⟩, B5.out⟩
      have e := O5.out
      rw [show Lib.compact (List.mergeSort zs fun x y => decide (x ≤ y)) = sortC zs from rfl, hua.out] at e
      exact SliceIn.of_own e

theorem pfold_len (n : Int) : ∀ (l : List Int) (s : List Int × Bool), (l.foldl (pstep n) s).1.length + (if (l.foldl (pstep n) s).2 then 0 else 1) = s.1.length + (if s.2 then 0 else 1) + l.length
  | [], s => by rw [List.foldl_nil, List.length_nil, Nat.add_zero]
  | x :: r, s => by
    rw [List.foldl_cons, pfold_len n r, pstep, List.length_cons]
    obtain ⟨a, b⟩ := s
    cases b
    · by_cases h : n < x <;> simp [h] <;> omega
    · simp; omega
theorem putN_len (l : List Int) (n : Int) : (putN l n).length ≤ l.length + 1 := by
  rw [putN]
  split
  · omega
  · have h := pfold_len n l ([], false)
    generalize l.foldl (pstep n) ([], false) = s at h
    rw [pend]
    obtain ⟨a, b⟩ := s
    cases b <;> simp at h ⊢ <;> omega

set_option maxRecDepth 100000 in
set_option maxHeartbeats 4000000 in
theorem rputn_any (W : World) (v : Value) (l : List Int) (n : Int) (hv : IntsIn W.heap.size W v l) (hl : l.length ≤ 1000) :
    Calls Tryd.prog 41 #[v, .int .i64 n] W fun e W' => (∃ v', e = .returned v' ∧ IntsIn W'.heap.size W' v' (putN l n)) ∧ Below W.heap.size W W' := by
  obtain ⟨ao, cap, rfl, hcap, _⟩ := SliceIn.form hv
  have HV := Lib.hid hv
  have hW := Lib.hid (Below.refl W.heap.size W)
  obtain ⟨T, hT⟩ : ∃ T, T = putN l n := ⟨_, rfl⟩
  rw [← hT]
  have HT := Lib.hid hT
  obtain ⟨i0, hi0, hz0, hz1, hz2⟩ := info_of ints_info
  clear hv hT
  go_enter Tryd.func41, Tryd.ntmps41
  go_wp2
  go_loopw [5, 6, 7] (fun s5 s6 s7 wr => ∃ (k : Nat) (acc : List Int) (inn : Bool), k ≤ l.length ∧ s7 = .int .i64 k ∧ s6 = .bool inn ∧ acc.length ≤ k + 1 ∧ Hid (n ∉ l.take k ∧ (l.take k).foldl (pstep n) ([], false) = (acc, inn)) ∧ Hid (wr.ownsRow W.heap.size 3 1 s5 acc.length (icell acc)) ∧ Hid (Below W.heap.size W wr)) (fun _ _ s7 _ => l.length - (intOf s7).toNat)
  case atStart => exact ⟨0, [], false, Nat.zero_le _, rfl, rfl, by simp, Lib.hid (by simp), Lib.hid (own_nil _ _ _ _), hW⟩
  case round =>
    obtain ⟨k, acc, inn, hk, rfl, rfl, hal, hst, hown, hb⟩ := hrel
    by_cases hlt : k < l.length
    · obtain ⟨x, hx⟩ : ∃ x, l[k]? = some x := ⟨_, List.getElem?_eq_getElem hlt⟩
      obtain ⟨b, _, hv1, _⟩ := SliceIn.some_ HV.out (by omega)
      cases hv1
      have hcs := Lib.hid (fun w (h : Below W.heap.size W w) => int_at (SliceIn.later HV.out (Nat.le_refl _) h) rfl hx)
      have c1 := hcs.out wr hb.out
      by_cases he : x = n
      · have eb : (x == n) = true := by simp [he]
        have hT := HT.out
        rw [putN, if_pos (by rw [← he]; exact List.mem_of_getElem? hx)] at hT
        subst hT
        clear hx he HT
        go_wp2
        go_ret
        refine ⟨⟨_, rfl, ?_⟩, hb.out⟩
        exact (SliceIn.later HV.out (Nat.le_refl _) hb.out).up hb.out.size
      · have eb : (x == n) = false := beq_eq_false_iff_ne.2 he
        have htk : l.take (k + 1) = l.take k ++ [x] := by rw [List.take_add_one, hx]; rfl
        have hnm : n ∉ l.take (k + 1) := by
          rw [htk, List.mem_append, List.mem_singleton]
          rintro (h | h)
          · exact hst.out.1 h
          · exact he h.symm
        have hfo : (l.take (k + 1)).foldl (pstep n) ([], false) = pstep n (acc, inn) x := by rw [htk, List.foldl_append, hst.out.2]; rfl
        have HN := Lib.hid hnm
        have HFO := Lib.hid hfo
        have hfl := pfold_len n (l.take k) ([], false)
        rw [hst.out.2] at hfl
        rw [List.length_take_of_le (by omega)] at hfl
        generalize hL : acc.length = L at hal hown hfl
        clear hx he htk hnm hfo hst
        cases inn
        · have hL2 : L ≤ k := by simp at hfl; omega
          clear hfl
          by_cases hn : n < x
          · have d0 : decide (n < x) = true := decide_eq_true hn
            have e := HFO.out
            rw [pstep, if_pos ⟨rfl, hn⟩] at e
            have HE := Lib.hid e
            clear hn e HFO
            go_wp2_with (first | (at_builtin; refine wpList_append_own_at _ rfl _ _ 44 rfl W.heap.size 3 i0 (.int .i64 0) 1 8 Tryd.underlying44 hi0 hz0 hz1 hz2 rfl (by decide) u5 L _ rfl (hown.out.alloc _) ⟨_, 0, none⟩ 1 1 [.int .i64 n] rfl rfl (news_at' _ _ _ _ (by simp)) (by simp [Value.oneCell']) (by unfold maxLen; omega) (by omega) (by have := hb.out.size; simp; omega) ?_; intro v' w9 hown' hgrow _ hat; have HO9 := Lib.hid hown'; have HB9 := Lib.hid (below_append hown.out hb.out hb.out.size hgrow); clear hown' hgrow hat hown hb c1; have c2 := hcs.out w9 HB9.out) | (at_builtin; refine wpList_append_own_at _ rfl _ _ 44 rfl W.heap.size 3 i0 (.int .i64 0) 1 8 Tryd.underlying44 hi0 hz0 hz1 hz2 rfl (by decide) v' (L + 1) _ rfl (HO9.out.alloc _) ⟨_, 0, none⟩ 1 1 [.int .i64 x] rfl rfl (news_at' _ _ _ _ (by simp)) (by simp [Value.oneCell']) (by unfold maxLen; omega) (by omega) (by have := HB9.out.size; simp; omega) ?_; intro v2 w10 hown' hgrow _ hat; have HO10 := Lib.hid hown'; have HB10 := Lib.hid (below_append HO9.out HB9.out HB9.out.size hgrow); clear hown' hgrow hat))
            go_roundw
            case rel =>
              refine ⟨k + 1, acc ++ [n] ++ [x], true, by omega, by simp, rfl, by simp [hL]; omega, Lib.hid ⟨HN.out, HE.out⟩, Lib.hid ?_, HB10⟩
              rw [List.length_append, List.length_append, hL, icell_append, icell_append]
              exact HO10.out
            case measure => simp [intOf]; omega
          · have d0 : decide (n < x) = false := decide_eq_false hn
            have e := HFO.out
            rw [pstep, if_neg (by simp [hn])] at e
            have HE := Lib.hid e
            clear hn e HFO
            go_wp2_with (at_builtin; go_loud (refine wpList_append_own_at _ rfl _ _ 44 rfl W.heap.size 3 i0 (.int .i64 0) 1 8 Tryd.underlying44 hi0 hz0 hz1 hz2 rfl (by decide) u5 L _ rfl (hown.out.alloc _) ⟨_, 0, none⟩ 1 1 [.int .i64 x] rfl rfl (news_at' _ _ _ _ (by simp)) (by simp [Value.oneCell']) (by unfold maxLen; omega) (by omega) (by have := hb.out.size; simp; omega) ?_); intro v' w9 hown' hgrow _ hat; have HO9 := Lib.hid hown'; have HB9 := Lib.hid (below_append hown.out hb.out hb.out.size hgrow); clear hown' hgrow hat hown hb)
            go_roundw
            case rel =>
              refine ⟨k + 1, acc ++ [x], false, by omega, by simp, rfl, by simp [hL]; omega, Lib.hid ⟨HN.out, HE.out⟩, Lib.hid ?_, HB9⟩
              rw [List.length_append, hL, icell_append]
              exact HO9.out
            case measure => simp [intOf]; omega
        · have hL2 : L ≤ k + 1 := by simp at hfl; omega
          have e := HFO.out
          rw [pstep, if_neg (by simp)] at e
          have HE := Lib.hid e
          clear e HFO hfl
          go_wp2_with (at_builtin; go_loud (refine wpList_append_own_at _ rfl _ _ 44 rfl W.heap.size 3 i0 (.int .i64 0) 1 8 Tryd.underlying44 hi0 hz0 hz1 hz2 rfl (by decide) u5 L _ rfl (hown.out.alloc _) ⟨_, 0, none⟩ 1 1 [.int .i64 x] rfl rfl (news_at' _ _ _ _ (by simp)) (by simp [Value.oneCell']) (by unfold maxLen; omega) (by omega) (by have := hb.out.size; simp; omega) ?_); intro v' w9 hown' hgrow _ hat; have HO9 := Lib.hid hown'; have HB9 := Lib.hid (below_append hown.out hb.out hb.out.size hgrow); clear hown' hgrow hat hown hb)
          go_roundw
          case rel =>
            refine ⟨k + 1, acc ++ [x], true, by omega, by simp, rfl, by simp [hL]; omega, Lib.hid ⟨HN.out, HE.out⟩, Lib.hid ?_, HB9⟩
            rw [List.length_append, hL, icell_append]
            exact HO9.out
          case measure => simp [intOf]; omega
    · obtain rfl : k = l.length := by omega
      have hs := hst.out
      rw [List.take_length] at hs
      have hT := HT.out
      rw [putN, if_neg hs.1, hs.2, pend] at hT
      have HT2 := Lib.hid hT
      clear hT HT hs hst
      generalize hL : acc.length = L at hal hown
      cases inn
      · go_wp2_with (at_builtin; go_loud (refine wpList_append_own_at _ rfl _ _ 44 rfl W.heap.size 3 i0 (.int .i64 0) 1 8 Tryd.underlying44 hi0 hz0 hz1 hz2 rfl (by decide) u5 L _ rfl (hown.out.alloc _) ⟨_, 0, none⟩ 1 1 [.int .i64 n] rfl rfl (news_at' _ _ _ _ (by simp)) (by simp [Value.oneCell']) (by unfold maxLen; omega) (by omega) (by have := hb.out.size; simp; omega) ?_); intro v' w9 hown' hgrow _ hat; have HO9 := Lib.hid hown'; have HB9 := Lib.hid (below_append hown.out hb.out hb.out.size hgrow); clear hown' hgrow hat hown hb)
        go_ret
        refine ⟨⟨_, rfl, ?_⟩, HB9.out⟩
        have e := HO9.out
        have e2 : L + 1 = T.length := by rw [HT2.out]; simp [hL]
        have e3 : icell acc ++ [Value.int .i64 n] = icell T := by rw [HT2.out]; simp [icell]
        rw [e2, e3] at e
        unfold IntsIn
        exact SliceIn.of_own e
      · go_wp2
        go_ret
        refine ⟨⟨_, rfl, ?_⟩, hb.out⟩
        have e := hown.out
        have e2 : acc = T := by rw [HT2.out]; rfl
        rw [← hL, e2] at e
        exact SliceIn.of_own e

theorem putAll_snoc (code : List InsD) (k : Nat) (x : InsD) (hx : code[k]? = some x) : putAll (code.take (k + 1)) = if usesB x then putN (putAll (code.take k)) x.a else putAll (code.take k) := by
  rw [List.take_add_one, hx, putAll, Option.toList_some, List.foldl_append]
  rfl
theorem putAll_len (code : List InsD) : ∀ k, (putAll (code.take k)).length ≤ k
  | 0 => by simp [putAll]
  | k + 1 => by
    cases hx : code[k]? with
    | none =>
      rw [List.take_add_one, hx]
      have := putAll_len code k
      simp
      omega
    | some x =>
      rw [putAll_snoc code k x hx]
      have := putAll_len code k
      split
      · have := putN_len (putAll (code.take k)) x.a; omega
      · omega

set_option maxRecDepth 100000 in
set_option maxHeartbeats 2000000 in
theorem ruses_any (W : World) (cv : Value) (code : List InsD) (hc : CodeIn W.heap.size W cv code) (hl : code.length ≤ 600) :
    Calls Tryd.prog 29 #[cv] W fun e W' => (∃ v', e = .returned v' ∧ IntsIn W'.heap.size W' v' (putAll code)) ∧ Below W.heap.size W W' := by
  obtain ⟨ao, cap, rfl, hcap, _⟩ := SliceIn.form hc
  have HC := Lib.hid hc
  have hW := Lib.hid (Below.refl W.heap.size W)
  clear hc
  go_enter Tryd.func29, Tryd.ntmps29
  go_wp2
  go_loopw [3, 4] (fun s3 s4 wr => ∃ k : Nat, k ≤ code.length ∧ s4 = .int .i64 k ∧ Hid (IntsIn wr.heap.size wr s3 (putAll (code.take k))) ∧ Hid (Below W.heap.size W wr)) (fun _ s4 _ => code.length - (intOf s4).toNat)
  case atStart => exact ⟨0, Nat.zero_le _, rfl, Lib.hid (SliceIn.nil _ _ _), hW⟩
  case round =>
    obtain ⟨k, hk, rfl, hown, hb⟩ := hrel
    by_cases hlt : k < code.length
    · obtain ⟨⟨op, a⟩, hx⟩ : ∃ x, code[k]? = some x := ⟨_, List.getElem?_eq_getElem hlt⟩
      obtain ⟨b, _, hv1, _⟩ := SliceIn.some_ HC.out (by omega)
      cases hv1
      have hcs := Lib.hid (fun w (h : Below W.heap.size W w) => code_at HC.out (Nat.le_refl _) h rfl hx)
      have k0 := (hcs.out wr hb.out).1
      have HSN := Lib.hid (putAll_snoc code k _ hx)
      have hln := putAll_len code k
      have HK := Lib.hid (refKind_any wr op)
      clear hx
      go_wp2_with fail
      refine HK.out.mono ?_
      rintro e w2 ⟨rfl, hb2⟩
      have B2 := Lib.hid (hb.out.trans (hb2.mono hb.out.size))
      have O2 := Lib.hid ((SliceIn.later hown.out (Nat.le_refl _) hb2).up hb2.size)
      have m1 := (hcs.out w2 B2.out).2
      clear hb2 k0
      by_cases hu : 1 ≤ insKind op ∧ insKind op ≤ 5
      · have d0 : decide (1 ≤ insKind op) = true := decide_eq_true hu.1
        have d1 : decide (insKind op ≤ 5) = true := decide_eq_true hu.2
        have e := HSN.out
        rw [if_pos (by simp [usesB, hu.1, hu.2])] at e
        have HE := Lib.hid e
        clear hu HSN e
        go_wp2_with fail
        refine (rputn_any w2 u3 _ a O2.out (by omega)).mono ?_
        rintro e w3 ⟨⟨v3, rfl, hv3⟩, hb3⟩
        have B3 := Lib.hid (B2.out.trans (hb3.mono B2.out.size))
        have O3 := Lib.hid hv3
        clear hb3 hv3
        go_wp2
        go_roundw
        case rel =>
          refine ⟨k + 1, by omega, by simp, Lib.hid ?_, B3⟩
          rw [HE.out]
          exact O3.out
        case measure => simp [intOf]; omega
      · have e := HSN.out
        rw [if_neg (by simp [usesB]; omega)] at e
        have HE := Lib.hid e
        by_cases h1 : 1 ≤ insKind op
        · have d0 : decide (1 ≤ insKind op) = true := decide_eq_true h1
          have d1 : decide (insKind op ≤ 5) = false := decide_eq_false (by omega)
          clear hu HSN e h1
          go_wp2
          go_roundw
          case rel =>
            refine ⟨k + 1, by omega, by simp, Lib.hid ?_, B2⟩
            rw [HE.out]
            exact O2.out
          case measure => simp [intOf]; omega
        · have d0 : decide (1 ≤ insKind op) = false := decide_eq_false h1
          clear hu HSN e h1
          go_wp2
          go_roundw
          case rel =>
            refine ⟨k + 1, by omega, by simp, Lib.hid ?_, B2⟩
            rw [HE.out]
            exact O2.out
          case measure => simp [intOf]; omega
    · obtain rfl : k = code.length := by omega
      have ho := hown.out
      rw [List.take_length] at ho
      have HO := Lib.hid ho
      clear ho hown
      go_wp2
      go_ret
      exact ⟨⟨_, rfl, HO.out⟩, hb.out⟩
end Go.Proofs.YtmlcififmjpcpaaDoor
