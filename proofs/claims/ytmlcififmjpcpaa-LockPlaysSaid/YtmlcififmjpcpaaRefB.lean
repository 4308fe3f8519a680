/-
  The document's locks: 'Enter', 'Exit', 'Free', 'Put'.
-/
import Derived.Test.YtmlcififmjpcpaaPut
namespace Go.Proofs.Ytmlcififmjpcpaa
open Go.RowKit
set_option linter.unusedVariables false

/-- One cell of a row of holds stored. -/
theorem rrow_store {W : World} {S : Nat → Prop} {g cap : Nat} {cur : Array Value} {hs : List Hold} (hS : S g) (hb : Blk W g 60 cur) (hn : hs.length ≤ cap) (hm : cap ≤ maxLen) (hsz : cur.size = cap * 3) (hx : cur.toList.take (hs.length * 3) = cellsH hs)
    (j i : Nat) (x : Hold) (u : Value) (hj : j < hs.length) (hxc : x.cells = (hs.getD j Hold.zero).cells.set i u) (hi : i < 3) :
    RowAt (W.setCell ⟨g, j * 3 + i, none⟩ u) S 60 3 (.slice (some ⟨g, 0, none⟩) hs.length cap) (hs.set j x).length (cellsH (hs.set j x)) := by
  have hlen : (hs.set j x).length = hs.length := by simp
  rw [hlen]
  refine RowAt.mk_ hS (hb.set _ u) hn hm (by simpa using hsz) ?_ (by rw [cellsH_length, hlen])
  rw [Array.toList_setIfInBounds, List.take_set, hx, cellsH_set1 hs j i x u hj hxc hi]


theorem info_rhold : (Try.prog.info? 60).map (fun i => (i.zero, i.size, i.bytes)) = some (some (.agg #[.int .i64 0, .int .i64 0, .int .i64 0]), 3, 24) := by kernel_rfl

theorem RefObj.quiet_ {W w : World} {S : Nat → Prop} {b : Nat} {hs : List Hold} (h : RefObj w S b hs) : RefObj w (grow S W w) b hs := by
  obtain ⟨hb, v, h1, h2⟩ := h
  exact ⟨.inl hb, v, h1, h2.mono (fun k hk => .inl hk)⟩

set_option maxRecDepth 100000 in
set_option maxHeartbeats 1000000 in
theorem renter_any (W : World) (S : Nat → Prop) (b : Nat) (hs : List Hold) (a who : Int) (h : RefObj W S b hs) (hreach : hs.length ≤ 1000000) :
    Calls Try.prog 26 #[.pointer (some ⟨b, 0, none⟩), .int .i64 a, .int .i64 who] W fun e W' => e = .returned (.int .i64 (enterL hs a who).1) ∧ RefObj W' (grow S W W') b (enterL hs a who).2 ∧ Touch S W W' := by
  have hfind := rfind_any W b hs a h.reads hreach
  by_cases ha : a < 1
  · have e1 : enterL hs a who = (2, hs) := by simp [enterL, ha]
    rw [e1]
    clear e1 hfind
    have hab : decide (a < 1) = true := by simp; omega
    go_enter Try.func26, Try.ntmps26
    go_wp2
    go_ret
    exact ⟨rfl, h.quiet_, Touch.refl _ _⟩
  · cases hi : idx hs a with
    | none =>
      have e1 : enterL hs a who = (0, hs ++ [⟨a, who, 1⟩]) := by simp [enterL, ha, hi]
      have e2 : findL hs a = -1 := by rw [findL_idx, hi]
      rw [e1]
      rw [e2] at hfind
      clear e1 e2 hi
      obtain ⟨i0, hi, hz0, hz1, hz2⟩ := info_parts info_rhold
      have hab : decide (a < 1) = false := by simp; omega
      go_enter Try.func26, Try.ntmps26
      go_wp2_with (first | (go_at_call 30; refine hfind.mono ?_; rintro e w1 ⟨rfl, hb⟩; obtain ⟨hbS, v, hv, hr⟩ := h.below hb; have hc := hv.cell; have hTB := Lib.hid hb; clear hb) | (at_builtin; go_loud (refine wpList_append_own_at _ rfl _ _ 37 rfl 0 60 i0 (.agg #[.int .i64 0, .int .i64 0, .int .i64 0]) 3 24 Try.underlying37 hi hz0 hz1 hz2 rfl (by decide) v hs.length _ rfl (hr.1.alloc _) ⟨w1.heap.size, 0, none⟩ 1 1 [.int .i64 a, .int .i64 who, .int .i64 1] rfl rfl (news_new _ _ _) (by simp [Value.oneCell']) (by unfold maxLen; omega) (by omega) (by omega) ?_); intro v' w2 hown' hgrow _ hat; obtain ⟨hr2, hT2⟩ := hr.appended hown' hgrow hat; obtain ⟨g', cap', rfl⟩ := ownsRow_succ hown'; have hv2 := (hv.alloc _).kept hgrow (hv.not_row (by decide) hr.1); have hc2 := hv2.cell; have hf2 := hv2.frozen))
      go_ret
      have hb := hTB.out
      have hsz := hb.size
      have hsz2 := hT2.size
      have hT : Touch S W w2 := (Touch.of_below hb).trans hT2 (fun i hi => .inl hi)
      refine ⟨rfl, ⟨.inl h.1, _, hv2.set _, ?_⟩, hT.setCell (.inl h.1) _⟩
      rw [cellsH_append, cellsH_one, List.length_append]
      exact ((hr2.setOther (hv2.not_row (by decide) hown') 0 _).mono (fun k hk => by rcases grow_mono hsz k hk with h1 | h1; exact .inl h1; exact .inr ⟨h1.1, by simpa [World.setCell] using h1.2⟩))
    | some i =>
      obtain ⟨hil, hia⟩ := idx_lt hi
      have e2 : findL hs a = (i : Int) := by rw [findL_idx, hi]
      rw [e2] at hfind
      have hab : decide (a < 1) = false := by simp; omega
      by_cases hw : (hs.getD i Hold.zero).who = who
      · have e1 : enterL hs a who = (0, hs.set i ⟨a, who, wrap64 ((hs.getD i Hold.zero).n + 1)⟩) := by simp only [enterL, if_neg ha, hi, if_pos hw]
        rw [e1]
        clear e1 e2 hi
        obtain ⟨⟨xa, xw, xn⟩, hX⟩ : ∃ x, x = hs.getD i Hold.zero := ⟨_, rfl⟩
        rw [← hX] at hw hia
        dsimp only at hw hia
        subst hw hia
        rw [← hX]
        dsimp only
        have HX : Hid ((⟨xa, xw, xn⟩ : Hold) = hs.getD i Hold.zero) := hX
        clear hX
        go_enter Try.func26, Try.ntmps26
        go_wp2_with (go_at_call 30; refine hfind.mono ?_; rintro e w1 ⟨rfl, hb⟩; obtain ⟨hbS, v, hv, hr⟩ := h.below hb; have hc := hv.cell; have hTB := Lib.hid hb; clear hb; obtain ⟨_, ⟨rfl, h0⟩ | ⟨g, cap, cur, rfl, hgS, hB, hn, hm, hsz, hx⟩⟩ := hr.open_; (exact absurd hil (by rw [h0]; omega)); have hc1 := (hB.cell (i * 3 + 1)).trans ((take_get hx _ (by omega)).trans (cellsH_get hs i 1 hil (by omega))); have hc2 := (hB.cell (i * 3 + 2)).trans ((take_get hx _ (by omega)).trans (cellsH_get hs i 2 hil (by omega))); rw [← HX.out] at hc1 hc2; simp only [Hold.cells, List.getElem?_cons_succ, List.getElem?_cons_zero] at hc1 hc2; have hf2 := hB.frozen (i * 3 + 2); have hsz' := Lib.hid hsz; clear hsz; have hx' := Lib.hid hx; clear hx)
        go_ret
        have hb := hTB.out
        have hT : Touch S W w1 := Touch.of_below hb
        refine ⟨rfl, ⟨.inl h.1, _, Blk.other (cs := #[_]) hv (hB.ne hv (by decide)).symm _ _, ?_⟩, hT.setCell (.inl hgS) _⟩
        exact (rrow_store hgS hB hn hm hsz'.out hx'.out i 2 _ _ hil (by rw [← HX.out]; rfl) (by omega)).mono (fun k hk => .inl hk)
      · have e1 : enterL hs a who = (29, hs) := by simp only [enterL, if_neg ha, hi, if_neg hw]
        rw [e1]
        clear e1 e2 hi
        obtain ⟨⟨xa, xw, xn⟩, hX⟩ : ∃ x, x = hs.getD i Hold.zero := ⟨_, rfl⟩
        rw [← hX] at hw hia
        dsimp only at hw hia
        subst hia
        have HX : Hid ((⟨xa, xw, xn⟩ : Hold) = hs.getD i Hold.zero) := hX
        clear hX
        have hwb : (xw == who) = false := beq_eq_false_iff_ne.2 hw
        have hwb2 : (xw != who) = true := by simp [bne, hwb]
        go_enter Try.func26, Try.ntmps26
        go_wp2_with (go_at_call 30; refine hfind.mono ?_; rintro e w1 ⟨rfl, hb⟩; obtain ⟨hbS, v, hv, hr⟩ := h.below hb; have hc := hv.cell; have hTB := Lib.hid hb; clear hb; obtain ⟨_, ⟨rfl, h0⟩ | ⟨g, cap, cur, rfl, hgS, hB, hn, hm, hsz, hx⟩⟩ := hr.open_; (exact absurd hil (by rw [h0]; omega)); have hc1 := (hB.cell (i * 3 + 1)).trans ((take_get hx _ (by omega)).trans (cellsH_get hs i 1 hil (by omega))); rw [← HX.out] at hc1; simp only [Hold.cells, List.getElem?_cons_succ, List.getElem?_cons_zero] at hc1; have hsz' := Lib.hid hsz; clear hsz; have hx' := Lib.hid hx; clear hx)
        go_ret
        have hb := hTB.out
        exact ⟨rfl, ⟨.inl h.1, _, hv, hr.mono (fun k hk => .inl hk)⟩, Touch.of_below hb⟩

/-- An owned row of a deeper base. -/
theorem own_zero {W : World} {base n sz : Nat} {e : TypeId} {v : Value} {xs : List Value} (h : W.ownsRow base e sz v n xs) : W.ownsRow 0 e sz v n xs := by
  obtain ⟨h1, h2⟩ := h
  refine ⟨h1, ?_⟩
  rcases h2 with h2 | ⟨g, cap, cur, hv, hg, r⟩
  · exact .inl h2
  · exact .inr ⟨g, cap, cur, hv, Nat.zero_le _, r⟩

def keepW (hs : List Hold) (who : Int) : List Hold := hs.filter (fun h => h.who != who)
theorem keep_take {p : Hold → Bool} {hs : List Hold} {k : Nat} (hk : k < hs.length) : (hs.take (k + 1)).filter p = (hs.take k).filter p ++ (if p (hs.getD k Hold.zero) then [hs.getD k Hold.zero] else []) := by
  rw [List.take_succ_eq_append_getElem hk, List.filter_append, show hs.getD k Hold.zero = hs[k] by simp [hk]]
  congr 1
  by_cases h : p hs[k] = true <;> simp [h]
theorem keep_le {p : Hold → Bool} {hs : List Hold} {k : Nat} : ((hs.take k).filter p).length ≤ k := Nat.le_trans (List.length_filter_le _ _) (by simp; omega)

set_option maxRecDepth 100000 in
set_option maxHeartbeats 1000000 in
theorem rfree_any (W : World) (S : Nat → Prop) (b : Nat) (hs : List Hold) (who : Int) (h : RefObj W S b hs) (hl : hs.length ≤ 1000000) (hSl : ∀ k, S k → k < W.heap.size) :
    Calls Try.prog 29 #[.pointer (some ⟨b, 0, none⟩), .int .i64 who] W fun e W' => e = .returned (.int .i64 (freeL hs who).1) ∧ RefObj W' (grow S W W') b (freeL hs who).2 ∧ Touch S W W' := by
  have hof := rof_any W b hs who h.reads hl
  obtain ⟨i0, hi, hz0, hz1, hz2⟩ := info_parts info_rhold
  have H := Lib.hid h
  clear h
  show Calls _ _ _ _ fun e W' => e = .returned (.int .i64 (ofL hs who : Nat)) ∧ RefObj W' (grow S W W') b (filt hs who) ∧ Touch S W W'
  go_enter Try.func29, Try.ntmps29
  go_wp2_with (go_at_call 19; refine hof.mono ?_; rintro e w1 ⟨rfl, hb⟩; have HB := Lib.hid hb; clear hb)
  go_loopw [6, 7] (fun v i wr => ∃ k : Nat, k ≤ hs.length ∧ i = .int .i64 k ∧ Hid (wr.ownsRow W.heap.size 60 3 v ((hs.take k).filter (fun h => h.who != who)).length (cellsH ((hs.take k).filter (fun h => h.who != who)))) ∧ Hid (Below W.heap.size W wr)) (fun _ i _ => hs.length - (intOf i).toNat)
  case atStart => exact ⟨0, by omega, rfl, World.ownsRow_nil _ _ _ _, HB.out⟩
  case round =>
    obtain ⟨k, hk, rfl, hown, hb⟩ := hrel
    obtain ⟨A, cap, hc, hcap, hrow⟩ := (H.out.below hb.out).reads
    have HROW := Lib.hid hrow
    clear hrow
    by_cases hlt : k < hs.length
    · obtain ⟨g, rfl, hc0, hc1, hc2⟩ := HROW.out k hlt
      have hkl : (k : Int) < (hs.length : Int) := by omega
      have hk0 : (0 : Int) ≤ (k : Int) := by omega
      have hT := keep_take (p := fun h => h.who != who) hlt
      have hle := keep_le (p := fun h => h.who != who) (hs := hs) (k := k)
      obtain ⟨⟨xa, xw, xn⟩, hX⟩ : ∃ x, x = hs.getD k Hold.zero := ⟨_, rfl⟩
      rw [← hX] at hc0 hc1 hc2 hT
      dsimp only at hc0 hc1 hc2 hT
      clear hX
      obtain ⟨L, hL⟩ : ∃ L, L = (hs.take k).filter (fun h => h.who != who) := ⟨_, rfl⟩
      rw [← hL] at hown hT hle
      clear hL
      by_cases hx : (xw != who) = true
      · rw [if_pos hx] at hT
        have HT := Lib.hid hT
        clear hT
        go_wp2_with (at_builtin; go_loud (refine wpList_append_own_at _ rfl _ _ 37 rfl W.heap.size 60 i0 (.agg #[.int .i64 0, .int .i64 0, .int .i64 0]) 3 24 Try.underlying37 hi hz0 hz1 hz2 rfl (by decide) _ L.length _ rfl (hown.out.alloc _) ⟨_, 0, none⟩ 1 1 [.int .i64 xa, .int .i64 xw, .int .i64 xn] rfl rfl (news_at' _ _ _ _ (by simp)) (by simp [Value.oneCell']) (by unfold maxLen; omega) (by omega) (by have := hb.out.size; simp; omega) ?_); intro v' w2 hown' hgrow _ hat; have B2 := Lib.hid (below_append hown.out hb.out hb.out.size hgrow); have O2 := Lib.hid hown'; clear hown' hgrow hat)
        go_roundw
        case rel =>
          refine ⟨k + 1, by omega, by go_num, ?_, B2.out⟩
          rw [HT.out, cellsH_append, List.length_append]
          exact O2.out
        case measure => simp [intOf]; omega
      · rw [if_neg hx, List.append_nil] at hT
        have hxb : (xw != who) = false := by simpa using hx
        have HT := Lib.hid hT
        clear hT hx
        go_wp2
        go_roundw
        case rel => exact ⟨k + 1, by omega, by go_num, by rw [HT.out]; exact hown.out, hb.out⟩
        case measure => simp [intOf]; omega
    · have hkb : decide (k < hs.length) = false := by simp; omega
      have hke : k = hs.length := by omega
      have HKE := Lib.hid hke
      clear hlt hke
      have ho := hown.out
      rw [HKE.out, List.take_length] at ho
      obtain ⟨ao, c9, rfl⟩ := own_form ho
      have HO := Lib.hid ho
      clear ho hown
      have hfb : wr.frozen? ⟨b, 0, none⟩ = false := by obtain ⟨_, v, hv, _⟩ := H.out.below hb.out; exact hv.frozen
      go_wp2
      go_ret
      have ho := HO.out
      obtain ⟨hbS, v0, hv0, _⟩ := H.out.below hb.out
      have hsz := hb.out.size
      refine ⟨rfl, ⟨.inl hbS, _, hv0.set _, ?_, ?_⟩, (Touch.of_below hb.out).setCell (.inl hbS) _⟩
      · exact own_set (own_zero ho) (fun e => by have := (ho.lt b e.symm).1; have := hSl b hbS; omega) _ _
      · intro k hk
        have := ho.lt k hk
        exact .inr ⟨this.1, by simpa [World.setCell] using this.2⟩
end Go.Proofs.Ytmlcififmjpcpaa
