/-
  The document's locks: 'Exit', 'Put'.
-/
import Derived.Test.YtmlcififmjpcpaaRefB
import Derived.StillTailTactics
namespace Go.Proofs.Ytmlcififmjpcpaa
open Go.RowKit
set_option linter.unusedVariables false

/-- What the document's Exit answers and leaves. -/
def rexitL (hs : List Hold) (a who : Int) : Int × List Hold :=
  match idx hs a with
  | none => (28, hs)
  | some i => if (hs.getD i Hold.zero).who = who then (0, (hs.set i ⟨a, who, wrap64 ((hs.getD i Hold.zero).n - 1)⟩).filter (fun h => decide (0 < h.n))) else (28, hs)

theorem touch_append {w w2 : World} {base sz n : Nat} {e : TypeId} {v : Value} {cs : List Value} {o : Obj} (h : w.ownsRow base e sz v n cs) (hg : (w.alloc o).grownBy w2 v.ownBlock) : Touch (fun k => base ≤ k ∧ k < w.heap.size) w w2 :=
  ((Touch.refl _ w).alloc o).grown hg (fun i hi => .inl (h.lt i hi))

set_option maxRecDepth 100000 in
set_option maxHeartbeats 2000000 in
theorem rexit_any (W : World) (S : Nat → Prop) (b : Nat) (hs : List Hold) (a who : Int) (h : RefObj W S b hs) (hreach : hs.length ≤ 1000000) (hSl : ∀ k, S k → k < W.heap.size) :
    Calls Try.prog 27 #[.pointer (some ⟨b, 0, none⟩), .int .i64 a, .int .i64 who] W fun e W' => e = .returned (.int .i64 (rexitL hs a who).1) ∧ RefObj W' (grow S W W') b (rexitL hs a who).2 ∧ Touch S W W' := by
  have hfind := rfind_any W b hs a h.reads hreach
  cases hi : idx hs a with
  | none =>
    have e1 : rexitL hs a who = (28, hs) := by simp [rexitL, hi]
    have e2 : findL hs a = -1 := by rw [findL_idx, hi]
    rw [e1]
    rw [e2] at hfind
    clear e1 e2 hi
    go_enter Try.func27, Try.ntmps27
    go_wp2_with (go_at_call 30; refine hfind.mono ?_; rintro e w1 ⟨rfl, hb⟩; have hTB := Lib.hid hb; clear hb)
    go_ret
    exact ⟨rfl, (h.below hTB.out).quiet_, Touch.of_below hTB.out⟩
  | some i =>
    obtain ⟨hil, hia⟩ := idx_lt hi
    have e2 : findL hs a = (i : Int) := by rw [findL_idx, hi]
    rw [e2] at hfind
    obtain ⟨⟨xa, xw, xn⟩, hX⟩ : ∃ x, x = hs.getD i Hold.zero := ⟨_, rfl⟩
    by_cases hw : (hs.getD i Hold.zero).who = who
    · have e1 : rexitL hs a who = (0, (hs.set i ⟨a, who, wrap64 ((hs.getD i Hold.zero).n - 1)⟩).filter (fun h => decide (0 < h.n))) := by simp only [rexitL, hi, if_pos hw]
      rw [e1]
      clear e1 e2 hi
      rw [← hX] at hw hia ⊢
      dsimp only at hw hia ⊢
      subst hw hia
      have HX : Hid ((⟨xa, xw, xn⟩ : Hold) = hs.getD i Hold.zero) := hX
      clear hX
      obtain ⟨hs1, hH1⟩ : ∃ x, x = hs.set i ⟨xa, xw, wrap64 (xn - 1)⟩ := ⟨_, rfl⟩
      rw [← hH1]
      have HH1 := Lib.hid hH1
      have hlen1 : hs1.length ≤ 1000000 := by rw [hH1, List.length_set]; exact hreach
      clear hH1
      have hwb : (xw != xw) = false := by simp
      obtain ⟨i0, hi, hz0, hz1, hz2⟩ := info_parts info_rhold
      go_enter Try.func27, Try.ntmps27
      go_wp2_with (go_at_call 30; refine hfind.mono ?_; rintro e w1 ⟨rfl, hb⟩; obtain ⟨hbS, v, hv, hr⟩ := h.below hb; have hc := hv.cell; have hTB := Lib.hid hb; clear hb; obtain ⟨_, ⟨rfl, h0⟩ | ⟨g, cap, cur, rfl, hgS, hB, hn, hm, hsz, hx⟩⟩ := hr.open_; (exact absurd hil (by rw [h0]; omega)); have hc1 := (hB.cell (i * 3 + 1)).trans ((take_get hx _ (by omega)).trans (cellsH_get hs i 1 hil (by omega))); have hc2 := (hB.cell (i * 3 + 2)).trans ((take_get hx _ (by omega)).trans (cellsH_get hs i 2 hil (by omega))); rw [← HX.out] at hc1 hc2; simp only [Hold.cells, List.getElem?_cons_succ, List.getElem?_cons_zero] at hc1 hc2; have hf2 := hB.frozen (i * 3 + 2); have hsz' := Lib.hid hsz; clear hsz; have hx' := Lib.hid hx; clear hx)
      have hO1 : RefObj (w1.setCell ⟨g, i * 3 + 2, none⟩ (.int .i64 (wrap64 (xn - 1)))) S b hs1 := by
        refine ⟨h.1, _, Blk.other (cs := #[_]) hv (hB.ne hv (by decide)).symm _ _, ?_⟩
        have := rrow_store hgS hB hn hm hsz'.out hx'.out i 2 ⟨xa, xw, wrap64 (xn - 1)⟩ (.int .i64 (wrap64 (xn - 1))) hil (by rw [← HX.out]; rfl) (by omega)
        rw [← HH1.out] at this
        rwa [show hs1.length = hs.length by rw [HH1.out, List.length_set]] at this ⊢
      have hT1 : Touch S W (w1.setCell ⟨g, i * 3 + 2, none⟩ (.int .i64 (wrap64 (xn - 1)))) := (Touch.of_below hTB.out).setCell (.inl hgS) _
      have HO1 := Lib.hid hO1
      have HT1 := Lib.hid hT1
      clear hO1 hT1 hc hc1 hc2 hf2 hr hv hB
      go_loopw [8, 9] (fun v i wr => ∃ k : Nat, k ≤ hs1.length ∧ i = .int .i64 k ∧ Hid (wr.ownsRow W.heap.size 60 3 v ((hs1.take k).filter (fun h => decide (0 < h.n))).length (cellsH ((hs1.take k).filter (fun h => decide (0 < h.n))))) ∧ Hid (RefObj wr S b hs1 ∧ Touch S W wr)) (fun _ i _ => hs1.length - (intOf i).toNat)
      case atStart => exact ⟨0, by omega, rfl, World.ownsRow_nil _ _ _ _, HO1.out, HT1.out⟩
      case round =>
        obtain ⟨k, hk, rfl, hown, hI⟩ := hrel
        obtain ⟨A, cap2, hc, hcap, hrow⟩ := hI.out.1.reads
        have HROW := Lib.hid hrow
        clear hrow
        by_cases hlt : k < hs1.length
        · obtain ⟨g2, rfl, hc0, hc1, hc2⟩ := HROW.out k hlt
          have hkl : (k : Int) < (hs1.length : Int) := by omega
          have hk0 : (0 : Int) ≤ (k : Int) := by omega
          have hT := keep_take (p := fun h => decide (0 < h.n)) hlt
          have hle := keep_le (p := fun h => decide (0 < h.n)) (hs := hs1) (k := k)
          obtain ⟨⟨ya, yw, yn⟩, hX⟩ : ∃ x, x = hs1.getD k Hold.zero := ⟨_, rfl⟩
          rw [← hX] at hc0 hc1 hc2 hT
          dsimp only at hc0 hc1 hc2 hT
          clear hX
          obtain ⟨L, hL⟩ : ∃ L, L = (hs1.take k).filter (fun h => decide (0 < h.n)) := ⟨_, rfl⟩
          rw [← hL] at hown hT hle
          clear hL
          by_cases hx : 0 < yn
          · rw [if_pos (decide_eq_true hx)] at hT
            have HT := Lib.hid hT
            clear hT
            go_wp2_with (at_builtin; go_loud (refine wpList_append_own_at _ rfl _ _ 37 rfl W.heap.size 60 i0 (.agg #[.int .i64 0, .int .i64 0, .int .i64 0]) 3 24 Try.underlying37 hi hz0 hz1 hz2 rfl (by decide) _ L.length _ rfl (hown.out.alloc _) ⟨_, 0, none⟩ 1 1 [.int .i64 ya, .int .i64 yw, .int .i64 yn] rfl rfl (news_at' _ _ _ _ (by simp)) (by simp [Value.oneCell']) (by unfold maxLen; omega) (by omega) (by have := hI.out.2.size; simp; omega) ?_); intro v' w2 hown' hgrow _ hat; have T2 := Lib.hid (touch_append hown.out hgrow); have O2 := Lib.hid hown'; clear hown' hgrow hat)
            go_roundw
            case rel =>
              refine ⟨k + 1, by omega, by go_num, ?_, hI.out.1.touch T2.out (fun j h1 h2 => by have := hSl j h1; omega), hI.out.2.trans T2.out (fun j hj => .inr hj)⟩
              rw [HT.out, cellsH_append, List.length_append]
              exact O2.out
            case measure => simp [intOf]; omega
          · rw [if_neg (by simpa using hx), List.append_nil] at hT
            have hxb : yn ≤ 0 := by omega
            have HT := Lib.hid hT
            clear hT hx
            go_wp2
            go_roundw
            case rel => exact ⟨k + 1, by omega, by go_num, by rw [HT.out]; exact hown.out, hI.out⟩
            case measure => simp [intOf]; omega
        · have hkb : decide (k < hs1.length) = false := by simp; omega
          have hke : k = hs1.length := by omega
          have HKE := Lib.hid hke
          clear hlt hke
          have ho := hown.out
          rw [HKE.out, List.take_length] at ho
          obtain ⟨ao, c9, rfl⟩ := own_form ho
          have HO := Lib.hid ho
          clear ho hown
          have hfb : wr.frozen? ⟨b, 0, none⟩ = false := by obtain ⟨_, v, hv, _⟩ := hI.out.1; exact hv.frozen
          go_wp2
          go_ret
          have ho := HO.out
          obtain ⟨hbS, v0, hv0, _⟩ := hI.out.1
          have hsz := hI.out.2.size
          refine ⟨rfl, ⟨.inl hbS, _, hv0.set _, ?_, ?_⟩, hI.out.2.setCell (.inl hbS) _⟩
          · exact own_set (own_zero ho) (fun e => by have := (ho.lt b e.symm).1; have := hSl b hbS; omega) _ _
          · intro k hk
            have := ho.lt k hk
            exact .inr ⟨this.1, by simpa [World.setCell] using this.2⟩
    · have e1 : rexitL hs a who = (28, hs) := by simp only [rexitL, hi, if_neg hw]
      rw [e1]
      clear e1 e2 hi
      rw [← hX] at hw hia
      dsimp only at hw hia
      subst hia
      have HX : Hid ((⟨xa, xw, xn⟩ : Hold) = hs.getD i Hold.zero) := hX
      clear hX
      have hwb2 : (xw != who) = true := by simp [bne]; exact hw
      go_enter Try.func27, Try.ntmps27
      go_wp2_with (go_at_call 30; refine hfind.mono ?_; rintro e w1 ⟨rfl, hb⟩; obtain ⟨hbS, v, hv, hr⟩ := h.below hb; have hc := hv.cell; have hTB := Lib.hid hb; clear hb; obtain ⟨_, ⟨rfl, h0⟩ | ⟨g, cap, cur, rfl, hgS, hB, hn, hm, hsz, hx⟩⟩ := hr.open_; (exact absurd hil (by rw [h0]; omega)); have hc1 := (hB.cell (i * 3 + 1)).trans ((take_get hx _ (by omega)).trans (cellsH_get hs i 1 hil (by omega))); rw [← HX.out] at hc1; simp only [Hold.cells, List.getElem?_cons_succ, List.getElem?_cons_zero] at hc1; have hsz' := Lib.hid hsz; clear hsz; have hx' := Lib.hid hx; clear hx)
      go_ret
      exact ⟨rfl, (h.below hTB.out).quiet_, Touch.of_below hTB.out⟩
end Go.Proofs.Ytmlcififmjpcpaa
