/-
  'Exit', 'Owner', 'New'; and what a nil pointer answers.
-/
import Derived.Test.YtmlcififmjpcpaaLockE
import Derived.Deep.QuietTactic
import Derived.BigQuiet
namespace Go.Proofs.Ytmlcififmjpcpaa
open Go.RowKit

def exitL (hs : List Hold) (a who : Int) : Int × List Hold :=
  match idx hs a with
  | none => (28, hs)
  | some i => if (hs.getD i Hold.zero).who = who then
      (if wrap64 ((hs.getD i Hold.zero).n - 1) = 0 then (0, hs.take i ++ hs.drop (i + 1)) else (0, hs.set i ⟨a, who, wrap64 ((hs.getD i Hold.zero).n - 1)⟩)) else (28, hs)

theorem ownH_lt {W : World} {g : Nat} {cur : Array Value} (hB : Blk W g 51 cur) : g < W.heap.size := hB.lt

set_option maxRecDepth 100000 in
set_option maxHeartbeats 2000000 in
theorem exit_any (W : World) (S : Nat → Prop) (b : Nat) (hs : List Hold) (a who : Int) (h : LockObj W S b hs) (hreach : hs.length ≤ 1000000) :
    Calls Try.prog 9 #[.pointer (some ⟨b, 0, none⟩), .int .i64 a, .int .i64 who] W fun e W' => e = .returned (.int .i64 (exitL hs a who).1) ∧ LockObj W' (grow S W W') b (exitL hs a who).2 ∧ Touch S W W' := by
  have hfind := find_any (some ⟨b, 0, none⟩) a hs (by omega) W h.reads
  cases hi : idx hs a with
  | none =>
    have e1 : exitL hs a who = (28, hs) := by simp [exitL, hi]
    have e2 : findL hs a = -1 := by rw [findL_idx, hi]
    rw [e1]
    rw [e2] at hfind
    clear e1 e2 hi
    go_enter Try.func9, Try.ntmps9
    go_wp2_with (go_at_call 21; refine hfind.mono ?_; rintro e w1 ⟨rfl, hb⟩; obtain ⟨hbS, v, hv, hr⟩ := h.below hb; have hTB := Lib.hid hb; clear hb)
    go_ret
    exact ⟨rfl, ⟨.inl h.1, _, hv, hr.mono (fun k hk => .inl hk)⟩, Touch.of_below hTB.out⟩
  | some i =>
    obtain ⟨hil, hia⟩ := idx_lt hi
    have e2 : findL hs a = (i : Int) := by rw [findL_idx, hi]
    rw [e2] at hfind
    obtain ⟨⟨xa, xw, xn⟩, hX⟩ : ∃ x, x = hs.getD i Hold.zero := ⟨_, rfl⟩
    by_cases hw : (hs.getD i Hold.zero).who = who
    · by_cases hz : wrap64 ((hs.getD i Hold.zero).n - 1) = 0
      · have e1 : exitL hs a who = (0, hs.take i ++ hs.drop (i + 1)) := by simp only [exitL, hi, if_pos hw, if_pos hz]
        rw [e1]
        clear e1 e2 hi
        rw [← hX] at hw hia hz
        dsimp only at hw hia hz
        subst hw hia
        have HX : Hid ((⟨xa, xw, xn⟩ : Hold) = hs.getD i Hold.zero) := hX
        clear hX
        have hzb : (wrap64 (xn - 1) == 0) = true := beq_iff_eq.2 hz
        clear hz
        have hD : ∀ (w1 : World) (g cap : Nat) (cur : Array Value), Blk w1 g 51 cur → hs.length ≤ cap → cap ≤ maxLen → cur.size = cap * 3 → cur.toList.take (hs.length * 3) = cellsH hs →
            Calls Try.prog 22 #[.slice (some ⟨g, 0, none⟩) hs.length cap, .int .i64 i, .int .i64 ((i : Int) + 1)] (w1.setCell ⟨g, i * 3 + 2, none⟩ (.int .i64 (wrap64 (xn - 1)))) fun e W' =>
              e = .returned (.slice (some ⟨g, 0, none⟩) (hs.length - 1) cap) ∧ ∃ cur', Blk W' g 51 cur' ∧ cur'.size = cap * 3 ∧ cur'.toList.take ((hs.length - 1) * 3) = cellsH (hs.take i ++ hs.drop (i + 1)) ∧ Touch (fun k => k = g) (w1.setCell ⟨g, i * 3 + 2, none⟩ (.int .i64 (wrap64 (xn - 1)))) W' := by
          intro w1 g cap cur hB hn hm hsz hx
          have hl : (hs.set i ⟨xa, xw, wrap64 (xn - 1)⟩).length = hs.length := by simp
          have hh := delete_any (w1.setCell ⟨g, i * 3 + 2, none⟩ (.int .i64 (wrap64 (xn - 1)))) g cap i (cur.setIfInBounds (i * 3 + 2) (.int .i64 (wrap64 (xn - 1)))) (hs.set i ⟨xa, xw, wrap64 (xn - 1)⟩) (hB.set _ _) (by rw [hl]; exact hn) hm (by simpa using hsz)
            (by rw [hl, Array.toList_setIfInBounds, List.take_set, hx, cellsH_set1 hs i 2 _ (.int .i64 (wrap64 (xn - 1))) hil (by rw [← HX.out]; rfl) (by omega)]) (by rw [hl]; exact hil)
          rw [hl] at hh
          have e : (hs.set i ⟨xa, xw, wrap64 (xn - 1)⟩).take i ++ (hs.set i ⟨xa, xw, wrap64 (xn - 1)⟩).drop (i + 1) = hs.take i ++ hs.drop (i + 1) := by
            rw [List.take_set_of_le (by omega), List.drop_set_of_lt (by omega)]
          rw [e] at hh
          exact hh
        have hD := Lib.hid hD
        go_enter Try.func9, Try.ntmps9
        go_wp2_with (first | (go_at_call 21; refine hfind.mono ?_; rintro e w1 ⟨rfl, hb⟩; obtain ⟨hbS, v, hv, hr⟩ := h.below hb; have hc := hv.cell; have hTB := Lib.hid hb; clear hb; obtain ⟨_, ⟨rfl, h0⟩ | ⟨g, cap, cur, rfl, hgS, hB, hn, hm, hsz, hx⟩⟩ := hr.open_; (exact absurd hil (by rw [h0]; omega)); have hc1 := (hB.cell (i * 3 + 1)).trans ((take_get hx _ (by omega)).trans (cellsH_get hs i 1 hil (by omega))); have hc2 := (hB.cell (i * 3 + 2)).trans ((take_get hx _ (by omega)).trans (cellsH_get hs i 2 hil (by omega))); rw [← HX.out] at hc1 hc2; simp only [Hold.cells, List.getElem?_cons_succ, List.getElem?_cons_zero] at hc1 hc2; have hf2 := hB.frozen (i * 3 + 2); have hsz' := Lib.hid hsz; clear hsz; have hx' := Lib.hid hx; clear hx) | (go_at_call 22; refine (hD.out w1 g cap cur hB hn hm hsz'.out hx'.out).mono ?_; rintro e w2 ⟨rfl, cur2, hB2, hs2, hx2, hT2⟩; have hv2 : Boxed w2 b _ _ := Boxed.touch_ (Blk.other (cs := #[_]) hv (hB.ne hv (by decide)).symm (i * 3 + 2) (.int .i64 (wrap64 (xn - 1)))) hT2 (hB.ne hv (by decide)).symm; have hc3 := hv2.cell; have hf3 := hv2.frozen; have hT2' := Lib.hid hT2; clear hT2; have hx2' := Lib.hid hx2; clear hx2; have hs2' := Lib.hid hs2; clear hs2))
        go_ret
        have hT : Touch S W w2 := ((Touch.of_below hTB.out).setCell (p := ⟨g, i * 3 + 2, none⟩) (.inl hgS) _).trans hT2'.out (fun k e => .inl (by rw [e]; exact hgS))
        have hl : (hs.take i ++ hs.drop (i + 1)).length = hs.length - 1 := by simp; omega
        refine ⟨rfl, ⟨.inl h.1, _, hv2.set _, ?_⟩, hT.setCell (.inl h.1) _⟩
        rw [hl]
        exact RowAt.mk_ (.inl hgS) (hB2.other (hB.ne hv (by decide)) _ _) (by omega) hm hs2'.out hx2'.out (by rw [cellsH_length, hl])
      · have e1 : exitL hs a who = (0, hs.set i ⟨a, who, wrap64 ((hs.getD i Hold.zero).n - 1)⟩) := by simp only [exitL, hi, if_pos hw, if_neg hz]
        rw [e1]
        clear e1 e2 hi
        rw [← hX] at hw hia hz ⊢
        dsimp only at hw hia hz ⊢
        subst hw hia
        have HX : Hid ((⟨xa, xw, xn⟩ : Hold) = hs.getD i Hold.zero) := hX
        clear hX
        have hzb : (wrap64 (xn - 1) == 0) = false := beq_eq_false_iff_ne.2 hz
        clear hz
        go_enter Try.func9, Try.ntmps9
        go_wp2_with (go_at_call 21; refine hfind.mono ?_; rintro e w1 ⟨rfl, hb⟩; obtain ⟨hbS, v, hv, hr⟩ := h.below hb; have hc := hv.cell; have hTB := Lib.hid hb; clear hb; obtain ⟨_, ⟨rfl, h0⟩ | ⟨g, cap, cur, rfl, hgS, hB, hn, hm, hsz, hx⟩⟩ := hr.open_; (exact absurd hil (by rw [h0]; omega)); have hc1 := (hB.cell (i * 3 + 1)).trans ((take_get hx _ (by omega)).trans (cellsH_get hs i 1 hil (by omega))); have hc2 := (hB.cell (i * 3 + 2)).trans ((take_get hx _ (by omega)).trans (cellsH_get hs i 2 hil (by omega))); rw [← HX.out] at hc1 hc2; simp only [Hold.cells, List.getElem?_cons_succ, List.getElem?_cons_zero] at hc1 hc2; have hf2 := hB.frozen (i * 3 + 2); have hsz' := Lib.hid hsz; clear hsz; have hx' := Lib.hid hx; clear hx)
        go_ret
        have hT : Touch S W w1 := Touch.of_below hTB.out
        refine ⟨rfl, ⟨.inl h.1, _, Blk.other (cs := #[_]) hv (hB.ne hv (by decide)).symm _ _, ?_⟩, hT.setCell (.inl hgS) _⟩
        exact (row_store hgS hB hn hm hsz'.out hx'.out i 2 _ _ hil (by rw [← HX.out]; rfl) (by omega)).mono (fun k hk => .inl hk)
    · have e1 : exitL hs a who = (28, hs) := by simp only [exitL, hi, if_neg hw]
      rw [e1]
      clear e1 e2 hi
      rw [← hX] at hw hia
      dsimp only at hw hia
      subst hia
      have HX : Hid ((⟨xa, xw, xn⟩ : Hold) = hs.getD i Hold.zero) := hX
      clear hX
      have hwb : (xw == who) = false := beq_eq_false_iff_ne.2 hw
      have hwb2 : (xw != who) = true := by simp [bne, hwb]
      go_enter Try.func9, Try.ntmps9
      go_wp2_with (go_at_call 21; refine hfind.mono ?_; rintro e w1 ⟨rfl, hb⟩; obtain ⟨hbS, v, hv, hr⟩ := h.below hb; have hc := hv.cell; have hTB := Lib.hid hb; clear hb; obtain ⟨_, ⟨rfl, h0⟩ | ⟨g, cap, cur, rfl, hgS, hB, hn, hm, hsz, hx⟩⟩ := hr.open_; (exact absurd hil (by rw [h0]; omega)); have hc1 := (hB.cell (i * 3 + 1)).trans ((take_get hx _ (by omega)).trans (cellsH_get hs i 1 hil (by omega))); rw [← HX.out] at hc1; simp only [Hold.cells, List.getElem?_cons_succ, List.getElem?_cons_zero] at hc1; have hsz' := Lib.hid hsz; clear hsz; have hx' := Lib.hid hx; clear hx)
      go_ret
      exact ⟨rfl, ⟨.inl h.1, _, hv, hr.mono (fun k hk => .inl hk)⟩, Touch.of_below hTB.out⟩

/-- What Owner answers. -/
def ownerL (hs : List Hold) (a : Int) : Int × Int × Bool := match idx hs a with | none => (0, 0, false) | some i => ((hs.getD i Hold.zero).who, (hs.getD i Hold.zero).n, true)

set_option maxRecDepth 100000 in
set_option maxHeartbeats 2000000 in
theorem owner_any (W : World) (S : Nat → Prop) (b : Nat) (hs : List Hold) (a : Int) (h : LockObj W S b hs) (hreach : hs.length ≤ 1000000) :
    Calls Try.prog 15 #[.pointer (some ⟨b, 0, none⟩), .int .i64 a] W fun e W' => e = .returned (.tuple #[.int .i64 (ownerL hs a).1, .int .i64 (ownerL hs a).2.1, .bool (ownerL hs a).2.2]) ∧ Below W.heap.size W W' := by
  have hfind := find_any (some ⟨b, 0, none⟩) a hs (by omega) W h.reads
  cases hi : idx hs a with
  | none =>
    have e1 : ownerL hs a = (0, 0, false) := by simp [ownerL, hi]
    have e2 : findL hs a = -1 := by rw [findL_idx, hi]
    rw [e1]
    rw [e2] at hfind
    clear e1 e2 hi
    go_enter Try.func15, Try.ntmps15
    go_wp2_with (go_at_call 21; refine hfind.mono ?_; rintro e w1 ⟨rfl, hb⟩)
    go_ret3
    exact ⟨rfl, ‹_›⟩
  | some i =>
    obtain ⟨hil, hia⟩ := idx_lt hi
    have e2 : findL hs a = (i : Int) := by rw [findL_idx, hi]
    rw [e2] at hfind
    have e1 : ownerL hs a = ((hs.getD i Hold.zero).who, (hs.getD i Hold.zero).n, true) := by simp [ownerL, hi]
    rw [e1]
    clear e1 e2 hi
    obtain ⟨⟨xa, xw, xn⟩, hX⟩ : ∃ x, x = hs.getD i Hold.zero := ⟨_, rfl⟩
    rw [← hX]
    have HX : Hid ((⟨xa, xw, xn⟩ : Hold) = hs.getD i Hold.zero) := hX
    clear hX hia
    dsimp only
    go_enter Try.func15, Try.ntmps15
    go_wp2_with (go_at_call 21; refine hfind.mono ?_; rintro e w1 ⟨rfl, hb⟩; obtain ⟨hbS, v, hv, hr⟩ := h.below hb; have hc := hv.cell; have hTB := Lib.hid hb; clear hb; obtain ⟨_, ⟨rfl, h0⟩ | ⟨g, cap, cur, rfl, hgS, hB, hn, hm, hsz, hx⟩⟩ := hr.open_; (exact absurd hil (by rw [h0]; omega)); have hc1 := (hB.cell (i * 3 + 1)).trans ((take_get hx _ (by omega)).trans (cellsH_get hs i 1 hil (by omega))); have hc2 := (hB.cell (i * 3 + 2)).trans ((take_get hx _ (by omega)).trans (cellsH_get hs i 2 hil (by omega))); rw [← HX.out] at hc1 hc2; simp only [Hold.cells, List.getElem?_cons_succ, List.getElem?_cons_zero] at hc1 hc2; have hsz' := Lib.hid hsz; clear hsz; have hx' := Lib.hid hx; clear hx)
    have hi1 : (0 : Int) ≤ (i : Int) := by omega
    have hi2 : (i : Int) < (hs.length : Int) := by omega
    go_quiet (fail)
    go_wp2
    go_ret3
    exact ⟨rfl, pw_below_drewN hTB.out _⟩
end Go.Proofs.Ytmlcififmjpcpaa
