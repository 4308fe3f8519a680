/-
  Locks as an object in memory: 'Enter', 'Owner', 'New'.
-/
import Derived.Test.YtmlcififmjpcpaaLockC
import Derived.WalkLawsBesides
import Derived.Deep.DeepMust
import Derived.Deep.DeepFit
import Derived.Lib.Hide
namespace Go.Proofs.Ytmlcififmjpcpaa
open Go.RowKit

theorem add_lit (g j : Nat) : (⟨g, 0, none⟩ : Addr).add j = ⟨g, j, none⟩ := by unfold Addr.add; split <;> simp_all
theorem news_new (W : World) (t : TypeId) (cs : List Value) : ∀ j u, cs[j]? = some u → (W.alloc (.cells cs.toArray t)).cell? ((⟨W.heap.size, 0, none⟩ : Addr).add j) = some u := fun j u hu => by
  rw [add_lit, (Blk.new W t cs.toArray).cell]; simpa using hu

def cellsH (hs : List Hold) : List Value := hs.flatMap Hold.cells
theorem cellsH_length (hs : List Hold) : (cellsH hs).length = hs.length * 3 := by
  induction hs with
  | nil => rfl
  | cons h r ih => simp only [cellsH, List.flatMap_cons, List.length_append, List.length_cons] at ih ⊢; simp only [Hold.cells, List.length_cons, List.length_nil]; omega
theorem cellsH_append (a b : List Hold) : cellsH (a ++ b) = cellsH a ++ cellsH b := by simp [cellsH]
theorem cellsH_one (h : Hold) : cellsH [h] = [.int .i64 h.a, .int .i64 h.who, .int .i64 h.n] := rfl
theorem cellsH_get (hs : List Hold) (j i : Nat) (hj : j < hs.length) (hi : i < 3) : (cellsH hs)[j * 3 + i]? = ((hs.getD j Hold.zero).cells)[i]? := by
  induction hs generalizing j with
  | nil => simp at hj
  | cons h r ih =>
    simp only [cellsH, List.flatMap_cons]
    cases j with
    | zero =>
      rw [List.getElem?_append_left (by simp [Hold.cells]; omega)]
      simp
    | succ j =>
      rw [List.getElem?_append_right (by simp [Hold.cells]; omega)]
      have := ih j (by simpa using hj)
      simp only [cellsH] at this
      rw [show (j + 1) * 3 + i - h.cells.length = j * 3 + i by simp [Hold.cells]; omega, this]
      simp
theorem cellsH_set (hs : List Hold) (j : Nat) (x : Hold) (hj : j < hs.length) : cellsH (hs.set j x) = (cellsH hs).take (j * 3) ++ x.cells ++ (cellsH hs).drop (j * 3 + 3) := by
  induction hs generalizing j with
  | nil => simp at hj
  | cons h r ih =>
    cases j with
    | zero => simp [cellsH, Hold.cells]
    | succ j =>
      have := ih j (by simpa using hj)
      simp only [cellsH, List.set_cons_succ, List.flatMap_cons] at this ⊢
      rw [this]
      rw [show (j + 1) * 3 = h.cells.length + j * 3 by simp [Hold.cells]; omega, List.take_length_add_append, show h.cells.length + j * 3 + 3 = h.cells.length + (j * 3 + 3) by omega, List.drop_length_add_append]
      simp

theorem cellsH_set1 (hs : List Hold) (j i : Nat) (x : Hold) (u : Value) (hj : j < hs.length) (hx : x.cells = (hs.getD j Hold.zero).cells.set i u) (hi : i < 3) : cellsH (hs.set j x) = (cellsH hs).set (j * 3 + i) u := by
  induction hs generalizing j with
  | nil => simp at hj
  | cons h r ih =>
    have hl : h.cells.length = 3 := rfl
    cases j with
    | zero =>
      simp only [cellsH, List.set_cons_zero, List.flatMap_cons]
      rw [List.set_append_left _ _ (by omega), hx]
      simp
    | succ j =>
      have := ih j (by simpa using hj) (by simpa using hx)
      simp only [cellsH, List.set_cons_succ, List.flatMap_cons] at this ⊢
      rw [this, List.set_append_right _ _ (by omega), hl, show (j + 1) * 3 + i - 3 = j * 3 + i by omega]

/-- One cell of a row of holds stored. -/
theorem row_store {W : World} {S : Nat → Prop} {g cap : Nat} {cur : Array Value} {hs : List Hold} (hS : S g) (hb : Blk W g 51 cur) (hn : hs.length ≤ cap) (hm : cap ≤ maxLen) (hsz : cur.size = cap * 3) (hx : cur.toList.take (hs.length * 3) = cellsH hs)
    (j i : Nat) (x : Hold) (u : Value) (hj : j < hs.length) (hxc : x.cells = (hs.getD j Hold.zero).cells.set i u) (hi : i < 3) :
    RowAt (W.setCell ⟨g, j * 3 + i, none⟩ u) S 51 3 (.slice (some ⟨g, 0, none⟩) hs.length cap) (hs.set j x).length (cellsH (hs.set j x)) := by
  have hlen : (hs.set j x).length = hs.length := by simp
  rw [hlen]
  refine RowAt.mk_ hS (hb.set _ u) hn hm (by simpa using hsz) ?_ (by rw [cellsH_length, hlen])
  rw [Array.toList_setIfInBounds, List.take_set, hx, cellsH_set1 hs j i x u hj hxc hi]

/-- Locks at block b hold hs; all that they own lies in S. -/
def LockObj (W : World) (S : Nat → Prop) (b : Nat) (hs : List Hold) : Prop :=
  S b ∧ ∃ v, Boxed W b 48 v ∧ RowAt W S 51 3 v hs.length (cellsH hs)

theorem Boxed.touch_ {S : Nat → Prop} {W W' : World} {B : Nat} {t : TypeId} {v : Value} (h : Boxed W B t v) (hb : Touch S W W') (hB : ¬ S B) : Boxed W' B t v := (hb.block B h.lt hB).trans h

theorem LockObj.touch {W W' : World} {S T : Nat → Prop} {b : Nat} {hs : List Hold} (h : LockObj W S b hs) (ht : Touch T W W') (hd : ∀ k, S k → T k → False) : LockObj W' S b hs := by
  obtain ⟨hb, v, hv, hr⟩ := h
  exact ⟨hb, v, Boxed.touch_ hv ht (fun hT => hd b hb hT), hr.touch ht hd⟩
theorem LockObj.below {W W' : World} {S : Nat → Prop} {b : Nat} {hs : List Hold} (h : LockObj W S b hs) (hb : Below W.heap.size W W') : LockObj W' S b hs :=
  h.touch (Touch.of_below (S := fun _ => False) hb) (fun _ _ hf => hf)

theorem HoldsV.of {W : World} {S : Nat → Prop} {v : Value} {hs : List Hold} (h : RowAt W S 51 3 v hs.length (cellsH hs)) : HoldsV W.heap.size W v hs := by
  obtain ⟨_, ⟨rfl, h0⟩ | ⟨g, cap, cur, rfl, _, hb, hn, hm, hsz, hx⟩⟩ := h.open_
  · exact .inl ⟨rfl, by simpa using h0⟩
  · refine .inr ⟨g, cap, rfl, hb.lt, fun j hj => ?_, fun j hj => ?_, fun j hj => ?_⟩
    · rw [hb.cell, take_get hx _ (by omega), show j * 3 = j * 3 + 0 by omega, cellsH_get hs j 0 hj (by omega)]; rfl
    · rw [hb.cell, take_get hx _ (by omega), cellsH_get hs j 1 hj (by omega)]; rfl
    · rw [hb.cell, take_get hx _ (by omega), cellsH_get hs j 2 hj (by omega)]; rfl
theorem LockObj.reads {W : World} {S : Nat → Prop} {b : Nat} {hs : List Hold} (h : LockObj W S b hs) : LocksP W.heap.size W (some ⟨b, 0, none⟩) hs := by
  obtain ⟨_, v, hv, hr⟩ := h
  exact .inr ⟨b, v, rfl, hv.lt, hv.cell, HoldsV.of hr⟩

theorem info_hold : (Try.prog.info? 51).map (fun i => (i.zero, i.size, i.bytes)) = some (some (.agg #[.int .i64 0, .int .i64 0, .int .i64 0]), 3, 24) := by kernel_rfl

def idx (hs : List Hold) (a : Int) : Option Nat := hs.findIdx? (fun h => h.a == a)
theorem findL_idx (hs : List Hold) (a : Int) : findL hs a = match idx hs a with | some i => (i : Int) | none => -1 := rfl
theorem idx_lt {hs : List Hold} {a : Int} {i : Nat} (h : idx hs a = some i) : i < hs.length ∧ (hs.getD i Hold.zero).a = a := by
  rw [idx, List.findIdx?_eq_some_iff_getElem] at h
  obtain ⟨h1, h2, _⟩ := h
  exact ⟨h1, by simp [h1]; simpa using h2⟩

/-- What Enter answers and leaves. -/
def enterL (hs : List Hold) (a who : Int) : Int × List Hold :=
  if a < 1 then (2, hs) else match idx hs a with
  | none => (0, hs ++ [⟨a, who, 1⟩])
  | some i => if (hs.getD i Hold.zero).who = who then (0, hs.set i ⟨a, who, wrap64 ((hs.getD i Hold.zero).n + 1)⟩) else (29, hs)

set_option maxRecDepth 100000 in
set_option maxHeartbeats 1000000 in
theorem enter_any (W : World) (S : Nat → Prop) (b : Nat) (hs : List Hold) (a who : Int) (h : LockObj W S b hs) (hreach : hs.length ≤ 1000000) :
    Calls Try.prog 8 #[.pointer (some ⟨b, 0, none⟩), .int .i64 a, .int .i64 who] W fun e W' => e = .returned (.int .i64 (enterL hs a who).1) ∧ LockObj W' (grow S W W') b (enterL hs a who).2 ∧ Touch S W W' := by
  have hfind := find_any (some ⟨b, 0, none⟩) a hs (by omega) W h.reads
  by_cases ha : a < 1
  · have e1 : enterL hs a who = (2, hs) := by simp [enterL, ha]
    rw [e1]
    clear e1
    have hab : decide (a < 1) = true := by simp; omega
    go_enter Try.func8, Try.ntmps8
    go_wp2_with (go_at_call 21; refine hfind.mono ?_; rintro e w1 ⟨rfl, hb⟩)
    go_ret
    refine ⟨rfl, ?_, Touch.of_below ?_⟩
    · obtain ⟨hb1, v, hv, hr⟩ := h.below ‹Below W.heap.size W _›
      exact ⟨.inl hb1, v, hv, hr.mono (fun k hk => .inl hk)⟩
    · assumption
  · cases hi : idx hs a with
    | none =>
      have e1 : enterL hs a who = (0, hs ++ [⟨a, who, 1⟩]) := by simp [enterL, ha, hi]
      have e2 : findL hs a = -1 := by rw [findL_idx, hi]
      rw [e1]
      rw [e2] at hfind
      clear e1 e2 hi
      obtain ⟨i0, hi, hz0, hz1, hz2⟩ := info_parts info_hold
      have hab : decide (a < 1) = false := by simp; omega
      go_enter Try.func8, Try.ntmps8
      go_wp2_with (first | (go_at_call 21; refine hfind.mono ?_; rintro e w1 ⟨rfl, hb⟩; obtain ⟨hbS, v, hv, hr⟩ := h.below hb; have hc := hv.cell; have hTB := Lib.hid hb; clear hb) | (at_builtin; go_loud (refine wpList_append_own_at _ rfl _ _ 46 rfl 0 51 i0 (.agg #[.int .i64 0, .int .i64 0, .int .i64 0]) 3 24 Try.underlying46 hi hz0 hz1 hz2 rfl (by decide) v hs.length _ rfl (hr.1.alloc _) ⟨w1.heap.size, 0, none⟩ 1 1 [.int .i64 a, .int .i64 who, .int .i64 1] rfl rfl (news_new _ _ _) (by simp [Value.oneCell']) (by unfold maxLen; omega) (by omega) (by omega) ?_); intro v' w2 hown' hgrow _ hat; obtain ⟨hr2, hT2⟩ := hr.appended hown' hgrow hat; obtain ⟨g', cap', rfl⟩ := ownsRow_succ hown'; have hv2 := (hv.alloc _).kept hgrow (hv.not_row (by decide) hr.1); have hc2 := hv2.cell; have hf2 := hv2.frozen))
      go_ret
      have hb := hTB.out
      have hsz := hb.size
      have hsz2 := hT2.size
      have hT : Touch S W w2 := (Touch.of_below hb).trans hT2 (fun i hi => .inl hi)
      refine ⟨rfl, ⟨.inl h.1, _, hv2.set _, ?_⟩, hT.setCell (.inl h.1) _⟩
      rw [cellsH_append, cellsH_one, List.length_append]
      exact ((hr2.setOther (hv2.not_row (by decide) hown') 0 _).mono (fun k hk => by rcases grow_mono hsz k hk with h1 | h1; exact .inl h1; exact .inr ⟨h1.1, by simpa [World.setCell] using h1.2⟩))
    | some i =>
      obtain ⟨hil, hia⟩ := idx_lt hi
      have e2 : findL hs a = (i : Int) := by rw [findL_idx, hi]
      rw [e2] at hfind
      have hab : decide (a < 1) = false := by simp; omega
      by_cases hw : (hs.getD i Hold.zero).who = who
      · have e1 : enterL hs a who = (0, hs.set i ⟨a, who, wrap64 ((hs.getD i Hold.zero).n + 1)⟩) := by simp only [enterL, if_neg ha, hi, if_pos hw]
        rw [e1]
        clear e1 e2 hi
        obtain ⟨⟨xa, xw, xn⟩, hX⟩ : ∃ x, x = hs.getD i Hold.zero := ⟨_, rfl⟩
        rw [← hX] at hw hia
        dsimp only at hw hia
        subst hw hia
        rw [← hX]
        dsimp only
        have HX : Hid ((⟨xa, xw, xn⟩ : Hold) = hs.getD i Hold.zero) := hX
        clear hX
        go_enter Try.func8, Try.ntmps8
        go_wp2_with (go_at_call 21; refine hfind.mono ?_; rintro e w1 ⟨rfl, hb⟩; obtain ⟨hbS, v, hv, hr⟩ := h.below hb; have hc := hv.cell; have hTB := Lib.hid hb; clear hb; obtain ⟨_, ⟨rfl, h0⟩ | ⟨g, cap, cur, rfl, hgS, hB, hn, hm, hsz, hx⟩⟩ := hr.open_; (exact absurd hil (by rw [h0]; omega)); have hc1 := (hB.cell (i * 3 + 1)).trans ((take_get hx _ (by omega)).trans (cellsH_get hs i 1 hil (by omega))); have hc2 := (hB.cell (i * 3 + 2)).trans ((take_get hx _ (by omega)).trans (cellsH_get hs i 2 hil (by omega))); rw [← HX.out] at hc1 hc2; simp only [Hold.cells, List.getElem?_cons_succ, List.getElem?_cons_zero] at hc1 hc2; have hf2 := hB.frozen (i * 3 + 2); have hsz' := Lib.hid hsz; clear hsz; have hx' := Lib.hid hx; clear hx)
        go_ret
        have hb := hTB.out
        have hT : Touch S W w1 := Touch.of_below hb
        refine ⟨rfl, ⟨.inl h.1, _, Blk.other (cs := #[_]) hv (hB.ne hv (by decide)).symm _ _, ?_⟩, hT.setCell (.inl hgS) _⟩
        exact (row_store hgS hB hn hm hsz'.out hx'.out i 2 _ _ hil (by rw [← HX.out]; rfl) (by omega)).mono (fun k hk => .inl hk)
      · have e1 : enterL hs a who = (29, hs) := by simp only [enterL, if_neg ha, hi, if_neg hw]
        rw [e1]
        clear e1 e2 hi
        obtain ⟨⟨xa, xw, xn⟩, hX⟩ : ∃ x, x = hs.getD i Hold.zero := ⟨_, rfl⟩
        rw [← hX] at hw hia
        dsimp only at hw hia
        subst hia
        have HX : Hid ((⟨xa, xw, xn⟩ : Hold) = hs.getD i Hold.zero) := hX
        clear hX
        have hwb : (xw == who) = false := beq_eq_false_iff_ne.2 hw
        have hwb2 : (xw != who) = true := by simp [bne, hwb]
        go_enter Try.func8, Try.ntmps8
        go_wp2_with (go_at_call 21; refine hfind.mono ?_; rintro e w1 ⟨rfl, hb⟩; obtain ⟨hbS, v, hv, hr⟩ := h.below hb; have hc := hv.cell; have hTB := Lib.hid hb; clear hb; obtain ⟨_, ⟨rfl, h0⟩ | ⟨g, cap, cur, rfl, hgS, hB, hn, hm, hsz, hx⟩⟩ := hr.open_; (exact absurd hil (by rw [h0]; omega)); have hc1 := (hB.cell (i * 3 + 1)).trans ((take_get hx _ (by omega)).trans (cellsH_get hs i 1 hil (by omega))); rw [← HX.out] at hc1; simp only [Hold.cells, List.getElem?_cons_succ, List.getElem?_cons_zero] at hc1; have hsz' := Lib.hid hsz; clear hsz; have hx' := Lib.hid hx; clear hx)
        go_ret
        have hb := hTB.out
        exact ⟨rfl, ⟨.inl h.1, _, hv, hr.mono (fun k hk => .inl hk)⟩, Touch.of_below hb⟩
end Go.Proofs.Ytmlcififmjpcpaa
