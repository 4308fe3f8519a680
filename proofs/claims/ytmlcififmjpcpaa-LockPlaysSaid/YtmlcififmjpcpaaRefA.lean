/-
  The document's locks: an object of holds in a list; 'find', 'Owner', 'Of', 'Held'.
-/
import Derived.Test.YtmlcififmjpcpaaLockSame
import Derived.Test.YtmlcififmjpcpaaOwn
import Derived.Deep.QuietTactic
import Derived.BigQuiet
namespace Go.Proofs.Ytmlcififmjpcpaa
open Go.RowKit
set_option linter.unusedVariables false

def RefObj (W : World) (S : Nat → Prop) (b : Nat) (hs : List Hold) : Prop :=
  S b ∧ ∃ v, Boxed W b 39 v ∧ RowAt W S 60 3 v hs.length (cellsH hs)
theorem RefObj.touch {W W' : World} {S T : Nat → Prop} {b : Nat} {hs : List Hold} (h : RefObj W S b hs) (ht : Touch T W W') (hd : ∀ k, S k → T k → False) : RefObj W' S b hs := by
  obtain ⟨hb, v, hv, hr⟩ := h
  exact ⟨hb, v, Boxed.touch_ hv ht (fun hT => hd b hb hT), hr.touch ht hd⟩
theorem RefObj.below {W W' : World} {S : Nat → Prop} {b : Nat} {hs : List Hold} (h : RefObj W S b hs) (hb : Below W.heap.size W W') : RefObj W' S b hs :=
  h.touch (Touch.of_below (S := fun _ => False) hb) (fun _ _ hf => hf)
theorem RefObj.mono {W : World} {S T : Nat → Prop} {b : Nat} {hs : List Hold} (h : RefObj W S b hs) (hST : ∀ k, S k → T k) : RefObj W T b hs := by
  obtain ⟨hb, v, hv, hr⟩ := h
  exact ⟨hST _ hb, v, hv, hr.mono hST⟩

/-- What reads of such an object find. -/
def RefR (W : World) (b : Nat) (hs : List Hold) : Prop :=
  ∃ A cap, W.cell? ⟨b, 0, none⟩ = some (.slice A hs.length cap) ∧ (hs.length : Int) ≤ cap ∧ ∀ k, k < hs.length → ∃ g, A = some ⟨g, 0, none⟩ ∧ W.cell? ⟨g, k * 3, none⟩ = some (.int .i64 (hs.getD k Hold.zero).a) ∧ W.cell? ⟨g, k * 3 + 1, none⟩ = some (.int .i64 (hs.getD k Hold.zero).who) ∧ W.cell? ⟨g, k * 3 + 2, none⟩ = some (.int .i64 (hs.getD k Hold.zero).n)
theorem RefObj.reads {W : World} {S : Nat → Prop} {b : Nat} {hs : List Hold} (h : RefObj W S b hs) : RefR W b hs := by
  obtain ⟨_, v, hv, hr⟩ := h
  obtain ⟨_, ⟨rfl, h0⟩ | ⟨g, cap, cur, rfl, _, hb, hn, hm, hsz, hx⟩⟩ := hr.open_
  · exact ⟨none, 0, by rw [h0]; exact hv.cell, by omega, fun k hk => by omega⟩
  · refine ⟨_, cap, hv.cell, by omega, fun k hk => ⟨g, rfl, ?_, ?_, ?_⟩⟩
    · rw [hb.cell, take_get hx _ (by omega), show k * 3 = k * 3 + 0 by omega, cellsH_get hs k 0 hk (by omega)]; rfl
    · rw [hb.cell, take_get hx _ (by omega), cellsH_get hs k 1 hk (by omega)]; rfl
    · rw [hb.cell, take_get hx _ (by omega), cellsH_get hs k 2 hk (by omega)]; rfl
theorem RefR.below {W W' : World} {b : Nat} {hs : List Hold} (h : RefR W b hs) (hb : Below W.heap.size W W') : RefR W' b hs := by
  obtain ⟨A, cap, h1, h2, h3⟩ := h
  exact ⟨A, cap, cell_at_below hb h1, h2, fun k hk => by obtain ⟨g, e, a, b, c⟩ := h3 k hk; exact ⟨g, e, cell_at_below hb a, cell_at_below hb b, cell_at_below hb c⟩⟩

set_option maxRecDepth 100000 in
set_option maxHeartbeats 1000000 in
theorem rfind_any (W : World) (b : Nat) (hs : List Hold) (a : Int) (h : RefR W b hs) (hl : hs.length ≤ 1000000) :
    Calls Try.prog 30 #[.pointer (some ⟨b, 0, none⟩), .int .i64 a] W fun e W' => e = .returned (.int .i64 (findL hs a)) ∧ Below W.heap.size W W' := by
  have H := Lib.hid h
  clear h
  go_enter Try.func30, Try.ntmps30
  go_wp2
  go_loopw [5] (fun i wr => ∃ k : Nat, k ≤ hs.length ∧ i = .int .i64 k ∧ Hid (∀ j, j < k → (hs.getD j Hold.zero).a ≠ a) ∧ Hid (Below W.heap.size W wr)) (fun i _ => hs.length - (intOf i).toNat)
  case atStart => exact ⟨0, by omega, rfl, fun j hj => by omega, Below.refl _ _⟩
  case round =>
    obtain ⟨k, hk, rfl, hno, hb⟩ := hrel
    obtain ⟨A, cap, hc, hcap, hrow⟩ := H.out.below hb.out
    have HROW := Lib.hid hrow
    clear hrow
    by_cases hlt : k < hs.length
    · obtain ⟨g, rfl, hc0, -, -⟩ := HROW.out k hlt
      have hkl : (k : Int) < (hs.length : Int) := by omega
      have hk0 : (0 : Int) ≤ (k : Int) := by omega
      obtain ⟨x, hx'⟩ : ∃ x, x = (hs.getD k Hold.zero).a := ⟨_, rfl⟩
      rw [← hx'] at hc0
      by_cases hx : x = a
      · have HX := Lib.hid (hx'.symm.trans hx)
        have hxb : (x == a) = true := by simp [hx]
        clear hx hx'
        go_wp2
        go_ret
        refine ⟨?_, hb.out⟩
        rw [findL_at hlt HX.out hno.out]
        rfl
      · have HX := Lib.hid (fun e => hx (hx'.trans e))
        have hxb : (x == a) = false := by simp [hx]
        clear hx hx'
        go_wp2
        go_roundw
        case rel => exact ⟨k + 1, by omega, by go_num, fun j hj => by rcases Nat.lt_succ_iff_lt_or_eq.1 hj with h | h; exact hno.out j h; subst h; exact HX.out, hb.out⟩
        case measure => simp [intOf]; omega
    · have hkb : decide (k < hs.length) = false := by simp; omega
      have hke : k = hs.length := by omega
      have HKE := Lib.hid hke
      clear hlt hke
      go_wp2
      go_ret
      refine ⟨?_, hb.out⟩
      rw [findL_none (fun j hj => hno.out j (by have := HKE.out; omega))]
      rfl

set_option maxRecDepth 100000 in
set_option maxHeartbeats 2000000 in
theorem rowner_any (W : World) (b : Nat) (hs : List Hold) (a : Int) (h : RefR W b hs) (hl : hs.length ≤ 1000000) :
    Calls Try.prog 16 #[.pointer (some ⟨b, 0, none⟩), .int .i64 a] W fun e W' => e = .returned (.tuple #[.int .i64 (ownerL hs a).1, .int .i64 (ownerL hs a).2.1, .bool (ownerL hs a).2.2]) ∧ Below W.heap.size W W' := by
  have hfind := rfind_any W b hs a h hl
  cases hi : idx hs a with
  | none =>
    have e1 : ownerL hs a = (0, 0, false) := by simp [ownerL, hi]
    have e2 : findL hs a = -1 := by rw [findL_idx, hi]
    rw [e1]
    rw [e2] at hfind
    clear e1 e2 hi
    go_enter Try.func16, Try.ntmps16
    go_wp2_with (go_at_call 30; refine hfind.mono ?_; rintro e w1 ⟨rfl, hb⟩)
    go_ret3
    exact ⟨rfl, ‹_›⟩
  | some i =>
    obtain ⟨hil, hia⟩ := idx_lt hi
    have e2 : findL hs a = (i : Int) := by rw [findL_idx, hi]
    rw [e2] at hfind
    have e1 : ownerL hs a = ((hs.getD i Hold.zero).who, (hs.getD i Hold.zero).n, true) := by simp [ownerL, hi]
    rw [e1]
    clear e1 e2 hi
    obtain ⟨⟨xa, xw, xn⟩, hX⟩ : ∃ x, x = hs.getD i Hold.zero := ⟨_, rfl⟩
    rw [← hX]
    have HX : Hid ((⟨xa, xw, xn⟩ : Hold) = hs.getD i Hold.zero) := hX
    clear hX hia
    dsimp only
    have hi1 : (0 : Int) ≤ (i : Int) := by omega
    have hi2 : (i : Int) < (hs.length : Int) := by omega
    go_enter Try.func16, Try.ntmps16
    go_wp2_with (go_at_call 30; refine hfind.mono ?_; rintro e w1 ⟨rfl, hb⟩; obtain ⟨A, cap, hc, hcap, hrow⟩ := h.below hb; have hTB := Lib.hid hb; clear hb; obtain ⟨g, rfl, hc0, hc1, hc2⟩ := hrow i hil; rw [← HX.out] at hc0 hc1 hc2; dsimp only at hc0 hc1 hc2; clear hrow)
    go_quiet (fail)
    go_wp2
    go_ret3
    exact ⟨rfl, pw_below_drewN hTB.out _⟩

theorem ofL_take {hs : List Hold} {who : Int} {k : Nat} (hk : k < hs.length) : ofL (hs.take (k + 1)) who = ofL (hs.take k) who + (if (hs.getD k Hold.zero).who = who then 1 else 0) := by
  rw [List.take_succ_eq_append_getElem hk, show hs.getD k Hold.zero = hs[k] by simp [hk]]
  unfold ofL
  rw [List.filter_append, List.length_append]
  congr 1
  by_cases h : hs[k].who = who <;> simp [h]
theorem ofL_take_le (hs : List Hold) (who : Int) (k : Nat) : ofL (hs.take k) who ≤ hs.length := by
  unfold ofL
  exact Nat.le_trans (List.length_filter_le _ _) (by simp; omega)

set_option maxRecDepth 100000 in
set_option maxHeartbeats 1000000 in
theorem rof_any (W : World) (b : Nat) (hs : List Hold) (a : Int) (h : RefR W b hs) (hl : hs.length ≤ 1000000) :
    Calls Try.prog 19 #[.pointer (some ⟨b, 0, none⟩), .int .i64 a] W fun e W' => e = .returned (.int .i64 (ofL hs a : Nat)) ∧ Below W.heap.size W W' := by
  have H := Lib.hid h
  clear h
  go_enter Try.func19, Try.ntmps19
  go_wp2
  go_loopw [5, 6] (fun n i wr => ∃ k : Nat, k ≤ hs.length ∧ n = .int .i64 (ofL (hs.take k) a : Nat) ∧ i = .int .i64 k ∧ Hid (Below W.heap.size W wr)) (fun _ i _ => hs.length - (intOf i).toNat)
  case atStart => exact ⟨0, by omega, rfl, rfl, Below.refl _ _⟩
  case round =>
    obtain ⟨k, hk, rfl, rfl, hb⟩ := hrel
    obtain ⟨A, cap, hc, hcap, hrow⟩ := H.out.below hb.out
    have HROW := Lib.hid hrow
    clear hrow
    by_cases hlt : k < hs.length
    · obtain ⟨g, rfl, -, hc1, -⟩ := HROW.out k hlt
      have hkl : (k : Int) < (hs.length : Int) := by omega
      have hk0 : (0 : Int) ≤ (k : Int) := by omega
      have hT := ofL_take (who := a) hlt
      have hle := ofL_take_le hs a k
      obtain ⟨x, hx'⟩ : ∃ x, x = (hs.getD k Hold.zero).who := ⟨_, rfl⟩
      rw [← hx'] at hc1 hT
      obtain ⟨m, hm⟩ : ∃ m, m = ofL (hs.take k) a := ⟨_, rfl⟩
      rw [← hm] at hT hle ⊢
      clear hm hx'
      have hm0 : (0 : Int) ≤ (m : Int) := by omega
      have hm1 : (m : Int) ≤ 1000000 := by omega
      by_cases hx : x = a
      · rw [if_pos hx] at hT
        have HT := Lib.hid hT
        have hxb : (x == a) = true := by simp [hx]
        clear hx hT
        go_wp2
        go_roundw
        case rel => exact ⟨k + 1, by omega, by rw [HT.out]; go_num, by go_num, hb.out⟩
        case measure => simp [intOf]; omega
      · rw [if_neg hx] at hT
        have HT := Lib.hid hT
        have hxb : (x == a) = false := by simp [hx]
        clear hx hT
        go_wp2
        go_roundw
        case rel => exact ⟨k + 1, by omega, by rw [HT.out]; go_num, by go_num, hb.out⟩
        case measure => simp [intOf]; omega
    · have hkb : decide (k < hs.length) = false := by simp; omega
      have hke : k = hs.length := by omega
      have HKE := Lib.hid hke
      clear hlt hke
      go_wp2
      go_ret
      refine ⟨?_, hb.out⟩
      rw [HKE.out, List.take_length]
      rfl

set_option maxRecDepth 100000 in
set_option maxHeartbeats 1000000 in
theorem rheld_any (W : World) (b : Nat) (hs : List Hold) (h : RefR W b hs) (hl : hs.length ≤ 1000000) :
    Calls Try.prog 17 #[.pointer (some ⟨b, 0, none⟩)] W fun e W' => ∃ v, e = .returned v ∧ W'.ownsRow W.heap.size 2 1 v hs.length (hs.map (fun h => Value.int .i64 h.a)) ∧ Below W.heap.size W W' := by
  have H := Lib.hid h
  clear h
  obtain ⟨i0, hi, hz0, hz1, hz2⟩ := info_parts info_int64
  go_enter Try.func17, Try.ntmps17
  go_wp2
  go_loopw [3, 4] (fun v i wr => ∃ k : Nat, k ≤ hs.length ∧ i = .int .i64 k ∧ Hid (wr.ownsRow W.heap.size 2 1 v k ((hs.take k).map (fun h => Value.int .i64 h.a))) ∧ Hid (Below W.heap.size W wr)) (fun _ i _ => hs.length - (intOf i).toNat)
  case atStart => exact ⟨0, by omega, rfl, World.ownsRow_nil _ _ _ _, Below.refl _ _⟩
  case round =>
    obtain ⟨k, hk, rfl, hown, hb⟩ := hrel
    obtain ⟨A, cap, hc, hcap, hrow⟩ := H.out.below hb.out
    have HROW := Lib.hid hrow
    clear hrow
    by_cases hlt : k < hs.length
    · obtain ⟨g, rfl, hc0, -, -⟩ := HROW.out k hlt
      have hkl : (k : Int) < (hs.length : Int) := by omega
      have hk0 : (0 : Int) ≤ (k : Int) := by omega
      obtain ⟨x, hx'⟩ : ∃ x, x = (hs.getD k Hold.zero).a := ⟨_, rfl⟩
      rw [← hx'] at hc0
      have HX := Lib.hid hx'
      clear hx'
      go_wp2_with (at_builtin; go_loud (refine wpList_append_own_at _ rfl _ _ 25 rfl W.heap.size 2 i0 (.int .i64 0) 1 8 Try.underlying25 hi hz0 hz1 hz2 rfl (by decide) _ k _ rfl (hown.out.alloc _) ⟨_, 0, none⟩ 1 1 [.int .i64 x] rfl rfl (news_at' _ _ _ _ (by simp)) (by simp [Value.oneCell']) (by unfold maxLen; omega) (by omega) (by have := hb.out.size; simp; omega) ?_); intro v' w2 hown' hgrow _ hat; have B2 := Lib.hid (below_append hown.out hb.out hb.out.size hgrow); have O2 := Lib.hid hown'; clear hown' hgrow hat)
      go_roundw
      case rel =>
        refine ⟨k + 1, by omega, by go_num, ?_, B2.out⟩
        have e : (hs.take (k + 1)).map (fun h => Value.int .i64 h.a) = (hs.take k).map (fun h => Value.int .i64 h.a) ++ [.int .i64 x] := by
          rw [List.take_succ_eq_append_getElem hlt, List.map_append, HX.out]
          simp [hlt]
        rw [e]
        exact O2.out
      case measure => simp [intOf]; omega
    · have hkb : decide (k < hs.length) = false := by simp; omega
      have hke : k = hs.length := by omega
      have HKE := Lib.hid hke
      clear hlt hke
      go_wp2
      go_ret
      have ho := hown.out
      rw [HKE.out, List.take_length] at ho
      exact ⟨_, rfl, ho, hb.out⟩
end Go.Proofs.Ytmlcififmjpcpaa
