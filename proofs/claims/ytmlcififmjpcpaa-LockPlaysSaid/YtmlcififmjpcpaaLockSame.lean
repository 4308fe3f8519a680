/-
  The reference's 'Same' at two slices of int64; two objects of locks at once.
-/
import Derived.Test.YtmlcififmjpcpaaLockH
import Derived.Test.YtmlcififmjpcpaaLockOften
import Derived.Deep.QuietTactic
import Derived.BigQuiet
namespace Go.Proofs.Ytmlcififmjpcpaa
open Go.RowKit
set_option linter.unusedVariables false

theorem ints_slice {w : World} {v : Value} {xs : List Int} (h : RSlice (Kint .i64) 1 w v xs) : ∃ A cap, v = .slice A xs.length cap := by
  rcases h with ⟨rfl, rfl⟩ | ⟨A, cap, rfl, _⟩
  · exact ⟨none, 0, rfl⟩
  · exact ⟨_, _, rfl⟩
theorem ints_at {w w1 : World} (hb : Below w.heap.size w w1) {v : Value} {xs : List Int} (h : RSlice (Kint .i64) 1 w v xs) {k : Nat} (hk : k < xs.length) : ∃ A cap, v = .slice (some A) xs.length cap ∧ w1.cell? (A.add k) = some (.int .i64 (xs.getD k 0)) := by
  rcases h with ⟨rfl, rfl⟩ | ⟨A, cap, rfl, hl, hm, hx'⟩
  · simp at hk
  · obtain ⟨cs, hcl, hK, hc⟩ := hx' k _ (List.getElem?_eq_getElem hk)
    obtain rfl : cs = [.int .i64 xs[k]] := hK
    refine ⟨A, cap, rfl, ?_⟩
    have := hc 0 _ rfl
    rw [Nat.mul_one, Nat.add_zero] at this
    rw [List.getD_eq_getElem?_getD, List.getElem?_eq_getElem hk]
    exact cell_at_below hb this
theorem ints_of_own {w : World} {base e n : Nat} {v : Value} {xs : List Int} (h : w.ownsRow base e 1 v n (xs.map (Value.int .i64))) (hn : n = xs.length) : RSlice (Kint .i64) 1 w v xs := by
  subst hn
  rcases h.2 with ⟨rfl, h0⟩ | ⟨g, cap, cur, rfl, hg, hh, hn, hm, hsz, hx⟩
  · exact .inl ⟨rfl, List.length_eq_zero_iff.1 h0⟩
  · refine .inr ⟨_, cap, rfl, hn, hm, fun j x hj => ⟨[.int .i64 x], rfl, rfl, fun i u hu => ?_⟩⟩
    have hi : i = 0 := by have := (List.getElem?_eq_some_iff.1 hu).1; simp at this; omega
    subst hi
    simp at hu
    subst hu
    have hjl : j < xs.length := (List.getElem?_eq_some_iff.1 hj).1
    rw [Nat.mul_one, Nat.add_zero, add_lit, (show Blk w g e cur from hh).cell, take_get hx _ (by omega), List.getElem?_map, hj]
    rfl

set_option maxRecDepth 100000 in
set_option maxHeartbeats 1000000 in
theorem same_any (W : World) (v1 v2 : Value) (xs ys : List Int) (h1 : RSlice (Kint .i64) 1 W v1 xs) (h2 : RSlice (Kint .i64) 1 W v2 ys) (hl : xs.length ≤ 1000000000) (hl2 : ys.length ≤ 1000000000) :
    Calls Try.prog 12 #[v1, v2] W fun e w' => e = .returned (.bool (decide (xs = ys))) ∧ Below W.heap.size W w' := by
  obtain ⟨A1, c1, rfl⟩ := ints_slice h1
  obtain ⟨A2, c2, rfl⟩ := ints_slice h2
  have H1 := Lib.hid h1
  have H2 := Lib.hid h2
  clear h1 h2
  by_cases hne : xs.length = ys.length
  · have hneb : ((xs.length : Int) != (ys.length : Int)) = false := by simp [hne]
    have HNE := Lib.hid hne
    clear hne
    go_enter Try.func12, Try.ntmps12
    go_wp2
    go_loopw [5] (fun i wr => ∃ k : Nat, k ≤ xs.length ∧ i = .int .i64 k ∧ Hid (∀ j, j < k → xs.getD j 0 = ys.getD j 0) ∧ Hid (Below W.heap.size W wr)) (fun i _ => xs.length - (intOf i).toNat)
    case atStart => exact ⟨0, by omega, rfl, fun j hj => by omega, Below.refl _ _⟩
    case round =>
      obtain ⟨k, hk, rfl, hno, hb⟩ := hrel
      by_cases hlt : k < xs.length
      · obtain ⟨B1, d1, e1, hc1⟩ := ints_at hb.out H1.out hlt
        obtain ⟨B2, d2, e2, hc2⟩ := ints_at hb.out H2.out (k := k) (by rw [← HNE.out]; exact hlt)
        obtain ⟨rfl, -, rfl⟩ := Value.slice.inj e1
        obtain ⟨rfl, -, rfl⟩ := Value.slice.inj e2
        clear e1 e2
        have hkl : (k : Int) < (xs.length : Int) := by omega
        have hkl2 : (k : Int) < (ys.length : Int) := by have := HNE.out; omega
        have hk0 : (0 : Int) ≤ (k : Int) := by omega
        by_cases hx : xs.getD k 0 = ys.getD k 0
        · have HX := Lib.hid hx
          obtain ⟨x, hx'⟩ : ∃ x, x = xs.getD k 0 := ⟨_, rfl⟩
          obtain ⟨y, hy'⟩ : ∃ y, y = ys.getD k 0 := ⟨_, rfl⟩
          rw [← hx'] at hc1 hx
          rw [← hy'] at hc2 hx
          have hxb : (x != y) = false := by simp [hx]
          clear hx hx' hy'
          go_wp2
          go_quiet (fail)
          go_wp2
          go_roundw
          case rel => exact ⟨k + 1, by omega, by go_num, fun j hj => by rcases Nat.lt_succ_iff_lt_or_eq.1 hj with h | h; exact hno.out j h; subst h; exact HX.out, pw_below_drewN hb.out _⟩
          case measure => simp [intOf]; omega
        · have HX := Lib.hid hx
          obtain ⟨x, hx'⟩ : ∃ x, x = xs.getD k 0 := ⟨_, rfl⟩
          obtain ⟨y, hy'⟩ : ∃ y, y = ys.getD k 0 := ⟨_, rfl⟩
          rw [← hx'] at hc1 hx
          rw [← hy'] at hc2 hx
          have hxb : (x != y) = true := by simp [hx]
          clear hx hx' hy'
          go_wp2
          go_quiet (fail)
          go_wp2
          go_ret
          refine ⟨?_, pw_below_drewN hb.out _⟩
          rw [decide_eq_false (fun e => HX.out (by rw [e]))]
          rfl
      · have hkb : decide (k < xs.length) = false := by simp; omega
        have hke : k = xs.length := by omega
        have HKE := Lib.hid hke
        clear hlt hke
        go_wp2
        go_ret
        refine ⟨?_, hb.out⟩
        have e : xs = ys := by
          apply List.ext_getElem HNE.out
          intro i h1 h2
          have := hno.out i (by have := HKE.out; omega)
          simpa [List.getD_eq_getElem?_getD, List.getElem?_eq_getElem h1, List.getElem?_eq_getElem h2] using this
        rw [decide_eq_true e]
        rfl
  · have hneb : ((xs.length : Int) != (ys.length : Int)) = true := by simp; omega
    have e : decide (xs = ys) = false := decide_eq_false (fun e => hne (by rw [e]))
    rw [e]
    clear e hne
    go_enter Try.func12, Try.ntmps12
    go_wp2
    go_ret
    exact ⟨rfl, Below.refl _ _⟩

/-- Two objects of locks, apart. -/
def LK2 (w0 : World) (b : Nat) (hs : List Hold) (c : Nat) (ms : List Hold) (w : World) : Prop :=
  ∃ S T, LockObj w S b hs ∧ LockObj w T c ms ∧ (∀ k, S k → T k → False) ∧ (∀ k, S k → w0.heap.size ≤ k) ∧ (∀ k, S k → k < w.heap.size) ∧ (∀ k, T k → w0.heap.size ≤ k) ∧ (∀ k, T k → k < w.heap.size) ∧ Below w0.heap.size w0 w
theorem LK2.swap {w0 w : World} {b c : Nat} {hs ms : List Hold} (h : LK2 w0 b hs c ms w) : LK2 w0 c ms b hs w := by
  obtain ⟨S, T, h1, h2, h3, h4, h5, h6, h7, h8⟩ := h
  exact ⟨T, S, h2, h1, fun k a b => h3 k b a, h6, h7, h4, h5, h8⟩
theorem LK2.step {w0 w w' : World} {b c : Nat} {hs' ms : List Hold} {S T : Nat → Prop} (h1 : LockObj w' (grow S w w') b hs') (ht : Touch S w w') (h2 : LockObj w T c ms) (h3 : ∀ k, S k → T k → False) (h4 : ∀ k, S k → w0.heap.size ≤ k) (h5 : ∀ k, S k → k < w.heap.size) (h6 : ∀ k, T k → w0.heap.size ≤ k) (h7 : ∀ k, T k → k < w.heap.size) (h8 : Below w0.heap.size w0 w) : LK2 w0 b hs' c ms w' :=
  ⟨_, T, h1, h2.touch ht (fun k a b => h3 k b a), grow_apart h3 h7, grow_ge h4 h8.size, grow_lt h5 ht.size, h6, fun k hk => Nat.lt_of_lt_of_le (h7 k hk) ht.size, h8.trans (ht.below h8.size h4)⟩
theorem LK2.quiet {w0 w w' : World} {b c : Nat} {hs ms : List Hold} (h : LK2 w0 b hs c ms w) (hq : Below w.heap.size w w') : LK2 w0 b hs c ms w' := by
  obtain ⟨S, T, h1, h2, h3, h4, h5, h6, h7, h8⟩ := h
  exact ⟨S, T, h1.below hq, h2.below hq, h3, h4, fun k hk => Nat.lt_of_lt_of_le (h5 k hk) hq.size, h6, fun k hk => Nat.lt_of_lt_of_le (h7 k hk) hq.size, h8.trans (hq.mono h8.size)⟩
theorem LK2.below {w0 w : World} {b c : Nat} {hs ms : List Hold} (h : LK2 w0 b hs c ms w) : Below w0.heap.size w0 w := by obtain ⟨S, T, h1, h2, h3, h4, h5, h6, h7, h8⟩ := h; exact h8
theorem new_lk2 {w0 w : World} {b : Nat} {hs : List Hold} (h : LK w0 b hs w) : Calls Try.prog 7 #[] w fun e w' => ∃ c, e = .returned (.pointer (some ⟨c, 0, none⟩)) ∧ LK2 w0 b hs c [] w' := by
  obtain ⟨S, h1, h2, h3, h4⟩ := h
  refine (new_any w).mono fun e w' ⟨he, ho, ht⟩ => ⟨_, he, S, _, h1.below ht, ho, fun k hs hk => ?_, h2, fun k hk => Nat.lt_of_lt_of_le (h3 k hk) ht.size, grow_ge (fun _ hk => hk.elim) h4.size, grow_lt (fun _ hk => hk.elim) ht.size, h4.trans (ht.mono h4.size)⟩
  rcases hk with hk | hk
  · exact hk
  · have := h3 k hs; omega
theorem enter_lk2 {w0 w : World} {b c : Nat} {hs ms : List Hold} (h : LK2 w0 b hs c ms w) (hl : hs.length ≤ 1000000) (a who : Int) :
    Calls Try.prog 8 #[.pointer (some ⟨b, 0, none⟩), .int .i64 a, .int .i64 who] w fun e w' => e = .returned (.int .i64 (enterL hs a who).1) ∧ LK2 w0 b (enterL hs a who).2 c ms w' := by
  obtain ⟨S, T, h1, h2, h3, h4, h5, h6, h7, h8⟩ := h
  exact (enter_any w S b hs a who h1 hl).mono fun e w' ⟨he, ho, ht⟩ => ⟨he, LK2.step ho ht h2 h3 h4 h5 h6 h7 h8⟩
theorem exit_lk2 {w0 w : World} {b c : Nat} {hs ms : List Hold} (h : LK2 w0 b hs c ms w) (hl : hs.length ≤ 1000000) (a who : Int) :
    Calls Try.prog 9 #[.pointer (some ⟨b, 0, none⟩), .int .i64 a, .int .i64 who] w fun e w' => e = .returned (.int .i64 (exitL hs a who).1) ∧ LK2 w0 b (exitL hs a who).2 c ms w' := by
  obtain ⟨S, T, h1, h2, h3, h4, h5, h6, h7, h8⟩ := h
  exact (exit_any w S b hs a who h1 hl).mono fun e w' ⟨he, ho, ht⟩ => ⟨he, LK2.step ho ht h2 h3 h4 h5 h6 h7 h8⟩
theorem enter_lk2' {w0 w : World} {b c : Nat} {hs ms : List Hold} (h : LK2 w0 b hs c ms w) (hl : ms.length ≤ 1000000) (a who : Int) :
    Calls Try.prog 8 #[.pointer (some ⟨c, 0, none⟩), .int .i64 a, .int .i64 who] w fun e w' => e = .returned (.int .i64 (enterL ms a who).1) ∧ LK2 w0 b hs c (enterL ms a who).2 w' :=
  (enter_lk2 h.swap hl a who).mono fun _ _ ⟨he, h⟩ => ⟨he, h.swap⟩
theorem exit_lk2' {w0 w : World} {b c : Nat} {hs ms : List Hold} (h : LK2 w0 b hs c ms w) (hl : ms.length ≤ 1000000) (a who : Int) :
    Calls Try.prog 9 #[.pointer (some ⟨c, 0, none⟩), .int .i64 a, .int .i64 who] w fun e w' => e = .returned (.int .i64 (exitL ms a who).1) ∧ LK2 w0 b hs c (exitL ms a who).2 w' :=
  (exit_lk2 h.swap hl a who).mono fun _ _ ⟨he, h⟩ => ⟨he, h.swap⟩
theorem free_lk2 {w0 w : World} {b c : Nat} {hs ms : List Hold} (h : LK2 w0 b hs c ms w) (hl : hs.length ≤ 1000000) (who : Int) :
    Calls Try.prog 11 #[.pointer (some ⟨b, 0, none⟩), .int .i64 who] w fun e w' => e = .returned (.int .i64 (freeL hs who).1) ∧ LK2 w0 b (freeL hs who).2 c ms w' := by
  obtain ⟨S, T, h1, h2, h3, h4, h5, h6, h7, h8⟩ := h
  exact (free_any w S b hs who h1 hl).mono fun e w' ⟨he, ho, ht⟩ => ⟨he, LK2.step ho ht h2 h3 h4 h5 h6 h7 h8⟩
theorem held_lk2 {w0 w : World} {b c : Nat} {hs ms : List Hold} (h : LK2 w0 b hs c ms w) (hl : hs.length ≤ 1000000) :
    Calls Try.prog 13 #[.pointer (some ⟨b, 0, none⟩)] w fun e w' => ∃ v, e = .returned v ∧ RSlice (Kint .i64) 1 w' v (hs.map (·.a)) ∧ LK2 w0 b hs c ms w' ∧ Below w.heap.size w w' := by
  obtain ⟨S, T, h1, _⟩ := id h
  refine (held_any (some ⟨b, 0, none⟩) hs (by omega) w h1.reads).mono fun e w' ⟨v, he, ho, hb⟩ => ⟨v, he, ?_, h.quiet hb, hb⟩
  exact ints_of_own (xs := hs.map (·.a)) (by rw [List.map_map]; exact ho) (by simp)
/-- The same behind a new block, which stays. -/
theorem enter_lk2b {w0 w : World} {b c : Nat} {hs ms : List Hold} (h : LK2 w0 b hs c ms w) (hl : hs.length ≤ 1000000) (t : TypeId) (cs : Array Value) (a who : Int) :
    Calls Try.prog 8 #[.pointer (some ⟨b, 0, none⟩), .int .i64 a, .int .i64 who] (w.alloc (.cells cs t)) fun e w' => e = .returned (.int .i64 (enterL hs a who).1) ∧ LK2 w0 b (enterL hs a who).2 c ms w' ∧ Blk w' w.heap.size t cs := by
  have h5' : ∀ S : Nat → Prop, (∀ k, S k → k < w.heap.size) → ¬ S w.heap.size := fun S hS hk => by have := hS _ hk; omega
  obtain ⟨S, T, h1, h2, h3, h4, h5, h6, h7, h8⟩ := h
  have hq : Below w.heap.size w (w.alloc (.cells cs t)) := (Below.refl _ w).alloc (Nat.le_refl _) _
  exact (enter_any (w.alloc (.cells cs t)) S b hs a who (h1.below hq) hl).mono fun e w' ⟨he, ho, ht⟩ => ⟨he, LK2.step ho ht (h2.below hq) h3 h4 (fun k hk => Nat.lt_of_lt_of_le (h5 k hk) hq.size) h6 (fun k hk => Nat.lt_of_lt_of_le (h7 k hk) hq.size) (h8.trans (hq.mono h8.size)), (Blk.new w t cs).touch ht (h5' S h5)⟩
theorem exit_lk2b {w0 w : World} {b c : Nat} {hs ms : List Hold} (h : LK2 w0 b hs c ms w) (hl : hs.length ≤ 1000000) (t : TypeId) (cs : Array Value) (a who : Int) :
    Calls Try.prog 9 #[.pointer (some ⟨b, 0, none⟩), .int .i64 a, .int .i64 who] (w.alloc (.cells cs t)) fun e w' => e = .returned (.int .i64 (exitL hs a who).1) ∧ LK2 w0 b (exitL hs a who).2 c ms w' ∧ Blk w' w.heap.size t cs := by
  have h5' : ∀ S : Nat → Prop, (∀ k, S k → k < w.heap.size) → ¬ S w.heap.size := fun S hS hk => by have := hS _ hk; omega
  obtain ⟨S, T, h1, h2, h3, h4, h5, h6, h7, h8⟩ := h
  have hq : Below w.heap.size w (w.alloc (.cells cs t)) := (Below.refl _ w).alloc (Nat.le_refl _) _
  exact (exit_any (w.alloc (.cells cs t)) S b hs a who (h1.below hq) hl).mono fun e w' ⟨he, ho, ht⟩ => ⟨he, LK2.step ho ht (h2.below hq) h3 h4 (fun k hk => Nat.lt_of_lt_of_le (h5 k hk) hq.size) h6 (fun k hk => Nat.lt_of_lt_of_le (h7 k hk) hq.size) (h8.trans (hq.mono h8.size)), (Blk.new w t cs).touch ht (h5' S h5)⟩
theorem RSlice_below {w w1 : World} (hb : Below w.heap.size w w1) {v : Value} {xs : List Int} (h : RSlice (Kint .i64) 1 w v xs) : RSlice (Kint .i64) 1 w1 v xs := by
  rcases h with h | ⟨A, cap, rfl, hl, hm, hx'⟩
  · exact .inl h
  · exact .inr ⟨A, cap, rfl, hl, hm, fun j x hj => by obtain ⟨cs, h1, h2, h3⟩ := hx' j x hj; exact ⟨cs, h1, h2, fun i u hu => cell_at_below hb (h3 i u hu)⟩⟩
end Go.Proofs.Ytmlcififmjpcpaa
