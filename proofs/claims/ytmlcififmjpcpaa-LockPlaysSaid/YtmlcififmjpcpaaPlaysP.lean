/-
  LockPlays: the two answer alike; plain laws.
-/
import Derived.Test.YtmlcififmjpcpaaRefD
import Derived.Test.YtmlcififmjpcpaaLockActs
import Derived.Test.YtmlcififmjpcpaaLockPlain
namespace Go.Proofs.Ytmlcififmjpcpaa
open Go.RowKit
set_option linter.unusedVariables false

/-- Each hold is counted from 1 to m. -/
def Inv (m : Nat) (hs : List Hold) : Prop := hs.length ≤ m ∧ ∀ h ∈ hs, 1 ≤ h.n ∧ h.n ≤ m
theorem Inv.mono {m k : Nat} {hs : List Hold} (h : Inv m hs) (hk : m ≤ k) : Inv k hs := ⟨Nat.le_trans h.1 hk, fun x hx => by have := h.2 x hx; omega⟩

theorem enter_inv {m : Nat} {hs : List Hold} (h : Inv m hs) (hm : m < 1000) (a who : Int) : Inv (m + 1) (enterL hs a who).2 := by
  unfold enterL
  split
  · exact h.mono (by omega)
  · split
    · refine ⟨by have := h.1; simp; omega, fun x hx => ?_⟩
      rcases List.mem_append.1 hx with hx | hx
      · have := h.2 x hx; omega
      · simp at hx; subst hx; simp; omega
    · rename_i i hi
      split
      · refine ⟨by rw [List.length_set]; have := h.1; omega, fun x hx => ?_⟩
        rcases List.mem_or_eq_of_mem_set hx with hx | rfl
        · have := h.2 x hx; omega
        · obtain ⟨hil, _⟩ := idx_lt hi
          have hh := h.2 _ (List.getElem_mem hil)
          have e : hs.getD i Hold.zero = hs[i] := by simp [hil]
          dsimp only
          rw [e, show wrap64 (hs[i].n + 1) = hs[i].n + 1 by unfold wrap64; omega]
          omega
      · exact h.mono (by omega)

theorem exit_same {m : Nat} {hs : List Hold} (h : Inv m hs) (hm : m < 1000) (a who : Int) : rexitL hs a who = exitL hs a who ∧ Inv m (exitL hs a who).2 := by
  unfold rexitL exitL
  cases hi : idx hs a with
  | none => exact ⟨rfl, h⟩
  | some i =>
    obtain ⟨hil, _⟩ := idx_lt hi
    have hh := h.2 _ (List.getElem_mem hil)
    have e : hs.getD i Hold.zero = hs[i] := by simp [hil]
    dsimp only
    rw [e]
    have ew : wrap64 (hs[i].n - 1) = hs[i].n - 1 := by unfold wrap64; omega
    by_cases hw : hs[i].who = who
    · rw [if_pos hw, if_pos hw, ew]
      have hpre : (hs.take i).filter (fun h => decide (0 < h.n)) = hs.take i := List.filter_eq_self.2 fun x hx => by have := h.2 x (List.mem_of_mem_take hx); simp; omega
      have hpost : (hs.drop (i + 1)).filter (fun h => decide (0 < h.n)) = hs.drop (i + 1) := List.filter_eq_self.2 fun x hx => by have := h.2 x (List.mem_of_mem_drop hx); simp; omega
      rw [List.set_eq_take_append_cons_drop, if_pos hil, List.filter_append, List.filter_cons, hpre, hpost]
      by_cases h0 : hs[i].n - 1 = 0
      · rw [if_pos h0, h0]
        refine ⟨by simp, ?_, fun x hx => ?_⟩
        · have := h.1; simp; omega
        · rcases List.mem_append.1 hx with hx | hx
          · exact h.2 x (List.mem_of_mem_take hx)
          · exact h.2 x (List.mem_of_mem_drop hx)
      · rw [if_neg h0]
        have hp : decide (0 < hs[i].n - 1) = true := by simp; omega
        dsimp only
        rw [if_pos hp]
        refine ⟨rfl, ?_, fun x hx => ?_⟩
        · have := h.1; simp; omega
        · rcases List.mem_append.1 hx with hx | hx
          · exact h.2 x (List.mem_of_mem_take hx)
          · rcases List.mem_cons.1 hx with rfl | hx
            · dsimp only; omega
            · exact h.2 x (List.mem_of_mem_drop hx)
    · rw [if_neg hw, if_neg hw]
      exact ⟨rfl, h⟩

theorem put_inv {m : Nat} {hs : List Hold} (h : Inv m hs) (now : List Int) : Inv m (putL hs now).2 := by
  unfold putL
  split
  · rename_i hok
    refine ⟨?_, fun x hx => ?_⟩
    · rw [List.length_zipWith]
      have := h.1
      omega
    · obtain ⟨i, hi, rfl⟩ := List.mem_iff_getElem.1 hx
      simp only [List.getElem_zipWith]
      exact h.2 _ (List.getElem_mem _)
  · exact h
theorem free_inv {m : Nat} {hs : List Hold} (h : Inv m hs) (who : Int) : Inv m (freeL hs who).2 :=
  ⟨Nat.le_trans (List.length_filter_le _ _) h.1, fun x hx => h.2 x (List.mem_filter.1 hx).1⟩

/-- One act, of both. -/
def actL (hs : List Hold) (kind a who : Int) (now : List Int) : List Hold :=
  if kind = 0 ∨ kind = 1 ∨ kind = 2 then (enterL hs a who).2 else if kind = 3 ∨ kind = 4 then (exitL hs a who).2 else if kind = 5 then (putL hs now).2 else if kind = 6 then (freeL hs who).2 else hs
theorem act_inv {m : Nat} {hs : List Hold} (h : Inv m hs) (hm : m < 1000) (kind a who : Int) (now : List Int) : Inv (m + 1) (actL hs kind a who now) := by
  unfold actL
  split
  · exact enter_inv h hm a who
  · split
    · exact (exit_same h hm a who).2.mono (by omega)
    · split
      · exact (put_inv h now).mono (by omega)
      · split
        · exact (free_inv h who).mono (by omega)
        · exact h.mono (by omega)

/-- Locks and the document's, apart; and a block that stays. -/
def LR (w0 : World) (b : Nat) (hs : List Hold) (c : Nat) (rs : List Hold) (w : World) : Prop :=
  ∃ S T, LockObj w S b hs ∧ RefObj w T c rs ∧ (∀ k, S k → T k → False) ∧ (∀ k, S k → w0.heap.size ≤ k) ∧ (∀ k, S k → k < w.heap.size) ∧ (∀ k, T k → w0.heap.size ≤ k) ∧ (∀ k, T k → k < w.heap.size) ∧ Below w0.heap.size w0 w
def LRX (w0 : World) (b : Nat) (hs : List Hold) (c : Nat) (rs : List Hold) (Ls : List (Nat × TypeId × Array Value)) (w : World) : Prop :=
  ∃ S T, LockObj w S b hs ∧ RefObj w T c rs ∧ (∀ k, S k → T k → False) ∧ (∀ k, S k → w0.heap.size ≤ k) ∧ (∀ k, S k → k < w.heap.size) ∧ (∀ k, T k → w0.heap.size ≤ k) ∧ (∀ k, T k → k < w.heap.size) ∧ Below w0.heap.size w0 w ∧ ∀ x ∈ Ls, Blk w x.1 x.2.1 x.2.2 ∧ ¬ S x.1 ∧ ¬ T x.1
theorem LR.below {w0 w : World} {b c : Nat} {hs rs : List Hold} (h : LR w0 b hs c rs w) : Below w0.heap.size w0 w := by obtain ⟨S, T, _, _, _, _, _, _, _, h8⟩ := h; exact h8
theorem LR.quiet {w0 w w' : World} {b c : Nat} {hs rs : List Hold} (h : LR w0 b hs c rs w) (hq : Below w.heap.size w w') : LR w0 b hs c rs w' := by
  obtain ⟨S, T, h1, h2, h3, h4, h5, h6, h7, h8⟩ := h
  exact ⟨S, T, h1.below hq, h2.below hq, h3, h4, fun k hk => Nat.lt_of_lt_of_le (h5 k hk) hq.size, h6, fun k hk => Nat.lt_of_lt_of_le (h7 k hk) hq.size, h8.trans (hq.mono h8.size)⟩
theorem LRX.quiet {w0 w w' : World} {b c : Nat} {Ls : List (Nat × TypeId × Array Value)} {hs rs : List Hold} (h : LRX w0 b hs c rs Ls w) (hq : Below w.heap.size w w') : LRX w0 b hs c rs Ls w' := by
  obtain ⟨S, T, h1, h2, h3, h4, h5, h6, h7, h8, h9⟩ := h
  exact ⟨S, T, h1.below hq, h2.below hq, h3, h4, fun k hk => Nat.lt_of_lt_of_le (h5 k hk) hq.size, h6, fun k hk => Nat.lt_of_lt_of_le (h7 k hk) hq.size, h8.trans (hq.mono h8.size), fun x hx => ⟨(h9 x hx).1.below hq (h9 x hx).1.lt, (h9 x hx).2⟩⟩
theorem LRX.drop {w0 w : World} {b c : Nat} {Ls : List (Nat × TypeId × Array Value)} {hs rs : List Hold} (h : LRX w0 b hs c rs Ls w) : LR w0 b hs c rs w := by
  obtain ⟨S, T, h1, h2, h3, h4, h5, h6, h7, h8, h9⟩ := h
  exact ⟨S, T, h1, h2, h3, h4, h5, h6, h7, h8⟩
theorem LRX.blk {w0 w : World} {b c : Nat} {Ls : List (Nat × TypeId × Array Value)} {hs rs : List Hold} (h : LRX w0 b hs c rs Ls w) {X : Nat} {t : TypeId} {cs : Array Value} (hx : (X, t, cs) ∈ Ls) : Blk w X t cs := by
  obtain ⟨S, T, h1, h2, h3, h4, h5, h6, h7, h8, h9⟩ := h
  exact (h9 _ hx).1
theorem LRX.sub {w0 w : World} {b c : Nat} {Ls Ms : List (Nat × TypeId × Array Value)} {hs rs : List Hold} (h : LRX w0 b hs c rs Ls w) (hx : ∀ x ∈ Ms, x ∈ Ls) : LRX w0 b hs c rs Ms w := by
  obtain ⟨S, T, h1, h2, h3, h4, h5, h6, h7, h8, h9⟩ := h
  exact ⟨S, T, h1, h2, h3, h4, h5, h6, h7, h8, fun x hm => h9 x (hx x hm)⟩
theorem LRX.drew {w0 w : World} {b c : Nat} {Ls : List (Nat × TypeId × Array Value)} {hs rs : List Hold} (h : LRX w0 b hs c rs Ls w) : LRX w0 b hs c rs Ls w.drew := h.quiet ((Below.refl _ w).drew)
theorem LR.lrx {w0 w : World} {b c : Nat} {hs rs : List Hold} (h : LR w0 b hs c rs w) : LRX w0 b hs c rs [] w := by
  obtain ⟨S, T, h1, h2, h3, h4, h5, h6, h7, h8⟩ := h
  exact ⟨S, T, h1, h2, h3, h4, h5, h6, h7, h8, fun x hx => by simp at hx⟩
theorem LRX.alloc {w0 w : World} {b c : Nat} {Ls : List (Nat × TypeId × Array Value)} {hs rs : List Hold} (h : LRX w0 b hs c rs Ls w) (t : TypeId) (cs : Array Value) : LRX w0 b hs c rs ((w.heap.size, t, cs) :: Ls) (w.alloc (.cells cs t)) := by
  have hq : Below w.heap.size w (w.alloc (.cells cs t)) := (Below.refl _ w).alloc (Nat.le_refl _) _
  obtain ⟨S, T, h1, h2, h3, h4, h5, h6, h7, h8, h9⟩ := h
  refine ⟨S, T, h1.below hq, h2.below hq, h3, h4, fun k hk => Nat.lt_of_lt_of_le (h5 k hk) hq.size, h6, fun k hk => Nat.lt_of_lt_of_le (h7 k hk) hq.size, h8.trans (hq.mono h8.size), fun x hx => ?_⟩
  rcases List.mem_cons.1 hx with rfl | hx
  · exact ⟨Blk.new w t cs, fun h => by have := h5 _ h; simp at this, fun h => by have := h7 _ h; simp at this⟩
  · exact ⟨(h9 x hx).1.below hq (h9 x hx).1.lt, (h9 x hx).2⟩
theorem LRX.step {w0 w w' : World} {b c : Nat} {Ls : List (Nat × TypeId × Array Value)} {hs' rs : List Hold} {S T : Nat → Prop} (h1 : LockObj w' (grow S w w') b hs') (ht : Touch S w w') (h2 : RefObj w T c rs) (h3 : ∀ k, S k → T k → False) (h4 : ∀ k, S k → w0.heap.size ≤ k) (h5 : ∀ k, S k → k < w.heap.size) (h6 : ∀ k, T k → w0.heap.size ≤ k) (h7 : ∀ k, T k → k < w.heap.size) (h8 : Below w0.heap.size w0 w) (h9 : ∀ x ∈ Ls, Blk w x.1 x.2.1 x.2.2 ∧ ¬ S x.1 ∧ ¬ T x.1) : LRX w0 b hs' c rs Ls w' :=
  ⟨_, T, h1, h2.touch ht (fun k a b => h3 k b a), grow_apart h3 h7, grow_ge h4 h8.size, grow_lt h5 ht.size, h6, fun k hk => Nat.lt_of_lt_of_le (h7 k hk) ht.size, h8.trans (ht.below h8.size h4), fun x hx => by
    obtain ⟨a1, a2, a3⟩ := h9 x hx
    exact ⟨a1.touch ht a2, fun hk => by rcases hk with hk | hk; exact a2 hk; have := a1.lt; omega, a3⟩⟩
theorem LRX.rstep {w0 w w' : World} {b c : Nat} {Ls : List (Nat × TypeId × Array Value)} {hs rs' : List Hold} {S T : Nat → Prop} (h1 : LockObj w S b hs) (ht : Touch T w w') (h2 : RefObj w' (grow T w w') c rs') (h3 : ∀ k, S k → T k → False) (h4 : ∀ k, S k → w0.heap.size ≤ k) (h5 : ∀ k, S k → k < w.heap.size) (h6 : ∀ k, T k → w0.heap.size ≤ k) (h7 : ∀ k, T k → k < w.heap.size) (h8 : Below w0.heap.size w0 w) (h9 : ∀ x ∈ Ls, Blk w x.1 x.2.1 x.2.2 ∧ ¬ S x.1 ∧ ¬ T x.1) : LRX w0 b hs c rs' Ls w' :=
  ⟨S, _, h1.touch ht h3, h2, fun k a b => grow_apart (fun k a b => h3 k b a) h5 k b a, h4, fun k hk => Nat.lt_of_lt_of_le (h5 k hk) ht.size, grow_ge h6 h8.size, grow_lt h7 ht.size, h8.trans (ht.below h8.size h6), fun x hx => by
    obtain ⟨a1, a2, a3⟩ := h9 x hx
    exact ⟨a1.touch ht a3, a2, fun hk => by rcases hk with hk | hk; exact a3 hk; have := a1.lt; omega⟩⟩

theorem enter_lrx {w0 w : World} {b c : Nat} {Ls : List (Nat × TypeId × Array Value)} {hs rs : List Hold} (h : LRX w0 b hs c rs Ls w) (hl : hs.length ≤ 1000000) (a who : Int) :
    Calls Try.prog 8 #[.pointer (some ⟨b, 0, none⟩), .int .i64 a, .int .i64 who] w fun e w' => e = .returned (.int .i64 (enterL hs a who).1) ∧ LRX w0 b (enterL hs a who).2 c rs Ls w' := by
  obtain ⟨S, T, h1, h2, h3, h4, h5, h6, h7, h8, h9⟩ := h
  exact (enter_any w S b hs a who h1 hl).mono fun e w' ⟨he, ho, ht⟩ => ⟨he, LRX.step ho ht h2 h3 h4 h5 h6 h7 h8 h9⟩
theorem exit_lrx {w0 w : World} {b c : Nat} {Ls : List (Nat × TypeId × Array Value)} {hs rs : List Hold} (h : LRX w0 b hs c rs Ls w) (hl : hs.length ≤ 1000000) (a who : Int) :
    Calls Try.prog 9 #[.pointer (some ⟨b, 0, none⟩), .int .i64 a, .int .i64 who] w fun e w' => e = .returned (.int .i64 (exitL hs a who).1) ∧ LRX w0 b (exitL hs a who).2 c rs Ls w' := by
  obtain ⟨S, T, h1, h2, h3, h4, h5, h6, h7, h8, h9⟩ := h
  exact (exit_any w S b hs a who h1 hl).mono fun e w' ⟨he, ho, ht⟩ => ⟨he, LRX.step ho ht h2 h3 h4 h5 h6 h7 h8 h9⟩
theorem free_lrx {w0 w : World} {b c : Nat} {Ls : List (Nat × TypeId × Array Value)} {hs rs : List Hold} (h : LRX w0 b hs c rs Ls w) (hl : hs.length ≤ 1000000) (who : Int) :
    Calls Try.prog 11 #[.pointer (some ⟨b, 0, none⟩), .int .i64 who] w fun e w' => e = .returned (.int .i64 (freeL hs who).1) ∧ LRX w0 b (freeL hs who).2 c rs Ls w' := by
  obtain ⟨S, T, h1, h2, h3, h4, h5, h6, h7, h8, h9⟩ := h
  exact (free_any w S b hs who h1 hl).mono fun e w' ⟨he, ho, ht⟩ => ⟨he, LRX.step ho ht h2 h3 h4 h5 h6 h7 h8 h9⟩
theorem put_lrx {w0 w : World} {b c : Nat} {Ls : List (Nat × TypeId × Array Value)} {hs rs : List Hold} (h : LRX w0 b hs c rs Ls w) (hl : hs.length ≤ 1000000) {v : Value} {now : List Int} (hn : now.length ≤ 1000000) (hN : RSlice (Kint .i64) 1 w0 v now) :
    Calls Try.prog 20 #[.pointer (some ⟨b, 0, none⟩), v] w fun e w' => e = .returned (.int .i64 (putL hs now).1) ∧ LRX w0 b (putL hs now).2 c rs Ls w' := by
  obtain ⟨S, T, h1, h2, h3, h4, h5, h6, h7, h8, h9⟩ := h
  exact (put_any w w0 S b hs v now h1 hl hn hN h8 h4 h5).mono fun e w' ⟨he, ho, ht⟩ => ⟨he, LRX.step ho ht h2 h3 h4 h5 h6 h7 h8 h9⟩
theorem renter_lrx {w0 w : World} {b c : Nat} {Ls : List (Nat × TypeId × Array Value)} {hs rs : List Hold} (h : LRX w0 b hs c rs Ls w) (hl : rs.length ≤ 1000000) (a who : Int) :
    Calls Try.prog 26 #[.pointer (some ⟨c, 0, none⟩), .int .i64 a, .int .i64 who] w fun e w' => e = .returned (.int .i64 (enterL rs a who).1) ∧ LRX w0 b hs c (enterL rs a who).2 Ls w' := by
  obtain ⟨S, T, h1, h2, h3, h4, h5, h6, h7, h8, h9⟩ := h
  exact (renter_any w T c rs a who h2 hl).mono fun e w' ⟨he, ho, ht⟩ => ⟨he, LRX.rstep h1 ht ho h3 h4 h5 h6 h7 h8 h9⟩
theorem rexit_lrx {w0 w : World} {b c : Nat} {Ls : List (Nat × TypeId × Array Value)} {hs rs : List Hold} (h : LRX w0 b hs c rs Ls w) (hl : rs.length ≤ 1000000) (a who : Int) :
    Calls Try.prog 27 #[.pointer (some ⟨c, 0, none⟩), .int .i64 a, .int .i64 who] w fun e w' => e = .returned (.int .i64 (rexitL rs a who).1) ∧ LRX w0 b hs c (rexitL rs a who).2 Ls w' := by
  obtain ⟨S, T, h1, h2, h3, h4, h5, h6, h7, h8, h9⟩ := h
  exact (rexit_any w T c rs a who h2 hl h7).mono fun e w' ⟨he, ho, ht⟩ => ⟨he, LRX.rstep h1 ht ho h3 h4 h5 h6 h7 h8 h9⟩
theorem rfree_lrx {w0 w : World} {b c : Nat} {Ls : List (Nat × TypeId × Array Value)} {hs rs : List Hold} (h : LRX w0 b hs c rs Ls w) (hl : rs.length ≤ 1000000) (who : Int) :
    Calls Try.prog 29 #[.pointer (some ⟨c, 0, none⟩), .int .i64 who] w fun e w' => e = .returned (.int .i64 (freeL rs who).1) ∧ LRX w0 b hs c (freeL rs who).2 Ls w' := by
  obtain ⟨S, T, h1, h2, h3, h4, h5, h6, h7, h8, h9⟩ := h
  exact (rfree_any w T c rs who h2 hl h7).mono fun e w' ⟨he, ho, ht⟩ => ⟨he, LRX.rstep h1 ht ho h3 h4 h5 h6 h7 h8 h9⟩
theorem rput_lrx {w0 w : World} {b c : Nat} {Ls : List (Nat × TypeId × Array Value)} {hs rs : List Hold} (h : LRX w0 b hs c rs Ls w) (hl : rs.length ≤ 1000000) {v : Value} {now : List Int} (hN : RSlice (Kint .i64) 1 w0 v now) :
    Calls Try.prog 28 #[.pointer (some ⟨c, 0, none⟩), v] w fun e w' => e = .returned (.int .i64 (putL rs now).1) ∧ LRX w0 b hs c (putL rs now).2 Ls w' := by
  obtain ⟨S, T, h1, h2, h3, h4, h5, h6, h7, h8, h9⟩ := h
  exact (rput_any w w0 T c rs v now h2 hl hN h8 h7).mono fun e w' ⟨he, ho, ht⟩ => ⟨he, LRX.rstep h1 ht ho h3 h4 h5 h6 h7 h8 h9⟩
end Go.Proofs.Ytmlcififmjpcpaa
