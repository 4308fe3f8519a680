/-
  'Locks.find': where a thing is, at every list of holds.
-/
import Derived.Test.YtmlcififmjpcpaaLockA
import Derived.Test.YtmlcififmjpcpaaBase
import Derived.KernelRfl
namespace Go.Proofs.Ytmlcififmjpcpaa
open Go.RowKit Go.Shelf

attribute [local go_sem] Oper.semAt_some

def findL (hs : List Hold) (a : Int) : Int := match hs.findIdx? (fun h => h.a == a) with | some i => (i : Int) | none => -1

theorem findL_at {hs : List Hold} {a : Int} {k : Nat} (hk : k < hs.length) (h : (hs.getD k Hold.zero).a = a) (hb : ∀ j, j < k → (hs.getD j Hold.zero).a ≠ a) : findL hs a = k := by
  have : hs.findIdx? (fun h => h.a == a) = some k := by
    rw [List.findIdx?_eq_some_iff_getElem]
    refine ⟨hk, ?_, ?_⟩
    · simp only [List.getD_eq_getElem?_getD, List.getElem?_eq_getElem hk, Option.getD_some] at h; simp [h]
    · intro j hj
      have := hb j hj
      simp only [List.getD_eq_getElem?_getD, List.getElem?_eq_getElem (Nat.lt_trans hj hk), Option.getD_some] at this
      simp [this]
  simp [findL, this]
theorem findL_none {hs : List Hold} {a : Int} (hb : ∀ j, j < hs.length → (hs.getD j Hold.zero).a ≠ a) : findL hs a = -1 := by
  have : hs.findIdx? (fun h => h.a == a) = none := by
    rw [List.findIdx?_eq_none_iff]
    intro x hx
    obtain ⟨j, hj, rfl⟩ := List.getElem_of_mem hx
    have := hb j hj
    simp only [List.getD_eq_getElem?_getD, List.getElem?_eq_getElem hj, Option.getD_some] at this
    simp [this]
  simp [findL, this]

theorem upto_last {hs : List Hold} {k : Nat} {ini : List (Nat × Hold)} {last : Nat × Hold} (h : upto hs k = ini ++ [last]) : ∃ k', k = k' + 1 ∧ ini = upto hs k' ∧ last = (k', hs.getD k' Hold.zero) := by
  cases k with
  | zero => simp [upto] at h
  | succ k' =>
    rw [upto, List.range_succ, List.map_append] at h
    obtain ⟨e1, e2⟩ := List.append_inj' h rfl
    simp at e2
    exact ⟨k', rfl, e1.symm, by rw [← e2]; simp⟩
theorem upto_all {hs : List Hold} {k : Nat} {P : Nat × Hold → Prop} (h : ∀ p ∈ upto hs k, P p) (j : Nat) (hj : j < k) : P (j, hs.getD j Hold.zero) := h _ (by simp only [upto, List.mem_map, List.mem_range]; exact ⟨j, hj, rfl⟩)

set_option maxRecDepth 100000 in
set_option maxHeartbeats 2000000 in
theorem find_in (F : Fence) (n : Nat) (hf : F.fn 21) (hF : F.fn 35) (hA : F.fn 25) (hro : F.round = none) (hn : 3 ≤ n) (p : Option Addr) (a : Int) (hs : List Hold) (hreach : hs.length ≤ 1000000000) (w : World) (hI : LocksP w.heap.size w p hs) :
    CallsIn F n Try.prog 21 #[.pointer p, .int .i64 a] w fun e W' => e = .returned (.int .i64 (findL hs a)) ∧ Below w.heap.size w W' := by
  have h1 : 1 ≤ n := by omega
  refine callsIn_of_wp_marks Try.func21 rfl hf ?_ hro
  simp only [Try.ntmps21, List.size_toArray, List.length_cons, List.length_nil, Nat.reduceAdd, Nat.reduceSub, Array.replicate_succ, Array.replicate_zero, List.push_toArray, List.append_toArray, List.nil_append, List.cons_append]
  gi_wp2_with (gi_at_call 25; refine (all_in F (n - 1) hA hro _ _).mono ?_; rintro e w' ⟨rfl, rfl⟩)
  have bA := Boxed.new w 2 (.int .i64 a)
  have bR := Boxed.new (w.alloc (.cells #[.int .i64 a] 2)) 3 (.int .i64 0)
  have bN := Boxed.new ((w.alloc (.cells #[.int .i64 a] 2)).alloc (.cells #[.int .i64 0] 3)) 23 (.pointer p)
  rw [World.size_alloc] at bR
  rw [World.size_alloc, World.size_alloc] at bN
  have hB0 : Below w.heap.size w (((w.alloc (.cells #[.int .i64 a] 2)).alloc (.cells #[.int .i64 0] 3)).alloc (.cells #[.pointer p] 23)) := (((Below.refl _ w).alloc (Nat.le_refl _) _).alloc (by simp) _).alloc (by simp; omega) _
  have hsz : (((w.alloc (.cells #[.int .i64 a] 2)).alloc (.cells #[.int .i64 0] 3)).alloc (.cells #[.pointer p] 23)).heap.size = w.heap.size + 3 := by simp
  have bA := (bA.alloc (.cells #[.int .i64 0] 3)).alloc (.cells #[.pointer p] 23)
  have bR := bR.alloc (.cells #[.pointer p] 23)
  obtain ⟨W0, hW0⟩ : ∃ W0, (((w.alloc (.cells #[.int .i64 a] 2)).alloc (.cells #[.int .i64 0] 3)).alloc (.cells #[.pointer p] 23)) = W0 := ⟨_, rfl⟩
  rw [hW0] at bA bR bN hB0 hsz ⊢
  clear hW0
  refine wpIn_rangeFunc_ownH hro h1 (gf := 35) (lb := #[.pointer (some ⟨w.heap.size + 1 + 1, 0, none⟩)]) rfl hF (enters_of Try.func35 (by kernel_rfl) rfl)
    (all_stops F (n - 1) hF hro (by omega) (w.heap.size + 1 + 1) w.heap.size p hs hreach W0 (by omega) (by omega) bN.cell (hI.below hB0)) belowK_t (belowK_b (by omega)) (Below.refl _ _) (fun _ => rfl)
    (fun pre W => ((∀ q ∈ pre, q.2.a ≠ a) ∧ Boxed W w.heap.size 2 (.int .i64 a) ∧ Boxed W (w.heap.size + 1) 3 (.int .i64 0)) ∧ Below w.heap.size w W)
    (fun c pre W => (c = .ret ∧ ∃ ini last, pre = ini ++ [last] ∧ (∀ q ∈ ini, q.2.a ≠ a) ∧ last.2.a = a ∧ Boxed W (w.heap.size + 1) 3 (.int .i64 (last.1 : Int))) ∧ Below w.heap.size w W)
    (OwnFrom.and (Own.from (fun s A B row hs hg hr => ⟨hs.1, boxed_own _ _ (fun (_ : Unit) => Value.int .i64 a) () A B row hs.2.1 hg hr, boxed_own _ _ (fun (_ : Unit) => Value.int .i64 0) () A B row hs.2.2 hg hr⟩) _) (ownFrom_below (Nat.le_refl _) (by omega)))
    (fun c => OwnFrom.and (Own.from (fun s A B row hs hg hr => by obtain ⟨hc, ini, last, e1, e2, e3, e4⟩ := hs; exact ⟨hc, ini, last, e1, e2, e3, boxed_own _ _ (fun (_ : Unit) => Value.int .i64 (last.1 : Int)) () A B row e4 hg hr⟩) _) (ownFrom_below (Nat.le_refl _) (by omega)))
    ⟨⟨by simp, bA, bR⟩, hB0⟩
    (fun x a' W => ∃ Bx, w.heap.size + 1 < Bx ∧ Blk W Bx 51 #[.int .i64 x.2.a, .int .i64 x.2.who, .int .i64 x.2.n] ∧ a' = { tmps := #[.pointer p, .int .i64 a, undef, .pointer (some ⟨w.heap.size, 0, none⟩), .pointer (some ⟨w.heap.size + 1, 0, none⟩), .int .i64 (x.1 : Int), .pointer (some ⟨Bx, 0, none⟩), .pointer p, .func (.func 35) #[] #[.pointer (some ⟨w.heap.size + 1 + 1, 0, none⟩)], .int .i64 (x.1 : Int), Hold.v x.2, undef, undef, undef, undef, undef], defers := [] })
    (fun x a' _ X Y row hs hg hr => by obtain ⟨Bx, h1, h2, h3⟩ := hs; exact ⟨Bx, h1, blk_own Bx 51 (fun (_ : Unit) => #[Value.int .i64 x.2.a, .int .i64 x.2.who, .int .i64 x.2.n]) () X Y row h2 hg (fun r e => (hr r e).2), h3⟩)
    ?assign ?body ?done ?stop
  case assign =>
    rintro l pre x W K ⟨⟨hp, bA1, bR1⟩, hB1⟩ hK
    dsimp only [Hold.v] at hK ⊢
    gi_wp2
    have hsW := hB1.size
    exact hK _ _ ((KeepsOthers.alloc _ _).from _) ((Below.refl _ W).alloc hB1.size _) ⟨⟨hp, bA1.alloc _, bR1.alloc _⟩, hB1.alloc hB1.size _⟩ ⟨W.heap.size, bR1.lt, Blk.new W _ _, rfl⟩
  case body =>
    rintro l pre ⟨i, ⟨xa, xw, xn⟩⟩ a' W hl ⟨r, hr⟩ ⟨⟨hp, bA1, bR1⟩, hB1⟩ ⟨Bx, hBx, bX, rfl⟩ hlt
    dsimp only [Hold.v] at bX ⊢
    have cA := bA1.cell
    have cR := bR1.cell
    have fR := bR1.frozen
    have cX : W.cell? ⟨Bx, 0, none⟩ = some (.int .i64 xa) := bX.cell 0
    by_cases hx : xa = a
    · subst hx
      gi_wp2
      exact ⟨(KeepsOthers.setCell _ _ _).from _, ⟨rfl, pre, _, rfl, hp, rfl, bR1.set _⟩, hB1.setCell (p := ⟨w.heap.size + 1, 0, none⟩) (by simp) _⟩
    · have hxb : (xa == a) = false := beq_eq_false_iff_ne.2 hx
      gi_wp2
      exact ⟨KeepsFrom.refl _ _, Below.refl _ _, ⟨fun q hq => (List.mem_append.1 hq).elim (hp q) (fun e => by simp at e; subst e; exact hx), bA1, bR1⟩, hB1⟩
  case done =>
    rintro D ys W hD rfl ⟨⟨hp, bA1, bR1⟩, hB1⟩ hK
    have cR := bR1.cell
    have fR := bR1.frozen
    gi_wp2
    have hK' := (KeepsOthers.setCell W ⟨w.heap.size + 1, 0, none⟩ (.int .i64 (-1))).same D _ hK rfl
    refine ⟨by simp, .inl ⟨_, _, rfl, run_takeDeferred hK', ?_⟩⟩
    have hc5 := cell_kept (bR1.set (.int .i64 (-1))).cell (grownBy_putObj' _ D (.deferred none)) (fun r e => by cases e; exact ⟨_, hK', rfl⟩)
    refine ⟨.int .i64 (-1), ?_, by rw [findL_none (upto_all hp)], (hB1.setCell (p := ⟨w.heap.size + 1, 0, none⟩) (by simp) _).trans (belowK_b (w := w) (Nat.le_refl _) _ D _ _ (by omega) hK' rfl rfl)⟩
    simp [results, Try.f21, go_sem, hc5]
  case stop =>
    rintro D c pre W hD ⟨k, hk, rfl⟩ ⟨⟨rfl, ini, last, e1, e2, e3, bR1⟩, hB⟩ hK
    obtain ⟨k', rfl, rfl, rfl⟩ := upto_last e1
    gi_wp2
    refine ⟨by simp, .inl ⟨_, _, rfl, run_takeDeferred hK, ?_⟩⟩
    have hc5 := cell_kept bR1.cell (grownBy_putObj' _ D (.deferred none)) (fun r e => by cases e; exact ⟨_, hK, rfl⟩)
    refine ⟨.int .i64 (k' : Int), ?_, by rw [findL_at (by omega) e3 (upto_all e2)], hB.trans (belowK_b (w := w) (Nat.le_refl _) W D _ _ (by omega) hK rfl rfl)⟩
    simp [results, Try.f21, go_sem, hc5]

/-- **find, as any call.** -/
theorem find_any (p : Option Addr) (a : Int) (hs : List Hold) (hreach : hs.length ≤ 1000000000) (w : World) (hI : LocksP w.heap.size w p hs) :
    Calls Try.prog 21 #[.pointer p, .int .i64 a] w fun e W' => e = .returned (.int .i64 (findL hs a)) ∧ Below w.heap.size w W' :=
  (callsIn_wide (n := 3)).1 (find_in _ 3 trivial trivial trivial rfl (Nat.le_refl _) p a hs hreach w hI)
end Go.Proofs.Ytmlcififmjpcpaa
