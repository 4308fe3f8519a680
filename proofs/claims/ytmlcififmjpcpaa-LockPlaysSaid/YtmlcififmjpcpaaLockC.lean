/-
  'Locks.Of' and 'Locks.Held': how many a thread holds; all places that are held.
-/
import Derived.Test.YtmlcififmjpcpaaLockB
import Derived.Maps.AppendAt
namespace Go.Proofs.Ytmlcififmjpcpaa
open Go.RowKit Go.Shelf

attribute [local go_sem] Oper.semAt_some

def ofL (hs : List Hold) (who : Int) : Nat := (hs.filter (fun h => h.who == who)).length
def ofP (pre : List (Nat × Hold)) (who : Int) : Nat := ofL (pre.map (·.2)) who
theorem ofP_hit (pre : List (Nat × Hold)) {who : Int} {x : Nat × Hold} (h : x.2.who = who) : ofP (pre ++ [x]) who = ofP pre who + 1 := by simp [ofP, ofL, h]
theorem ofP_miss (pre : List (Nat × Hold)) {who : Int} {x : Nat × Hold} (h : x.2.who ≠ who) : ofP (pre ++ [x]) who = ofP pre who := by simp [ofP, ofL, h]
theorem ofP_le (pre : List (Nat × Hold)) (who : Int) : ofP pre who ≤ pre.length := by
  have := List.length_filter_le (fun h : Hold => h.who == who) (pre.map (·.2))
  simpa [ofP, ofL] using this
theorem upto_snd (hs : List Hold) : (upto hs hs.length).map (·.2) = hs := by
  apply List.ext_getElem
  · simp [upto]
  · intro i h1 h2
    simp [upto, h2]

set_option maxRecDepth 100000 in
set_option maxHeartbeats 2000000 in
theorem of_in (F : Fence) (n : Nat) (hf : F.fn 18) (hF : F.fn 35) (hA : F.fn 25) (hro : F.round = none) (hn : 3 ≤ n) (p : Option Addr) (who : Int) (hs : List Hold) (hreach : hs.length ≤ 1000000000) (w : World) (hI : LocksP w.heap.size w p hs) :
    CallsIn F n Try.prog 18 #[.pointer p, .int .i64 who] w fun e W' => e = .returned (.int .i64 (ofL hs who : Int)) ∧ Below w.heap.size w W' := by
  have h1 : 1 ≤ n := by omega
  refine callsIn_of_wp_marks Try.func18 rfl hf ?_ hro
  simp only [Try.ntmps18, List.size_toArray, List.length_cons, List.length_nil, Nat.reduceAdd, Nat.reduceSub, Array.replicate_succ, Array.replicate_zero, List.push_toArray, List.append_toArray, List.nil_append, List.cons_append]
  gi_wp2_with (gi_at_call 25; refine (all_in F (n - 1) hA hro _ _).mono ?_; rintro e w' ⟨rfl, rfl⟩)
  have bA := Boxed.new w 3 (.int .i64 who)
  have bR := Boxed.new (w.alloc (.cells #[.int .i64 who] 3)) 3 (.int .i64 0)
  have bN := Boxed.new ((w.alloc (.cells #[.int .i64 who] 3)).alloc (.cells #[.int .i64 0] 3)) 23 (.pointer p)
  rw [World.size_alloc] at bR
  rw [World.size_alloc, World.size_alloc] at bN
  have hB0 : Below w.heap.size w (((w.alloc (.cells #[.int .i64 who] 3)).alloc (.cells #[.int .i64 0] 3)).alloc (.cells #[.pointer p] 23)) := (((Below.refl _ w).alloc (Nat.le_refl _) _).alloc (by simp) _).alloc (by simp; omega) _
  have hsz : (((w.alloc (.cells #[.int .i64 who] 3)).alloc (.cells #[.int .i64 0] 3)).alloc (.cells #[.pointer p] 23)).heap.size = w.heap.size + 3 := by simp
  have bA := (bA.alloc (.cells #[.int .i64 0] 3)).alloc (.cells #[.pointer p] 23)
  have bR := bR.alloc (.cells #[.pointer p] 23)
  obtain ⟨W0, hW0⟩ : ∃ W0, (((w.alloc (.cells #[.int .i64 who] 3)).alloc (.cells #[.int .i64 0] 3)).alloc (.cells #[.pointer p] 23)) = W0 := ⟨_, rfl⟩
  rw [hW0] at bA bR bN hB0 hsz ⊢
  clear hW0
  refine wpIn_rangeFunc_ownH hro h1 (gf := 35) (lb := #[.pointer (some ⟨w.heap.size + 1 + 1, 0, none⟩)]) rfl hF (enters_of Try.func35 (by kernel_rfl) rfl)
    (all_stops F (n - 1) hF hro (by omega) (w.heap.size + 1 + 1) w.heap.size p hs hreach W0 (by omega) (by omega) bN.cell (hI.below hB0)) belowK_t (belowK_b (by omega)) (Below.refl _ _) (fun _ => rfl)
    (fun pre W => (Boxed W w.heap.size 3 (.int .i64 who) ∧ Boxed W (w.heap.size + 1) 3 (.int .i64 (ofP pre who : Int))) ∧ Below w.heap.size w W)
    (fun _ _ _ => False)
    (OwnFrom.and (OwnFrom.and (Own.from (boxed_own _ _ _) _) (Own.from (boxed_own _ _ (fun pre => Value.int .i64 (ofP pre who : Int))) _)) (ownFrom_below (Nat.le_refl _) (by omega)))
    (fun _ _ _ _ _ hs _ _ => hs)
    ⟨⟨bA, bR⟩, hB0⟩
    (fun x a' W => ∃ Bx, w.heap.size + 1 < Bx ∧ Blk W Bx 51 #[.int .i64 x.2.a, .int .i64 x.2.who, .int .i64 x.2.n] ∧ ∃ u6, a' = { tmps := #[.pointer p, .int .i64 who, undef, .pointer (some ⟨w.heap.size, 0, none⟩), .int .i64 0, .pointer (some ⟨w.heap.size + 1, 0, none⟩), u6, .pointer (some ⟨Bx, 0, none⟩), .pointer p, .func (.func 35) #[] #[.pointer (some ⟨w.heap.size + 1 + 1, 0, none⟩)], .int .i64 (x.1 : Int), Hold.v x.2, undef, undef, undef, undef, undef, undef, undef], defers := [] })
    (fun x a' _ X Y row hs hg hr => by obtain ⟨Bx, h1, h2, h3⟩ := hs; exact ⟨Bx, h1, blk_own Bx 51 (fun (_ : Unit) => #[Value.int .i64 x.2.a, .int .i64 x.2.who, .int .i64 x.2.n]) () X Y row h2 hg (fun r e => (hr r e).2), h3⟩)
    ?assign ?body ?done ?stop
  case assign =>
    rintro l pre x W K ⟨⟨bA1, bR1⟩, hB1⟩ hK
    dsimp only [Hold.v] at hK ⊢
    gi_wp2
    have hsW := hB1.size
    exact hK _ _ ((KeepsOthers.alloc _ _).from _) ((Below.refl _ W).alloc hB1.size _) ⟨⟨bA1.alloc _, bR1.alloc _⟩, hB1.alloc hB1.size _⟩ ⟨W.heap.size, bR1.lt, Blk.new W _ _, _, rfl⟩
  case body =>
    rintro l pre ⟨i, ⟨xa, xw, xn⟩⟩ a' W hl ⟨r, hr⟩ ⟨⟨bA1, bR1⟩, hB1⟩ ⟨Bx, hBx, bX, u6, rfl⟩ hlt
    dsimp only [Hold.v] at bX ⊢
    have cA := bA1.cell
    have cR := bR1.cell
    have fR := bR1.frozen
    have cX : W.cell? ⟨Bx, 1, none⟩ = some (.int .i64 xw) := bX.cell 1
    have hle := ofP_le pre who
    by_cases hx : xw = who
    · subst hx
      gi_wp2
      exact ⟨(KeepsOthers.setCell _ _ _).from _, (Below.refl _ W).setCell (p := ⟨w.heap.size + 1, 0, none⟩) (by simp) _, ⟨bA1.other (by omega) _, by rw [ofP_hit pre rfl]; exact bR1.set _⟩, hB1.setCell (p := ⟨w.heap.size + 1, 0, none⟩) (by simp) _⟩
    · have hxb : (xw == who) = false := beq_eq_false_iff_ne.2 hx
      gi_wp2
      exact ⟨KeepsFrom.refl _ _, Below.refl _ _, ⟨bA1, by rw [ofP_miss pre hx]; exact bR1⟩, hB1⟩
  case done =>
    rintro D ys W hD rfl ⟨⟨bA1, bR1⟩, hB1⟩ hK
    have cR := bR1.cell
    gi_wp2
    refine ⟨by simp, .inl ⟨_, _, rfl, run_takeDeferred hK, ?_⟩⟩
    exact ⟨_, results_tmp rfl _ _ _, by rw [ofP, upto_snd]; rfl, hB1.trans (belowK_b (w := w) (Nat.le_refl _) W D _ _ (by omega) hK rfl rfl)⟩
  case stop =>
    rintro D c pre W _ _ h _
    exact h.elim

theorem of_any (p : Option Addr) (who : Int) (hs : List Hold) (hreach : hs.length ≤ 1000000000) (w : World) (hI : LocksP w.heap.size w p hs) :
    Calls Try.prog 18 #[.pointer p, .int .i64 who] w fun e W' => e = .returned (.int .i64 (ofL hs who : Int)) ∧ Below w.heap.size w W' :=
  (callsIn_wide (n := 3)).1 (of_in _ 3 trivial trivial trivial rfl (Nat.le_refl _) p who hs hreach w hI)

theorem info_int64 : (Try.prog.info? 2).map (fun i => (i.zero, i.size, i.bytes)) = some (some (.int .i64 0), 1, 8) := by kernel_rfl

def heldV (pre : List (Nat × Hold)) : List Value := pre.map (fun q => Value.int .i64 q.2.a)

set_option maxRecDepth 100000 in
set_option maxHeartbeats 2000000 in
theorem held_in (F : Fence) (n : Nat) (hf : F.fn 13) (hF : F.fn 35) (hA : F.fn 25) (hro : F.round = none) (hn : 3 ≤ n) (p : Option Addr) (hs : List Hold) (hreach : hs.length ≤ 1000000000) (w : World) (hI : LocksP w.heap.size w p hs) :
    CallsIn F n Try.prog 13 #[.pointer p] w fun e W' => ∃ v, e = .returned v ∧ W'.ownsRow w.heap.size 2 1 v hs.length (hs.map (fun h => Value.int .i64 h.a)) ∧ Below w.heap.size w W' := by
  have h1 : 1 ≤ n := by omega
  obtain ⟨i0, hi, hz0, hz1, hz2⟩ := info_parts info_int64
  refine callsIn_of_wp_marks Try.func13 rfl hf ?_ hro
  simp only [Try.ntmps13, List.size_toArray, List.length_cons, List.length_nil, Nat.reduceAdd, Nat.reduceSub, Array.replicate_succ, Array.replicate_zero, List.push_toArray, List.append_toArray, List.nil_append, List.cons_append]
  gi_wp2_with (gi_at_call 25; refine (all_in F (n - 1) hA hro _ _).mono ?_; rintro e w' ⟨rfl, rfl⟩)
  have bO := Boxed.new w 25 (.slice none 0 0)
  have bN := Boxed.new (w.alloc (.cells #[.slice none 0 0] 25)) 23 (.pointer p)
  rw [World.size_alloc] at bN
  have hB0 : Below w.heap.size w ((w.alloc (.cells #[.slice none 0 0] 25)).alloc (.cells #[.pointer p] 23)) := ((Below.refl _ w).alloc (Nat.le_refl _) _).alloc (by simp) _
  have hsz : ((w.alloc (.cells #[.slice none 0 0] 25)).alloc (.cells #[.pointer p] 23)).heap.size = w.heap.size + 2 := by simp
  have bO := bO.alloc (.cells #[.pointer p] 23)
  obtain ⟨W0, hW0⟩ : ∃ W0, ((w.alloc (.cells #[.slice none 0 0] 25)).alloc (.cells #[.pointer p] 23)) = W0 := ⟨_, rfl⟩
  rw [hW0] at bO bN hB0 hsz ⊢
  clear hW0
  refine wpIn_rangeFunc_ownH hro h1 (gf := 35) (lb := #[.pointer (some ⟨w.heap.size + 1, 0, none⟩)]) rfl hF (enters_of Try.func35 (by kernel_rfl) rfl)
    (all_stops F (n - 1) hF hro (by omega) (w.heap.size + 1) w.heap.size p hs hreach W0 (by omega) (by omega) bN.cell (hI.below hB0)) belowK_t (belowK_b (by omega)) (Below.refl _ _) (fun _ => rfl)
    (fun pre W => (∃ v, Boxed W w.heap.size 25 v ∧ W.ownsRow w.heap.size 2 1 v pre.length (heldV pre) ∧ True) ∧ Below w.heap.size w W)
    (fun _ _ _ => False)
    (OwnFrom.and (Own.from (holdsRow_own w.heap.size w.heap.size 25 2 1 (fun pre => pre.length) heldV (fun _ _ => True)) _) (ownFrom_below (Nat.le_refl _) (by omega)))
    (fun _ _ _ _ _ hs _ _ => hs)
    ⟨⟨_, bO, World.ownsRow_nil _ _ _ _, trivial⟩, hB0⟩
    (fun x a' W => ∃ Bx, w.heap.size < Bx ∧ Blk W Bx 51 #[.int .i64 x.2.a, .int .i64 x.2.who, .int .i64 x.2.n] ∧ ∃ u4, a' = { tmps := #[.pointer p, undef, .slice none 0 0, .pointer (some ⟨w.heap.size, 0, none⟩), u4, .pointer (some ⟨Bx, 0, none⟩), .pointer p, .func (.func 35) #[] #[.pointer (some ⟨w.heap.size + 1, 0, none⟩)], .int .i64 (x.1 : Int), Hold.v x.2, undef, undef, undef, undef, undef, undef], defers := [] })
    (fun x a' _ X Y row hs hg hr => by obtain ⟨Bx, h1, h2, h3⟩ := hs; exact ⟨Bx, h1, blk_own Bx 51 (fun (_ : Unit) => #[Value.int .i64 x.2.a, .int .i64 x.2.who, .int .i64 x.2.n]) () X Y row h2 hg (fun r e => (hr r e).2), h3⟩)
    ?assign ?body ?done ?stop
  case assign =>
    rintro l pre x W K ⟨⟨v, bO1, hrow, _⟩, hB1⟩ hK
    dsimp only [Hold.v] at hK ⊢
    gi_wp2
    exact hK _ _ ((KeepsOthers.alloc _ _).from _) ((Below.refl _ W).alloc hB1.size _) ⟨⟨v, bO1.alloc _, hrow.alloc _, trivial⟩, hB1.alloc hB1.size _⟩ ⟨W.heap.size, bO1.lt, Blk.new W _ _, _, rfl⟩
  case body =>
    rintro l pre ⟨i, ⟨xa, xw, xn⟩⟩ a' W hl ⟨r, hr⟩ ⟨⟨v, bO1, hrow, _⟩, hB1⟩ ⟨Bx, hBx, bX, u4, rfl⟩ hlt
    dsimp only [Hold.v] at bX ⊢
    have hc := bO1.cell
    have cX : W.cell? ⟨Bx, 0, none⟩ = some (.int .i64 xa) := bX.cell 0
    gi_wp2_with (gi_at_builtin; refine wpListIn_append_own _ rfl _ _ 25 rfl w.heap.size 2 i0 (.int .i64 0) 1 8 Try.underlying25 hi hz0 hz1 hz2 rfl (by decide) _ _ _ rfl (hrow.alloc _) ⟨W.heap.size, 0, none⟩ 1 1 [.int .i64 xa] rfl rfl (cell_one_new _ _ _) (by simp [Value.oneCell']) (by unfold maxLen; omega) (by omega) (by have := hB1.size; simp; omega) ?_; intro v' w1 hown' hgrow _; obtain ⟨g', cap', rfl⟩ := ownsRow_succ hown'; obtain ⟨hv1, hv2, hr2, hk2, hb2⟩ := bO1.appended (by decide) hrow hB1.size (Nat.le_refl _) hown' hgrow; have hc1 := hv1.cell; have hf1 := hv1.frozen)
    exact ⟨hk2.from _, hb2, ⟨_, hv2, by simpa [heldV] using hr2, trivial⟩, hB1.trans hb2⟩
  case done =>
    rintro D ys W hD rfl ⟨⟨v, hv, hrow, _⟩, hB⟩ hK
    have hc := hv.cell
    have e1 : heldV (upto hs hs.length) = hs.map (fun h => Value.int .i64 h.a) := by conv => rhs; rw [← upto_snd hs, List.map_map]
                                                                                     rfl
    have e2 : (upto hs hs.length).length = hs.length := by simp [upto]
    rw [e1, e2] at hrow
    clear e1 e2
    gi_wp2
    refine ⟨by simp, .inl ⟨_, _, rfl, run_takeDeferred hK, ?_⟩⟩
    exact ⟨_, results_tmp rfl _ _ _, v, rfl, ownsRow_putObj hrow _ hK rfl, hB.trans (belowK_b (w := w) (Nat.le_refl _) W D _ _ (by omega) hK rfl rfl)⟩
  case stop =>
    rintro D c pre W _ _ h _
    exact h.elim

theorem held_any (p : Option Addr) (hs : List Hold) (hreach : hs.length ≤ 1000000000) (w : World) (hI : LocksP w.heap.size w p hs) :
    Calls Try.prog 13 #[.pointer p] w fun e W' => ∃ v, e = .returned v ∧ W'.ownsRow w.heap.size 2 1 v hs.length (hs.map (fun h => Value.int .i64 h.a)) ∧ Below w.heap.size w W' :=
  (callsIn_wide (n := 3)).1 (held_in _ 3 trivial trivial trivial rfl (Nat.le_refl _) p hs hreach w hI)
end Go.Proofs.Ytmlcififmjpcpaa
