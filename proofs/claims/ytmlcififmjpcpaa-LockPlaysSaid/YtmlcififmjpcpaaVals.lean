/-
  slices.Values, AppendSeq, Collect, Sorted at int64; slices.Compact.
-/
import Derived.Test.YtmlcififmjpcpaaRefA
import Derived.Test.YtmlcififmjpcpaaSortI
namespace Go.Proofs.Ytmlcififmjpcpaa
open Go.RowKit Go.Shelf
set_option linter.unusedVariables false
attribute [local go_sem] Oper.semAt_some

set_option maxRecDepth 100000 in
set_option maxHeartbeats 1000000 in
theorem vals1_in (F : Fence) (n : Nat) (hF : F.fn 38) (hro : F.round = none) (hn : 1 ≤ n) (l Bs n₀ : Nat) (A : Addr) (cap : Nat) (xs : List Int) (hreach : xs.length ≤ 1000000000) (J Jx : List Int → World → Prop) (W : World)
    (hY : ∀ pre x W, J pre W → pre.length < xs.length → YieldAt F (n - 1) Try.prog l #[.int .i64 x] W fun e W' =>
      (e = .returned (.bool true) ∧ J (pre ++ [x]) W' ∧ Below n₀ W W') ∨ (e = .returned (.bool false) ∧ Jx (pre ++ [x]) W'))
    (hBs : W.cell? ⟨Bs, 0, none⟩ = some (.slice (some A) xs.length cap))
    (hc : ∀ W', Below n₀ W W' → ∀ j, j < xs.length → W'.cell? (A.add j) = some (.int .i64 (xs.getD j 0))) (h0 : J [] W) :
    CallsIn F n Try.prog 38 #[.func (.yield l) #[] #[], .pointer (some ⟨Bs, 0, none⟩)] W fun e W' => (∃ v, e = .returned v) ∧
      ((∃ ys, ys = xs ∧ J ys W') ∨ (∃ pre, pre <+: xs ∧ Jx pre W')) := by
  have HC := Lib.hid hc
  clear hc
  refine callsIn_of_wp Try.func38 rfl hF ?_ hro
  simp only [Try.ntmps38, List.size_toArray, List.length_cons, List.length_nil, Nat.reduceAdd, Nat.reduceSub, Array.replicate_succ, Array.replicate_zero, List.push_toArray, List.append_toArray, List.nil_append, List.cons_append]
  gi_wp2
  gi_loopw [7] (fun i wr => ∃ k : Nat, k ≤ xs.length ∧ i = .int .i64 k ∧ J (xs.take k) wr ∧ Hid (Below n₀ W wr))
    (fun i _ => xs.length - (intOf i).toNat)
  case atStart => exact ⟨0, Nat.zero_le _, rfl, h0, Below.refl _ _⟩
  case round =>
    obtain ⟨k, hk, rfl, hJs, hnx⟩ := hrel
    by_cases hlt : k < xs.length
    · have hcx := HC.out wr hnx.out k hlt
      have hkl : (k : Int) < (xs.length : Int) := by omega
      have hk0 : (0 : Int) ≤ (k : Int) := by omega
      have ht : xs.take (k + 1) = xs.take k ++ [xs.getD k 0] := by rw [List.take_succ_eq_append_getElem hlt]; simp [hlt]
      obtain ⟨x, hx⟩ : ∃ x, x = xs.getD k 0 := ⟨_, rfl⟩
      rw [← hx] at hcx ht
      have HT := Lib.hid ht
      clear hx ht
      obtain ⟨fn, tmps, assign, body, hy, hR⟩ := hY _ x wr hJs (by rw [List.length_take]; omega)
      gi_wp2
      refine hR.mono ?_
      rintro e W3 (⟨rfl, hJ3, hk3⟩ | ⟨rfl, hJx3⟩)
      · gi_wp2
        go_roundw
        case rel => exact ⟨k + 1, by omega, by simp, by rw [HT.out]; exact hJ3, hnx.out.trans hk3⟩
        case measure => simp [intOf]; omega
      · gi_wp2
        refine bodyPost_ret (results_none rfl _ _ _) rfl ?_
        exact ⟨⟨_, rfl⟩, .inr ⟨_, by rw [← HT.out]; exact List.take_prefix _ _, hJx3⟩⟩
    · obtain rfl : k = xs.length := by omega
      gi_wp2
      go_end0
      exact ⟨⟨_, rfl⟩, .inl ⟨_, List.take_length, hJs⟩⟩

set_option maxRecDepth 100000 in
set_option maxHeartbeats 1000000 in
theorem vals1_nil_in (F : Fence) (n : Nat) (hF : F.fn 38) (hro : F.round = none) (l Bs : Nat) (J : List Int → World → Prop)
    (W : World) (hBs : W.cell? ⟨Bs, 0, none⟩ = some (.slice none 0 0)) (h0 : J [] W) :
    CallsIn F n Try.prog 38 #[.func (.yield l) #[] #[], .pointer (some ⟨Bs, 0, none⟩)] W fun e W' => (∃ v, e = .returned v) ∧ J [] W' := by
  refine callsIn_of_wp Try.func38 rfl hF ?_ hro
  simp only [Try.ntmps38, List.size_toArray, List.length_cons, List.length_nil, Nat.reduceAdd, Nat.reduceSub, Array.replicate_succ, Array.replicate_zero, List.push_toArray, List.append_toArray, List.nil_append, List.cons_append]
  gi_wp2
  gi_loopw [7] (fun i wr => i = .int .i64 0 ∧ J [] wr) (fun _ _ => 0)
  case atStart => exact ⟨rfl, h0⟩
  case round =>
    obtain ⟨rfl, hJs⟩ := hrel
    gi_wp2
    go_end0
    exact ⟨⟨_, rfl⟩, hJs⟩

/-- The iterator over a slice that reads as xs in an earlier world. -/
theorem vals_stops (F : Fence) (n : Nat) (hF : F.fn 38) (hro : F.round = none) (hn : 1 ≤ n) (Bs : Nat) (w0 : World) (sv : Value) (xs : List Int) (hreach : xs.length ≤ 1000000000) (hI : RSlice (Kint .i64) 1 w0 sv xs)
    (w : World) (hw : Below w0.heap.size w0 w) (hBs : Bs < w.heap.size) (hc : w.cell? ⟨Bs, 0, none⟩ = some sv) :
    SeqStopsK F n Try.prog 38 #[.pointer (some ⟨Bs, 0, none⟩)] (fun x : Int => #[Value.int .i64 x]) (Below w0.heap.size) (fun ys => ys = xs) (fun pre => pre <+: xs) xs.length w := fun l J Jx W hW _ _ hY h0 => by
  have hc' := (hW.cell (p := ⟨Bs, 0, none⟩) hBs).trans hc
  have hWW : Below w0.heap.size w0 W := hw.trans (hW.mono hw.size)
  rcases hI with ⟨rfl, rfl⟩ | ⟨A, cap, rfl, hl, hm, hx'⟩
  · exact (vals1_nil_in F n hF hro l Bs J W hc' h0).mono fun e W' ⟨he, hj⟩ => ⟨he, .inl ⟨_, rfl, hj⟩⟩
  · refine vals1_in F n hF hro hn l Bs w0.heap.size A cap xs hreach J Jx W hY hc' (fun W' hW' j hj => ?_) h0
    obtain ⟨A2, c2, e, h⟩ := ints_at (hWW.trans hW') (.inr ⟨A, cap, rfl, hl, hm, hx'⟩ : RSlice (Kint .i64) 1 w0 (.slice (some A) xs.length cap) xs) hj
    cases e
    exact h

set_option maxHeartbeats 1000000 in
theorem vals_any (a : Option Addr) (len cap : Nat) (w : World) :
    Calls Try.prog 32 #[.slice a len cap] w fun e w' => e = .returned (.func (.func 38) #[] #[.pointer (some ⟨w.heap.size, 0, none⟩)]) ∧ w' = w.alloc (.cells #[.slice a len cap] 25) := by
  go_enter Try.func32, Try.ntmps32
  go_wp2
  go_ret
  exact ⟨rfl, rfl⟩


set_option maxRecDepth 100000 in
set_option maxHeartbeats 2000000 in
theorem appendSeq_in (F : Fence) (n : Nat) (hf : F.fn 39) (hF : F.fn 38) (hro : F.round = none) (hn : 3 ≤ n) (w0 : World) (sv : Value) (xs : List Int) (hreach : xs.length ≤ 1000000000) (hI : RSlice (Kint .i64) 1 w0 sv xs)
    (Bv : Nat) (w : World) (hw : Below w0.heap.size w0 w) (hBv : Bv < w.heap.size) (hcv : w.cell? ⟨Bv, 0, none⟩ = some sv) :
    CallsIn F n Try.prog 39 #[.slice none 0 0, .func (.func 38) #[] #[.pointer (some ⟨Bv, 0, none⟩)]] w fun e W' => ∃ v, e = .returned v ∧ W'.ownsRow w.heap.size 2 1 v xs.length (intV xs) ∧ Below w.heap.size w W' := by
  have h1 : 1 ≤ n := by omega
  obtain ⟨i0, hi, hz0, hz1, hz2⟩ := info_parts info_int64
  refine callsIn_of_wp_marks Try.func39 rfl hf ?_ hro
  simp only [Try.ntmps39, List.size_toArray, List.length_cons, List.length_nil, Nat.reduceAdd, Nat.reduceSub, Array.replicate_succ, Array.replicate_zero, List.push_toArray, List.append_toArray, List.nil_append, List.cons_append]
  gi_wp2
  have bO := Boxed.new w 25 (.slice none 0 0)
  have hB0 : Below w.heap.size w (w.alloc (.cells #[.slice none 0 0] 25)) := (Below.refl _ w).alloc (Nat.le_refl _) _
  have hsz : (w.alloc (.cells #[.slice none 0 0] 25)).heap.size = w.heap.size + 1 := by simp
  obtain ⟨W0, hW0⟩ : ∃ W0, (w.alloc (.cells #[.slice none 0 0] 25)) = W0 := ⟨_, rfl⟩
  rw [hW0] at bO hB0 hsz ⊢
  clear hW0
  refine wpIn_rangeFunc_ownH hro h1 (gf := 38) (lb := #[.pointer (some ⟨Bv, 0, none⟩)]) rfl hF (enters_of Try.func38 (by kernel_rfl) rfl)
    (vals_stops F (n - 1) hF hro (by omega) Bv w0 sv xs hreach hI W0 (hw.trans (hB0.mono hw.size)) (by omega) ((hB0.cell (p := ⟨Bv, 0, none⟩) hBv).trans hcv)) belowK_t (belowK_b (by have := hw.size; omega)) (Below.refl _ _) (fun _ => rfl)
    (fun pre W => (∃ v, Boxed W w.heap.size 25 v ∧ W.ownsRow w.heap.size 2 1 v pre.length (intV pre) ∧ True) ∧ Below w.heap.size w W)
    (fun _ _ _ => False)
    (OwnFrom.and (Own.from (holdsRow_own w.heap.size w.heap.size 25 2 1 (fun pre => pre.length) intV (fun _ _ => True)) _) (ownFrom_below (Nat.le_refl _) (by omega)))
    (fun _ _ _ _ _ hs _ _ => hs)
    ⟨⟨_, bO, World.ownsRow_nil _ _ _ _, trivial⟩, hB0⟩
    (fun x a' W => ∃ u3 u4, a' = { tmps := #[.slice none 0 0, .func (.func 38) #[] #[.pointer (some ⟨Bv, 0, none⟩)], .pointer (some ⟨w.heap.size, 0, none⟩), u3, .slice none 0 0, .int .i64 x, .func (.func 38) #[] #[.pointer (some ⟨Bv, 0, none⟩)], u4, undef, undef, undef, undef, undef], defers := [] })
    (fun x a' _ X Y row hs hg hr => hs)
    ?assign ?body ?done ?stop
  case assign =>
    rintro l pre x W K ⟨⟨v, bO1, hrow, _⟩, hB1⟩ hK
    dsimp only at hK ⊢
    gi_wp2
    exact hK _ _ ((KeepsOthers.refl W).from _) (Below.refl _ W) ⟨⟨v, bO1, hrow, trivial⟩, hB1⟩ ⟨_, _, rfl⟩
  case body =>
    rintro l pre x a' W hl ⟨r, hr⟩ ⟨⟨v, bO1, hrow, _⟩, hB1⟩ ⟨u3, u4, rfl⟩ hlt
    have hc := bO1.cell
    gi_wp2_with (gi_at_builtin; refine wpListIn_append_own _ rfl _ _ 25 rfl w.heap.size 2 i0 (.int .i64 0) 1 8 Try.underlying25 hi hz0 hz1 hz2 rfl (by decide) _ _ _ rfl (hrow.alloc _) ⟨W.heap.size, 0, none⟩ 1 1 [.int .i64 x] rfl rfl (cell_one_new _ _ _) (by simp [Value.oneCell']) (by unfold maxLen; omega) (by omega) (by have := hB1.size; simp; omega) ?_; intro v' w1 hown' hgrow _; obtain ⟨g', cap', rfl⟩ := ownsRow_succ hown'; obtain ⟨hv1, hv2, hr2, hk2, hb2⟩ := bO1.appended (by decide) hrow hB1.size (Nat.le_refl _) hown' hgrow; have hc1 := hv1.cell; have hf1 := hv1.frozen)
    exact ⟨hk2.from _, hb2.mono (by have := hw.size; omega), ⟨_, hv2, by simpa [intV] using hr2, trivial⟩, hB1.trans hb2⟩
  case done =>
    rintro D ys W hD rfl ⟨⟨v, hv, hrow, _⟩, hB⟩ hK
    have hc := hv.cell
    gi_wp2
    refine ⟨by simp, .inl ⟨_, _, rfl, run_takeDeferred hK, ?_⟩⟩
    exact ⟨_, results_tmp rfl _ _ _, v, rfl, ownsRow_putObj hrow _ hK rfl, hB.trans (belowK_b (w := w) (Nat.le_refl _) W D _ _ (by omega) hK rfl rfl)⟩
  case stop =>
    rintro D c pre W _ _ h _
    exact h.elim

theorem appendSeq_any (w0 : World) (sv : Value) (xs : List Int) (hreach : xs.length ≤ 1000000000) (hI : RSlice (Kint .i64) 1 w0 sv xs) (Bv : Nat) (w : World) (hw : Below w0.heap.size w0 w) (hBv : Bv < w.heap.size) (hcv : w.cell? ⟨Bv, 0, none⟩ = some sv) :
    Calls Try.prog 39 #[.slice none 0 0, .func (.func 38) #[] #[.pointer (some ⟨Bv, 0, none⟩)]] w fun e W' => ∃ v, e = .returned v ∧ W'.ownsRow w.heap.size 2 1 v xs.length (intV xs) ∧ Below w.heap.size w W' :=
  (callsIn_wide (n := 3)).1 (appendSeq_in _ 3 trivial trivial rfl (Nat.le_refl _) w0 sv xs hreach hI Bv w hw hBv hcv)

set_option maxHeartbeats 1000000 in
theorem collect_any (w0 : World) (sv : Value) (xs : List Int) (hreach : xs.length ≤ 1000000000) (hI : RSlice (Kint .i64) 1 w0 sv xs) (Bv : Nat) (w : World) (hw : Below w0.heap.size w0 w) (hBv : Bv < w.heap.size) (hcv : w.cell? ⟨Bv, 0, none⟩ = some sv) :
    Calls Try.prog 36 #[.func (.func 38) #[] #[.pointer (some ⟨Bv, 0, none⟩)]] w fun e W' => ∃ v, e = .returned v ∧ W'.ownsRow w.heap.size 2 1 v xs.length (intV xs) ∧ Below w.heap.size w W' := by
  have hA := appendSeq_any w0 sv xs hreach hI Bv w hw hBv hcv
  go_enter Try.func36, Try.ntmps36
  go_wp2_with (go_at_call 39; refine hA.mono ?_; rintro e w1 ⟨v, rfl, ho, hb⟩; have HO := Lib.hid ho; clear ho)
  go_ret
  exact ⟨_, rfl, HO.out, ‹_›⟩

def sortI (xs : List Int) : List Int := xs.mergeSort fun x y => decide (x ≤ y)
theorem sortI_length (xs : List Int) : (sortI xs).length = xs.length := List.length_mergeSort _

set_option maxHeartbeats 1000000 in
theorem sorted_any (w0 : World) (sv : Value) (xs : List Int) (hs : xs.length ≤ 1000000) (hI : RSlice (Kint .i64) 1 w0 sv xs) (Bv : Nat) (w : World) (hw : Below w0.heap.size w0 w) (hBv : Bv < w.heap.size) (hcv : w.cell? ⟨Bv, 0, none⟩ = some sv) :
    Calls Try.prog 31 #[.func (.func 38) #[] #[.pointer (some ⟨Bv, 0, none⟩)]] w fun e W' => ∃ v, e = .returned v ∧ W'.ownsRow w.heap.size 2 1 v xs.length (intV (sortI xs)) ∧ Below w.heap.size w W' := by
  have hA := collect_any w0 sv xs (by omega) hI Bv w hw hBv hcv
  go_enter Try.func31, Try.ntmps31
  go_wp2_with (go_at_call 36; refine hA.mono ?_; rintro e w1 ⟨v, rfl, ho, hb⟩; have HS := Lib.hid (sort_row w1 w.heap.size v xs ho hs hb.size); have HB := Lib.hid hb; clear ho hb)
  go_wp2_with (go_at_call 37; refine HS.out.mono ?_; rintro e w2 ⟨rfl, ho2, hb2⟩; have HO := Lib.hid ho2; have HB2 := Lib.hid hb2; clear ho2 hb2)
  go_ret
  exact ⟨_, rfl, HO.out, HB.out.trans HB2.out⟩
end Go.Proofs.Ytmlcififmjpcpaa
