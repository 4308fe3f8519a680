/-
  The iterator 'lock.all' and its closure: contracts.
-/
import Derived.RangeFuncNested
import Derived.RangeFuncBound
import Derived.RangeFuncCalls
import Derived.RangeFuncLeaves
import Derived.RangeFuncBox
import Derived.Shelf.Abstract
import Derived.Shelf.RegionOpen
import Derived.WalkKit
import Derived.OwnWalkIn
import Derived.TacticsInMore
import Derived.LoopNIn
import Derived.LoopIn
import Derived.Outline
import Derived.Test.YtmlcififmjpcpaaProg
namespace Go.Proofs.Ytmlcififmjpcpaa
open Go.RowKit Go.Shelf

attribute [local go_sem] Oper.semAt_some

structure Hold where
  a : Int
  who : Int
  n : Int

def Hold.cells (h : Hold) : List Value := [.int .i64 h.a, .int .i64 h.who, .int .i64 h.n]
def Hold.v (h : Hold) : Value := .agg #[.int .i64 h.a, .int .i64 h.who, .int .i64 h.n]
def Hold.zero : Hold := ⟨0, 0, 0⟩

set_option maxRecDepth 100000 in
set_option maxHeartbeats 1000000 in
theorem all1_in (F : Fence) (n : Nat) (hF : F.fn 35) (hro : F.round = none) (hn : 1 ≤ n) (l Bs n₀ b g cap : Nat) (hs : List Hold) (hreach : hs.length ≤ 1000000000) (hb : g < n₀) (J Jx : List (Nat × Hold) → World → Prop) (W : World)
    (hJ : AbidesFrom W.heap.size J)
    (hY : ∀ pre x W, J pre W → pre.length < hs.length → YieldAt F (n - 1) Try.prog l #[.int .i64 (x.1 : Int), Hold.v x.2] W fun e W' =>
      (e = .returned (.bool true) ∧ J (pre ++ [x]) W' ∧ Below n₀ W W') ∨ (e = .returned (.bool false) ∧ Jx (pre ++ [x]) W'))
    (hn₀ : n₀ ≤ W.heap.size) (hBs : W.cell? ⟨Bs, 0, none⟩ = some (.pointer (some ⟨b, 0, none⟩))) (hbc : W.cell? ⟨b, 0, none⟩ = some (.slice (some ⟨g, 0, none⟩) hs.length cap))
    (hc0 : ∀ j, j < hs.length → W.cell? ⟨g, j * 3, none⟩ = some (.int .i64 (hs.getD j Hold.zero).a))
    (hc1 : ∀ j, j < hs.length → W.cell? ⟨g, j * 3 + 1, none⟩ = some (.int .i64 (hs.getD j Hold.zero).who))
    (hc2 : ∀ j, j < hs.length → W.cell? ⟨g, j * 3 + 2, none⟩ = some (.int .i64 (hs.getD j Hold.zero).n)) (h0 : J [] W) :
    CallsIn F n Try.prog 35 #[.func (.yield l) #[] #[], .pointer (some ⟨Bs, 0, none⟩)] W fun e W' => (∃ v, e = .returned v) ∧
      ((∃ ys, ys = (List.range hs.length).map (fun j => (j, hs.getD j Hold.zero)) ∧ J ys W') ∨ (∃ pre, (∃ k, k ≤ hs.length ∧ pre = (List.range k).map (fun j => (j, hs.getD j Hold.zero))) ∧ Jx pre W')) := by
  refine callsIn_of_wp Try.func35 rfl hF ?_ hro
  simp only [Try.ntmps35, List.size_toArray, List.length_cons, List.length_nil, Nat.reduceAdd, Nat.reduceSub, Array.replicate_succ, Array.replicate_zero, List.push_toArray, List.append_toArray, List.nil_append, List.cons_append]
  gi_wp2
  gi_loopw [12] (fun i wr => ∃ k : Nat, k ≤ hs.length ∧ i = .int .i64 k ∧ J ((List.range k).map (fun j => (j, hs.getD j Hold.zero))) wr ∧ Below n₀ W wr)
    (fun i _ => hs.length - (intOf i).toNat)
  case atStart => exact ⟨0, Nat.zero_le _, rfl, h0, Below.refl _ _⟩
  case round =>
    obtain ⟨k, hk, rfl, hJs, hnx⟩ := hrel
    by_cases hlt : k < hs.length
    · have hc0' : wr.cell? ⟨g, k * 3, none⟩ = some (.int .i64 (hs.getD k Hold.zero).a) := (hnx.cell (p := ⟨g, k * 3, none⟩) hb).trans (hc0 k hlt)
      have hc1' : wr.cell? ⟨g, k * 3 + 1, none⟩ = some (.int .i64 (hs.getD k Hold.zero).who) := (hnx.cell (p := ⟨g, k * 3 + 1, none⟩) hb).trans (hc1 k hlt)
      have hc2' : wr.cell? ⟨g, k * 3 + 2, none⟩ = some (.int .i64 (hs.getD k Hold.zero).n) := (hnx.cell (p := ⟨g, k * 3 + 2, none⟩) hb).trans (hc2 k hlt)
      clear hc0 hc1 hc2
      obtain ⟨⟨xa, xw, xn⟩, hx⟩ : ∃ x, x = hs.getD k Hold.zero := ⟨_, rfl⟩
      rw [← hx] at hc0' hc1' hc2'
      have HX : Hid ((⟨xa, xw, xn⟩ : Hold) = hs.getD k Hold.zero) := hx
      clear hx
      obtain ⟨fn, tmps, assign, body, hy, hR⟩ := hY _ (k, ⟨xa, xw, xn⟩) (wr.alloc (.cells #[.int .i64 xa, .int .i64 xw, .int .i64 xn] 51)) (hJ _ _ _ none hJs (World.grownBy_alloc _ _ _) (fun r e => by cases e)) (by simp; exact hlt)
      dsimp only [Hold.v] at hy hc0' hc1' hc2'
      gi_wp2
      refine hR.mono ?_
      rintro e W3 (⟨rfl, hJ3, hk3⟩ | ⟨rfl, hJx3⟩)
      · gi_wp2
        go_roundw
        case rel => exact ⟨k + 1, by omega, by simp, by rw [List.range_succ, List.map_append, List.map_singleton, ← HX.out]; exact hJ3, (hnx.alloc (by have := hnx.size; omega) _).trans hk3⟩
        case measure => simp [intOf]; omega
      · gi_wp2
        refine bodyPost_ret (results_none rfl _ _ _) rfl ?_
        exact ⟨⟨_, rfl⟩, .inr ⟨_, ⟨k + 1, by omega, rfl⟩, by rw [List.range_succ, List.map_append, List.map_singleton, ← HX.out]; exact hJx3⟩⟩
    · obtain rfl : k = hs.length := by omega
      gi_wp2
      go_end0
      exact ⟨⟨_, rfl⟩, .inl ⟨_, rfl, hJs⟩⟩

set_option maxRecDepth 100000 in
set_option maxHeartbeats 1000000 in
theorem all1_nil_in (F : Fence) (n : Nat) (hF : F.fn 35) (hro : F.round = none) (l Bs b : Nat) (J : List (Nat × Hold) → World → Prop)
    (W : World) (hBs : W.cell? ⟨Bs, 0, none⟩ = some (.pointer (some ⟨b, 0, none⟩))) (hbc : W.cell? ⟨b, 0, none⟩ = some (.slice none 0 0)) (h0 : J [] W) :
    CallsIn F n Try.prog 35 #[.func (.yield l) #[] #[], .pointer (some ⟨Bs, 0, none⟩)] W fun e W' => (∃ v, e = .returned v) ∧ J [] W' := by
  refine callsIn_of_wp Try.func35 rfl hF ?_ hro
  simp only [Try.ntmps35, List.size_toArray, List.length_cons, List.length_nil, Nat.reduceAdd, Nat.reduceSub, Array.replicate_succ, Array.replicate_zero, List.push_toArray, List.append_toArray, List.nil_append, List.cons_append]
  gi_wp2
  gi_loopw [12] (fun i wr => i = .int .i64 0 ∧ J [] wr) (fun _ _ => 0)
  case atStart => exact ⟨rfl, h0⟩
  case round =>
    obtain ⟨rfl, hJs⟩ := hrel
    gi_wp2
    go_end0
    exact ⟨⟨_, rfl⟩, hJs⟩

set_option maxRecDepth 100000 in
set_option maxHeartbeats 1000000 in
theorem all1_none_in (F : Fence) (n : Nat) (hF : F.fn 35) (hro : F.round = none) (l Bs : Nat) (J : List (Nat × Hold) → World → Prop)
    (W : World) (hBs : W.cell? ⟨Bs, 0, none⟩ = some (.pointer none)) (h0 : J [] W) :
    CallsIn F n Try.prog 35 #[.func (.yield l) #[] #[], .pointer (some ⟨Bs, 0, none⟩)] W fun e W' => (∃ v, e = .returned v) ∧ J [] W' := by
  refine callsIn_of_wp Try.func35 rfl hF ?_ hro
  simp only [Try.ntmps35, List.size_toArray, List.length_cons, List.length_nil, Nat.reduceAdd, Nat.reduceSub, Array.replicate_succ, Array.replicate_zero, List.push_toArray, List.append_toArray, List.nil_append, List.cons_append]
  gi_wp2
  refine bodyPost_ret (results_none rfl _ _ _) rfl ?_
  exact ⟨⟨_, rfl⟩, h0⟩

set_option maxHeartbeats 1000000 in
theorem all_in (F : Fence) (n : Nat) (hF : F.fn 25) (hro : F.round = none) (p : Option Addr) (w : World) :
    CallsIn F n Try.prog 25 #[.pointer p] w fun e w' => e = .returned (.func (.func 35) #[] #[.pointer (some ⟨w.heap.size, 0, none⟩)]) ∧ w' = w.alloc (.cells #[.pointer p] 23) := by
  refine callsIn_of_wp Try.func25 rfl hF ?_ hro
  simp only [Try.ntmps25, List.size_toArray, List.length_cons, List.length_nil, Nat.reduceAdd, Nat.reduceSub, Array.replicate_succ, Array.replicate_zero, List.push_toArray, List.append_toArray, List.nil_append, List.cons_append]
  gi_wp2
  go_ret
  exact ⟨rfl, rfl⟩

/-- What a slice of holds reads as, all of it below block n₀. -/
def HoldsV (n₀ : Nat) (W : World) (v : Value) (hs : List Hold) : Prop :=
  (v = .slice none 0 0 ∧ hs = []) ∨ ∃ g cap, v = .slice (some ⟨g, 0, none⟩) hs.length cap ∧ g < n₀ ∧
    (∀ j, j < hs.length → W.cell? ⟨g, j * 3, none⟩ = some (.int .i64 (hs.getD j Hold.zero).a)) ∧
    (∀ j, j < hs.length → W.cell? ⟨g, j * 3 + 1, none⟩ = some (.int .i64 (hs.getD j Hold.zero).who)) ∧
    (∀ j, j < hs.length → W.cell? ⟨g, j * 3 + 2, none⟩ = some (.int .i64 (hs.getD j Hold.zero).n))
theorem HoldsV.below {n₀ : Nat} {A B : World} (h : Below n₀ A B) {v : Value} {hs : List Hold} : HoldsV n₀ A v hs → HoldsV n₀ B v hs
  | .inl e => .inl e
  | .inr ⟨g, cap, e, hb, h1, h2, h3⟩ => .inr ⟨g, cap, e, hb, fun j hj => (h.cell (p := ⟨g, j * 3, none⟩) hb).trans (h1 j hj), fun j hj => (h.cell (p := ⟨g, j * 3 + 1, none⟩) hb).trans (h2 j hj), fun j hj => (h.cell (p := ⟨g, j * 3 + 2, none⟩) hb).trans (h3 j hj)⟩

/-- What a pointer to locks reads as, all of it below block n₀; nil: none. -/
def LocksP (n₀ : Nat) (W : World) (p : Option Addr) (hs : List Hold) : Prop :=
  (p = none ∧ hs = []) ∨ ∃ b v, p = some ⟨b, 0, none⟩ ∧ b < n₀ ∧ W.cell? ⟨b, 0, none⟩ = some v ∧ HoldsV n₀ W v hs
theorem LocksP.below {n₀ : Nat} {A B : World} (h : Below n₀ A B) {p : Option Addr} {hs : List Hold} : LocksP n₀ A p hs → LocksP n₀ B p hs
  | .inl e => .inl e
  | .inr ⟨b, v, e, hb, hc, hv⟩ => .inr ⟨b, v, e, hb, (h.cell (p := ⟨b, 0, none⟩) hb).trans hc, hv.below h⟩

def upto (hs : List Hold) (k : Nat) : List (Nat × Hold) := (List.range k).map (fun j => (j, hs.getD j Hold.zero))

theorem all_stops (F : Fence) (n : Nat) (hF : F.fn 35) (hro : F.round = none) (hn : 1 ≤ n) (Bs n₀ : Nat) (p : Option Addr) (hs : List Hold) (hreach : hs.length ≤ 1000000000) (w : World) (hBs : Bs < w.heap.size) (hn₀ : n₀ ≤ w.heap.size)
    (hc : w.cell? ⟨Bs, 0, none⟩ = some (.pointer p)) (hI : LocksP n₀ w p hs) :
    SeqStopsK F n Try.prog 35 #[.pointer (some ⟨Bs, 0, none⟩)] (fun x : Nat × Hold => #[Value.int .i64 (x.1 : Int), Hold.v x.2]) (Below n₀) (fun ys => ys = upto hs hs.length)
      (fun pre => ∃ k, k ≤ hs.length ∧ pre = upto hs k) hs.length w := fun l J Jx W hW hJ _ hY h0 => by
  have hc' := (hW.cell (p := ⟨Bs, 0, none⟩) hBs).trans hc
  rcases hI.below (hW.mono hn₀) with ⟨rfl, rfl⟩ | ⟨b, v, rfl, hb, hbc, ⟨rfl, rfl⟩ | ⟨g, cap, rfl, hg, h1, h2, h3⟩⟩
  · exact (all1_none_in F n hF hro l Bs J W hc' h0).mono fun e W' ⟨he, hj⟩ => ⟨he, .inl ⟨_, rfl, hj⟩⟩
  · exact (all1_nil_in F n hF hro l Bs b J W hc' hbc h0).mono fun e W' ⟨he, hj⟩ => ⟨he, .inl ⟨_, rfl, hj⟩⟩
  · exact all1_in F n hF hro hn l Bs n₀ b g cap hs hreach hg J Jx W hJ hY (Nat.le_trans hn₀ hW.size) hc' hbc h1 h2 h3 h0
end Go.Proofs.Ytmlcififmjpcpaa
