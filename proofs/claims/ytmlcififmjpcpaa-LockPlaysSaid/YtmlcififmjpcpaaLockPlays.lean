/-
  The walk of LockPlays.
-/
import Derived.Test.YtmlcififmjpcpaaPlays
namespace Go.Proofs.Ytmlcififmjpcpaa
open Go.RowKit
set_option linter.unusedVariables false

theorem owner_lrx {w0 w : World} {b c : Nat} {Ls : List (Nat × TypeId × Array Value)} {hs rs : List Hold} (h : LRX w0 b hs c rs Ls w) (hl : hs.length ≤ 1000000) (a : Int) :
    Calls Try.prog 15 #[.pointer (some ⟨b, 0, none⟩), .int .i64 a] w fun e w' => e = .returned (.tuple #[.int .i64 (ownerL hs a).1, .int .i64 (ownerL hs a).2.1, .bool (ownerL hs a).2.2]) ∧ LRX w0 b hs c rs Ls w' := by
  obtain ⟨S, T, h1, _⟩ := id h
  exact (owner_any w S b hs a h1 hl).mono fun e w' ⟨he, hb⟩ => ⟨he, h.quiet hb⟩
theorem rowner_lrx {w0 w : World} {b c : Nat} {Ls : List (Nat × TypeId × Array Value)} {hs rs : List Hold} (h : LRX w0 b hs c rs Ls w) (hl : rs.length ≤ 1000000) (a : Int) :
    Calls Try.prog 16 #[.pointer (some ⟨c, 0, none⟩), .int .i64 a] w fun e w' => e = .returned (.tuple #[.int .i64 (ownerL rs a).1, .int .i64 (ownerL rs a).2.1, .bool (ownerL rs a).2.2]) ∧ LRX w0 b hs c rs Ls w' := by
  obtain ⟨S, T, h1, h2, _⟩ := id h
  exact (rowner_any w c rs a h2.reads hl).mono fun e w' ⟨he, hb⟩ => ⟨he, h.quiet hb⟩
theorem held_lrx {w0 w : World} {b c : Nat} {Ls : List (Nat × TypeId × Array Value)} {hs rs : List Hold} (h : LRX w0 b hs c rs Ls w) (hl : hs.length ≤ 1000000) :
    Calls Try.prog 13 #[.pointer (some ⟨b, 0, none⟩)] w fun e w' => ∃ v, e = .returned v ∧ RSlice (Kint .i64) 1 w' v (hs.map (·.a)) ∧ LRX w0 b hs c rs Ls w' := by
  obtain ⟨S, T, h1, _⟩ := id h
  refine (held_any (some ⟨b, 0, none⟩) hs (by omega) w h1.reads).mono fun e w' ⟨v, he, ho, hb⟩ => ⟨v, he, ?_, h.quiet hb⟩
  exact ints_of_own (xs := hs.map (·.a)) (by rw [List.map_map]; exact ho) (by simp)
theorem rheld_lrx {w0 w : World} {b c : Nat} {Ls : List (Nat × TypeId × Array Value)} {hs rs : List Hold} (h : LRX w0 b hs c rs Ls w) (hl : rs.length ≤ 1000000) :
    Calls Try.prog 17 #[.pointer (some ⟨c, 0, none⟩)] w fun e w' => ∃ v, e = .returned v ∧ RSlice (Kint .i64) 1 w' v (rs.map (·.a)) ∧ LRX w0 b hs c rs Ls w' ∧ Below w.heap.size w w' := by
  obtain ⟨S, T, h1, h2, _⟩ := id h
  refine (rheld_any w c rs h2.reads hl).mono fun e w' ⟨v, he, ho, hb⟩ => ⟨v, he, ?_, h.quiet hb, hb⟩
  exact ints_of_own (xs := rs.map (·.a)) (by rw [List.map_map]; exact ho) (by simp)
theorem of_lrx {w0 w : World} {b c : Nat} {Ls : List (Nat × TypeId × Array Value)} {hs rs : List Hold} (h : LRX w0 b hs c rs Ls w) (hl : hs.length ≤ 1000000) (who : Int) :
    Calls Try.prog 18 #[.pointer (some ⟨b, 0, none⟩), .int .i64 who] w fun e w' => e = .returned (.int .i64 (ofL hs who : Nat)) ∧ LRX w0 b hs c rs Ls w' := by
  obtain ⟨S, T, h1, _⟩ := id h
  exact (of_any (some ⟨b, 0, none⟩) who hs (by omega) w h1.reads).mono fun e w' ⟨he, hb⟩ => ⟨he, h.quiet hb⟩
theorem rof_lrx {w0 w : World} {b c : Nat} {Ls : List (Nat × TypeId × Array Value)} {hs rs : List Hold} (h : LRX w0 b hs c rs Ls w) (hl : rs.length ≤ 1000000) (who : Int) :
    Calls Try.prog 19 #[.pointer (some ⟨c, 0, none⟩), .int .i64 who] w fun e w' => e = .returned (.int .i64 (ofL rs who : Nat)) ∧ LRX w0 b hs c rs Ls w' := by
  obtain ⟨S, T, h1, h2, _⟩ := id h
  exact (rof_any w c rs who h2.reads hl).mono fun e w' ⟨he, hb⟩ => ⟨he, h.quiet hb⟩
theorem same_lrx {w0 w : World} {b c : Nat} {Ls : List (Nat × TypeId × Array Value)} {hs rs : List Hold} (h : LRX w0 b hs c rs Ls w) {v1 v2 : Value} {xs : List Int} (h1 : RSlice (Kint .i64) 1 w v1 xs) (h2 : RSlice (Kint .i64) 1 w v2 xs) (hl : xs.length ≤ 1000000) :
    Calls Try.prog 12 #[v1, v2] w fun e w' => e = .returned (.bool true) ∧ LRX w0 b hs c rs Ls w' :=
  (same_any w v1 v2 xs xs h1 h2 (by omega) (by omega)).mono fun e w' ⟨he, hb⟩ => ⟨by rw [he]; simp, h.quiet hb⟩

theorem new_lr {w0 w : World} {b : Nat} (h : LK w0 b [] w) : LR w0 b [] w.heap.size [] (w.alloc (.cells #[.slice none 0 0] 39)) := by
  obtain ⟨S, h1, h2, h3, h4⟩ := h
  have hq : Below w.heap.size w (w.alloc (.cells #[.slice none 0 0] 39)) := (Below.refl _ w).alloc (Nat.le_refl _) _
  refine ⟨S, fun k => k = w.heap.size, h1.below hq, ⟨rfl, _, Boxed.new w _ _, ⟨World.ownsRow_nil _ _ _ _, fun k hk => by simp [Value.ownBlock] at hk⟩⟩, fun k hk e => by have := h3 k hk; omega, h2, fun k hk => Nat.lt_of_lt_of_le (h3 k hk) hq.size, fun k e => by subst e; exact h4.size, fun k e => by subst e; simp, h4.trans (hq.mono h4.size)⟩

set_option maxRecDepth 100000 in
set_option maxHeartbeats 8000000 in
theorem lockPlays_walk (v0 : Value) (xs : List ActD) (w : World) (h0 : RSlice KAct 4 w v0 xs ∧ (xs.length * 48 ≤ 140737488351232 ∧ ∀ x ∈ xs, goodAct x)) :
    Calls Try.prog 5 #[v0] w fun e w' => e = .returned (.bool true) ∧ Below w.heap.size w w' := by
  obtain ⟨h0, hlen, _⟩ := h0
  obtain ⟨A0, c0, rfl⟩ := acts_slice h0
  have hl63 : xs.length ≤ 9223372036854775807 := by omega
  have H0 := Lib.hid h0
  clear h0 hlen
  go_enter Try.func5, Try.ntmps5
  go_wp2_with fail
  refine (new_lk (Below.refl _ w)).mono ?_
  rintro e w1 ⟨b, rfl, hLK⟩
  have hLR := Lib.hid (new_lr hLK)
  clear hLK
  go_wp2_with fail
  go_loopw [5] (fun i wr => ∃ k : Nat, ∃ hs : List Hold, k ≤ xs.length ∧ k ≤ 80 ∧ i = .int .i64 k ∧ Hid (LR w b hs w1.heap.size hs wr) ∧ Hid (Inv k hs))
    (fun i _ => xs.length - (intOf i).toNat)
  case atStart => exact ⟨0, [], by omega, by omega, rfl, hLR.out, ⟨by simp, fun h hh => by simp at hh⟩⟩
  case round =>
    clear hLR
    obtain ⟨k, hs, hk, hk4, rfl, hL, hI⟩ := hrel
    by_cases hlt : k < xs.length ∧ k < 80
    · obtain ⟨hlt, hlt4⟩ := hlt
      obtain ⟨⟨kind, a, who, now⟩, hx⟩ : ∃ x, xs[k]? = some x := ⟨_, List.getElem?_eq_getElem hlt⟩
      obtain ⟨A, cap, nv, he, hc0, hc1, hc2, hc3, hnv⟩ := act_at hL.out.below H0.out hlt hx
      obtain ⟨An, cn, rfl⟩ := ints_slice hnv
      have HN := Lib.hid hnv
      clear hnv
      obtain ⟨rfl, -, rfl⟩ := Value.slice.inj he
      clear he hx
      have HX := Lib.hid (hL.out.lrx.alloc 27 #[.int .i64 kind, .int .i64 a, .int .i64 who, .slice An now.length cn])
      by_cases h60 : 60 < now.length
      · go_wp2_with fail
        refine (known_any _).mono ?_
        rintro e w3 ⟨rfl, hb⟩
        have HB := Lib.hid (HX.out.drop.below.trans (hb.mono (HX.out.drop.below).size))
        clear hb
        go_wp2
        go_ret
        exact ⟨rfl, HB.out⟩
      · have HD := Lib.hid (do_any w _ b w1.heap.size k hs _ HX.out hI.out (by omega) kind a who An cn now HN.out (by omega))
        have HI2 := Lib.hid (act_inv hI.out (by omega) kind a who now)
        go_wp2_with fail
        refine HD.out.mono ?_
        rintro e w3 ⟨rfl, hL3⟩
        clear HX HD
        obtain ⟨hs', hh⟩ : ∃ x, x = actL hs kind a who now := ⟨_, rfl⟩
        rw [← hh] at hL3
        rw [← hh] at HI2
        clear hh
        have hl3 : hs'.length ≤ 1000000 := by have := HI2.out.1; omega
        have p1 : w3.cell? ⟨wr.heap.size, 1, none⟩ = some (.int .i64 a) := (hL3.blk (.head _)).cell 1
        have HL3 := Lib.hid hL3
        clear hL3 hc0 hc1 hc2 hc3
        obtain ⟨y1, hy1⟩ : ∃ y, y = (ownerL hs' a).1 := ⟨_, rfl⟩
        obtain ⟨y2, hy2⟩ : ∃ y, y = (ownerL hs' a).2.1 := ⟨_, rfl⟩
        obtain ⟨y3, hy3⟩ : ∃ y, y = (ownerL hs' a).2.2 := ⟨_, rfl⟩
        have hO := owner_lrx HL3.out hl3 a
        rw [← hy1, ← hy2, ← hy3] at hO
        go_wp2_with fail
        refine hO.mono ?_
        rintro e w4 ⟨rfl, hL4⟩
        have p1 : w4.cell? ⟨wr.heap.size, 1, none⟩ = some (.int .i64 a) := (hL4.blk (.head _)).cell 1
        have hO2 := rowner_lrx hL4 hl3 a
        rw [← hy1, ← hy2, ← hy3] at hO2
        clear hL4 hO hy1 hy2 hy3
        go_wp2_with fail
        refine hO2.mono ?_
        rintro e w5 ⟨rfl, hL5⟩
        have p2 : w5.drew.cell? ⟨wr.heap.size, 2, none⟩ = some (.int .i64 who) := (hL5.blk (.head _)).cell 2
        have HL5 := Lib.hid hL5
        clear hL5 hO2
        have q1 : (y1 != y1) = false := by simp
        have q2 : (y2 != y2) = false := by simp
        have q3 : (y3 != y3) = false := by simp
        go_wp2_with fail
        go_region_held3 (fun wq => wq.cell? ⟨wr.heap.size, 2, none⟩ = some (Value.int .i64 who)) (first | exact r10 | exact r9 | exact r8 | exact r7 | exact r6 | exact p2) (first
          | (go_at_call 13; refine (held_lrx HL5.out.drew hl3).mono ?_; rintro e w6 ⟨v1, rfl, hv1, hL6⟩; have r6 : w6.cell? ⟨wr.heap.size, 2, none⟩ = some (.int .i64 who) := (hL6.blk (.head _)).cell 2; have HL6 := Lib.hid hL6; have HV1 := Lib.hid hv1; clear hL6 hv1)
          | (go_at_call 17; refine (rheld_lrx HL6.out hl3).mono ?_; rintro e w7 ⟨v2, rfl, hv2, hL7, hb7⟩; have r7 : w7.cell? ⟨wr.heap.size, 2, none⟩ = some (.int .i64 who) := (hL7.blk (.head _)).cell 2; have HS7 := Lib.hid (same_lrx hL7 (RSlice_below hb7 HV1.out) hv2 (by rw [List.length_map]; exact hl3)); have HL7 := Lib.hid hL7; clear hL7 hv2 hb7)
          | (go_at_call 12; refine HS7.out.mono ?_; rintro e w8 ⟨rfl, hL8⟩; have r8 : w8.cell? ⟨wr.heap.size, 2, none⟩ = some (.int .i64 who) := (hL8.blk (.head _)).cell 2; have HL8 := Lib.hid hL8; clear hL8)
          | (go_at_call 18; refine (of_lrx HL8.out hl3 who).mono ?_; rintro e w9 ⟨rfl, hL9⟩; have r9 : w9.cell? ⟨wr.heap.size, 2, none⟩ = some (.int .i64 who) := (hL9.blk (.head _)).cell 2; have HL9 := Lib.hid hL9; clear hL9)
          | (go_at_call 19; refine (rof_lrx HL9.out hl3 who).mono ?_; rintro e w10 ⟨rfl, hL10⟩; have r10 : w10.cell? ⟨wr.heap.size, 2, none⟩ = some (.int .i64 who) := (hL10.blk (.head _)).cell 2; have HL10 := Lib.hid hL10; clear hL10))
        go_wp2
        go_roundw
        case rel => exact ⟨k + 1, hs', by omega, by omega, by go_num, HL10.out.drop, HI2⟩
        case measure => simp [intOf]; omega
    · have HB := Lib.hid hL.out.below
      have fin : Calls Try.prog 10 #[] wr fun e w' => e = .returned (.bool true) ∧ Below w.heap.size w w' :=
        (known_any wr).mono fun e w' ⟨he, hb⟩ => ⟨he, HB.out.trans (hb.mono HB.out.size)⟩
      have FIN := Lib.hid fin
      clear fin
      by_cases hk1 : k < xs.length
      · have hk2 : ¬ k < 80 := fun h => hlt ⟨hk1, h⟩
        clear hlt
        go_wp2_with fail
        refine FIN.out.mono ?_
        rintro e w3 ⟨rfl, hb⟩
        have HB3 := Lib.hid hb
        clear hb
        go_wp2
        go_ret
        exact ⟨rfl, HB3.out⟩
      · clear hlt
        go_wp2_with fail
        refine FIN.out.mono ?_
        rintro e w3 ⟨rfl, hb⟩
        have HB3 := Lib.hid hb
        clear hb
        go_wp2
        go_ret
        exact ⟨rfl, HB3.out⟩
end Go.Proofs.Ytmlcififmjpcpaa
