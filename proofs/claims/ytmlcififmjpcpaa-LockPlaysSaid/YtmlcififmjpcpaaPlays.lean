/-
  LockPlays: one act of both (printed by tools/genplays.py).
-/
import Derived.Test.YtmlcififmjpcpaaPlaysP
import Derived.Deep.RegionHeld3
namespace Go.Proofs.Ytmlcififmjpcpaa
open Go.RowKit
set_option linter.unusedVariables false

set_option maxRecDepth 100000 in
set_option maxHeartbeats 4000000 in
theorem do_enter0 (w0 w : World) (b c m : Nat) (hs : List Hold) (Ls : List (Nat × TypeId × Array Value)) (h : LRX w0 b hs c hs Ls w) (hI : Inv m hs) (hm : m < 1000) (kind a who : Int) (An : Option Addr) (cn : Nat) (now : List Int) (hN : RSlice (Kint .i64) 1 w0 (.slice An now.length cn) now) (hn : now.length ≤ 1000000) (hk : kind = 0) :
    Calls Try.prog 14 #[.pointer (some ⟨b, 0, none⟩), .pointer (some ⟨c, 0, none⟩), .agg #[.int .i64 kind, .int .i64 a, .int .i64 who, .slice An now.length cn]] w fun e w' => e = .returned (.bool true) ∧ LRX w0 b (actL hs kind a who now) c (actL hs kind a who now) Ls w' := by
  have hl : hs.length ≤ 1000000 := by have := hI.1; omega
  have HN := Lib.hid hN
  have hX := h.alloc 27 #[.int .i64 kind, .int .i64 a, .int .i64 who, .slice An now.length cn]
  have HX := Lib.hid hX
  clear hN h hX
  subst hk
  have hA : actL hs 0 a who now = (enterL hs a who).2 := by simp [actL]
  rw [hA]
  clear hA
  go_enter Try.func14, Try.ntmps14
  go_wp2
  have c1 : (w.alloc (.cells #[.int .i64 0, .int .i64 a, .int .i64 who, .slice An now.length cn] 27)).drew.cell? ⟨w.heap.size, 1, none⟩ = some (Value.int .i64 a) := (HX.out.drew.blk (.head _)).cell 1
  have c2 : (w.alloc (.cells #[.int .i64 0, .int .i64 a, .int .i64 who, .slice An now.length cn] 27)).drew.cell? ⟨w.heap.size, 2, none⟩ = some (Value.int .i64 who) := (HX.out.drew.blk (.head _)).cell 2
  go_region_held3 (fun wq => wq.cell? ⟨w.heap.size, 1, none⟩ = some (Value.int .i64 a) ∧ wq.cell? ⟨w.heap.size, 2, none⟩ = some (Value.int .i64 who)) (first | exact ⟨e1, e2⟩ | exact ⟨d1, d2⟩ | exact ⟨c1, c2⟩) (first | (go_at_call 8; refine (enter_lrx HX.out.drew hl a who).mono ?_; rintro e w1 ⟨rfl, hL1⟩; have d1 : _ = some (Value.int .i64 a) := (hL1.blk (.head _)).cell 1; have d2 : _ = some (Value.int .i64 who) := (hL1.blk (.head _)).cell 2; have HL1 := Lib.hid hL1; clear hL1) | (go_at_call 26; refine (renter_lrx HL1.out hl a who).mono ?_; rintro e w2 ⟨rfl, hL2⟩; have e1 : _ = some (Value.int .i64 a) := (hL2.blk (.head _)).cell 1; have e2 : _ = some (Value.int .i64 who) := (hL2.blk (.head _)).cell 2; have HL2 := Lib.hid hL2; clear hL2))
  go_wp2
  go_ret
  exact ⟨by simp, HL2.out.sub (fun x hx => List.mem_cons_of_mem _ hx)⟩

set_option maxRecDepth 100000 in
set_option maxHeartbeats 4000000 in
theorem do_enter1 (w0 w : World) (b c m : Nat) (hs : List Hold) (Ls : List (Nat × TypeId × Array Value)) (h : LRX w0 b hs c hs Ls w) (hI : Inv m hs) (hm : m < 1000) (kind a who : Int) (An : Option Addr) (cn : Nat) (now : List Int) (hN : RSlice (Kint .i64) 1 w0 (.slice An now.length cn) now) (hn : now.length ≤ 1000000) (hk : kind = 1) :
    Calls Try.prog 14 #[.pointer (some ⟨b, 0, none⟩), .pointer (some ⟨c, 0, none⟩), .agg #[.int .i64 kind, .int .i64 a, .int .i64 who, .slice An now.length cn]] w fun e w' => e = .returned (.bool true) ∧ LRX w0 b (actL hs kind a who now) c (actL hs kind a who now) Ls w' := by
  have hl : hs.length ≤ 1000000 := by have := hI.1; omega
  have HN := Lib.hid hN
  have hX := h.alloc 27 #[.int .i64 kind, .int .i64 a, .int .i64 who, .slice An now.length cn]
  have HX := Lib.hid hX
  clear hN h hX
  subst hk
  have hA : actL hs 1 a who now = (enterL hs a who).2 := by simp [actL]
  rw [hA]
  clear hA
  go_enter Try.func14, Try.ntmps14
  go_wp2
  have c1 : (w.alloc (.cells #[.int .i64 1, .int .i64 a, .int .i64 who, .slice An now.length cn] 27)).drew.cell? ⟨w.heap.size, 1, none⟩ = some (Value.int .i64 a) := (HX.out.drew.blk (.head _)).cell 1
  have c2 : (w.alloc (.cells #[.int .i64 1, .int .i64 a, .int .i64 who, .slice An now.length cn] 27)).drew.cell? ⟨w.heap.size, 2, none⟩ = some (Value.int .i64 who) := (HX.out.drew.blk (.head _)).cell 2
  go_region_held3 (fun wq => wq.cell? ⟨w.heap.size, 1, none⟩ = some (Value.int .i64 a) ∧ wq.cell? ⟨w.heap.size, 2, none⟩ = some (Value.int .i64 who)) (first | exact ⟨e1, e2⟩ | exact ⟨d1, d2⟩ | exact ⟨c1, c2⟩) (first | (go_at_call 8; refine (enter_lrx HX.out.drew hl a who).mono ?_; rintro e w1 ⟨rfl, hL1⟩; have d1 : _ = some (Value.int .i64 a) := (hL1.blk (.head _)).cell 1; have d2 : _ = some (Value.int .i64 who) := (hL1.blk (.head _)).cell 2; have HL1 := Lib.hid hL1; clear hL1) | (go_at_call 26; refine (renter_lrx HL1.out hl a who).mono ?_; rintro e w2 ⟨rfl, hL2⟩; have e1 : _ = some (Value.int .i64 a) := (hL2.blk (.head _)).cell 1; have e2 : _ = some (Value.int .i64 who) := (hL2.blk (.head _)).cell 2; have HL2 := Lib.hid hL2; clear hL2))
  go_wp2
  go_ret
  exact ⟨by simp, HL2.out.sub (fun x hx => List.mem_cons_of_mem _ hx)⟩

set_option maxRecDepth 100000 in
set_option maxHeartbeats 4000000 in
theorem do_enter2 (w0 w : World) (b c m : Nat) (hs : List Hold) (Ls : List (Nat × TypeId × Array Value)) (h : LRX w0 b hs c hs Ls w) (hI : Inv m hs) (hm : m < 1000) (kind a who : Int) (An : Option Addr) (cn : Nat) (now : List Int) (hN : RSlice (Kint .i64) 1 w0 (.slice An now.length cn) now) (hn : now.length ≤ 1000000) (hk : kind = 2) :
    Calls Try.prog 14 #[.pointer (some ⟨b, 0, none⟩), .pointer (some ⟨c, 0, none⟩), .agg #[.int .i64 kind, .int .i64 a, .int .i64 who, .slice An now.length cn]] w fun e w' => e = .returned (.bool true) ∧ LRX w0 b (actL hs kind a who now) c (actL hs kind a who now) Ls w' := by
  have hl : hs.length ≤ 1000000 := by have := hI.1; omega
  have HN := Lib.hid hN
  have hX := h.alloc 27 #[.int .i64 kind, .int .i64 a, .int .i64 who, .slice An now.length cn]
  have HX := Lib.hid hX
  clear hN h hX
  subst hk
  have hA : actL hs 2 a who now = (enterL hs a who).2 := by simp [actL]
  rw [hA]
  clear hA
  go_enter Try.func14, Try.ntmps14
  go_wp2
  have c1 : (w.alloc (.cells #[.int .i64 2, .int .i64 a, .int .i64 who, .slice An now.length cn] 27)).drew.cell? ⟨w.heap.size, 1, none⟩ = some (Value.int .i64 a) := (HX.out.drew.blk (.head _)).cell 1
  have c2 : (w.alloc (.cells #[.int .i64 2, .int .i64 a, .int .i64 who, .slice An now.length cn] 27)).drew.cell? ⟨w.heap.size, 2, none⟩ = some (Value.int .i64 who) := (HX.out.drew.blk (.head _)).cell 2
  go_region_held3 (fun wq => wq.cell? ⟨w.heap.size, 1, none⟩ = some (Value.int .i64 a) ∧ wq.cell? ⟨w.heap.size, 2, none⟩ = some (Value.int .i64 who)) (first | exact ⟨e1, e2⟩ | exact ⟨d1, d2⟩ | exact ⟨c1, c2⟩) (first | (go_at_call 8; refine (enter_lrx HX.out.drew hl a who).mono ?_; rintro e w1 ⟨rfl, hL1⟩; have d1 : _ = some (Value.int .i64 a) := (hL1.blk (.head _)).cell 1; have d2 : _ = some (Value.int .i64 who) := (hL1.blk (.head _)).cell 2; have HL1 := Lib.hid hL1; clear hL1) | (go_at_call 26; refine (renter_lrx HL1.out hl a who).mono ?_; rintro e w2 ⟨rfl, hL2⟩; have e1 : _ = some (Value.int .i64 a) := (hL2.blk (.head _)).cell 1; have e2 : _ = some (Value.int .i64 who) := (hL2.blk (.head _)).cell 2; have HL2 := Lib.hid hL2; clear hL2))
  go_wp2
  go_ret
  exact ⟨by simp, HL2.out.sub (fun x hx => List.mem_cons_of_mem _ hx)⟩

set_option maxRecDepth 100000 in
set_option maxHeartbeats 4000000 in
theorem do_exit3 (w0 w : World) (b c m : Nat) (hs : List Hold) (Ls : List (Nat × TypeId × Array Value)) (h : LRX w0 b hs c hs Ls w) (hI : Inv m hs) (hm : m < 1000) (kind a who : Int) (An : Option Addr) (cn : Nat) (now : List Int) (hN : RSlice (Kint .i64) 1 w0 (.slice An now.length cn) now) (hn : now.length ≤ 1000000) (hk : kind = 3) :
    Calls Try.prog 14 #[.pointer (some ⟨b, 0, none⟩), .pointer (some ⟨c, 0, none⟩), .agg #[.int .i64 kind, .int .i64 a, .int .i64 who, .slice An now.length cn]] w fun e w' => e = .returned (.bool true) ∧ LRX w0 b (actL hs kind a who now) c (actL hs kind a who now) Ls w' := by
  have hl : hs.length ≤ 1000000 := by have := hI.1; omega
  have HN := Lib.hid hN
  have hX := h.alloc 27 #[.int .i64 kind, .int .i64 a, .int .i64 who, .slice An now.length cn]
  have HX := Lib.hid hX
  clear hN h hX
  subst hk
  have hA : actL hs 3 a who now = (exitL hs a who).2 := by simp [actL]
  rw [hA]
  clear hA
  have HX1 := Lib.hid (exit_same hI hm a who).1
  go_enter Try.func14, Try.ntmps14
  go_wp2
  have c1 : (w.alloc (.cells #[.int .i64 3, .int .i64 a, .int .i64 who, .slice An now.length cn] 27)).drew.cell? ⟨w.heap.size, 1, none⟩ = some (Value.int .i64 a) := (HX.out.drew.blk (.head _)).cell 1
  have c2 : (w.alloc (.cells #[.int .i64 3, .int .i64 a, .int .i64 who, .slice An now.length cn] 27)).drew.cell? ⟨w.heap.size, 2, none⟩ = some (Value.int .i64 who) := (HX.out.drew.blk (.head _)).cell 2
  go_region_held3 (fun wq => wq.cell? ⟨w.heap.size, 1, none⟩ = some (Value.int .i64 a) ∧ wq.cell? ⟨w.heap.size, 2, none⟩ = some (Value.int .i64 who)) (first | exact ⟨e1, e2⟩ | exact ⟨d1, d2⟩ | exact ⟨c1, c2⟩) (first | (go_at_call 9; refine (exit_lrx HX.out.drew hl a who).mono ?_; rintro e w1 ⟨rfl, hL1⟩; have d1 : _ = some (Value.int .i64 a) := (hL1.blk (.head _)).cell 1; have d2 : _ = some (Value.int .i64 who) := (hL1.blk (.head _)).cell 2; have HL1 := Lib.hid hL1; clear hL1) | (go_at_call 27; refine (rexit_lrx HL1.out hl a who).mono ?_; rintro e w2 ⟨rfl, hL2⟩; have e1 : _ = some (Value.int .i64 a) := (hL2.blk (.head _)).cell 1; have e2 : _ = some (Value.int .i64 who) := (hL2.blk (.head _)).cell 2; have HL2 := Lib.hid hL2; clear hL2))
  go_wp2
  go_ret
  have HL3 := HL2.out
  rw [HX1.out] at HL3 ⊢
  exact ⟨by simp, HL3.sub (fun x hx => List.mem_cons_of_mem _ hx)⟩

set_option maxRecDepth 100000 in
set_option maxHeartbeats 4000000 in
theorem do_exit4 (w0 w : World) (b c m : Nat) (hs : List Hold) (Ls : List (Nat × TypeId × Array Value)) (h : LRX w0 b hs c hs Ls w) (hI : Inv m hs) (hm : m < 1000) (kind a who : Int) (An : Option Addr) (cn : Nat) (now : List Int) (hN : RSlice (Kint .i64) 1 w0 (.slice An now.length cn) now) (hn : now.length ≤ 1000000) (hk : kind = 4) :
    Calls Try.prog 14 #[.pointer (some ⟨b, 0, none⟩), .pointer (some ⟨c, 0, none⟩), .agg #[.int .i64 kind, .int .i64 a, .int .i64 who, .slice An now.length cn]] w fun e w' => e = .returned (.bool true) ∧ LRX w0 b (actL hs kind a who now) c (actL hs kind a who now) Ls w' := by
  have hl : hs.length ≤ 1000000 := by have := hI.1; omega
  have HN := Lib.hid hN
  have hX := h.alloc 27 #[.int .i64 kind, .int .i64 a, .int .i64 who, .slice An now.length cn]
  have HX := Lib.hid hX
  clear hN h hX
  subst hk
  have hA : actL hs 4 a who now = (exitL hs a who).2 := by simp [actL]
  rw [hA]
  clear hA
  have HX1 := Lib.hid (exit_same hI hm a who).1
  go_enter Try.func14, Try.ntmps14
  go_wp2
  have c1 : (w.alloc (.cells #[.int .i64 4, .int .i64 a, .int .i64 who, .slice An now.length cn] 27)).drew.cell? ⟨w.heap.size, 1, none⟩ = some (Value.int .i64 a) := (HX.out.drew.blk (.head _)).cell 1
  have c2 : (w.alloc (.cells #[.int .i64 4, .int .i64 a, .int .i64 who, .slice An now.length cn] 27)).drew.cell? ⟨w.heap.size, 2, none⟩ = some (Value.int .i64 who) := (HX.out.drew.blk (.head _)).cell 2
  go_region_held3 (fun wq => wq.cell? ⟨w.heap.size, 1, none⟩ = some (Value.int .i64 a) ∧ wq.cell? ⟨w.heap.size, 2, none⟩ = some (Value.int .i64 who)) (first | exact ⟨e1, e2⟩ | exact ⟨d1, d2⟩ | exact ⟨c1, c2⟩) (first | (go_at_call 9; refine (exit_lrx HX.out.drew hl a who).mono ?_; rintro e w1 ⟨rfl, hL1⟩; have d1 : _ = some (Value.int .i64 a) := (hL1.blk (.head _)).cell 1; have d2 : _ = some (Value.int .i64 who) := (hL1.blk (.head _)).cell 2; have HL1 := Lib.hid hL1; clear hL1) | (go_at_call 27; refine (rexit_lrx HL1.out hl a who).mono ?_; rintro e w2 ⟨rfl, hL2⟩; have e1 : _ = some (Value.int .i64 a) := (hL2.blk (.head _)).cell 1; have e2 : _ = some (Value.int .i64 who) := (hL2.blk (.head _)).cell 2; have HL2 := Lib.hid hL2; clear hL2))
  go_wp2
  go_ret
  have HL3 := HL2.out
  rw [HX1.out] at HL3 ⊢
  exact ⟨by simp, HL3.sub (fun x hx => List.mem_cons_of_mem _ hx)⟩

set_option maxRecDepth 100000 in
set_option maxHeartbeats 4000000 in
theorem do_put (w0 w : World) (b c m : Nat) (hs : List Hold) (Ls : List (Nat × TypeId × Array Value)) (h : LRX w0 b hs c hs Ls w) (hI : Inv m hs) (hm : m < 1000) (kind a who : Int) (An : Option Addr) (cn : Nat) (now : List Int) (hN : RSlice (Kint .i64) 1 w0 (.slice An now.length cn) now) (hn : now.length ≤ 1000000) (hk : kind = 5) :
    Calls Try.prog 14 #[.pointer (some ⟨b, 0, none⟩), .pointer (some ⟨c, 0, none⟩), .agg #[.int .i64 kind, .int .i64 a, .int .i64 who, .slice An now.length cn]] w fun e w' => e = .returned (.bool true) ∧ LRX w0 b (actL hs kind a who now) c (actL hs kind a who now) Ls w' := by
  have hl : hs.length ≤ 1000000 := by have := hI.1; omega
  have HN := Lib.hid hN
  have hX := h.alloc 27 #[.int .i64 kind, .int .i64 a, .int .i64 who, .slice An now.length cn]
  have HX := Lib.hid hX
  clear hN h hX
  subst hk
  have hA : actL hs 5 a who now = (putL hs now).2 := by simp [actL]
  rw [hA]
  clear hA
  go_enter Try.func14, Try.ntmps14
  go_wp2
  have c3 : (w.alloc (.cells #[.int .i64 5, .int .i64 a, .int .i64 who, .slice An now.length cn] 27)).drew.cell? ⟨w.heap.size, 3, none⟩ = some (Value.slice An now.length cn) := (HX.out.drew.blk (.head _)).cell 3
  go_region_held3 (fun wq => wq.cell? ⟨w.heap.size, 3, none⟩ = some (Value.slice An now.length cn)) (first | exact e3 | exact d3 | exact c3) (first | (go_at_call 20; refine (put_lrx HX.out.drew hl hn HN.out).mono ?_; rintro e w1 ⟨rfl, hL1⟩; have d3 : _ = some (Value.slice An now.length cn) := (hL1.blk (.head _)).cell 3; have HL1 := Lib.hid hL1; clear hL1) | (go_at_call 28; refine (rput_lrx HL1.out hl HN.out).mono ?_; rintro e w2 ⟨rfl, hL2⟩; have e3 : _ = some (Value.slice An now.length cn) := (hL2.blk (.head _)).cell 3; have HL2 := Lib.hid hL2; clear hL2))
  go_wp2
  go_ret
  exact ⟨by simp, HL2.out.sub (fun x hx => List.mem_cons_of_mem _ hx)⟩

set_option maxRecDepth 100000 in
set_option maxHeartbeats 4000000 in
theorem do_free (w0 w : World) (b c m : Nat) (hs : List Hold) (Ls : List (Nat × TypeId × Array Value)) (h : LRX w0 b hs c hs Ls w) (hI : Inv m hs) (hm : m < 1000) (kind a who : Int) (An : Option Addr) (cn : Nat) (now : List Int) (hN : RSlice (Kint .i64) 1 w0 (.slice An now.length cn) now) (hn : now.length ≤ 1000000) (hk : kind = 6) :
    Calls Try.prog 14 #[.pointer (some ⟨b, 0, none⟩), .pointer (some ⟨c, 0, none⟩), .agg #[.int .i64 kind, .int .i64 a, .int .i64 who, .slice An now.length cn]] w fun e w' => e = .returned (.bool true) ∧ LRX w0 b (actL hs kind a who now) c (actL hs kind a who now) Ls w' := by
  have hl : hs.length ≤ 1000000 := by have := hI.1; omega
  have HN := Lib.hid hN
  have hX := h.alloc 27 #[.int .i64 kind, .int .i64 a, .int .i64 who, .slice An now.length cn]
  have HX := Lib.hid hX
  clear hN h hX
  subst hk
  have hA : actL hs 6 a who now = (freeL hs who).2 := by simp [actL]
  rw [hA]
  clear hA
  go_enter Try.func14, Try.ntmps14
  go_wp2
  have c2 : (w.alloc (.cells #[.int .i64 6, .int .i64 a, .int .i64 who, .slice An now.length cn] 27)).drew.cell? ⟨w.heap.size, 2, none⟩ = some (Value.int .i64 who) := (HX.out.drew.blk (.head _)).cell 2
  go_region_held3 (fun wq => wq.cell? ⟨w.heap.size, 2, none⟩ = some (Value.int .i64 who)) (first | exact e2 | exact d2 | exact c2) (first | (go_at_call 11; refine (free_lrx HX.out.drew hl who).mono ?_; rintro e w1 ⟨rfl, hL1⟩; have d2 : _ = some (Value.int .i64 who) := (hL1.blk (.head _)).cell 2; have HL1 := Lib.hid hL1; clear hL1) | (go_at_call 29; refine (rfree_lrx HL1.out hl who).mono ?_; rintro e w2 ⟨rfl, hL2⟩; have e2 : _ = some (Value.int .i64 who) := (hL2.blk (.head _)).cell 2; have HL2 := Lib.hid hL2; clear hL2))
  go_wp2
  go_ret
  exact ⟨by simp, HL2.out.sub (fun x hx => List.mem_cons_of_mem _ hx)⟩

set_option maxRecDepth 100000 in
set_option maxHeartbeats 4000000 in
theorem do_none (w0 w : World) (b c m : Nat) (hs : List Hold) (Ls : List (Nat × TypeId × Array Value)) (h : LRX w0 b hs c hs Ls w) (hI : Inv m hs) (hm : m < 1000) (kind a who : Int) (An : Option Addr) (cn : Nat) (now : List Int) (hN : RSlice (Kint .i64) 1 w0 (.slice An now.length cn) now) (hn : now.length ≤ 1000000) (hk : kind < 0 ∨ 6 < kind) :
    Calls Try.prog 14 #[.pointer (some ⟨b, 0, none⟩), .pointer (some ⟨c, 0, none⟩), .agg #[.int .i64 kind, .int .i64 a, .int .i64 who, .slice An now.length cn]] w fun e w' => e = .returned (.bool true) ∧ LRX w0 b (actL hs kind a who now) c (actL hs kind a who now) Ls w' := by
  have hl : hs.length ≤ 1000000 := by have := hI.1; omega
  have HN := Lib.hid hN
  have hX := h.alloc 27 #[.int .i64 kind, .int .i64 a, .int .i64 who, .slice An now.length cn]
  have HX := Lib.hid hX
  clear hN h hX
  have hA : actL hs kind a who now = hs := by
    unfold actL
    rw [if_neg (by omega), if_neg (by omega), if_neg (by omega), if_neg (by omega)]
  rw [hA]
  clear hA
  have e0 : (kind == 0) = false := beq_eq_false_iff_ne.2 (by omega)
  have e1 : (kind == 1) = false := beq_eq_false_iff_ne.2 (by omega)
  have e2 : (kind == 2) = false := beq_eq_false_iff_ne.2 (by omega)
  have e3 : (kind == 3) = false := beq_eq_false_iff_ne.2 (by omega)
  have e4 : (kind == 4) = false := beq_eq_false_iff_ne.2 (by omega)
  have e5 : (kind == 5) = false := beq_eq_false_iff_ne.2 (by omega)
  have e6 : (kind == 6) = false := beq_eq_false_iff_ne.2 (by omega)
  clear hk
  go_enter Try.func14, Try.ntmps14
  go_wp2
  go_ret
  exact ⟨rfl, HX.out.sub (fun x hx => List.mem_cons_of_mem _ hx)⟩

theorem do_any (w0 w : World) (b c m : Nat) (hs : List Hold) (Ls : List (Nat × TypeId × Array Value)) (h : LRX w0 b hs c hs Ls w) (hI : Inv m hs) (hm : m < 1000) (kind a who : Int) (An : Option Addr) (cn : Nat) (now : List Int) (hN : RSlice (Kint .i64) 1 w0 (.slice An now.length cn) now) (hn : now.length ≤ 1000000) :
    Calls Try.prog 14 #[.pointer (some ⟨b, 0, none⟩), .pointer (some ⟨c, 0, none⟩), .agg #[.int .i64 kind, .int .i64 a, .int .i64 who, .slice An now.length cn]] w fun e w' => e = .returned (.bool true) ∧ LRX w0 b (actL hs kind a who now) c (actL hs kind a who now) Ls w' := by
  by_cases h0 : kind = 0
  · exact do_enter0 w0 w b c m hs Ls h hI hm kind a who An cn now hN hn h0
  by_cases h1 : kind = 1
  · exact do_enter1 w0 w b c m hs Ls h hI hm kind a who An cn now hN hn h1
  by_cases h2 : kind = 2
  · exact do_enter2 w0 w b c m hs Ls h hI hm kind a who An cn now hN hn h2
  by_cases h3 : kind = 3
  · exact do_exit3 w0 w b c m hs Ls h hI hm kind a who An cn now hN hn h3
  by_cases h4 : kind = 4
  · exact do_exit4 w0 w b c m hs Ls h hI hm kind a who An cn now hN hn h4
  by_cases h5 : kind = 5
  · exact do_put w0 w b c m hs Ls h hI hm kind a who An cn now hN hn h5
  by_cases h6 : kind = 6
  · exact do_free w0 w b c m hs Ls h hI hm kind a who An cn now hN hn h6
  exact do_none w0 w b c m hs Ls h hI hm kind a who An cn now hN hn (by omega)
end Go.Proofs.Ytmlcififmjpcpaa
