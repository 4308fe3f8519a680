/-
  A number's bytes: 'pieces'.
-/
import Derived.Test.YtmlcififmjpcpaaDoorInsB
import Derived.Test.YtmlcififmjpcpaaDoorBytes
namespace Go.Proofs.YtmlcififmjpcpaaDoor
open Go.RowKit
set_option linter.unusedVariables false

attribute [local go_sem] Oper.semAt_some

/-- What a round of 'pieces' keeps. -/
structure PiecesAt (W wr : World) (n : Int) (u : Nat) (pre : List UInt8) (cs : Array Value) : Prop where
  said : vput (zz n) = pre ++ vput u
  small : u * 128 ^ pre.length < 18446744073709551616
  short : pre.length ≤ 9
  blk : Blk wr (W.heap.size + 1) 69 cs
  cells : cs.toList = bcells pre ++ List.replicate (10 - pre.length) (.int .u8 0)
  res : Blk wr W.heap.size 69 (List.replicate 10 (Value.int .u8 0)).toArray
  below : Below W.heap.size W wr

set_option maxRecDepth 100000 in
set_option maxHeartbeats 1000000 in
theorem pieces_any (W : World) (n : Int) (h0 : -9223372036854775808 ≤ n) (h1 : n ≤ 9223372036854775807) :
    Calls Tryd.prog 42 #[.int .i64 n] W fun e W' => (∃ cs : Array Value, e = .returned (.tuple #[.agg cs, .int .i64 ((vput (zz n)).length : Int)]) ∧ cs.toList = bcells (vput (zz n)) ++ List.replicate (10 - (vput (zz n)).length) (.int .u8 0)) ∧ Below W.heap.size W W' := by
  have hzz := zz_bits n h0 h1
  have hzl := zz_lt n h0 h1
  clear h0 h1
  go_enter Tryd.func42, Tryd.ntmps42
  go_wp2
  clear hzz
  go_loopw [4, 6] (fun s4 s6 wr => ∃ (u : Nat) (pre : List UInt8) (cs : Array Value), s4 = .int .u64 (u : Int) ∧ s6 = .int .i64 (pre.length : Int) ∧ PiecesAt W wr n u pre cs) (fun s4 _ _ => (intOf s4).toNat)
  case atStart =>
    have hb1 := Blk.new (W.alloc (.cells (List.replicate 10 (Value.int .u8 0)).toArray 69)) 69 (List.replicate 10 (Value.int .u8 0)).toArray
    have hb0 := (Blk.new W 69 (List.replicate 10 (Value.int .u8 0)).toArray).alloc (.cells (List.replicate 10 (Value.int .u8 0)).toArray 69)
    rw [show (W.alloc (.cells (List.replicate 10 (Value.int .u8 0)).toArray 69)).heap.size = W.heap.size + 1 by simp] at hb1
    exact ⟨zz n, [], (List.replicate 10 (Value.int .u8 0)).toArray, rfl, rfl, rfl, by simpa using hzl, by simp, hb1, rfl, hb0, ((Below.refl _ _).alloc (Nat.le_refl _) _).alloc (by simp) _⟩
  case round =>
    obtain ⟨u, pre, cs, rfl, rfl, hP⟩ := hrel
    obtain ⟨k, hk⟩ : ∃ k, k = pre.length := ⟨_, rfl⟩
    rw [← hk]
    have hk9 : k ≤ 9 := hk ▸ hP.short
    have hc := hP.blk.cell k
    have hf := hP.blk.frozen k
    have hcs : cs[k]? = some (.int .u8 0) := by
      rw [← Array.getElem?_toList, hP.cells, List.getElem?_append_right (by rw [bcells_length]; omega), bcells_length, ← hk, Nat.sub_self, List.getElem?_replicate, if_pos (by omega)]
    rw [hcs] at hc
    have hk' := Lib.hid hk
    have hcs' := Lib.hid hcs
    clear hk hcs
    by_cases hu : u < 128
    · have hb : decide (128 ≤ (u : Int)) = false := decide_eq_false (by omega)
      have hw : IntKind.u8.wrap (u : Int) = (u : Int) := by simp [IntKind.wrap, IntKind.bits, IntKind.signed]; omega
      have hB2 := hP.blk.set k (.int .u8 (u : Int))
      have hR2 := hP.res.other (B' := W.heap.size + 1) (by omega) k (.int .u8 (u : Int))
      have hsz : (cs.setIfInBounds k (.int .u8 (u : Int))).toList = bcells (vput (zz n)) ++ List.replicate (10 - (vput (zz n)).length) (.int .u8 0) := by
        have e := ten_set pre (UInt8.ofNat u) (by have := hP.short; omega)
        rw [ofNat_toNat (by omega), ← hk'.out, ← vput_lt hu, ← hP.said] at e
        rw [Array.toList_setIfInBounds, hP.cells, ← hk'.out]
        exact e
      have hlen : (vput (zz n)).length = k + 1 := by rw [hP.said, vput_lt hu, hk'.out]; simp
      have hl10 : (cs.setIfInBounds k (.int .u8 (u : Int))).toList.length = 10 := by rw [hsz, List.length_append, bcells_length, List.length_replicate, hlen]; omega
      have hbl := hP.below
      generalize hcs2 : cs.setIfInBounds k (.int .u8 (u : Int)) = cs2 at hB2 hsz hl10
      obtain ⟨l2⟩ := cs2
      simp only at hl10
      match l2, hl10 with
      | [c0, c1, c2, c3, c4, c5, c6, c7, c8, c9], _ =>
      have hin : ∀ u ∈ [c0, c1, c2, c3, c4, c5, c6, c7, c8, c9], ∃ x : Int, u = .int .u8 x := by rw [show [c0, c1, c2, c3, c4, c5, c6, c7, c8, c9] = _ from hsz]; exact ten_ints _ _
      obtain ⟨x0, rfl⟩ := hin c0 (by simp)
      obtain ⟨x1, rfl⟩ := hin c1 (by simp)
      obtain ⟨x2, rfl⟩ := hin c2 (by simp)
      obtain ⟨x3, rfl⟩ := hin c3 (by simp)
      obtain ⟨x4, rfl⟩ := hin c4 (by simp)
      obtain ⟨x5, rfl⟩ := hin c5 (by simp)
      obtain ⟨x6, rfl⟩ := hin c6 (by simp)
      obtain ⟨x7, rfl⟩ := hin c7 (by simp)
      obtain ⟨x8, rfl⟩ := hin c8 (by simp)
      obtain ⟨x9, rfl⟩ := hin c9 (by simp)
      clear hin
      have hlen' := Lib.hid hlen
      have hsz' := Lib.hid hsz
      have hbl' := Lib.hid hbl
      have g0 := hB2.cell 0
      have r0 := hR2.cell 0
      have z0 := hR2.frozen 0
      have g1 := hB2.cell 1
      have r1 := hR2.cell 1
      have z1 := hR2.frozen 1
      have g2 := hB2.cell 2
      have r2 := hR2.cell 2
      have z2 := hR2.frozen 2
      have g3 := hB2.cell 3
      have r3 := hR2.cell 3
      have z3 := hR2.frozen 3
      have g4 := hB2.cell 4
      have r4 := hR2.cell 4
      have z4 := hR2.frozen 4
      have g5 := hB2.cell 5
      have r5 := hR2.cell 5
      have z5 := hR2.frozen 5
      have g6 := hB2.cell 6
      have r6 := hR2.cell 6
      have z6 := hR2.frozen 6
      have g7 := hB2.cell 7
      have r7 := hR2.cell 7
      have z7 := hR2.frozen 7
      have g8 := hB2.cell 8
      have r8 := hR2.cell 8
      have z8 := hR2.frozen 8
      have g9 := hB2.cell 9
      have r9 := hR2.cell 9
      have z9 := hR2.frozen 9
      simp only [List.getElem?_toArray, List.getElem?_cons_succ, List.getElem?_cons_zero, List.replicate_succ] at g0 r0 g1 r1 g2 r2 g3 r3 g4 r4 g5 r5 g6 r6 g7 r7 g8 r8 g9 r9
      clear hP hB2 hR2 hsz hbl hcs2 hlen
      go_wp2
      refine bodyPost_ret (v := .tuple #[.agg #[.int .u8 x0, .int .u8 x1, .int .u8 x2, .int .u8 x3, .int .u8 x4, .int .u8 x5, .int .u8 x6, .int .u8 x7, .int .u8 x8, .int .u8 x9], .int .i64 ((k : Int) + 1)]) (by rw [results_cell_tmp rfl]; go_simp) rfl ?_
      have hb2 := hbl'.out
      have ek : ((vput (zz n)).length : Int) = (k : Int) + 1 := by rw [hlen'.out]; rfl
      refine ⟨⟨#[.int .u8 x0, .int .u8 x1, .int .u8 x2, .int .u8 x3, .int .u8 x4, .int .u8 x5, .int .u8 x6, .int .u8 x7, .int .u8 x8, .int .u8 x9], by rw [ek], hsz'.out⟩, ?_⟩
      have s1 : ∀ {w : World} (j : Nat) (v : Value), Below W.heap.size W w → Below W.heap.size W (w.setCell ⟨W.heap.size, j, none⟩ v) := fun j v h => h.setCell (Nat.le_refl _) _
      exact s1 _ _ (s1 _ _ (s1 _ _ (s1 _ _ (s1 _ _ (s1 _ _ (s1 _ _ (s1 _ _ (s1 _ _ (s1 _ _ (hb2.setCell (by simp) _))))))))))
    · have hb : decide (128 ≤ (u : Int)) = true := decide_eq_true (by omega)
      have hP' := Lib.hid hP
      clear hP
      go_wp2
      go_roundw
      case rel =>
        have hP := hP'.out
        refine ⟨u / 128, pre ++ [UInt8.ofNat (u % 128 + 128)], _, by simp, by simp [← hk'.out], ?_, ?_, ?_, hP.blk.set k _, ?_, ?_, ?_⟩
        · rw [hP.said, vput_ge hu]; simp
        · have := hP.small
          rw [List.length_append, List.length_singleton, Nat.pow_succ, Nat.mul_comm _ 128, ← Nat.mul_assoc]
          exact Nat.lt_of_le_of_lt (Nat.mul_le_mul_right _ (Nat.div_mul_le_self u 128)) this
        · exact short_of (v := u / 128) (by omega) (by
            have := hP.small
            rw [List.length_append, List.length_singleton, Nat.pow_succ, Nat.mul_comm _ 128, ← Nat.mul_assoc]
            exact Nat.lt_of_le_of_lt (Nat.mul_le_mul_right _ (Nat.div_mul_le_self u 128)) this)
        · have e := ten_set pre (UInt8.ofNat (u % 128 + 128)) (by have := hP.short; omega)
          rw [ofNat_toNat (by omega)] at e
          rw [Array.toList_setIfInBounds, hP.cells, ← e, ← hk'.out, or128']
        · exact hP.res.other (by omega) _ _
        · exact hP.below.setCell (by simp) _
      case measure => simp [intOf]; omega
end Go.Proofs.YtmlcififmjpcpaaDoor
