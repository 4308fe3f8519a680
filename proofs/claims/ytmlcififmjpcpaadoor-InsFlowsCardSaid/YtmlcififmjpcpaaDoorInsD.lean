/-
  Bytes as they come in; 'slices.Clip', 'bin.Put'.
-/
import Derived.Test.YtmlcififmjpcpaaDoorInsC
import Derived.Deep.RegionLaw
import Derived.Deep.RegionLawGrows
import Derived.Deep.DeepAppendWide
import Derived.BigQuiet
import Derived.Test.YtmlcififmjpcpaaDoorSliceIn
namespace Go.Proofs.YtmlcififmjpcpaaDoor
open Go.RowKit
set_option linter.unusedVariables false
set_option linter.unusedSimpArgs false

attribute [local go_sem] Oper.semAt_some

/-- A slice of bytes that reads as xs; what it reads lies below n. -/
def BytesIn (n : Nat) (W : World) (v : Value) (xs : List UInt8) : Prop := SliceIn n 1 W v xs.length (bcells xs)

set_option maxRecDepth 100000 in
theorem clip_any (W : World) (ao : Option Addr) (n cap : Nat) (hn : n ≤ cap) : Calls Tryd.prog 43 #[.slice ao n cap] W fun e W' => e = .returned (.slice ao n n) ∧ W' = W := by
  cases ao with
  | none =>
    go_enter Tryd.func43, Tryd.ntmps43
    go_wp2
    go_ret
    exact ⟨rfl, rfl⟩
  | some b =>
    go_enter Tryd.func43, Tryd.ntmps43
    go_wp2
    go_ret
    exact ⟨rfl, rfl⟩

theorem zero8 : ∃ i : TypeInfo, Tryd.prog.info? 5 = some i ∧ i.zero = some (.int .u8 0) ∧ i.size = 1 ∧ i.bytes = 1 := by
  have h : (Tryd.prog.info? 5).map (fun i => (i.zero, i.size, i.bytes)) = some (some (.int .u8 0), 1, 1) := by kernel_rfl
  obtain ⟨i, hi, he⟩ := Option.map_eq_some_iff.1 h
  simp only [Prod.mk.injEq] at he
  exact ⟨i, hi, he.1, he.2.1, he.2.2⟩

/-- 'append' to a clipped slice of bytes: always into a new row. -/
theorem append_clipped (w : World) (ty : TypeId) (ao : Option Addr) (xs ys : List UInt8) (hao : ao = none → xs.length = 0) (holds : ∀ b, ao = some b → ∀ j u, (bcells xs)[j]? = some u → w.cell? (b.add j) = some u)
    (ad : Addr) (c : Nat) (hy : 0 < ys.length) (hys : ∀ j u, (bcells ys)[j]? = some u → w.cell? (ad.add j) = some u) (hb : xs.length + ys.length ≤ 200000000000000) :
    ∃ v' w', (Builtin.append_ #[33, 33] ty #[.slice ao xs.length xs.length, .slice (some ad) ys.length c]).run Tryd.prog w = .ok v' w' ∧ w'.ownsRow w.heap.size 5 1 v' (xs ++ ys).length (bcells (xs ++ ys)) ∧ w.grownBy w' none := by
  obtain ⟨i, hi, hz, hs, hby⟩ := zero8
  have hl63 : xs.length + ys.length ≤ maxLen := by simp only [maxLen]; omega
  have hlen : (bcells (xs ++ ys)).length = (xs.length + ys.length) * 1 := by simp [bcells_length]
  have grown : ∀ (old : Nat),
      (w.drew.alloc (.cells ((bcells xs).toArray ++ (bcells ys).toArray ++ Builtin.zeroCells (Value.int .u8 0).cells (grownCap w (xs.length + ys.length) old 5 - (xs.length + ys.length))) 5)).ownsRow w.heap.size 5 1
        (.slice (some ⟨w.heap.size, 0, none⟩) (xs.length + ys.length) (grownCap w (xs.length + ys.length) old 5)) (xs.length + ys.length) (bcells (xs ++ ys)) ∧
      w.grownBy (w.drew.alloc (.cells ((bcells xs).toArray ++ (bcells ys).toArray ++ Builtin.zeroCells (Value.int .u8 0).cells (grownCap w (xs.length + ys.length) old 5 - (xs.length + ys.length))) 5)) none := by
    intro old
    have hge := grownCap_ge w (xs.length + ys.length) old 5
    have hcm := grownCap_le_maxLen w (xs.length + ys.length) old 5 hl63
    refine ⟨⟨hlen, .inr ⟨w.heap.size, _, _, rfl, Nat.le_refl _, heap_alloc_new w.drew _, hge, hcm, ?_, ?_⟩⟩, ⟨rfl, rfl, rfl, by simp, fun k hk _ => Go.heap_alloc_old w.drew _ hk⟩⟩
    · simp only [Array.size_append, List.size_toArray, size_zeroCells, bcells_length, Value.cells, List.length_cons, List.length_nil]
      omega
    · simp only [Array.toList_append, bcells_append]
      rw [← bcells_append, ← hlen, bcells_append, List.take_left]
  rw [List.length_append]
  cases ao with
  | none =>
    have h0 := hao rfl
    have : xs = [] := List.eq_nil_of_length_eq_zero h0
    subst this
    have hr := run_append_nil (P := Tryd.prog) w 33 ty 5 i _ Tryd.underlying33 hi hz ad ys.length c (bcells ys) (by rw [bcells_length, hs, Nat.mul_one]) hys hy (by omega) (by rw [hby]; simp only [List.length_nil] at hb; omega)
    have hg := grown 0
    simp only [List.length_nil, Nat.zero_add, List.nil_append] at hg ⊢
    exact ⟨_, _, hr, by simpa [bcells] using hg.1, by simpa [bcells] using hg.2⟩
  | some b =>
    have hr := run_append_grow (P := Tryd.prog) w 33 ty 5 i _ Tryd.underlying33 hi hz b xs.length xs.length (bcells xs) (by rw [bcells_length, hs, Nat.mul_one]) (holds b rfl) ad ys.length c (bcells ys) (by rw [bcells_length, hs, Nat.mul_one]) hys (by omega) (by omega) (growslice_fits_wide (by omega) (by rw [hby]; omega))
    have hg := grown xs.length
    exact ⟨_, _, hr, hg.1, hg.2⟩

/-- An append as one step of a region that draws: by whatever is known of its run. -/
theorem step_append_run {P : Program} {ops : Array Oper} {o : Oper} {a : Act} {w : World} {K : Act → World → Prop} {Q : Exit → Act → World → Prop} {E : Prop} {R : Value → World → Prop}
    (hg : o.guard = none) (s x : Operand) (t t2 : TypeId) (hop : o.op = Op.call { callee := Callee.builtin Builtin.append, args := #[s, x], argTypes := #[t, t2] })
    (va vx : Value) (hs : a.eval s = va) (hx : a.eval x = vx) (hrun : ∃ v' w', (Builtin.append_ #[t, t2] o.type #[va, vx]).run P w = .ok v' w' ∧ R v' w') (hK : ∀ v' w', R v' w' → K (a.put o.dst v') w') :
    if Region.wanted o (yielded ops a.tmps) = true then Oper.wp P o a w K Q else E := by
  have hw : Region.wanted o (yielded ops a.tmps) = true := by simp [Region.wanted, hg]
  rw [if_pos hw]
  obtain ⟨v', w', hr, hR⟩ := hrun
  unfold Oper.wp
  simp [execOp, hop, resolve, invoke, builtin, hs, hx, hr, Result.andThen]
  exact hK v' w' hR
theorem wpList_append_run' {P : Program} {ops : Array Oper} {rest : List Oper} {o : Oper} {a : Act} {w : World} {Q : Exit → Act → World → Prop} {R : Value → World → Prop}
    (hg : o.guard = none) (s x : Operand) (t t2 : TypeId) (hop : o.op = Op.call { callee := Callee.builtin Builtin.append, args := #[s, x], argTypes := #[t, t2] })
    (va vx : Value) (hs : a.eval s = va) (hx : a.eval x = vx) (hrun : ∃ v' w', (Builtin.append_ #[t, t2] o.type #[va, vx]).run P w = .ok v' w' ∧ R v' w') (hK : ∀ v' w', R v' w' → wpList P ops Q rest (a.put o.dst v') w') :
    wpList P ops Q (o :: rest) a w := by
  refine wpList_plain hg fun K hK' => ?_
  obtain ⟨v', w', hr, hR⟩ := hrun
  unfold Oper.wp
  simp [execOp, hop, resolve, invoke, builtin, hs, hx, hr, Result.andThen]
  exact hK' _ _ (hK v' w' hR)

set_option maxRecDepth 100000 in
set_option maxHeartbeats 1000000 in
theorem bput_any (W : World) (v : Value) (xs : List UInt8) (n : Int) (h0 : -9223372036854775808 ≤ n) (h1 : n ≤ 9223372036854775807) (hv : BytesIn W.heap.size W v xs) (hl : xs.length ≤ 190000000000000) :
    Calls Tryd.prog 35 #[v, .int .i64 n] W fun e W' => ∃ v', e = .returned v' ∧ BytesIn W'.heap.size W' v' (xs ++ vput (zz n)) ∧ Below W.heap.size W W' := by
  obtain ⟨_, ao, cap, rfl, hn, hc, h3, h4⟩ := hv
  have hp := pieces_any W n h0 h1
  have hlen := vput_len10 (zz_lt n h0 h1)
  have hpos := vput_pos (zz n)
  generalize vput (zz n) = ys at hp hlen hpos ⊢
  clear h0 h1
  go_enter Tryd.func35, Tryd.ntmps35
  go_wp2_with fail
  refine hp.mono ?_
  rintro e w1 ⟨⟨cs, rfl, hcs⟩, hb1⟩
  have hl10 : cs.toList.length = 10 := by rw [hcs, List.length_append, bcells_length, List.length_replicate]; omega
  obtain ⟨cl⟩ := cs
  simp only at hcs hl10
  match cl, hl10 with
  | [c0, c1, c2, c3, c4, c5, c6, c7, c8, c9], _ =>
  have hin : ∀ u ∈ [c0, c1, c2, c3, c4, c5, c6, c7, c8, c9], ∃ x : Int, u = .int .u8 x := by rw [hcs]; exact ten_ints _ _
  obtain ⟨x0, rfl⟩ := hin c0 (by simp)
  obtain ⟨x1, rfl⟩ := hin c1 (by simp)
  obtain ⟨x2, rfl⟩ := hin c2 (by simp)
  obtain ⟨x3, rfl⟩ := hin c3 (by simp)
  obtain ⟨x4, rfl⟩ := hin c4 (by simp)
  obtain ⟨x5, rfl⟩ := hin c5 (by simp)
  obtain ⟨x6, rfl⟩ := hin c6 (by simp)
  obtain ⟨x7, rfl⟩ := hin c7 (by simp)
  obtain ⟨x8, rfl⟩ := hin c8 (by simp)
  obtain ⟨x9, rfl⟩ := hin c9 (by simp)
  clear hin
  have hcs' := Lib.hid hcs
  clear hcs
  go_wp2
  have hB := Blk.new w1 69 #[.int .u8 x0, .int .u8 x1, .int .u8 x2, .int .u8 x3, .int .u8 x4, .int .u8 x5, .int .u8 x6, .int .u8 x7, .int .u8 x8, .int .u8 x9]
  have hb2 := hb1.alloc hb1.size (.cells #[.int .u8 x0, .int .u8 x1, .int .u8 x2, .int .u8 x3, .int .u8 x4, .int .u8 x5, .int .u8 x6, .int .u8 x7, .int .u8 x8, .int .u8 x9] 69)
  generalize w1.alloc (.cells #[.int .u8 x0, .int .u8 x1, .int .u8 x2, .int .u8 x3, .int .u8 x4, .int .u8 x5, .int .u8 x6, .int .u8 x7, .int .u8 x8, .int .u8 x9] 69) = w2 at hB hb2 ⊢
  have hys : ∀ w3 : World, w3.heap = w2.heap → ∀ j u, (bcells ys)[j]? = some u → w3.cell? ((⟨w1.heap.size, 0, none⟩ : Addr).add j) = some u := fun w3 he j u hu => by
    have hj := (List.getElem?_eq_some_iff.1 hu).1
    rw [show (⟨w1.heap.size, 0, none⟩ : Addr).add j = ⟨w1.heap.size, j, none⟩ by unfold Addr.add; split <;> simp_all]
    have hc : w3.cell? ⟨w1.heap.size, j, none⟩ = w2.cell? ⟨w1.heap.size, j, none⟩ := by simp only [World.cell?, he]
    rw [hc, hB.cell j, ← Array.getElem?_toList]
    show [Value.int .u8 x0, .int .u8 x1, .int .u8 x2, .int .u8 x3, .int .u8 x4, .int .u8 x5, .int .u8 x6, .int .u8 x7, .int .u8 x8, .int .u8 x9][j]? = _
    rw [hcs'.out, List.getElem?_append_left hj, hu]
  have hxs : ∀ w3 : World, w3.heap = w2.heap → ∀ b, ao = some b → ∀ j u, (bcells xs)[j]? = some u → w3.cell? (b.add j) = some u := fun w3 he b e j u hu => by
    have hlt : 0 < (bcells xs).length := by
      have := (List.getElem?_eq_some_iff.1 hu).1
      omega
    have hc : w3.cell? (b.add j) = w2.cell? (b.add j) := by simp only [World.cell?, he]
    rw [hc]
    exact (hb2.cell (p := b.add j) (by rw [addr_block]; exact (h4 b e).1 hlt)).trans ((h4 b e).2 j u hu)
  have hys' := Lib.hid hys
  have hxs' := Lib.hid hxs
  have hb2' := Lib.hid hb2
  have h10 : (ys.length : Int) ≤ 10 := by omega
  clear hys hxs hB hcs' h4 hp hb1 hb2
  go_region_law (first | (go_simp; go_at_call 43; refine (clip_any _ _ _ _ hn).mono ?_; rintro e w3 ⟨rfl, rfl⟩) | (refine step_append_run rfl (.tmp 13) (.tmp 15) 33 33 rfl (.slice ao xs.length xs.length) (.slice (some ⟨w1.heap.size, 0, none⟩) ys.length 10) (by simp [Act.eval, Act.put]) (by simp [Act.eval, Act.put]) (append_clipped w2.drew _ ao xs ys (fun e => (h3 e).1) (hxs'.out _ rfl) _ _ hpos (hys'.out _ rfl) (by omega)) ?_; rintro v' w3 ⟨hown, hgr⟩))
  go_wp2
  go_ret
  exact ⟨_, rfl, SliceIn.of_own hown, Below.grown (w := w2.drew) ⟨hb2'.out.os, hb2'.out.tape, hb2'.out.output, hb2'.out.size, hb2'.out.block⟩ hgr hb2'.out.size (fun k e => by cases e)⟩
end Go.Proofs.YtmlcififmjpcpaaDoor
