/-
  slices.IndexFunc and slices.DeleteFunc at holds, with the closure of 'Free'; 'Free'.
-/
import Derived.Test.YtmlcififmjpcpaaLockG
namespace Go.Proofs.Ytmlcififmjpcpaa
open Go.RowKit
set_option linter.unusedVariables false

set_option maxRecDepth 100000 in
theorem freeClosure (W : World) (Bw : Nat) (who : Int) (hc : W.cell? ⟨Bw, 0, none⟩ = some (.int .i64 who)) (a wh n : Int) :
    Calls Try.prog 24 #[.agg #[.int .i64 a, .int .i64 wh, .int .i64 n], .pointer (some ⟨Bw, 0, none⟩)] W fun e W' => e = .returned (.bool (wh == who)) ∧ Below W.heap.size W W' := by
  have hlt : Bw < W.heap.size := World.block_lt_of_cell? _ _ hc
  have hc2 := Below.cell (Below.alloc (Below.refl W.heap.size W) (Nat.le_refl _) (.cells #[.int .i64 a, .int .i64 wh, .int .i64 n] 51)) (p := ⟨Bw, 0, none⟩) hlt
  rw [hc] at hc2
  go_enter Try.func24, Try.ntmps24
  go_wp2
  go_ret
  exact ⟨rfl, (Below.refl _ _).alloc (Nat.le_refl _) _⟩

def idxW (hs : List Hold) (who : Int) : Option Nat := hs.findIdx? (fun h => h.who == who)
def idxWV (hs : List Hold) (who : Int) : Int := match idxW hs who with | some i => (i : Int) | none => -1
theorem idxW_at {hs : List Hold} {a : Int} {k : Nat} (hk : k < hs.length) (h : (hs.getD k Hold.zero).who = a) (hb : ∀ j, j < k → (hs.getD j Hold.zero).who ≠ a) : idxW hs a = some k := by
  rw [idxW, List.findIdx?_eq_some_iff_getElem]
  refine ⟨hk, ?_, ?_⟩
  · simp only [List.getD_eq_getElem?_getD, List.getElem?_eq_getElem hk, Option.getD_some] at h; simp [h]
  · intro j hj
    have := hb j hj
    simp only [List.getD_eq_getElem?_getD, List.getElem?_eq_getElem (Nat.lt_trans hj hk), Option.getD_some] at this
    simp [this]
theorem idxW_none {hs : List Hold} {a : Int} (hb : ∀ j, j < hs.length → (hs.getD j Hold.zero).who ≠ a) : idxW hs a = none := by
  rw [idxW, List.findIdx?_eq_none_iff]
  intro x hx
  obtain ⟨j, hj, rfl⟩ := List.getElem_of_mem hx
  have := hb j hj
  simp only [List.getD_eq_getElem?_getD, List.getElem?_eq_getElem hj, Option.getD_some] at this
  simp [this]

set_option maxRecDepth 100000 in
set_option maxHeartbeats 1000000 in
theorem indexFunc_any (W : World) (g cap Bw : Nat) (cur : Array Value) (hs : List Hold) (who : Int) (hB : Blk W g 51 cur) (hn : hs.length ≤ cap) (hm : cap ≤ maxLen) (hx : cur.toList.take (hs.length * 3) = cellsH hs) (hw : W.cell? ⟨Bw, 0, none⟩ = some (.int .i64 who)) (hreach : hs.length ≤ 1000000) :
    Calls Try.prog 34 #[.slice (some ⟨g, 0, none⟩) hs.length cap, .func (.func 24) #[] #[.pointer (some ⟨Bw, 0, none⟩)]] W fun e W' => e = .returned (.int .i64 (idxWV hs who)) ∧ Below W.heap.size W W' := by
  have HB := Lib.hid hB
  have HX := Lib.hid hx
  have HW := Lib.hid hw
  clear hB hx hw
  go_enter Try.func34, Try.ntmps34
  go_wp2
  go_loopw [8] (fun i wr => ∃ k : Nat, k ≤ hs.length ∧ i = .int .i64 k ∧ Hid (∀ j, j < k → (hs.getD j Hold.zero).who ≠ who) ∧ Hid (Below W.heap.size W wr)) (fun i _ => hs.length - (intOf i).toNat)
  case atStart => exact ⟨0, Nat.zero_le _, rfl, fun j hj => by omega, Below.refl _ _⟩
  case round =>
    obtain ⟨k, hk, rfl, hno, hb⟩ := hrel
    by_cases hlt : k < hs.length
    · obtain ⟨⟨xa, xw, xn⟩, hX⟩ : ∃ x, x = hs.getD k Hold.zero := ⟨_, rfl⟩
      have hBr := HB.out.below hb.out HB.out.lt
      have hc0 := (hBr.cell (k * 3 + 0)).trans ((take_get HX.out _ (by omega)).trans (cellsH_get hs k 0 hlt (by omega)))
      have hc1 := (hBr.cell (k * 3 + 1)).trans ((take_get HX.out _ (by omega)).trans (cellsH_get hs k 1 hlt (by omega)))
      have hc2 := (hBr.cell (k * 3 + 2)).trans ((take_get HX.out _ (by omega)).trans (cellsH_get hs k 2 hlt (by omega)))
      rw [← hX] at hc0 hc1 hc2
      simp only [Hold.cells, List.getElem?_cons_succ, List.getElem?_cons_zero, Nat.add_zero] at hc0 hc1 hc2
      have HK := Lib.hid hX
      clear hX
      have hwr := freeClosure wr Bw who ((hb.out.cell (p := ⟨Bw, 0, none⟩) (World.block_lt_of_cell? _ _ HW.out)).trans HW.out) xa xw xn
      have hBr' := Lib.hid hBr
      clear hBr
      by_cases hh : xw = who
      · have e : (xw == who) = true := by simp [hh]
        rw [e] at hwr
        clear e
        have HH := Lib.hid hh
        clear hh
        go_wp2_with (go_at_call 24; refine hwr.mono ?_; rintro e w2 ⟨rfl, hb2⟩; have hb2' := Lib.hid hb2; clear hb2)
        go_ret
        refine ⟨?_, hb.out.trans (hb2'.out.mono hb.out.size)⟩
        rw [idxWV, idxW_at hlt (by rw [← HK.out]; exact HH.out) hno.out]
        rfl
      · have e : (xw == who) = false := beq_eq_false_iff_ne.2 hh
        rw [e] at hwr
        clear e
        have HH := Lib.hid hh
        clear hh
        go_wp2_with (go_at_call 24; refine hwr.mono ?_; rintro e w2 ⟨rfl, hb2⟩; have hb2' := Lib.hid hb2; clear hb2)
        go_roundw
        case rel => exact ⟨k + 1, by omega, by go_num, fun j hj => by rcases Nat.lt_succ_iff_lt_or_eq.1 hj with h | h; exact hno.out j h; subst h; rw [← HK.out]; exact HH.out, hb.out.trans (hb2'.out.mono hb.out.size)⟩
        case measure => simp [intOf]; omega
    · have hkb : decide (k < hs.length) = false := by simp; omega
      have hke : k = hs.length := by omega
      have HKE := Lib.hid hke
      clear hke hlt
      go_wp2
      go_ret
      refine ⟨?_, hb.out⟩
      rw [idxWV, idxW_none (by rw [← HKE.out]; exact hno.out)]
      rfl

def filt (hs : List Hold) (who : Int) : List Hold := hs.filter (fun h => h.who != who)
theorem filt_none {hs : List Hold} {who : Int} (h : idxW hs who = none) : filt hs who = hs := by
  rw [idxW, List.findIdx?_eq_none_iff] at h
  rw [filt, List.filter_eq_self]
  intro a ha
  have := h a ha
  simpa [bne] using this
theorem filt_take_succ {hs : List Hold} {who : Int} {j : Nat} (hj : j < hs.length) : filt (hs.take (j + 1)) who = filt (hs.take j) who ++ (if (hs.getD j Hold.zero).who = who then [] else [hs.getD j Hold.zero]) := by
  rw [List.take_succ_eq_append_getElem hj, filt, List.filter_append]
  congr 1
  simp only [List.getD_eq_getElem?_getD, List.getElem?_eq_getElem hj, Option.getD_some]
  by_cases h : hs[j].who = who <;> simp [h]
theorem filt_len_le (hs : List Hold) (who : Int) (j : Nat) : (filt (hs.take j) who).length ≤ j := by
  have h1 := List.length_filter_le (fun h : Hold => h.who != who) (hs.take j)
  have h2 : (hs.take j).length ≤ j := List.length_take_le _ _
  exact Nat.le_trans h1 h2
theorem filt_take_idx {hs : List Hold} {who : Int} {i : Nat} (h : idxW hs who = some i) : i < hs.length ∧ (filt (hs.take (i + 1)) who) = hs.take i := by
  rw [idxW, List.findIdx?_eq_some_iff_getElem] at h
  obtain ⟨h1, h2, h3⟩ := h
  refine ⟨h1, ?_⟩
  rw [filt_take_succ h1]
  have e : (hs.getD i Hold.zero).who = who := by simp [h1]; simpa using h2
  rw [if_pos e, List.append_nil, filt, List.filter_eq_self]
  intro a ha
  obtain ⟨j, hj, rfl⟩ := List.getElem_of_mem ha
  rw [List.length_take] at hj
  have := h3 j (by omega)
  rw [List.getElem_take]
  simpa [bne] using this

/-- What the loop of DeleteFunc keeps of the row. -/
def DelRow (W : World) (g cap : Nat) (hs : List Hold) (who : Int) (j : Nat) (wr : World) : Prop :=
  ∃ cur, Blk wr g 51 cur ∧ cur.size = cap * 3 ∧ cur.toList.take ((filt (hs.take j) who).length * 3) = cellsH (filt (hs.take j) who) ∧ (∀ p, j * 3 ≤ p → p < hs.length * 3 → cur[p]? = (cellsH hs)[p]?) ∧ Touch (fun k => k = g) W wr

set_option maxRecDepth 100000 in
set_option maxHeartbeats 4000000 in
theorem deleteFunc_any (W : World) (g cap Bw : Nat) (cur : Array Value) (hs : List Hold) (who : Int) (hB : Blk W g 51 cur) (hn : hs.length ≤ cap) (hm : cap ≤ maxLen) (hsz : cur.size = cap * 3) (hx : cur.toList.take (hs.length * 3) = cellsH hs) (hwB : Blk W Bw 3 #[.int .i64 who]) (hreach : hs.length ≤ 1000000) :
    Calls Try.prog 23 #[.slice (some ⟨g, 0, none⟩) hs.length cap, .func (.func 24) #[] #[.pointer (some ⟨Bw, 0, none⟩)]] W fun e W' =>
      e = .returned (.slice (some ⟨g, 0, none⟩) (filt hs who).length cap) ∧ ∃ cur', Blk W' g 51 cur' ∧ cur'.size = cap * 3 ∧ cur'.toList.take ((filt hs who).length * 3) = cellsH (filt hs who) ∧ Touch (fun k => k = g) W W' := by
  have hgB : g ≠ Bw := hB.ne hwB (by decide)
  have hidx := indexFunc_any W g cap Bw cur hs who hB hn hm hx (hwB.cell 0) hreach
  cases hi : idxW hs who with
  | none =>
    have e1 : idxWV hs who = -1 := by rw [idxWV, hi]
    rw [e1] at hidx
    rw [filt_none hi]
    clear e1 hi
    have HX := Lib.hid hx
    have HS := Lib.hid hsz
    clear hx hsz
    go_enter Try.func23, Try.ntmps23
    go_wp2_with (go_at_call 34; refine hidx.mono ?_; rintro e w2 ⟨rfl, hb2⟩; have hb2' := Lib.hid hb2; clear hb2)
    go_ret
    exact ⟨rfl, cur, hB.below hb2'.out hB.lt, HS.out, HX.out, Touch.of_below hb2'.out⟩
  | some i =>
    have e1 : idxWV hs who = (i : Int) := by rw [idxWV, hi]
    rw [e1] at hidx
    obtain ⟨hil, hft⟩ := filt_take_idx hi
    have hD0 : ∀ w2, Below W.heap.size W w2 → DelRow W g cap hs who (i + 1) w2 := fun w2 hb2 => by
      refine ⟨cur, hB.below hb2 hB.lt, hsz, ?_, fun p _ hp => take_get hx p hp, Touch.of_below hb2⟩
      rw [hft, List.length_take, Nat.min_eq_left (by omega), ← cellsH_take, ← hx, List.take_take, Nat.min_eq_left (by omega)]
    have hi0 : (filt (hs.take (i + 1)) who).length = i := by rw [hft, List.length_take]; omega
    have HD0 := Lib.hid hD0
    have HI0 := Lib.hid hi0
    clear hD0 hi0 e1 hi hft hx hsz hB
    have hcap63 : cap ≤ 9223372036854775807 := by unfold maxLen at hm; omega
    have hib : ((i : Int) == -1) = false := beq_eq_false_iff_ne.2 (by omega)
    go_enter Try.func23, Try.ntmps23
    go_wp2_with (go_at_call 34; refine hidx.mono ?_; rintro e w2 ⟨rfl, hb2⟩; have hb2' := Lib.hid hb2; clear hb2)
    go_loopw [5, 6] (fun iv jv wr => ∃ m j : Nat, j ≤ hs.length ∧ m < j ∧ iv = .int .i64 m ∧ jv = .int .i64 j ∧ Hid (m = (filt (hs.take j) who).length) ∧ Hid (DelRow W g cap hs who j wr)) (fun _ jv _ => hs.length - (intOf jv).toNat)
    case atStart => exact ⟨i, i + 1, by omega, by omega, rfl, by go_num, HI0.out.symm, HD0.out _ hb2'.out⟩
    case round =>
      clear HD0 HI0 hb2' hidx
      obtain ⟨m, j, hj, hmj, rfl, rfl, hml, hD⟩ := hrel
      have hmc : m ≤ cap := by omega
      by_cases hlt : j < hs.length
      · obtain ⟨⟨xa, xw, xn⟩, hX⟩ : ∃ x, x = hs.getD j Hold.zero := ⟨_, rfl⟩
        obtain ⟨cur1, hB1, hs1, hx1, hr1, hT1⟩ := hD.out
        have hc0 := (hB1.cell (j * 3 + 0)).trans ((hr1 _ (by omega) (by omega)).trans (cellsH_get hs j 0 hlt (by omega)))
        have hc1 := (hB1.cell (j * 3 + 1)).trans ((hr1 _ (by omega) (by omega)).trans (cellsH_get hs j 1 hlt (by omega)))
        have hc2 := (hB1.cell (j * 3 + 2)).trans ((hr1 _ (by omega) (by omega)).trans (cellsH_get hs j 2 hlt (by omega)))
        rw [← hX] at hc0 hc1 hc2
        simp only [Hold.cells, List.getElem?_cons_succ, List.getElem?_cons_zero, Nat.add_zero] at hc0 hc1 hc2
        have hFT := filt_take_succ (who := who) hlt
        rw [← hX] at hFT
        have HK := Lib.hid hX
        clear hX
        have hBw1 := hwB.touch hT1 (fun e => hgB e.symm)
        have hcl := freeClosure (wr.alloc (.cells #[.int .i64 xa, .int .i64 xw, .int .i64 xn] 51)) Bw who ((hBw1.alloc _).cell 0) xa xw xn
        have HB1 := Lib.hid hB1
        have HS1 := Lib.hid hs1
        have HX1 := Lib.hid hx1
        have HR1 := Lib.hid hr1
        have HT1 := Lib.hid hT1
        have HBW := Lib.hid hBw1
        clear hB1 hs1 hx1 hr1 hT1 hBw1
        by_cases hh : xw = who
        · have e : (xw == who) = true := by simp [hh]
          rw [e] at hcl
          rw [if_pos hh, List.append_nil] at hFT
          have HFT := Lib.hid hFT
          clear e hh hFT
          go_wp2_with (go_at_call 24; refine hcl.mono ?_; rintro e w2 ⟨rfl, hb2⟩; have hb2' := Lib.hid hb2; clear hb2)
          go_roundw
          case rel =>
            refine ⟨m, j + 1, by omega, by omega, rfl, by go_num, by rw [HFT.out]; exact hml, ?_⟩
            have hq : Below wr.heap.size wr w2 := ((Below.refl _ wr).alloc (Nat.le_refl _) _).trans (hb2'.out.mono (by simp))
            exact ⟨cur1, HB1.out.below hq HB1.out.lt, HS1.out, by rw [HFT.out]; exact HX1.out, fun p h1 h2 => HR1.out p (by omega) h2, HT1.out.step hq⟩
          case measure => simp [intOf]; omega
        · have e : (xw == who) = false := beq_eq_false_iff_ne.2 hh
          rw [e] at hcl
          rw [if_neg hh] at hFT
          have HFT := Lib.hid hFT
          clear e hh hFT
          go_wp2_with (go_at_call 24; refine hcl.mono ?_; rintro e w2 ⟨rfl, hb2⟩; have hq : Below wr.heap.size wr w2 := ((Below.refl _ wr).alloc (Nat.le_refl _) _).trans (hb2.mono (by simp)); have hBq := HB1.out.below hq HB1.out.lt; have hbox := Blk.below (Blk.new wr 51 #[.int .i64 xa, .int .i64 xw, .int .i64 xn]) (hb2.mono (Nat.le_refl _)) (by simp); have hv0 := hbox.cell 0; have hv1 := hbox.cell 1; have hv2 := hbox.cell 2; simp only [List.getElem?_toArray, List.getElem?_cons_zero, List.getElem?_cons_succ] at hv0 hv1 hv2; have hg0 : ∃ u, w2.cell? ⟨g, m * 3, none⟩ = some u := ⟨_, (hBq.cell _).trans (Array.getElem?_eq_getElem (by have := HS1.out; omega))⟩; have hg1 : ∃ u, w2.cell? ⟨g, m * 3 + 1, none⟩ = some u := ⟨_, (hBq.cell _).trans (Array.getElem?_eq_getElem (by have := HS1.out; omega))⟩; have hg2 : ∃ u, w2.cell? ⟨g, m * 3 + 2, none⟩ = some u := ⟨_, (hBq.cell _).trans (Array.getElem?_eq_getElem (by have := HS1.out; omega))⟩; obtain ⟨z0, hg0⟩ := hg0; obtain ⟨z1, hg1⟩ := hg1; obtain ⟨z2, hg2⟩ := hg2; have hf0 := hBq.frozen (m * 3); have hf1 := hBq.frozen (m * 3 + 1); have hf2 := hBq.frozen (m * 3 + 2); have HBQ := Lib.hid hBq; have HQ := Lib.hid hq; clear hb2 hq hBq hbox)
          go_roundw
          case rel =>
            refine ⟨m + 1, j + 1, by omega, by omega, by go_num, by go_num, by rw [HFT.out, List.length_append, ← hml.out]; rfl, ?_⟩
            have hB3 := ((HBQ.out.set (m * 3) (.int .i64 xa)).set (m * 3 + 1) (.int .i64 xw)).set (m * 3 + 2) (.int .i64 xn)
            refine ⟨_, hB3, by simp only [Array.size_setIfInBounds]; exact HS1.out, ?_, fun p h1 h2 => ?_, ?_⟩
            rotate_left
            rotate_left
            · have t0 := (Touch.step HT1.out HQ.out)
              have t1 := Touch.setCell t0 (p := ⟨g, m * 3, none⟩) (.inl rfl) (.int .i64 xa)
              have t2 := Touch.setCell t1 (p := ⟨g, m * 3 + 1, none⟩) (.inl rfl) (.int .i64 xw)
              exact Touch.setCell t2 (p := ⟨g, m * 3 + 2, none⟩) (.inl rfl) (.int .i64 xn)
            · have hS := HS1.out
              have e3 : splice cur1 (m * 3) [.int .i64 xa, .int .i64 xw, .int .i64 xn] = ((cur1.setIfInBounds (m * 3) (.int .i64 xa)).setIfInBounds (m * 3 + 1) (.int .i64 xw)).setIfInBounds (m * 3 + 2) (.int .i64 xn) := rfl
              have hl : (filt (hs.take j) who ++ [(⟨xa, xw, xn⟩ : Hold)]).length * 3 = m * 3 + 3 := by rw [List.length_append, ← hml.out]; simp; omega
              rw [← e3, HFT.out, hl, splice_list _ _ _ (by simp; omega), cellsH_append, cellsH_one, ← HX1.out, ← hml.out]
              rw [List.take_append_of_le_length (by simp; omega), List.take_of_length_le (by simp; omega)]
            · rw [Array.getElem?_setIfInBounds_ne (by omega), Array.getElem?_setIfInBounds_ne (by omega), Array.getElem?_setIfInBounds_ne (by omega)]
              exact HR1.out p (by omega) h2
          case measure => simp [intOf]; omega
      · have hjb : decide (j < hs.length) = false := by simp; omega
        have hje : j = hs.length := by omega
        have HJE := Lib.hid hje
        clear hlt
        obtain ⟨cur1, hB1, hs1, hx1, hr1, hT1⟩ := hD.out
        have hmn : m < hs.length := by omega
        have hcl : ∀ ty, (Builtin.clear_ #[46] ty #[.slice (some ⟨g, m * 3, none⟩) (hs.length - m) (cap - m)]).run Try.prog wr = .ok (.tuple #[]) (wr.setCells g (m * 3) (Builtin.zeroCells #[.int .i64 0, .int .i64 0, .int .i64 0] (hs.length - m)).toList) :=
          fun ty => run_clear_cells wr _ _ ty (.agg #[.int .i64 0, .int .i64 0, .int .i64 0]) Try.underlying46 zeroHold (by simp [Value.cells, Value.oneCell']) g _ _ _ (by omega)
            (fun t ht => by simp [Value.cells] at ht; rw [hB1.cell, Array.getElem?_eq_getElem (by omega)]; rfl) (fun t ht => hB1.frozen _)
        have HB1 := Lib.hid hB1
        have HS1 := Lib.hid hs1
        have HX1 := Lib.hid hx1
        have HT1 := Lib.hid hT1
        have hm1 : (m : Int) ≤ (hs.length : Int) := by omega
        have hm2 : m ≤ hs.length := by omega
        clear hB1 hs1 hx1 hr1 hT1 hje hj hmj
        go_wp2
        go_ret
        have hml' := hml.out
        rw [HJE.out, List.take_length] at hml'
        have hx := HX1.out
        rw [HJE.out, List.take_length, ← hml'] at hx
        rw [← hml']
        have hS := HS1.out
        have hz : (Builtin.zeroCells #[Value.int .i64 0, .int .i64 0, .int .i64 0] (hs.length - m)).toList.length = (hs.length - m) * 3 := by simp [Builtin.zeroCells]
        refine ⟨rfl, _, HB1.out.setCells _ _, by rw [splice_size]; exact hS, ?_, HT1.out.grown (grownBy_setCells _ _ _ _) (fun k e => .inl (by cases e; rfl))⟩
        rw [splice_list _ _ _ (by rw [hz, hS]; omega), List.append_assoc, List.take_append_of_le_length (by simp [hS]; omega), List.take_take, Nat.min_self]
        exact hx

def freeL (hs : List Hold) (who : Int) : Int × List Hold := ((ofL hs who : Nat), filt hs who)
theorem filt_zero {hs : List Hold} {who : Int} (h : ofL hs who = 0) : filt hs who = hs := by
  rw [filt, List.filter_eq_self]
  intro a ha
  rw [ofL, List.length_eq_zero_iff, List.filter_eq_nil_iff] at h
  have := h a ha
  simpa [bne] using this

set_option maxRecDepth 100000 in
set_option maxHeartbeats 1000000 in
theorem free_any (W : World) (S : Nat → Prop) (b : Nat) (hs : List Hold) (who : Int) (h : LockObj W S b hs) (hreach : hs.length ≤ 1000000) :
    Calls Try.prog 11 #[.pointer (some ⟨b, 0, none⟩), .int .i64 who] W fun e W' => e = .returned (.int .i64 (freeL hs who).1) ∧ LockObj W' (grow S W W') b (freeL hs who).2 ∧ Touch S W W' := by
  have hq : Below W.heap.size W (W.alloc (.cells #[.int .i64 who] 3)) := (Below.refl _ W).alloc (Nat.le_refl _) _
  have hq' := Lib.hid hq
  have h1 := h.below hq
  have hof := of_any (some ⟨b, 0, none⟩) who hs (by omega) (W.alloc (.cells #[.int .i64 who] 3)) h1.reads
  have hbox := Blk.new W 3 #[.int .i64 who]
  have hbc := hbox.cell 0
  by_cases hz : ofL hs who = 0
  · have e1 : freeL hs who = (0, hs) := by rw [freeL, filt_zero hz, hz]; rfl
    rw [e1]
    rw [hz] at hof
    clear e1 hz
    go_enter Try.func11, Try.ntmps11
    go_wp2_with (go_at_call 18; refine hof.mono ?_; rintro e w2 ⟨rfl, hb2⟩; have hb2' := Lib.hid hb2; clear hb2)
    go_ret
    obtain ⟨hbS, v, hv, hr⟩ := h1.below hb2'.out
    exact ⟨rfl, ⟨.inl hbS, v, hv, hr.mono (fun k hk => .inl hk)⟩, (Touch.of_below hq'.out).step hb2'.out⟩
  · have hpos : decide (0 < ofL hs who) = true := by simp; omega
    have hol : ofL hs who ≤ hs.length := List.length_filter_le _ _
    obtain ⟨c, hc⟩ : ∃ c : Nat, c = ofL hs who := ⟨_, rfl⟩
    rw [freeL]
    rw [← hc] at hpos hof hz hol ⊢
    have HC := Lib.hid hc
    clear hc hz
    have hlen : 0 < hs.length ∨ hs.length = 0 := by omega
    dsimp only
    go_enter Try.func11, Try.ntmps11
    go_wp2_with (first | (go_at_call 18; refine hof.mono ?_; rintro e w2 ⟨rfl, hb2⟩; have hbox2 := hbox.below hb2 (by simp); obtain ⟨hbS, v, hv, hr⟩ := h1.below hb2; have hcv := hv.cell; have hb2' := Lib.hid hb2; clear hb2; obtain ⟨_, ⟨rfl, h0⟩ | ⟨g, cap, cur, rfl, hgS, hB, hn, hm, hsz, hx⟩⟩ := hr.open_; (exact absurd hpos (by simp; omega)); have hdel := deleteFunc_any w2 g cap W.heap.size cur hs who hB hn hm hsz hx hbox2 hreach; clear hsz hx) | (go_at_call 23; refine hdel.mono ?_; rintro e w3 ⟨rfl, cur3, hB3, hs3, hx3, hT3⟩; have hv3 : Boxed w3 b _ _ := Boxed.touch_ hv hT3 (hB.ne hv (by decide)).symm; have hc3 := hv3.cell; have hf3 := hv3.frozen; have hT3' := Lib.hid hT3; have hs3' := Lib.hid hs3; have hx3' := Lib.hid hx3; clear hT3 hs3 hx3))
    go_ret
    have hT : Touch S W w3 := ((Touch.of_below hq'.out).step hb2'.out).trans hT3'.out (fun k e => .inl (by rw [e]; exact hgS))
    have hfl : (filt hs who).length ≤ hs.length := List.length_filter_le _ _
    refine ⟨rfl, ⟨.inl h.1, _, hv3.set _, ?_⟩, hT.setCell (.inl h.1) _⟩
    exact RowAt.mk_ (.inl hgS) (hB3.other (hB.ne hv (by decide)) _ _) (by omega) hm hs3'.out hx3'.out (cellsH_length _)
end Go.Proofs.Ytmlcififmjpcpaa
