/-
  Part of a proof: Bld, LexJ.
-/
import Derived.Test.YtcaigcmbgihhkaaGreatDoorZMem
import Derived.Test.YtcaigcmbgihhkaaGreatDoorProg
import Derived.Shelf.Strings.Builder1
import Derived.OwnWalk
import Derived.Test.YtcaigcmbgihhkaaGreatDoorZTwo
import Derived.Test.YtcaigcmbgihhkaaGreatDoorZShelfC
import Derived.Test.YtcaigcmbgihhkaaGreatDoorZRepE
import Derived.Test.YtcaigcmbgihhkaaGreatDoorZIt
namespace Go.Proofs.YtcaigcmbgihhkaaGreatDoor
open Go Go.RowKit Go.Shelf
set_option linter.unusedVariables false
set_option linter.unusedSimpArgs false
theorem bld_size : (Tryz.prog.info? 70).map (·.size) = some 2 := by kernel_rfl
theorem bld_lies : liesAt Tryz.prog Tryz.prog.depth 70 (2 / Tryz.prog.cellsOf 70) 0 70 1 = true := by kernel_rfl
theorem bld_byte : (Tryz.prog.info? 5).map (fun i => (i.zero, i.size, i.bytes)) = some (some (.int .u8 0), 1, 1) := by kernel_rfl
abbrev BldAt (B b : Nat) (p : Value) (bs : List Value) (w : World) : Prop := Lib.BuilderAt 70 5 B b p bs w
abbrev IsBld (B b : Nat) (bs : List Value) (w : World) : Prop := Lib.IsBuilder 70 5 B b bs w
set_option maxHeartbeats 1000000 in
set_option maxRecDepth 100000 in
theorem check_used (b : Nat) (w : World) (h0 : w.cell? ⟨b, 0, none⟩ = some (.pointer (some ⟨b, 0, none⟩))) :
    Calls Tryz.prog 66 #[.pointer (some ⟨b, 0, none⟩)] w fun e w' => e = .returned (.tuple #[]) ∧ w' = w := by
  obtain ⟨j, hj, _⟩ := Option.map_eq_some_iff.1 bld_size
  go_enter Tryz.func66, Tryz.ntmps66
  go_wp2
  rw [Lib.run_neq_ptr_same w _ Tryz.underlying67 hj]
  go_wp2
  go_end0
  exact ⟨rfl, rfl⟩
set_option maxHeartbeats 1000000 in
set_option maxRecDepth 100000 in
theorem check_fresh (b : Nat) (w : World) (h0 : w.cell? ⟨b, 0, none⟩ = some (.pointer none)) (hsh : w.shape? b = some (70, 2)) (hfz : w.frozen? ⟨b, 0, none⟩ = false) :
    Calls Tryz.prog 66 #[.pointer (some ⟨b, 0, none⟩)] w fun e w' => e = .returned (.tuple #[]) ∧ w' = w.setCell ⟨b, 0, none⟩ (.pointer (some ⟨b, 0, none⟩)) := by
  obtain ⟨j, hj, hjs⟩ := Option.map_eq_some_iff.1 bld_size
  go_enter Tryz.func66, Tryz.ntmps66
  go_wp2
  rw [Lib.run_to_unsafe w ⟨b, 0, none⟩ Tryz.underlying67 Tryz.underlying168 hj (by rw [hjs]; decide) hsh (Nat.zero_lt_succ 1)]
  simp only [Result.andThen]
  rw [Oper.upon_value]
  go_wp2
  rw [run_callFunc_extern Tryz.func99 (by kernel_rfl) (by kernel_rfl) (by kernel_rfl) (e := Extern.AbiNoEscape.same) (by kernel_rfl)]
  rw [Lib.run_noEscape]
  simp only [Result.andThen]
  rw [Oper.upon_value]
  go_wp2
  rw [Lib.run_from_unsafe w ⟨b, 0, none⟩ Tryz.underlying168 Tryz.underlying67 hj hsh bld_lies]
  simp only [Result.andThen]
  rw [Oper.upon_value]
  go_wp2
  go_end0
  exact ⟨rfl, rfl⟩
theorem check_any (B b : Nat) (bs : List Value) (w : World) (h : IsBld B b bs w) :
    Calls Tryz.prog 66 #[.pointer (some ⟨b, 0, none⟩)] w fun e w' => e = .returned (.tuple #[]) ∧ (BldAt B b (.pointer (some ⟨b, 0, none⟩)) bs w' ∧ Below B w w') := by
  rcases h with h | h
  · refine (check_fresh b w h.cell0 h.shape h.frozen0).mono ?_
    rintro e w' ⟨rfl, rfl⟩
    exact ⟨rfl, h.used _, (Below.refl B w).setCell (p := ⟨b, 0, none⟩) h.1 _⟩
  · refine (check_used b w h.cell0).mono ?_
    rintro e w' ⟨rfl, rfl⟩
    exact ⟨rfl, h, Below.refl B _⟩
set_option maxHeartbeats 1000000 in
set_option maxRecDepth 100000 in
theorem writeString_any (B b : Nat) (bs : List Value) (s : ByteArray) (w : World) (h : IsBld B b bs w) (hlen : bs.length + s.size ≤ 140737488355328) (hBw : B ≤ w.heap.size) :
    Calls Tryz.prog 30 #[.pointer (some ⟨b, 0, none⟩), .string s] w fun e w' => e = .returned (.tuple #[.int .i64 s.size, .nilIface]) ∧ (BldAt B b (.pointer (some ⟨b, 0, none⟩)) (bs ++ Lib.strCells s) w' ∧ Below B w w') := by
  obtain ⟨i0, hi, hz0, hz1, hz2⟩ := info_parts bld_byte
  go_enter Tryz.func30, Tryz.ntmps30
  go_wp2_with (go_at_call 66; refine (check_any B b bs _ h).mono ?_)
  rintro e w1 ⟨rfl, h1, hb1⟩
  obtain ⟨hB, v, hbk, hown, hne⟩ := h1
  have c0 : w1.cell? ⟨b, 0, none⟩ = some (.pointer (some ⟨b, 0, none⟩)) := by rw [Lib.cell_of_heap hbk]; rfl
  have c1 : w1.cell? ⟨b, 1, none⟩ = some v := by rw [Lib.cell_of_heap hbk]; rfl
  go_wp2_with (at_builtin; refine Lib.wpList_append_own_string _ rfl _ _ 68 9 rfl B 5 i0 Tryz.underlying68 Tryz.underlying9 hi hz0 hz1 hz2 _ _ _ rfl hown s rfl ?c3 ?c4 ?c5 ?_)
  case c3 => unfold maxLen; omega
  case c4 => omega
  case c5 => have := hb1.size; omega
  intro v' w2 hown' hgrow _
  have hlt : b < w1.heap.size := by
    rcases Nat.lt_or_ge b w1.heap.size with h' | h'
    · exact h'
    · simp [Array.getElem?_eq_none h'] at hbk
  have hb2 : w2.heap[b]? = some (.cells #[.pointer (some ⟨b, 0, none⟩), v] 70 (0, 0)) := by
    rw [hgrow.block b hlt (fun e => hne e.symm)]
    exact hbk
  have d0 : w2.cell? ⟨b, 0, none⟩ = some (.pointer (some ⟨b, 0, none⟩)) := by rw [Lib.cell_of_heap hb2]; rfl
  have d1 : w2.cell? ⟨b, 1, none⟩ = some v := by rw [Lib.cell_of_heap hb2]; rfl
  have f1 : w2.frozen? ⟨b, 1, none⟩ = false := Lib.frozen_of_heap hb2 1
  obtain ⟨ao, n', cap, rfl⟩ : ∃ ao n' cap, v' = .slice ao n' cap := by
    rcases hown'.2 with ⟨hv, _⟩ | ⟨g, cap, cur, hv, _⟩
    · exact ⟨_, _, _, hv⟩
    · exact ⟨_, _, _, hv⟩
  go_wp2
  go_ret2
  refine ⟨rfl, ?_, ?_⟩
  · exact Lib.BuilderAt.put hB hb2 (bs' := bs ++ Lib.strCells s) (by simpa [Lib.strCells_length] using hown') (by decide)
  · exact (hb1.grown hgrow (by have := hb1.size; omega) (fun k hk => (hown.lt k hk).1)).setCell (p := ⟨b, 1, none⟩) hB _
set_option maxHeartbeats 1000000 in
set_option maxRecDepth 100000 in
theorem writeByte_any (B b : Nat) (bs : List Value) (c : Int) (w : World) (h : IsBld B b bs w) (hlen : bs.length + 1 ≤ 140737488355328) (hBw : B ≤ w.heap.size) :
    Calls Tryz.prog 31 #[.pointer (some ⟨b, 0, none⟩), .int .u8 c] w fun e w' => e = .returned (.nilIface) ∧ (BldAt B b (.pointer (some ⟨b, 0, none⟩)) (bs ++ [.int .u8 c]) w' ∧ Below B w w') := by
  obtain ⟨i0, hi, hz0, hz1, hz2⟩ := info_parts bld_byte
  go_enter Tryz.func31, Tryz.ntmps31
  go_wp2_with (go_at_call 66; refine (check_any B b bs _ h).mono ?_)
  rintro e w1 ⟨rfl, h1, hb1⟩
  obtain ⟨hB, v, hbk, hown, hne⟩ := h1
  have c0 : w1.cell? ⟨b, 0, none⟩ = some (.pointer (some ⟨b, 0, none⟩)) := by rw [Lib.cell_of_heap hbk]; rfl
  have c1 : w1.cell? ⟨b, 1, none⟩ = some v := by rw [Lib.cell_of_heap hbk]; rfl
  go_wp2_with (at_builtin; refine wpList_append_own _ rfl _ _ 68 rfl B 5 i0 (.int .u8 0) 1 1 Tryz.underlying68 hi hz0 hz1 hz2 rfl (by decide) _ _ _ rfl (hown.alloc _) ⟨w1.heap.size, 0, none⟩ 1 1 [.int .u8 c] rfl rfl (cell_one_new _ _ _) (by simp [Value.oneCell']) (by unfold maxLen; omega) (by omega) (by have := hb1.size; simp; omega) ?_)
  intro v' w2 hown' hgrow _
  have hlt : b < w1.heap.size := by
    rcases Nat.lt_or_ge b w1.heap.size with h' | h'
    · exact h'
    · simp [Array.getElem?_eq_none h'] at hbk
  have hb2 : w2.heap[b]? = some (.cells #[.pointer (some ⟨b, 0, none⟩), v] 70 (0, 0)) := by
    rw [hgrow.block b (by simp; omega) (fun e => hne e.symm), Below.heap_alloc _ _ _ hlt]
    exact hbk
  have d0 : w2.cell? ⟨b, 0, none⟩ = some (.pointer (some ⟨b, 0, none⟩)) := by rw [Lib.cell_of_heap hb2]; rfl
  have d1 : w2.cell? ⟨b, 1, none⟩ = some v := by rw [Lib.cell_of_heap hb2]; rfl
  have f1 : w2.frozen? ⟨b, 1, none⟩ = false := Lib.frozen_of_heap hb2 1
  obtain ⟨ao, n', cap, rfl⟩ : ∃ ao n' cap, v' = .slice ao n' cap := by
    rcases hown'.2 with ⟨hv, _⟩ | ⟨g, cap, cur, hv, _⟩
    · exact ⟨_, _, _, hv⟩
    · exact ⟨_, _, _, hv⟩
  go_wp2
  go_ret
  refine ⟨rfl, ?_, ?_⟩
  · exact Lib.BuilderAt.put hB hb2 (bs' := bs ++ [.int .u8 c]) (by simpa using hown') (by decide)
  · exact ((hb1.alloc (by have := hb1.size; omega) _).grown hgrow (by have := hb1.size; simp; omega) (fun k hk => (hown.lt k hk).1)).setCell (p := ⟨b, 1, none⟩) hB _
end Go.Proofs.YtcaigcmbgihhkaaGreatDoor
namespace Go.Proofs.YtcaigcmbgihhkaaGreatDoor
open Go Go.RowKit Go.Shelf
set_option linter.unusedVariables false
set_option linter.unusedSimpArgs false
attribute [local go_sem] Oper.semAt_some
theorem bld_below {B b : Nat} {p : Value} {bs : List Value} {w w' : World} (h : BldAt B b p bs w) (hb : Below w.heap.size w w') : BldAt B b p bs w' := by
  have hlt := Lib.BuilderAt.lt h
  obtain ⟨h1, v, h2, h3, h4⟩ := h
  exact ⟨h1, v, (hb.block b hlt).trans h2, own_below h3 hb, h4⟩
theorem isBld_below {B b : Nat} {bs : List Value} {w w' : World} (h : IsBld B b bs w) (hb : Below w.heap.size w w') : IsBld B b bs w' := h.imp (fun h => bld_below h hb) (fun h => bld_below h hb)
theorem bld_fresh (w : World) : IsBld w.heap.size w.heap.size [] (w.alloc (.cells #[.pointer none, .slice none 0 0] 70)) :=
  .inl ⟨Nat.le_refl _, _, World.alloc_heap_new w _, World.ownsRow_nil _ _ _ _, by simp [Value.ownBlock]⟩
theorem cells_str (l : Bs) : Lib.strCells (mkB l) = Lib.byteCells l := by simp [Lib.strCells, Lib.byteCells, mkB]
theorem byteCells_app (a b : Bs) : Lib.byteCells (a ++ b) = Lib.byteCells a ++ Lib.byteCells b := by simp [Lib.byteCells]
set_option maxRecDepth 100000 in
set_option maxHeartbeats 4000000 in
theorem join_any (w : World) (A : Option Addr) (c : Nat) (l : List WordD) (hl : l.length ≤ 16384) (ht : ∀ x ∈ l, x.text.length ≤ 20000)
    (hA : l ≠ [] → ∃ g, A = some ⟨g, 0, none⟩ ∧ g < w.heap.size ∧ ∀ k x, l[k]? = some x → ∀ i u, (wcells x)[i]? = some u → w.cell? ⟨g, k * 4 + i, none⟩ = some u) :
    Calls Tryz.prog 14 #[.slice A l.length c] w fun e w' => e = .returned (.string (mkB (joinL l))) ∧ Below w.heap.size w w' := by
  have HT := Lib.hid ht
  have HA := Lib.hid hA
  clear ht hA
  have hb0 := Lib.hid (bld_fresh w)
  have hbl0 := Lib.hid ((Below.refl w.heap.size w).alloc (Nat.le_refl _) (.cells #[.pointer none, .slice none 0 0] 70))
  go_enter Tryz.func14, Tryz.ntmps14
  go_wp2_with fail
  go_loopw [9] (fun s9 wr => ∃ k : Nat, k ≤ l.length ∧ s9 = .int .i64 (k : Int) ∧ Hid (IsBld w.heap.size w.heap.size (Lib.byteCells (joinL (l.take k))) wr) ∧ Hid (Below w.heap.size w wr)) (fun s9 _ => l.length - (intOf s9).toNat)
  case atStart => exact ⟨0, Nat.zero_le _, rfl, hb0, hbl0⟩
  case round =>
    obtain ⟨k, hk, rfl, hbd, hbl⟩ := hrel
    by_cases hlt : k < l.length
    · obtain ⟨x, hx⟩ : ∃ x, l[k]? = some x := ⟨_, List.getElem?_eq_getElem hlt⟩
      obtain ⟨g, rfl, hg, hcells⟩ := HA.out (by rintro rfl; simp at hlt)
      have hc := fun i u hu => (hbl.out.cell (p := ⟨g, k * 4 + i, none⟩) hg).trans (hcells k x hx i u hu)
      have c0 := hc 0 _ rfl
      have c1 := hc 1 _ rfl
      have c2 := hc 2 _ rfl
      have c3 := hc 3 _ rfl
      have HX := Lib.hid hx
      clear hc hcells hx
      simp only [Nat.add_zero] at c0
      have htx : x.text.length ≤ 20000 := HT.out x (List.mem_of_getElem? HX.out)
      have hen := encW_len x htx
      have hjl := joinL_len (l.take k) (fun y hy => HT.out y (List.mem_of_mem_take hy))
      have hln : (l.take k).length = k := by rw [List.length_take]; omega
      rw [hln] at hjl
      have hsn : joinL (l.take (k + 1)) = joinL (l.take k) ++ encW x ++ [32] := by rw [List.take_add_one, HX.out, Option.toList_some, joinL_snoc]
      obtain ⟨J, hJ⟩ : ∃ J, J = joinL (l.take k) := ⟨_, rfl⟩
      rw [← hJ] at hbd hsn hjl
      have hjl2 : J.length ≤ 1000000000 := by
        have : k * 40003 ≤ 16384 * 40003 := Nat.mul_le_mul_right _ (by omega)
        omega
      have hbs : (Lib.byteCells J).length ≤ 1000000000 := by simpa [Lib.byteCells] using hjl2
      have HSN := Lib.hid hsn
      have hws := fun (w' : World) (h : IsBld w.heap.size w.heap.size (Lib.byteCells J) w') (h2 : w.heap.size ≤ w'.heap.size) => writeString_any w.heap.size w.heap.size (Lib.byteCells J) (mkB (encW x)) w' h (by rw [mkB_size]; omega) h2
      rw [cells_str, ← byteCells_app] at hws
      have HWS := Lib.hid hws
      have hbs2 : (Lib.byteCells (J ++ encW x)).length + 1 ≤ 140737488355328 := by
        have : (Lib.byteCells (J ++ encW x)).length = J.length + (encW x).length := by simp [Lib.byteCells]
        omega
      have hwb := fun (w' : World) (h : IsBld w.heap.size w.heap.size (Lib.byteCells (J ++ encW x)) w') (h2 : w.heap.size ≤ w'.heap.size) => writeByte_any w.heap.size w.heap.size (Lib.byteCells (J ++ encW x)) 32 w' h hbs2 h2
      have HWB := Lib.hid hwb
      have hqt : ∀ w', x.kind = 3 → Calls Tryz.prog 29 #[.string (mkB x.text)] w' fun e w'' => e = .returned (.string (mkB (encW x))) ∧ Below w'.heap.size w' w'' := fun w' h3 => by
        have := quote_any w' (mkB x.text) (by rw [mkB_size]; omega)
        rw [bl_mkB] at this
        rw [encW, if_pos h3]
        exact this
      have HQT := Lib.hid hqt
      have het : x.kind ≠ 3 → encW x = x.text := fun h3 => by rw [encW, if_neg h3]
      have HET := Lib.hid het
      clear hJ hsn hjl hws hwb hqt het hbs hbs2 hln
      have hwsz : w.heap.size < wr.heap.size := by rcases hbd.out with h | h <;> exact Lib.BuilderAt.lt h
      by_cases hk3 : x.kind = 3
      · have hkb : (x.kind == 3) = true := beq_iff_eq.2 hk3
        have HK3 := Lib.hid hk3
        clear hk3
        go_wp2_with fail
        refine (HQT.out _ HK3.out).mono ?_
        rintro e w2 ⟨rfl, hb2⟩
        have hbd2 := Lib.hid (isBld_below (isBld_below hbd.out ((Below.refl _ wr).alloc (Nat.le_refl _) _)) hb2)
        have hbl2 := Lib.hid ((hbl.out.alloc (by omega) _).trans (hb2.mono (by simp; omega)))
        clear hb2
        go_wp2_with fail
        refine (HWS.out _ hbd2.out hbl2.out.size).mono ?_
        rintro e w3 ⟨rfl, hbd3, hb3⟩
        have hbl3 := Lib.hid (hbl2.out.trans hb3)
        have hbd3' := Lib.hid hbd3
        clear hb3 hbd3
        go_wp2_with fail
        refine (HWB.out _ (.inr hbd3'.out) hbl3.out.size).mono ?_
        rintro e w4 ⟨rfl, hbd4, hb4⟩
        have hbl4 := Lib.hid (hbl3.out.trans hb4)
        have hbd4' := Lib.hid hbd4
        clear hb4 hbd4
        go_wp2
        go_roundw
        case rel => exact ⟨k + 1, by omega, by go_num, Lib.hid (by rw [HSN.out, byteCells_app (J ++ encW x) [32]]; exact .inr hbd4'.out), hbl4⟩
        case measure => simp [intOf]; omega
      · have hkb : (x.kind == 3) = false := beq_eq_false_iff_ne.2 hk3
        have HET2 := Lib.hid (HET.out hk3)
        have hbd2 := Lib.hid (isBld_below hbd.out ((Below.refl _ wr).alloc (Nat.le_refl _) (.cells #[.int .i64 x.kind, .string (mkB x.text), .int .i64 x.n, .int .i64 x.at_] 36)))
        have hbl2 := Lib.hid (hbl.out.alloc (by omega) (.cells #[.int .i64 x.kind, .string (mkB x.text), .int .i64 x.n, .int .i64 x.at_] 36))
        clear hk3
        rw [HET2.out] at HWS HWB HSN
        go_wp2_with fail
        refine (HWS.out _ hbd2.out hbl2.out.size).mono ?_
        rintro e w3 ⟨rfl, hbd3, hb3⟩
        have hbl3 := Lib.hid (hbl2.out.trans hb3)
        have hbd3' := Lib.hid hbd3
        clear hb3 hbd3
        go_wp2_with fail
        refine (HWB.out _ (.inr hbd3'.out) hbl3.out.size).mono ?_
        rintro e w4 ⟨rfl, hbd4, hb4⟩
        have hbl4 := Lib.hid (hbl3.out.trans hb4)
        have hbd4' := Lib.hid hbd4
        clear hb4 hbd4
        go_wp2
        go_roundw
        case rel => exact ⟨k + 1, by omega, by go_num, Lib.hid (by rw [HSN.out, byteCells_app (J ++ x.text) [32]]; exact .inr hbd4'.out), hbl4⟩
        case measure => simp [intOf]; omega
    · obtain rfl : k = l.length := by omega
      rw [List.take_length] at hbd
      go_wp2_with fail
      refine (Tryz.Builder_String_any w.heap.size w.heap.size (joinL l) wr hbd.out hbl.out.size).mono ?_
      rintro e w2 ⟨rfl, hb2⟩
      have hbl2 := Lib.hid (hbl.out.trans hb2)
      clear hb2
      go_wp2
      go_ret
      exact ⟨rfl, hbl2.out⟩
end Go.Proofs.YtcaigcmbgihhkaaGreatDoor
