/-
  Part of a proof: PpB.
-/
import Derived.Test.YtcaigcmbgihhkaaDoorZPpA
import Derived.Deep.RegionLaw
namespace Go.Proofs.YtcaigcmbgihhkaaDoor
open Go Go.RowKit Go.Shelf
set_option linter.unusedVariables false
set_option linter.unusedSimpArgs false
attribute [local go_sem] Oper.semAt_some
set_option maxRecDepth 100000 in
set_option maxHeartbeats 40000000 in
theorem parsePlaces_any (s : ByteArray) (hs : s.size ≤ 140737488351232) (W : World) (hS : SpaceAt W) : Calls Tryd.prog 5 #[.string s] W fun e W' => e = .returned (.bool true) ∧ Below W.heap.size W W' := by
  have H1 := Lib.hid (parse_any W s hs hS)
  have HS := Lib.hid hS
  have hpl := parse_places (bl s)
  rw [bl_len] at hpl
  clear hS
  cases hp : parseL (bl s) with
  | error f =>
    rw [hp] at hpl H1
    obtain ⟨⟨hp0, hp1⟩, hq⟩ : (0 ≤ f.1 ∧ f.1 ≤ (s.size : Int)) ∧ f.2 ≠ 0 := hpl
    obtain ⟨p, q⟩ := f
    dsimp only at hp0 hp1 hq
    have hq2 : (q != 0) = true := by simpa using hq
    have hd1 : decide (p < 0) = false := decide_eq_false (by omega)
    have hd2 : decide ((s.size : Int) < p) = false := decide_eq_false (by omega)
    clear hp
    go_enter Tryd.func5, Tryd.ntmps5
    go_wp2_with fail
    refine H1.out.mono ?_
    rintro e w1 ⟨hb, rfl⟩
    have B1 := Lib.hid hb
    clear hb
    go_wp2_with fail
    refine (known25_any _ (HS.out.mono B1.out)).mono ?_
    rintro e w2 ⟨rfl, b2⟩
    have B2 := Lib.hid (B1.out.trans (b2.mono B1.out.size))
    clear b2
    go_wp2_with fail
    go_ret
    exact ⟨rfl, B2.out⟩
  | ok l =>
    rw [hp] at hpl H1
    have H2 := Lib.hid (words24_any s hs)
    have HL := Lib.hid (show ∀ c ∈ l, ClaW (lexL (bl s)).1 c from hpl)
    have HU := Lib.hid (lexL_up (bl s))
    obtain ⟨L, hL⟩ : ∃ L, L = lexL (bl s) := ⟨_, rfl⟩
    rw [← hL] at H2 HL HU
    obtain ⟨L, at2, er2⟩ := L
    dsimp only at H2 HL HU
    clear hp hpl hL
    have hd2 : decide ((s.size : Int) < 0) = false := decide_eq_false (by omega)
    go_enter Tryd.func5, Tryd.ntmps5
    go_wp2_with fail
    refine H1.out.mono ?_
    rintro e w1 ⟨hb, v, rfl, hc⟩
    obtain ⟨ao, c, rfl⟩ := hc.form
    have hcl : l.length ≤ maxLen := by
      obtain ⟨_, _, e, h1, h2, _⟩ := hc
      omega
    have hcl2 : (l.length : Int) ≤ 9223372036854775807 := by unfold maxLen at hcl; omega
    have B1 := Lib.hid hb
    have C1 := Lib.hid hc.all
    clear hb hc
    go_wp2_with fail
    refine (H2.out _).mono ?_
    rintro e w2 ⟨wv, rfl, hw, b2⟩
    obtain ⟨wa, wc, rfl⟩ := hw.form
    have B2 := Lib.hid (B1.out.trans (b2.mono B1.out.size))
    have C2 := Lib.hid (C1.out.later b2)
    have W2 := Lib.hid hw
    clear hw b2
    go_wp2_with fail
    have N2 := B2.out.size
    go_loopw [9] (fun s9 wr => ∃ (i : Nat), i ≤ l.length ∧ s9 = .int .i64 (i : Int) ∧ Hid (Below w2.heap.size w2 wr)) (fun s9 _ => l.length - (intOf s9).toNat)
    case atStart => exact ⟨0, Nat.zero_le _, rfl, Lib.hid (Below.refl _ _)⟩
    case round =>
      obtain ⟨i, hi, rfl, hb⟩ := hrel
      by_cases hil : i < l.length
      · obtain ⟨x, hx⟩ : ∃ x, l[i]? = some x := ⟨_, List.getElem?_eq_getElem hil⟩
        have HX := Lib.hid hx
        have CX := C2.out.later hb.out
        obtain ⟨g, o, c1, tv, kv, e, q1, q2, ⟨hf, hm⟩, a0, a1, a2, a3, a4⟩ := CX.at_ hx
        simp only [Value.slice.injEq] at e
        obtain ⟨rfl, -, rfl⟩ := e
        have lg := cell_lt a0
        obtain ⟨fa, fc, rfl⟩ := hf.form
        obtain ⟨ma, mc, rfl⟩ := hm.form
        obtain ⟨hn, hfs, hms⟩ := HL.out x (List.mem_of_getElem? hx)
        have S1 := fun w h => stands_any w (.slice wa L.length wc) _ L x.name x.at_ h HU.out hn
        have HS1 := Lib.hid S1
        have WX := Lib.hid (W2.out.later hb.out)
        have HF := Lib.hid hf
        have HM := Lib.hid hm
        have HFS := Lib.hid hfs
        have HMS := Lib.hid hms
        clear hf hm hn hfs hms S1 CX hx
        go_wp2_with fail
        go_region_law (go_simp; go_at_call 16; go_loud (refine (HS1.out _ (WX.out.later (below_drew (Below.refl _ _)))).mono ?_; rintro e wz ⟨rfl, rfl⟩))
        all_goals
          have hbd := Lib.hid (below_drew hb.out)
          clear a0 a1 a2 a3 a4 HS1 WX HF HM lg
          go_wp2_with fail
          go_loopw [10] (fun s10 ws => ∃ (k : Nat), k ≤ x.fields.length ∧ s10 = .int .i64 (k : Int) ∧ Hid (Below w2.heap.size w2 ws)) (fun s10 _ => x.fields.length - (intOf s10).toNat)
          case atStart => exact ⟨0, Nat.zero_le _, rfl, hbd⟩
          case round =>
            obtain ⟨k, hk, rfl, hbk⟩ := hrel
            have CX := C2.out.later hbk.out
            obtain ⟨g', o', c1', tv', kv', e, q1', q2', ⟨hf, hm⟩, a0, a1, a2, a3, a4⟩ := CX.at_ HX.out
            simp only [Value.slice.injEq, Option.some.injEq, Addr.mk.injEq] at e
            obtain ⟨⟨rfl, rfl, -⟩, -, rfl⟩ := e
            have lg := cell_lt a0
            obtain ⟨fa', fc', rfl⟩ := hf.form
            obtain ⟨ma', mc', rfl⟩ := hm.form
            have hfl : (x.fields.length : Int) ≤ 9223372036854775807 := by
              obtain ⟨_, _, e, h1, h2, _⟩ := hf
              unfold maxLen at h2
              omega
            by_cases hkl : k < x.fields.length
            · obtain ⟨y, hy⟩ : ∃ y, x.fields[k]? = some y := ⟨_, List.getElem?_eq_getElem hkl⟩
              obtain ⟨g2, o2, c2, e, r1, r2, b0, b1, b2⟩ := hf.at_ hy
              simp only [Value.slice.injEq] at e
              obtain ⟨rfl, -, rfl⟩ := e
              have lg2 := cell_lt b0
              have hn := HFS.out y (List.mem_of_getElem? hy)
              have S1 := fun w h => stands_any w (.slice wa L.length wc) _ L y.name y.at_ h HU.out hn
              have HS1 := Lib.hid S1
              have WX := Lib.hid (W2.out.later hbk.out)
              clear hf hm hn S1 CX hy
              go_wp2_with fail
              go_region_law (go_simp; go_at_call 16; go_loud (refine (HS1.out _ (WX.out.later (below_drew (Below.refl _ _)))).mono ?_; rintro e wz ⟨rfl, rfl⟩))
              all_goals
                go_wp2_with fail
                go_roundw
                case rel => exact ⟨k + 1, by omega, by go_num, Lib.hid (below_drew hbk.out)⟩
                case measure => simp [intOf]; omega
            · obtain rfl : k = x.fields.length := by omega
              clear hf hm CX
              go_wp2_with fail
              go_loopw [11] (fun s11 ws => ∃ (k : Nat), k ≤ x.methods.length ∧ s11 = .int .i64 (k : Int) ∧ Hid (Below w2.heap.size w2 ws)) (fun s11 _ => x.methods.length - (intOf s11).toNat)
              case atStart => exact ⟨0, Nat.zero_le _, rfl, hbk⟩
              case round =>
                clear a0 a1 a2 a3 a4 lg hbk
                obtain ⟨k, hk, rfl, hbk⟩ := hrel
                have CX := C2.out.later hbk.out
                obtain ⟨g', o', c1', tv', kv', e, q1', q2', ⟨hf, hm⟩, a0, a1, a2, a3, a4⟩ := CX.at_ HX.out
                simp only [Value.slice.injEq, Option.some.injEq, Addr.mk.injEq] at e
                obtain ⟨⟨rfl, rfl, -⟩, -, rfl⟩ := e
                have lg := cell_lt a0
                obtain ⟨fa', fc', rfl⟩ := hf.form
                obtain ⟨ma', mc', rfl⟩ := hm.form
                have hml : (x.methods.length : Int) ≤ 9223372036854775807 := by
                  obtain ⟨_, _, e, h1, h2, _⟩ := hm
                  unfold maxLen at h2
                  omega
                by_cases hkl : k < x.methods.length
                · obtain ⟨y, hy⟩ : ∃ y, x.methods[k]? = some y := ⟨_, List.getElem?_eq_getElem hkl⟩
                  obtain ⟨g2, o2, c2, pv, bv, e, r1, r2, ⟨hp, hbd2⟩, b0, b1, b2, b3, b4, b5, b6, b7, b8, b9⟩ := hm.at_ hy
                  simp only [Value.slice.injEq] at e
                  obtain ⟨rfl, -, rfl⟩ := e
                  obtain ⟨pa, pc, rfl⟩ := hp.form
                  obtain ⟨ba, bc, rfl⟩ := hbd2.form
                  have lg2 := cell_lt b0
                  obtain ⟨hn, hts⟩ := HMS.out y (List.mem_of_getElem? hy)
                  have S1 := fun w h => stands_any w (.slice wa L.length wc) _ L y.name y.at_ h HU.out hn
                  have HS1 := Lib.hid S1
                  have HTS := Lib.hid hts
                  have WX := Lib.hid (W2.out.later hbk.out)
                  have HPP := Lib.hid (show ParamsIn wr y.takes _ from hp)
                  have hpl2 : (y.takes.length : Int) ≤ 9223372036854775807 := by
                    obtain ⟨_, _, e, h1, h2, _⟩ := hp
                    unfold maxLen at h2
                    omega
                  clear hf hm hn S1 CX hy hp hbd2 hts
                  go_wp2_with fail
                  refine (HS1.out _ (WX.out.later ((Below.refl _ _).alloc (Nat.le_refl _) _))).mono ?_
                  rintro e wz ⟨rfl, rfl⟩
                  go_wp2_with fail
                  have hbm := Lib.hid (hbk.out.alloc hbk.out.size (.cells #[.string (mkB y.name), .string (mkB y.gives), .slice pa y.takes.length pc, .int .i64 y.body.op, .string (mkB y.body.text), .string (mkB y.body.type), .int .i64 y.body.n, .slice ba y.body.kids.length bc, .int .i64 y.body.at_, .int .i64 y.at_] 53))
                  have hbl := Lib.hid (Blk.new wr 53 #[.string (mkB y.name), .string (mkB y.gives), .slice pa y.takes.length pc, .int .i64 y.body.op, .string (mkB y.body.text), .string (mkB y.body.type), .int .i64 y.body.n, .slice ba y.body.kids.length bc, .int .i64 y.body.at_, .int .i64 y.at_])
                  have hpm := Lib.hid (HPP.out.later ((Below.refl _ _).alloc (Nat.le_refl _) (.cells #[.string (mkB y.name), .string (mkB y.gives), .slice pa y.takes.length pc, .int .i64 y.body.op, .string (mkB y.body.text), .string (mkB y.body.type), .int .i64 y.body.n, .slice ba y.body.kids.length bc, .int .i64 y.body.at_, .int .i64 y.at_] 53)))
                  obtain ⟨mB, hmB⟩ : ∃ mB, mB = wr.heap.size := ⟨_, rfl⟩
                  rw [← hmB] at hbl
                  simp only [← hmB]
                  clear hmB a0 a1 a2 a3 a4 b0 b1 b2 b3 b4 b5 b6 b7 b8 b9 lg lg2 HS1 WX HPP
                  go_loopw [13] (fun s13 ws => ∃ (j : Nat), j ≤ y.takes.length ∧ s13 = .int .i64 (j : Int) ∧ Hid (Below w2.heap.size w2 ws) ∧ Hid (Blk ws mB 53 #[.string (mkB y.name), .string (mkB y.gives), .slice pa y.takes.length pc, .int .i64 y.body.op, .string (mkB y.body.text), .string (mkB y.body.type), .int .i64 y.body.n, .slice ba y.body.kids.length bc, .int .i64 y.body.at_, .int .i64 y.at_]) ∧ Hid (ParamsIn ws y.takes (.slice pa y.takes.length pc))) (fun s13 _ => y.takes.length - (intOf s13).toNat)
                  case atStart => exact ⟨0, Nat.zero_le _, rfl, hbm, hbl, hpm⟩
                  case round =>
                    clear hbm hbl hpm hbk
                    obtain ⟨j, hj, rfl, hbk, HB, HPP⟩ := hrel
                    have m2 : wr.cell? ⟨mB, 2, none⟩ = some (.slice pa y.takes.length pc) := HB.out.cell 2
                    have mf := HB.out.lt
                    by_cases hjl : j < y.takes.length
                    · obtain ⟨z, hz⟩ : ∃ z, y.takes[j]? = some z := ⟨_, List.getElem?_eq_getElem hjl⟩
                      obtain ⟨g2, o2, c2, e, r1, r2, b0, b1, b2⟩ := HPP.out.at_ hz
                      simp only [Value.slice.injEq] at e
                      obtain ⟨rfl, -, rfl⟩ := e
                      have lg2 := cell_lt b0
                      have hn := HTS.out z (List.mem_of_getElem? hz)
                      have S1 := fun w h => stands_any w (.slice wa L.length wc) _ L z.name z.at_ h HU.out hn
                      have HS1 := Lib.hid S1
                      have WX := Lib.hid (W2.out.later hbk.out)
                      clear hn S1 hz
                      go_wp2_with fail
                      go_region_law (go_simp; go_at_call 16; go_loud (refine (HS1.out _ (WX.out.later (below_drew (Below.refl _ _)))).mono ?_; rintro e wz ⟨rfl, rfl⟩))
                      all_goals
                        go_wp2_with fail
                        go_roundw
                        case rel => exact ⟨j + 1, by omega, by go_num, Lib.hid (below_drew hbk.out), Lib.hid HB.out.drew, Lib.hid (HPP.out.later (below_drew (Below.refl _ _)))⟩
                        case measure => simp [intOf]; omega
                    · obtain rfl : j = y.takes.length := by omega
                      go_wp2_with fail
                      go_roundw
                      case rel => exact ⟨k + 1, by omega, by go_num, hbk⟩
                      case measure => simp [intOf]; omega
                · obtain rfl : k = x.methods.length := by omega
                  clear hf hm CX
                  go_wp2_with fail
                  go_roundw
                  case rel => exact ⟨i + 1, by omega, by go_num, hbk⟩
                  case measure => simp [intOf]; omega
      · obtain rfl : i = l.length := by omega
        go_wp2_with fail
        refine (known25_any _ (HS.out.mono (B2.out.trans (hb.out.mono N2)))).mono ?_
        rintro e w3 ⟨rfl, b3⟩
        have B3 := Lib.hid ((B2.out.trans (hb.out.mono N2)).trans (b3.mono (by have := hb.out.size; omega)))
        clear b3
        go_wp2_with fail
        go_ret
        exact ⟨rfl, B3.out⟩
end Go.Proofs.YtcaigcmbgihhkaaDoor
