/-
  Part of a proof: SmL.
-/
import Derived.Test.YtcaigcmbgihhkaaDoorZSmK
import Derived.Laws.AppendOwnNone
namespace Go.Proofs.YtcaigcmbgihhkaaDoor
open Go Go.RowKit Go.Shelf
set_option linter.unusedVariables false
set_option linter.unusedSimpArgs false
attribute [local go_sem] Oper.semAt_some
theorem COwn.app2 {T : TypeId} {n0 n1 : Nat} {w2 w3 : World} {v v2 v' : Value} {l l2 : List ClassD} {ps1 ps2 : List (ClassD × Value × Value)} (h1 : ps1.map Prod.fst = l) (k1 : ∀ p ∈ ps1, ClassIn (fun k => n0 ≤ k ∧ some k ≠ v.ownBlock) w2 p.1 p.2.1 p.2.2)
    (h2 : ps2.map Prod.fst = l2) (k2 : ∀ p ∈ ps2, ClassIn (fun k => n1 ≤ k ∧ some k ≠ v2.ownBlock) w2 p.1 p.2.1 p.2.2) (hv : ∀ q, v.ownBlock = some q → q < n1) (hn : n0 ≤ n1)
    (ho : w3.ownsRow n0 T 5 v' (l.length + l2.length) ((ps1.flatMap fun p : ClassD × Value × Value => ccells p.1 p.2.1 p.2.2) ++ (ps2.flatMap fun p : ClassD × Value × Value => ccells p.1 p.2.1 p.2.2))) (hg : w2.grownBy w3 v.ownBlock)
    (hat : v'.ownBlock = v.ownBlock ∨ v'.ownBlock = some w2.heap.size) : COwn T (fun q => n0 ≤ q) n0 w3 v' (l ++ l2) := by
  have hok : ∀ k, n0 ≤ k → some k ≠ v.ownBlock → k < w2.heap.size → (n0 ≤ k ∧ some k ≠ v'.ownBlock) := fun k h0 hne hl => ⟨h0, by
    rcases hat with e | e
    · rw [e]; exact hne
    · rw [e]; simp; omega⟩
  refine ⟨ps1 ++ ps2, by rw [List.map_append, h1, h2], by rw [List.length_append, List.flatMap_append]; exact ho, fun p hp => ?_⟩
  rcases List.mem_append.1 hp with hp | hp
  · exact (k1 p hp).keep (fun k h hl => hok k h.1 h.2 hl) (fun k h hl => hg.block k hl h.2)
  · have hne : ∀ k, n1 ≤ k → some k ≠ v.ownBlock := fun k h e => by have := hv k e.symm; omega
    exact (k2 p hp).keep (fun k h hl => hok k (by omega) (hne k h.1) hl) (fun k h hl => hg.block k hl (hne k h.1))
theorem cc_one {ok : Nat → Prop} {W : World} {ps : List (ClassD × Value × Value)} (h : ∀ p ∈ ps, ClassIn ok W p.1 p.2.1 p.2.2) : ∀ u ∈ (ps.flatMap fun p : ClassD × Value × Value => ccells p.1 p.2.1 p.2.2), u.oneCell' = true := by
  intro u hu
  simp only [List.mem_flatMap] at hu
  obtain ⟨p, hp, hu⟩ := hu
  obtain ⟨h1, h2⟩ := h p hp
  obtain ⟨a, c, e1⟩ := h1.form
  obtain ⟨b, d, e2⟩ := h2.form
  simp only [ccells, List.mem_cons, List.not_mem_nil, or_false, e1, e2] at hu
  rcases hu with rfl | rfl | rfl | rfl | rfl <;> rfl
set_option maxRecDepth 100000 in
set_option maxHeartbeats 8000000 in
theorem parseTwo_any (a b : ByteArray) (ha : a.size ≤ 140737488351232) (hb : b.size ≤ 140737488351232) (W : World) (hS : SpaceAt W) : Calls Tryd.prog 4 #[.string a, .string b] W fun e W' => e = .returned (.bool true) ∧ Below W.heap.size W W' := by
  have H1 := Lib.hid (parse_any W a ha hS)
  have H2 := Lib.hid (fun w (h : SpaceAt w) => parse_any w b hb h)
  have HS := Lib.hid hS
  clear hS
  cases hpa : parseL (bl a) with
  | error f =>
    rw [hpa] at H1
    have hq := parse_why hpa
    obtain ⟨p, q⟩ := f
    have hq2 : (q != 0) = true := by simpa using hq
    clear hpa hq
    cases hpb : parseL (bl b) with
    | error f2 =>
      rw [hpb] at H2
      obtain ⟨p2, q2⟩ := f2
      clear hpb
      go_enter Tryd.func4, Tryd.ntmps4
      go_wp2_with fail
      refine H1.out.mono ?_
      rintro e w1 ⟨b1, rfl⟩
      have B1 := Lib.hid b1
      clear b1
      go_wp2_with fail
      refine (H2.out _ (HS.out.mono B1.out)).mono ?_
      rintro e w2 ⟨b2, rfl⟩
      have B2 := Lib.hid (B1.out.trans (b2.mono B1.out.size))
      clear b2
      go_wp2_with fail
      refine (known25_any _ (HS.out.mono B2.out)).mono ?_
      rintro e w3 ⟨rfl, b3⟩
      have B3 := Lib.hid (B2.out.trans (b3.mono B2.out.size))
      clear b3
      go_wp2_with fail
      go_ret
      exact ⟨rfl, B3.out⟩
    | ok l2 =>
      rw [hpb] at H2
      clear hpb
      go_enter Tryd.func4, Tryd.ntmps4
      go_wp2_with fail
      refine H1.out.mono ?_
      rintro e w1 ⟨b1, rfl⟩
      have B1 := Lib.hid b1
      clear b1
      go_wp2_with fail
      refine (H2.out _ (HS.out.mono B1.out)).mono ?_
      rintro e w2 ⟨b2, v2, rfl, c2⟩
      obtain ⟨a2, d2, rfl⟩ := c2.form
      have B2 := Lib.hid (B1.out.trans (b2.mono B1.out.size))
      clear b2
      go_wp2_with fail
      refine (known25_any _ (HS.out.mono B2.out)).mono ?_
      rintro e w3 ⟨rfl, b3⟩
      have B3 := Lib.hid (B2.out.trans (b3.mono B2.out.size))
      clear b3
      go_wp2_with fail
      go_ret
      exact ⟨rfl, B3.out⟩
  | ok l1 =>
    rw [hpa] at H1
    have hc1 := parse_few hpa
    cases hpb : parseL (bl b) with
    | error f2 =>
      rw [hpb] at H2
      have hq := parse_why hpb
      obtain ⟨p2, q2⟩ := f2
      have hq2 : (q2 != 0) = true := by simpa using hq
      clear hpa hpb hq
      go_enter Tryd.func4, Tryd.ntmps4
      go_wp2_with fail
      refine H1.out.mono ?_
      rintro e w1 ⟨b1, v1, rfl, c1⟩
      obtain ⟨a1, d1, rfl⟩ := c1.form
      have B1 := Lib.hid b1
      clear b1
      go_wp2_with fail
      refine (H2.out _ (HS.out.mono B1.out)).mono ?_
      rintro e w2 ⟨b2, rfl⟩
      have B2 := Lib.hid (B1.out.trans (b2.mono B1.out.size))
      clear b2
      go_wp2_with fail
      refine (known25_any _ (HS.out.mono B2.out)).mono ?_
      rintro e w3 ⟨rfl, b3⟩
      have B3 := Lib.hid (B2.out.trans (b3.mono B2.out.size))
      clear b3
      go_wp2_with fail
      go_ret
      exact ⟨rfl, B3.out⟩
    | ok l2 =>
      rw [hpb] at H2
      have hc2 := parse_few hpb
      by_cases hsz : (16383 : Int) - (b.size : Int) < (a.size : Int)
      · have hcd : decide ((16383 : Int) - (b.size : Int) < (a.size : Int)) = true := decide_eq_true hsz
        clear hpa hpb
        go_enter Tryd.func4, Tryd.ntmps4
        go_wp2_with fail
        refine H1.out.mono ?_
        rintro e w1 ⟨b1, v1, rfl, c1⟩
        obtain ⟨a1, d1, rfl⟩ := c1.form
        have B1 := Lib.hid b1
        clear b1
        go_wp2_with fail
        refine (H2.out _ (HS.out.mono B1.out)).mono ?_
        rintro e w2 ⟨b2, v2, rfl, c2⟩
        obtain ⟨a2, d2, rfl⟩ := c2.form
        have B2 := Lib.hid (B1.out.trans (b2.mono B1.out.size))
        clear b2
        go_wp2_with fail
        refine (known25_any _ (HS.out.mono B2.out)).mono ?_
        rintro e w3 ⟨rfl, b3⟩
        have B3 := Lib.hid (B2.out.trans (b3.mono B2.out.size))
        clear b3
        go_wp2_with fail
        go_ret
        exact ⟨rfl, B3.out⟩
      · have hcd : decide ((16383 : Int) - (b.size : Int) < (a.size : Int)) = false := decide_eq_false hsz
        obtain ⟨z, hz, hzb⟩ := parse_two (bl a) (bl b) l1 l2 (by rw [bl_len, bl_len]; omega) hpa hpb
        have hcz := parse_few hz
        have hs3 : bl (a ++ ⟨#[10]⟩ ++ b) = bl a ++ 10 :: bl b := by rw [bl_append, bl_append]; simp [bl]
        have hs3n : (a ++ ⟨#[10]⟩ ++ b : ByteArray).size ≤ 140737488351232 := by rw [← bl_len, hs3, List.length_append, List.length_cons, bl_len, bl_len]; omega
        have h3 := fun w (h : SpaceAt w) => parse_any w (a ++ ⟨#[10]⟩ ++ b) hs3n h
        rw [hs3, hz] at h3
        have H3 := Lib.hid h3
        obtain ⟨l3, hl3⟩ : ∃ l3, l3 = l1 ++ l2 := ⟨_, rfl⟩
        have HL3 := Lib.hid hl3
        have HZ := Lib.hid (show z.map bareC = l3.map bareC from by rw [hl3, List.map_append]; exact hzb)
        have hl1 := cntCs_len l1
        have hl2 := cntCs_len l2
        obtain ⟨i0, hi0, hz0, hz1, hz2⟩ := info_of rclass_info
        clear hpa hpb h3 hs3 hs3n hz hzb hsz hl3
        go_enter Tryd.func4, Tryd.ntmps4
        go_wp2_with fail
        refine H1.out.mono ?_
        rintro e w1 ⟨b1, v1, rfl, c1⟩
        obtain ⟨a1, d1, rfl⟩ := c1.form
        have B1 := Lib.hid b1
        have C1 := Lib.hid c1.all
        clear b1 c1
        go_wp2_with fail
        refine (H2.out _ (HS.out.mono B1.out)).mono ?_
        rintro e w2 ⟨b2, v2, rfl, c2⟩
        obtain ⟨a2, d2, rfl⟩ := c2.form
        have B2 := Lib.hid (B1.out.trans (b2.mono B1.out.size))
        have C12 := Lib.hid (C1.out.later b2)
        have C2 := Lib.hid c2.all
        clear b2 c2
        go_wp2_with fail
        refine (H3.out _ (HS.out.mono B2.out)).mono ?_
        rintro e w3 ⟨b3, v3, rfl, c3⟩
        obtain ⟨a3, d3, rfl⟩ := c3.form
        have B3 := Lib.hid (B2.out.trans (b3.mono B2.out.size))
        have C13 := Lib.hid (C12.out.later b3)
        have C23 := Lib.hid (C2.out.later b3)
        have C3 := Lib.hid (c3.keep (ok' := fun k => k < w3.heap.size) (fun k _ hl => hl) (fun _ _ _ => rfl))
        clear b3 c3
        go_wp2_with fail
        refine (taken_any l1 hc1 _ _ C13.out).mono ?_
        rintro e w4 ⟨v4, rfl, t4, b4⟩
        have B4 := Lib.hid (B3.out.trans (b4.mono B3.out.size))
        have C24 := Lib.hid (C23.out.later b4)
        have hsz3 : w3.heap.size ≤ w4.heap.size := b4.size
        have C34 := Lib.hid (C3.out.keep (ok' := fun k => k < w3.heap.size) (W' := w4) (fun _ h _ => h) (fun q h1 h2 => b4.block q h1))
        obtain ⟨ps4, hp4, ho4, hk4⟩ := t4
        obtain ⟨a4, d4, rfl⟩ := own_form ho4
        have HP4 := Lib.hid hp4
        have HO4 := Lib.hid ho4
        have HK4 := Lib.hid hk4
        clear b4 hp4 ho4 hk4
        go_wp2_with fail
        refine (taken_any l2 hc2 _ _ C24.out).mono ?_
        rintro e w5 ⟨v5, rfl, t5, b5⟩
        have B5 := Lib.hid (B4.out.trans (b5.mono B4.out.size))
        have C35 := Lib.hid (C34.out.keep (ok' := fun k => k < w3.heap.size) (W' := w5) (fun _ h _ => h) (fun q h1 h2 => b5.block q h2))
        have HO45 := Lib.hid (own_below HO4.out b5)
        have HK45 := Lib.hid (fun p hp => (HK4.out p hp).keep (W' := w5) (fun _ h _ => h) (fun q h1 h2 => b5.block q h2))
        obtain ⟨ps5, hp5, ho5, hk5⟩ := t5
        have hsz45 : w4.heap.size ≤ w5.heap.size := b5.size
        have hsz34 : w3.heap.size ≤ w5.heap.size := Nat.le_trans hsz3 hsz45
        have HP5 := Lib.hid hp5
        have HK5 := Lib.hid hk5
        have hin := SliceIn.of_own ho5
        obtain ⟨hlen5, ao5, cap5, rfl, g2, g3, g4, g5⟩ := hin
        have hlt4 : ∀ q, (Value.slice a4 l1.length d4).ownBlock = some q → q < w4.heap.size := fun q e => (HO4.out.lt q e).2
        have hge4 : ∀ q, (Value.slice a4 l1.length d4).ownBlock = some q → w3.heap.size ≤ q := fun q e => (HO4.out.lt q e).1
        cases ao5 with
        | none =>
          obtain ⟨hn0, hc0⟩ := g4 rfl
          have hl0 : l2 = [] := List.eq_nil_of_length_eq_zero hn0
          subst hl0
          subst hc0
          clear g2 g3 g4 g5 b5 hp5 ho5 hk5 hlen5
          have hl31 : l3 = l1 := by have := HL3.out; simpa using this
          have T5 := Lib.hid (show ClassesIn w5 l3 (.slice a4 l1.length d4) from by rw [hl31]; exact (COwn.at_ ⟨ps4, HP4.out, HO45.out, HK45.out⟩).all)
          go_wp2_with (at_builtin; go_loud (refine wpList_append_own_none rfl _ _ 38 rfl w3.heap.size 71 i0 5 Tryd.underlying38 hi0 _ l1.length _ rfl HO45.out rfl ?_))
          have B6 := B5
          have C36 : Hid (ClassesIn w5 z _) := Lib.hid C35.out.all
          go_wp2_with fail
          refine (taken_any z hcz _ _ C36.out).mono ?_
          rintro e w7 ⟨v7, rfl, t7, b7⟩
          have t7' := t7.at_
          obtain ⟨a7, d7, rfl⟩ := t7'.form
          have B7 := Lib.hid (B6.out.trans (b7.mono B6.out.size))
          have T57 := Lib.hid (T5.out.later b7)
          have T7 := Lib.hid t7'.all
          clear b7 t7 t7'
          go_wp2_with fail
          refine (rsameAll_any z l3 _ _ _ T7.out T57.out).mono ?_
          rintro e w8 ⟨rfl, b8⟩
          rw [(sameCs_iff z l3).2 HZ.out]
          have B8 := Lib.hid (B7.out.trans (b8.mono B7.out.size))
          clear b8
          go_wp2_with fail
          refine (known25_any _ (HS.out.mono B8.out)).mono ?_
          rintro e w9 ⟨rfl, b9⟩
          have B9 := Lib.hid (B8.out.trans (b9.mono B8.out.size))
          clear b9
          go_wp2_with fail
          go_ret
          exact ⟨rfl, B9.out⟩
        | some ad =>
          have hcell := (g5 ad rfl).2
          have HC5 := Lib.hid hcell
          have HL5 := Lib.hid hlen5
          clear g3 g4 g5 b5 hp5 ho5 hk5 hlen5 hcell
          go_wp2_with (at_builtin; go_loud (refine wpList_append_own_at _ rfl _ _ 38 rfl w3.heap.size 71 i0 (.agg #[.string ⟨#[]⟩, .string ⟨#[]⟩, .slice none 0 0, .slice none 0 0, .int .i64 0]) 5 88 Tryd.underlying38 hi0 hz0 hz1 hz2 rfl (by decide) _ l1.length _ rfl HO45.out ad l2.length cap5 _ rfl HL5.out HC5.out (cc_one HK5.out) (by unfold maxLen; omega) (by omega) hsz34 ?_); intro v6 w6 ho6 hg6 _ hat6; have T6 := COwn.app2 HP4.out HK45.out HP5.out HK5.out hlt4 hsz3 ho6 hg6 hat6; rw [← HL3.out] at T6; have B6 : Hid (Below W.heap.size W w6) := Lib.hid (B5.out.trans (Touch.below (Touch.of_grownBy (S := fun q => W.heap.size ≤ q) hg6 (fun q e _ => Nat.le_trans B3.out.size (hge4 q e))) (n := W.heap.size) B5.out.size (fun q hq => hq))); have C36 : Hid (ClassesIn w6 z _) := Lib.hid (C35.out.keep (ok' := AllB) (W' := w6) (fun _ _ _ => trivial) (fun q h1 h2 => hg6.block q h2 (fun e => by have := hge4 q e.symm; omega))); have T5 := Lib.hid T6.at_.all; obtain ⟨a6, d6, rfl⟩ := T5.out.form; clear ho6 hg6 hat6 T6)
          go_wp2_with fail
          refine (taken_any z hcz _ _ C36.out).mono ?_
          rintro e w7 ⟨v7, rfl, t7, b7⟩
          have t7' := t7.at_
          obtain ⟨a7, d7, rfl⟩ := t7'.form
          have B7 := Lib.hid (B6.out.trans (b7.mono B6.out.size))
          have T57 := Lib.hid (T5.out.later b7)
          have T7 := Lib.hid t7'.all
          clear b7 t7 t7'
          go_wp2_with fail
          refine (rsameAll_any z l3 _ _ _ T7.out T57.out).mono ?_
          rintro e w8 ⟨rfl, b8⟩
          rw [(sameCs_iff z l3).2 HZ.out]
          have B8 := Lib.hid (B7.out.trans (b8.mono B7.out.size))
          clear b8
          go_wp2_with fail
          refine (known25_any _ (HS.out.mono B8.out)).mono ?_
          rintro e w9 ⟨rfl, b9⟩
          have B9 := Lib.hid (B8.out.trans (b9.mono B8.out.size))
          clear b9
          go_wp2_with fail
          go_ret
          exact ⟨rfl, B9.out⟩
end Go.Proofs.YtcaigcmbgihhkaaDoor
