/-
  Part of a proof: ParZ.
-/
import Derived.Test.YtcaigcmbgihhkaaGreatDoorZParU
namespace Go.Proofs.YtcaigcmbgihhkaaGreatDoor
open Go Go.RowKit Go.Shelf
set_option linter.unusedVariables false
set_option linter.unusedSimpArgs false
attribute [local go_sem] Oper.semAt_some
set_option maxRecDepth 100000 in
set_option maxHeartbeats 40000000 in
theorem stmt_any (m : Nat) (H : ∀ k, k < m → NTC k .expr 172 ∧ NTC k .round 173 ∧ NTC k .block 106 ∧ SetC k) : NTC m .stmt 140 := by
  intro w pB en s r h hr
  cases m with
  | zero => simp [runP] at hr
  | succ m =>
    rw [runP] at hr
    dsimp only at hr
    have hpl := h.lt
    have RA := Lib.hid ((Rd.start h).alloc 79 zeroN)
    have HR := Lib.hid hr
    have hmm := @run_makeMap Tryz.prog
    have C1 := Lib.hid (H m (by omega))
    clear h hr H
    go_enter Tryz.func140, Tryz.ntmps140
    go_wp2_with fail
    cases ha : aheadP s 0 [123] with
    | true =>
      have hr := HR.out
      rw [if_pos ha] at hr
      have HA := Lib.hid ha
      have HR1 := Lib.hid hr
      clear ha hr HR
      refine (RA.out.aheadR 0 (by omega) (b := ⟨#[123]⟩) rfl HA.out).mono ?_
      rintro e w1 ⟨rfl, R1⟩
      go_wp2_with fail
      refine (C1.out.2.2.1 _ pB en _ r R1.out.pat HR1.out).mono ?_
      rintro e w9 hE
      cases r with
      | error f =>
        obtain ⟨rfl, ht⟩ := hE
        go_wp2_with fail
        exact ⟨rfl, rfl, Tch.trans R1.out.tch ht⟩
      | ok y =>
        obtain ⟨a, s9⟩ := y
        obtain ⟨⟨v, rfl, hk⟩, hp9, ht⟩ := hE
        have R9 := Lib.hid (R1.out.node hp9 ht hk)
        obtain ⟨ka, kc, rfl⟩ := hk.form
        obtain ⟨r0, r1, r2, r3, r4, r5, rf, rl⟩ := (R9.out.six6 (.head _)).six
        clear hk hp9 ht
        go_wp2_with fail
        exact R9.out.fin a _ rfl rfl rfl (.head _) (.head _)
    | false =>
      have hr := HR.out
      rw [if_neg (by rw [ha]; decide)] at hr
      have HA := Lib.hid ha
      refine (RA.out.aheadR 0 (by omega) (b := ⟨#[123]⟩) rfl HA.out).mono ?_
      rintro e w1 ⟨rfl, R1⟩
      clear ha HR RA
      have hbad : (∃ x l, s.ws = x :: l ∧ x.kind = 5) ∨ (kindP s 5 = false ∧ r = .error (placeP en s, 18)) := by
        cases hs : s.ws with
        | nil =>
          rw [hs] at hr
          exact .inr ⟨by simp [kindP, hs], by simpa [PM.fail] using hr.symm⟩
        | cons x l =>
          rw [hs] at hr
          dsimp only at hr
          by_cases hk : x.kind = 5
          · exact .inl ⟨x, l, rfl, hk⟩
          · rw [if_neg hk] at hr
            exact .inr ⟨by simp [kindP, hs, hk], by simpa [PM.fail] using hr.symm⟩
      rcases hbad with ⟨x, l, hs, hk5⟩ | ⟨hk, rfl⟩
      case inr =>
        have HK := Lib.hid hk
        clear hk hr
        go_wp2_with fail
        refine (R1.out.kindR 5 HK.out).mono ?_
        rintro e w2 ⟨rfl, R2⟩
        go_wp2_with fail
        refine R2.out.placeR.mono ?_
        rintro e w3 ⟨rfl, R3⟩
        go_wp2_with fail
        refine (fail_any _ _ _ _).mono ?_
        rintro e w4 ⟨rfl, rfl⟩
        go_wp2_with fail
        exact ⟨rfl, rfl, R3.out.tch⟩
      case inl =>
        have hkk : kindP s 5 = true := by simp [kindP, hs, hk5]
        rw [hs] at hr
        dsimp only at hr
        rw [if_pos hk5] at hr
        have hpx : placeP en s = x.at_ := by simp [placeP, hs]
        have HS := Lib.hid hs
        have HKK := Lib.hid hkk
        have HPX := Lib.hid hpx
        obtain ⟨p, hp⟩ : ∃ p, p = x.at_ := ⟨_, rfl⟩
        rw [← hp] at hr HPX
        have HR := Lib.hid hr
        clear hs hk5 hkk hpx hp hr
        go_wp2_with fail
        refine (R1.out.kindR 5 HKK.out).mono ?_
        rintro e w2 ⟨rfl, R2⟩
        go_wp2_with fail
        refine R2.out.placeR.mono ?_
        rintro e w3 ⟨rfl, R3⟩
        rw [HPX.out]
        have hlt1 := (R3.out.six6 (.head _)).lt
        have hne : w.heap.size ≠ w3.heap.size := by omega
        have R4 := Lib.hid (R3.out.alloc 79 #[.int .i64 0, .string ⟨#[]⟩, .string ⟨#[]⟩, .int .i64 0, .slice none 0 0, .int .i64 p])
        have M4 := MapAt.new (w3.alloc (.cells #[.int .i64 0, .string ⟨#[]⟩, .string ⟨#[]⟩, .int .i64 0, .slice none 0 0, .int .i64 p] 79))
        rw [World.size_alloc] at M4
        have R5 := Lib.hid (R4.out.alloc0 (.map #[] 0))
        have hmb : ∀ b, w3.heap.size < b → ∀ y ∈ [(w3.heap.size, 79, (#[.int .i64 0, .string ⟨#[]⟩, .string ⟨#[]⟩, .int .i64 0, .slice none 0 0, .int .i64 p] : Array Value)), (w.heap.size, 79, zeroN)], y.1 ≠ b := fun b hb => two_ne (by omega) (by omega)
        obtain ⟨z1, hz1⟩ : ∃ z, z = lookL plainsL x.text := ⟨_, rfl⟩
        obtain ⟨z2, hz2⟩ : ∃ z, z = lookL headsL x.text := ⟨_, rfl⟩
        rw [← hz1, ← hz2] at HR
        have HZ1 := Lib.hid hz1
        have HZ2 := Lib.hid hz2
        clear hz1 hz2 R1 R2 R3
        have hzd1 : decide (0 < z1) = true ∨ decide (0 < z1) = false := by cases decide (0 < z1) <;> simp
        have hzd2 : decide (0 < z2) = true ∨ decide (0 < z2) = false := by cases decide (0 < z2) <;> simp
        rcases hzd1 with hzd1 | hzd1
        · have hr := HR.out
          rw [if_pos (by simpa using hzd1)] at hr
          have HR1 := Lib.hid hr
          clear hr HR hzd2
          go_wp2_with (first
            | (refine wpList_insert rfl (.tmp 23) _ _ rfl V3.heap.size _ ⟨#[115, 121, 110, 99]⟩ 28 rfl rfl rfl N4 (by decide) ?_; intro V5 N5 T5; clear N4; have hs1 := T0.size; have hs2 := T1.size; have hs3 := T2.size; have hs4 := T3.size; simp only [World.size_alloc] at hs1; have R6 := R5.out.mapped T0 (by omega) (by simp) (hmb _ (by omega)); have R7 := R6.mapped T1 (by omega) (by omega) (hmb _ (by omega)); have R8 := R7.mapped T2 (by omega) (by omega) (hmb _ (by omega)); have R9 := R8.mapped T3 (by omega) (by omega) (hmb _ (by omega)); have R10 := R9.alloc0 (.map #[] 0); have hs5 := T4.size; simp only [World.size_alloc] at hs5; have R11 := R10.mapped T4 (by omega) (by simp) (hmb _ (by omega)); have R12 := Lib.hid (R11.mapped T5 (by omega) (by omega) (hmb _ (by omega))); have P5 := P4.touch T4 (by omega); have PM : MapAt V5 (w3.heap.size + 1) plainsL := P5.touch T5 (by omega); have HM : MapAt V5 V3.heap.size headsL := N5; have MP := Lib.hid PM; have MH := Lib.hid HM; have hL1 := run_look PM (by decide) (mkB x.text); have hL2 := run_look HM (by decide) (mkB x.text); rw [bl_mkB, ← HZ1.out] at hL1; rw [bl_mkB, ← HZ2.out] at hL2; obtain ⟨ao, n, c, hn, hnc, hcm, hbP, hcW⟩ := R12.out.pat.cells; have cP : V5.cell? ⟨pB, 0, none⟩ = some (.slice ao n c) := hbP.cell 0; obtain ⟨g, o, rfl, hg, hcx⟩ := hcW 0 x (by rw [HS.out]; rfl); have cT := hcx 1 _ rfl; rw [Nat.zero_mul, Nat.add_zero] at cT; have hn0 : 0 < n := (by rw [hn, HS.out]; simp); have hn0' : (0 : Int) < (n : Int) := (by omega); clear hn hnc hcm hbP hcW hcx hg R6 R7 R8 R9 R10 R11 P4 P5 T0 T1 T2 T3 T4 T5 N5 PM HM R5 R4 hmm)
            | (refine wpList_insert rfl (.tmp 23) _ _ rfl V3.heap.size _ ⟨#[119, 104, 105, 108, 101]⟩ 24 rfl rfl rfl M5 (by decide) ?_; intro V4 N4 T4; clear M5)
            | (refine wpList_insert rfl (.tmp 21) _ _ rfl (w3.heap.size + 1) _ ⟨#[112, 114, 105, 110, 116]⟩ 30 rfl rfl rfl N2 (by decide) ?_; intro V3 N3 T3; clear N2; have hvsz : w3.heap.size + 1 < V3.heap.size := N3.lt; have P4 := MapAt.alloc N3 (.map #[] 0); have M5 := MapAt.new V3)
            | (refine wpList_insert rfl (.tmp 21) _ _ rfl (w3.heap.size + 1) _ ⟨#[115, 112, 97, 119, 110]⟩ 29 rfl rfl rfl N1 (by decide) ?_; intro V2 N2 T2; clear N1)
            | (refine wpList_insert rfl (.tmp 21) _ _ rfl (w3.heap.size + 1) _ ⟨#[116, 104, 114, 111, 119]⟩ 26 rfl rfl rfl N0 (by decide) ?_; intro V1 N1 T1; clear N0)
            | (refine wpList_insert rfl (.tmp 21) _ _ rfl (w3.heap.size + 1) _ ⟨#[100, 111]⟩ 22 rfl rfl rfl M4 (by decide) ?_; intro V0 N0 T0; clear M4))
          obtain ⟨n0, n1, n2, n3, n4, n5, nf, nl⟩ := (R12.out.six6 (.head _)).six
          refine (R12.out.nextT HS.out).mono ?_
          rintro e w13 ⟨rfl, R13, T13⟩
          obtain ⟨m0, m1, m2, m3, m4, m5, mf, ml⟩ := (R13.out.six6 (.head _)).six
          have M13 := MP.out.tch T13.out (by omega)
          have hLa := run_look (W := w13.drew) (show MapAt w13.drew _ _ from M13) (by decide) (mkB x.text)
          rw [bl_mkB, ← HZ1.out] at hLa
          have HM13 := Lib.hid (show MapAt w13.drew _ _ from M13)
          clear M13
          go_wp2_with fail
          go_region_law (go_simp; go_at_call 172; go_loud (refine R13.out.drew.ntT HR1.out (fun r1 h1 => C1.out.1 _ pB en _ r1 R13.out.drew.pat h1) trivial (fun fl w' e ht => by subst e; go_wp2_with fail; exact ⟨rfl, rfl, ht⟩) (fun a v s14 w14 hr14 hl14 R14 T14 hv => ?_); obtain ⟨ka, kc, rfl⟩ := hv; obtain ⟨q0, q1, q2, q3, q4, q5, qf, ql⟩ := (R14.out.six6 (.head _)).six; have M14 := HM13.out.tch T14.out (by omega); have hLb := run_look M14 (by decide) (mkB x.text); have hLc := fun o => run_look (M14.alloc o) (by decide) (mkB x.text); rw [bl_mkB, ← HZ1.out] at hLb; simp only [bl_mkB, ← HZ1.out] at hLc; have HR14 := Lib.hid hr14; clear hr14 M14))
          all_goals
            have R15 := Lib.hid (((R14.out.set (one_ne hne) 0 (.int .i64 z1)).set (one_ne hne) 4 (.slice (some ⟨w14.heap.size, 0, none⟩) 1 1)).row1 (T := 79) w14.heap.size (by simp [World.setCell]))
            go_wp2_with fail
            refine R15.out.must HR14.out (by simp [World.setCell]) rfl (fun fl w' e ht => ?_) (fun s16 w16 hr16 hl16 R16 => ?_)
            · subst e; go_wp2_with fail; exact ⟨rfl, rfl, ht⟩
            obtain rfl := HZ1.out
            obtain rfl : r = .ok (.mk (lookL plainsL x.text) [] [] 0 [a] p, s16) := by simpa [PM.pure] using hr16.symm
            obtain ⟨t0, t1, t2, t3, t4, t5, tf, tl⟩ := (R16.out.six6 (.head _)).six
            obtain ⟨r0, r1, r2, r3, r4, r5, rf, rl⟩ := (R16.out.six6 (.tail _ (.head _))).six
            clear hr16
            go_wp2_with fail
            exact R16.out.fin (NodeD.mk (lookL plainsL x.text) [] [] 0 [a] p) _ rfl rfl rfl (.tail _ (.head _)) (.head _)
        have hr := HR.out
        rw [if_neg (by simpa using hzd1)] at hr
        have HR := Lib.hid hr
        clear hr
        rcases hzd2 with hzd2 | hzd2
        · have hr := HR.out
          rw [if_pos (by simpa using hzd2)] at hr
          have HR1 := Lib.hid hr
          clear hr HR
          go_wp2_with (first
            | (refine wpList_insert rfl (.tmp 23) _ _ rfl V3.heap.size _ ⟨#[115, 121, 110, 99]⟩ 28 rfl rfl rfl N4 (by decide) ?_; intro V5 N5 T5; clear N4; have hs1 := T0.size; have hs2 := T1.size; have hs3 := T2.size; have hs4 := T3.size; simp only [World.size_alloc] at hs1; have R6 := R5.out.mapped T0 (by omega) (by simp) (hmb _ (by omega)); have R7 := R6.mapped T1 (by omega) (by omega) (hmb _ (by omega)); have R8 := R7.mapped T2 (by omega) (by omega) (hmb _ (by omega)); have R9 := R8.mapped T3 (by omega) (by omega) (hmb _ (by omega)); have R10 := R9.alloc0 (.map #[] 0); have hs5 := T4.size; simp only [World.size_alloc] at hs5; have R11 := R10.mapped T4 (by omega) (by simp) (hmb _ (by omega)); have R12 := Lib.hid (R11.mapped T5 (by omega) (by omega) (hmb _ (by omega))); have P5 := P4.touch T4 (by omega); have PM : MapAt V5 (w3.heap.size + 1) plainsL := P5.touch T5 (by omega); have HM : MapAt V5 V3.heap.size headsL := N5; have MP := Lib.hid PM; have MH := Lib.hid HM; have hL1 := run_look PM (by decide) (mkB x.text); have hL2 := run_look HM (by decide) (mkB x.text); rw [bl_mkB, ← HZ1.out] at hL1; rw [bl_mkB, ← HZ2.out] at hL2; obtain ⟨ao, n, c, hn, hnc, hcm, hbP, hcW⟩ := R12.out.pat.cells; have cP : V5.cell? ⟨pB, 0, none⟩ = some (.slice ao n c) := hbP.cell 0; obtain ⟨g, o, rfl, hg, hcx⟩ := hcW 0 x (by rw [HS.out]; rfl); have cT := hcx 1 _ rfl; rw [Nat.zero_mul, Nat.add_zero] at cT; have hn0 : 0 < n := (by rw [hn, HS.out]; simp); have hn0' : (0 : Int) < (n : Int) := (by omega); clear hn hnc hcm hbP hcW hcx hg R6 R7 R8 R9 R10 R11 P4 P5 T0 T1 T2 T3 T4 T5 N5 PM HM R5 R4 hmm)
            | (refine wpList_insert rfl (.tmp 23) _ _ rfl V3.heap.size _ ⟨#[119, 104, 105, 108, 101]⟩ 24 rfl rfl rfl M5 (by decide) ?_; intro V4 N4 T4; clear M5)
            | (refine wpList_insert rfl (.tmp 21) _ _ rfl (w3.heap.size + 1) _ ⟨#[112, 114, 105, 110, 116]⟩ 30 rfl rfl rfl N2 (by decide) ?_; intro V3 N3 T3; clear N2; have hvsz : w3.heap.size + 1 < V3.heap.size := N3.lt; have P4 := MapAt.alloc N3 (.map #[] 0); have M5 := MapAt.new V3)
            | (refine wpList_insert rfl (.tmp 21) _ _ rfl (w3.heap.size + 1) _ ⟨#[115, 112, 97, 119, 110]⟩ 29 rfl rfl rfl N1 (by decide) ?_; intro V2 N2 T2; clear N1)
            | (refine wpList_insert rfl (.tmp 21) _ _ rfl (w3.heap.size + 1) _ ⟨#[116, 104, 114, 111, 119]⟩ 26 rfl rfl rfl N0 (by decide) ?_; intro V1 N1 T1; clear N0)
            | (refine wpList_insert rfl (.tmp 21) _ _ rfl (w3.heap.size + 1) _ ⟨#[100, 111]⟩ 22 rfl rfl rfl M4 (by decide) ?_; intro V0 N0 T0; clear M4))
          obtain ⟨n0, n1, n2, n3, n4, n5, nf, nl⟩ := (R12.out.six6 (.head _)).six
          refine (R12.out.nextT HS.out).mono ?_
          rintro e w13 ⟨rfl, R13, T13⟩
          obtain ⟨m0, m1, m2, m3, m4, m5, mf, ml⟩ := (R13.out.six6 (.head _)).six
          have M13 := MH.out.tch T13.out (by omega)
          have hLa := run_look (W := w13.drew) (show MapAt w13.drew _ _ from M13) (by decide) (mkB x.text)
          rw [bl_mkB, ← HZ2.out] at hLa
          have HM13 := Lib.hid (show MapAt w13.drew _ _ from M13)
          clear M13
          go_wp2_with fail
          go_region_law (first
            | (go_simp; go_at_call 173; go_loud (refine R13.out.drew.ntT HR1.out (fun r1 h1 => C1.out.2.1 _ pB en _ r1 R13.out.drew.pat h1) trivial (fun fl w' e ht => by subst e; go_wp2_with fail; exact ⟨rfl, rfl, ht⟩) (fun a v s14 w14 hr14 hl14 R14 T14 hv => ?_); obtain ⟨ka, kc, rfl⟩ := hv; obtain ⟨q0, q1, q2, q3, q4, q5, qf, ql⟩ := (R14.out.six6 (.head _)).six; have M14 := HM13.out.tch T14.out (by omega); have hLb := run_look M14 (by decide) (mkB x.text); have hLc := fun o => run_look (M14.alloc o) (by decide) (mkB x.text); rw [bl_mkB, ← HZ2.out] at hLb; simp only [bl_mkB, ← HZ2.out] at hLc; have HM14 := Lib.hid M14; have HR14 := Lib.hid hr14; clear hr14 M14))
            | (go_simp; go_at_call 106; go_loud (refine R14.out.ntT HR14.out (fun r1 h1 => C1.out.2.2.1 _ pB en _ r1 R14.out.pat h1) trivial (fun fl w' e ht => by subst e; go_wp2_with fail; exact ⟨rfl, rfl, ht⟩) (fun b v s15 w15 hr15 hl15 R15 T15 hv => ?_); obtain ⟨kb, kd, rfl⟩ := hv; obtain ⟨u0, u1, u2, u3, u4, u5, uf, ul⟩ := (R15.out.six6 (.head _)).six; have M15 := HM14.out.tch T15.out (by omega); have hLd := run_look M15 (by decide) (mkB x.text); have hLe := fun o => run_look (M15.alloc o) (by decide) (mkB x.text); rw [bl_mkB, ← HZ2.out] at hLd; simp only [bl_mkB, ← HZ2.out] at hLe; have HR15 := Lib.hid hr15; clear hr15 M15)))
          all_goals
            have R16 := Lib.hid (((R15.out.set (one_ne hne) 0 (.int .i64 z2)).set (one_ne hne) 4 (.slice (some ⟨w15.heap.size, 0, none⟩) 2 2)).row2 (T := 79) w15.heap.size (by simp [World.setCell]))
            have hr16 := HR15.out
            obtain rfl := HZ2.out
            obtain rfl : r = .ok (.mk (lookL headsL x.text) [] [] 0 [a, b] p, s15) := by simpa [PM.pure] using hr16.symm
            obtain ⟨t0, t1, t2, t3, t4, t5, tf, tl⟩ := (R16.out.six6 (.head _)).six
            obtain ⟨r0, r1, r2, r3, r4, r5, rf, rl⟩ := (R16.out.six6 (.tail _ (.head _))).six
            clear hr16
            go_wp2_with fail
            exact R16.out.fin (NodeD.mk (lookL headsL x.text) [] [] 0 [a, b] p) _ rfl rfl rfl (.tail _ (.head _)) (.head _)
        have hr := HR.out
        rw [if_neg (by simpa using hzd2)] at hr
        have HR := Lib.hid hr
        clear hr
        go_wp2_with (first
          | (refine wpList_insert rfl (.tmp 23) _ _ rfl V3.heap.size _ ⟨#[115, 121, 110, 99]⟩ 28 rfl rfl rfl N4 (by decide) ?_; intro V5 N5 T5; clear N4; have hs1 := T0.size; have hs2 := T1.size; have hs3 := T2.size; have hs4 := T3.size; simp only [World.size_alloc] at hs1; have R6 := R5.out.mapped T0 (by omega) (by simp) (hmb _ (by omega)); have R7 := R6.mapped T1 (by omega) (by omega) (hmb _ (by omega)); have R8 := R7.mapped T2 (by omega) (by omega) (hmb _ (by omega)); have R9 := R8.mapped T3 (by omega) (by omega) (hmb _ (by omega)); have R10 := R9.alloc0 (.map #[] 0); have hs5 := T4.size; simp only [World.size_alloc] at hs5; have R11 := R10.mapped T4 (by omega) (by simp) (hmb _ (by omega)); have R12 := Lib.hid (R11.mapped T5 (by omega) (by omega) (hmb _ (by omega))); have P5 := P4.touch T4 (by omega); have PM : MapAt V5 (w3.heap.size + 1) plainsL := P5.touch T5 (by omega); have HM : MapAt V5 V3.heap.size headsL := N5; have MP := Lib.hid PM; have MH := Lib.hid HM; have hL1 := run_look PM (by decide) (mkB x.text); have hL2 := run_look HM (by decide) (mkB x.text); rw [bl_mkB, ← HZ1.out] at hL1; rw [bl_mkB, ← HZ2.out] at hL2; obtain ⟨ao, n, c, hn, hnc, hcm, hbP, hcW⟩ := R12.out.pat.cells; have cP : V5.cell? ⟨pB, 0, none⟩ = some (.slice ao n c) := hbP.cell 0; obtain ⟨g, o, rfl, hg, hcx⟩ := hcW 0 x (by rw [HS.out]; rfl); have cT := hcx 1 _ rfl; rw [Nat.zero_mul, Nat.add_zero] at cT; have hn0 : 0 < n := (by rw [hn, HS.out]; simp); have hn0' : (0 : Int) < (n : Int) := (by omega); clear hn hnc hcm hbP hcW hcx hg R6 R7 R8 R9 R10 R11 P4 P5 T0 T1 T2 T3 T4 T5 N5 PM HM R5 R4 hmm)
          | (refine wpList_insert rfl (.tmp 23) _ _ rfl V3.heap.size _ ⟨#[119, 104, 105, 108, 101]⟩ 24 rfl rfl rfl M5 (by decide) ?_; intro V4 N4 T4; clear M5)
          | (refine wpList_insert rfl (.tmp 21) _ _ rfl (w3.heap.size + 1) _ ⟨#[112, 114, 105, 110, 116]⟩ 30 rfl rfl rfl N2 (by decide) ?_; intro V3 N3 T3; clear N2; have hvsz : w3.heap.size + 1 < V3.heap.size := N3.lt; have P4 := MapAt.alloc N3 (.map #[] 0); have M5 := MapAt.new V3)
          | (refine wpList_insert rfl (.tmp 21) _ _ rfl (w3.heap.size + 1) _ ⟨#[115, 112, 97, 119, 110]⟩ 29 rfl rfl rfl N1 (by decide) ?_; intro V2 N2 T2; clear N1)
          | (refine wpList_insert rfl (.tmp 21) _ _ rfl (w3.heap.size + 1) _ ⟨#[116, 104, 114, 111, 119]⟩ 26 rfl rfl rfl N0 (by decide) ?_; intro V1 N1 T1; clear N0)
          | (refine wpList_insert rfl (.tmp 21) _ _ rfl (w3.heap.size + 1) _ ⟨#[100, 111]⟩ 22 rfl rfl rfl M4 (by decide) ?_; intro V0 N0 T0; clear M4))
        obtain ⟨n0, n1, n2, n3, n4, n5, nf, nl⟩ := (R12.out.six6 (.head _)).six
        cases aI : aheadP s 0 [105, 102] with
        | true =>
          have hr := HR.out
          rw [if_pos aI] at hr
          have AY := Lib.hid aI
          have HR := Lib.hid hr
          clear hr aI
          go_wp2_with fail
          refine (R12.out.mayY (b := ⟨#[105, 102]⟩) rfl AY.out).mono ?_
          rintro e w13 ⟨rfl, R13⟩
          obtain ⟨m0, m1, m2, m3, m4, m5, mf, ml⟩ := (R13.out.six6 (.head _)).six
          go_wp2_with fail
          refine R13.out.nt HR.out (fun r1 h1 => C1.out.2.1 _ pB en _ r1 R13.out.pat h1) trivial (fun fl w' e ht => ?_) (fun c v s14 w14 hr14 hr14l R14 hv => ?_)
          · subst e; go_wp2_with fail; exact ⟨rfl, rfl, ht⟩
          obtain ⟨ka, kc, rfl⟩ := hv
          have HR14 := Lib.hid hr14
          clear hr14
          go_wp2_with fail
          refine R14.out.nt HR14.out (fun r1 h1 => C1.out.2.2.1 _ pB en _ r1 R14.out.pat h1) trivial (fun fl w' e ht => ?_) (fun b v s15 w15 hr15 hr15l R15 hv => ?_)
          · subst e; go_wp2_with fail; exact ⟨rfl, rfl, ht⟩
          obtain ⟨kb, kd, rfl⟩ := hv
          have HR15 := Lib.hid hr15
          clear hr15
          obtain ⟨q0, q1, q2, q3, q4, q5, qf, ql⟩ := (R15.out.six6 (.head _)).six
          have R16 := Lib.hid (((R15.out.set (one_ne hne) 0 (.int .i64 23)).set (one_ne hne) 4 (.slice (some ⟨w15.heap.size, 0, none⟩) 2 2)).alloc' 79 #[.int .i64 c.op, .string (mkB c.text), .string (mkB c.type), .int .i64 c.n, .slice ka c.kids.length kc, .int .i64 c.at_, .int .i64 b.op, .string (mkB b.text), .string (mkB b.type), .int .i64 b.n, .slice kb b.kids.length kd, .int .i64 b.at_] w15.heap.size (by simp [World.setCell]))
          simp only [List.setIfInBounds_toArray, List.set_cons_zero, List.set_cons_succ] at R16
          go_wp2_with fail
          cases ae : aheadP s15 0 [101, 108, 115, 101] with
          | false =>
            have hr := HR15.out
            rw [if_neg (by rw [ae]; decide)] at hr
            obtain rfl : r = .ok (.mk 23 [] [] 0 [c, b] p, s15) := by simpa using hr.symm
            have AE := Lib.hid ae
            clear hr ae
            refine (R16.out.mayNR (b := ⟨#[101, 108, 115, 101]⟩) rfl AE.out).mono ?_
            rintro e w17 ⟨rfl, R17⟩
            have hg : w15.heap.size < w17.heap.size := (R17.out.six6 (.head _)).lt
            have hq : w3.heap.size < w15.heap.size := ql
            have R18 := Lib.hid (R17.out.unrow [(c, .slice ka c.kids.length kc), (b, .slice kb b.kids.length kd)] 2 rfl (by omega) (by simp [ncells]) (by intro p hp; simp only [List.mem_cons, List.not_mem_nil, or_false] at hp; rcases hp with rfl | rfl <;> simp) (by intro y hy; have := two_ne (T := 79) (T2 := 79) (cs := zeroN) (cs2 := zeroN) (q := w3.heap.size) (q2 := w.heap.size) (q' := w15.heap.size) (by omega) (by omega); simp only [List.mem_cons, List.not_mem_nil, or_false] at hy; rcases hy with rfl | rfl <;> (intro e; dsimp only at e; omega)))
            obtain ⟨t0, t1, t2, t3, t4, t5, tf, tl⟩ := (R18.out.six6 (.head _)).six
            obtain ⟨r0, r1, r2, r3, r4, r5, rf, rl⟩ := (R18.out.six6 (.tail _ (.head _))).six
            go_wp2_with fail
            exact R18.out.fin (NodeD.mk 23 [] [] 0 [c, b] p) _ rfl rfl rfl (.tail _ (.head _)) (.head _)
          | true =>
            have hr := HR15.out
            rw [if_pos ae] at hr
            have AE := Lib.hid ae
            have HR17 := Lib.hid hr
            clear hr ae
            have hq : w3.heap.size < w15.heap.size := ql
            refine (R16.out.mayY (b := ⟨#[101, 108, 115, 101]⟩) rfl AE.out).mono ?_
            rintro e w17 ⟨rfl, R17⟩
            have hgl : w15.heap.size < w17.heap.size := (R17.out.six6 (.head _)).lt
            obtain ⟨i0, hi0, hz0, hz1, hz2⟩ := info_of node_info
            have cK : w17.cell? ⟨w3.heap.size, 4, none⟩ = some (.slice (some ⟨w15.heap.size, 0, none⟩) 2 2) := (R17.out.six6 (.tail _ (.head _))).cell 4
            have cKd : w17.drew.cell? ⟨w3.heap.size, 4, none⟩ = some (.slice (some ⟨w15.heap.size, 0, none⟩) 2 2) := cK
            have cKa : ∀ o, (w17.alloc o).cell? ⟨w3.heap.size, 4, none⟩ = some (.slice (some ⟨w15.heap.size, 0, none⟩) 2 2) := fun o => ((R17.out.six6 (.tail _ (.head _))).alloc o).cell 4
            have OWN : Hid (∀ W : World, Blk W w15.heap.size 79 #[.int .i64 c.op, .string (mkB c.text), .string (mkB c.type), .int .i64 c.n, .slice ka c.kids.length kc, .int .i64 c.at_, .int .i64 b.op, .string (mkB b.text), .string (mkB b.type), .int .i64 b.n, .slice kb b.kids.length kd, .int .i64 b.at_] → W.ownsRow (w3.heap.size + 1) 79 6 (.slice (some ⟨w15.heap.size, 0, none⟩) 2 2) 2 (#[.int .i64 c.op, .string (mkB c.text), .string (mkB c.type), .int .i64 c.n, .slice ka c.kids.length kc, .int .i64 c.at_, .int .i64 b.op, .string (mkB b.text), .string (mkB b.type), .int .i64 b.n, .slice kb b.kids.length kd, .int .i64 b.at_] : Array Value).toList) := Lib.hid (fun W hb => ⟨rfl, .inr ⟨w15.heap.size, 2, _, rfl, by omega, hb, Nat.le_refl _, by simp [maxLen], rfl, rfl⟩⟩)
            have hnk : ∀ k, k ≤ w3.heap.size → some k ≠ some w15.heap.size := fun k hk e => by cases e; omega
            go_wp2_with fail
            go_region_law (first
              | (go_simp; go_at_call 106; go_loud ((first | (refine R17.out.drew.ntT HR17.out (fun r1 h1 => C1.out.2.2.1 _ pB en _ r1 R17.out.drew.pat h1) trivial (fun fl w' e ht => by subst e; go_wp2_with fail; exact ⟨rfl, rfl, ht⟩) (fun d v sz wz hrz hlz Rz Tz hv => ?_); have zb : Hid True := Lib.hid trivial) | (refine (R17.out.alloc' 79 #[.int .i64 0, .string ⟨#[]⟩, .string ⟨#[]⟩, .int .i64 0, .slice none 0 0, .int .i64 0] w17.heap.size rfl).drew.ntT HR17.out (fun r1 h1 => C1.out.2.2.1 _ pB en _ r1 (R17.out.alloc0 _).drew.pat h1) trivial (fun fl w' e ht => by subst e; go_wp2_with fail; exact ⟨rfl, rfl, ht⟩) (fun d v sz wz hrz hlz Rz' Tz hv => ?_); have Rz := Lib.hid Rz'.out.forget; have zc := Lib.hid (Rz'.out.six6 (.head _)); clear Rz')); obtain ⟨ke, kf, rfl⟩ := hv; have hzl : w15.heap.size < wz.heap.size := (Rz.out.six6 (.head _)).lt; have cz := (Rz.out.six6 (.tail _ (.head _))).cell 4; have cza := fun o => ((Rz.out.six6 (.tail _ (.head _))).alloc o).cell 4; have HRz := Lib.hid hrz; clear hrz))
              | (clear zb; go_loud (refine step_append_lies _ rfl _ _ 77 rfl (w3.heap.size + 1) 79 i0 (.agg #[.int .i64 0, .string ⟨#[]⟩, .string ⟨#[]⟩, .int .i64 0, .slice none 0 0, .int .i64 0]) 6 80 Tryz.underlying77 hi0 hz0 hz1 hz2 rfl (by decide) (.slice (some ⟨w15.heap.size, 0, none⟩) 2 2) 2 _ (by rfl) (OWN.out _ ((Rz.out.six6 (.head _)).alloc _)) ⟨wz.heap.size, 0, none⟩ 1 1 zrow (by rfl) (by rfl) (news_at _ _ zrow) (by simp [Value.oneCell']) (by omega) (by unfold maxLen; omega) (by omega) (by simp; omega) _ (by rfl) ?_; intro g cap wa hoa hga hata hla; have HOA := Lib.hid hoa; have HGA := Lib.hid hga; have HATA := Lib.hid hata; have ca := (Blk.kept ((Rz.out.six6 (.tail _ (.head _))).alloc _) hga (hnk _ (Nat.le_refl _))); have ca4 := ca.cell 4; have caf := ca.frozen 4; have RA := Lib.hid (Rz.out.alloc0 (.cells #[.int .i64 0, .string ⟨#[]⟩, .string ⟨#[]⟩, .int .i64 0, .slice none 0 0, .int .i64 0] 79)); have d0 : wa.cell? ⟨g, 12, none⟩ = some (.int .i64 0) := (hoa.cellAt 12 (by decide)).trans rfl; have d1 : wa.cell? ⟨g, 13, none⟩ = some (.string ⟨#[]⟩) := (hoa.cellAt 13 (by decide)).trans rfl; have d2 : wa.cell? ⟨g, 14, none⟩ = some (.string ⟨#[]⟩) := (hoa.cellAt 14 (by decide)).trans rfl; have d3 : wa.cell? ⟨g, 15, none⟩ = some (.int .i64 0) := (hoa.cellAt 15 (by decide)).trans rfl; have d4 : wa.cell? ⟨g, 16, none⟩ = some (.slice none 0 0) := (hoa.cellAt 16 (by decide)).trans rfl; have d5 : wa.cell? ⟨g, 17, none⟩ = some (.int .i64 0) := (hoa.cellAt 17 (by decide)).trans rfl; have df := hoa.frozenAt; have hgn1 : ¬ g = w3.heap.size := (by have := (hoa.lt g rfl).1; omega); have hgn2 : ¬ w3.heap.size = g := (by omega); clear hoa hga hata ca))
              | (go_loud (refine step_append_lies _ rfl _ _ 77 rfl (w3.heap.size + 1) 79 i0 (.agg #[.int .i64 0, .string ⟨#[]⟩, .string ⟨#[]⟩, .int .i64 0, .slice none 0 0, .int .i64 0]) 6 80 Tryz.underlying77 hi0 hz0 hz1 hz2 rfl (by decide) (.slice (some ⟨w15.heap.size, 0, none⟩) 2 2) 2 _ (by rfl) (OWN.out _ (Rz.out.six6 (.head _))) ⟨w17.heap.size, 0, none⟩ 1 1 zrow (by rfl) (by rfl) (fun j u hu => by rw [addr_add_lit, Nat.zero_add, zc.out.cell]; simpa using hu) (by simp [Value.oneCell']) (by omega) (by unfold maxLen; omega) (by omega) (by omega) _ (by rfl) ?_; intro g cap wa hoa hga hata hla; have HOA := Lib.hid hoa; have HGA := Lib.hid hga; have HATA := Lib.hid hata; have ca := (Blk.kept (Rz.out.six6 (.tail _ (.head _))) hga (hnk _ (Nat.le_refl _))); have ca4 := ca.cell 4; have caf := ca.frozen 4; have RA := Lib.hid (Rz.out); have d0 : wa.cell? ⟨g, 12, none⟩ = some (.int .i64 0) := (hoa.cellAt 12 (by decide)).trans rfl; have d1 : wa.cell? ⟨g, 13, none⟩ = some (.string ⟨#[]⟩) := (hoa.cellAt 13 (by decide)).trans rfl; have d2 : wa.cell? ⟨g, 14, none⟩ = some (.string ⟨#[]⟩) := (hoa.cellAt 14 (by decide)).trans rfl; have d3 : wa.cell? ⟨g, 15, none⟩ = some (.int .i64 0) := (hoa.cellAt 15 (by decide)).trans rfl; have d4 : wa.cell? ⟨g, 16, none⟩ = some (.slice none 0 0) := (hoa.cellAt 16 (by decide)).trans rfl; have d5 : wa.cell? ⟨g, 17, none⟩ = some (.int .i64 0) := (hoa.cellAt 17 (by decide)).trans rfl; have df := hoa.frozenAt; have hgn1 : ¬ g = w3.heap.size := (by have := (hoa.lt g rfl).1; omega); have hgn2 : ¬ w3.heap.size = g := (by omega); clear hoa hga hata ca)))
            all_goals
              have hrz := HRz.out
              obtain rfl : r = .ok (NodeD.mk 23 [] [] 0 [c, b, d] p, sz) := by simpa [PM.pure] using hrz.symm
              have RF' := Rd.appZero [(c, .slice ka c.kids.length kc), (b, .slice kb b.kids.length kd)] d (.slice ke d.kids.length kf) 2 rfl RA.out (by simp [ncells]) (by intro p hp; simp only [List.mem_cons, List.not_mem_nil, or_false] at hp; rcases hp with rfl | rfl <;> simp) (.head _) (by omega) (by omega) HOA.out HGA.out HATA.out
              simp only [Nat.reduceMul, Nat.reduceAdd] at RF'
              have RF := Lib.hid RF'
              clear RF' hrz
              (try rw [six_comm (h := hgn2)])
              generalize hWF : (((((((wa.setCell ⟨g, 12, none⟩ (.int .i64 d.op)).setCell ⟨g, 13, none⟩ (.string (mkB d.text))).setCell ⟨g, 14, none⟩ (.string (mkB d.type))).setCell ⟨g, 15, none⟩ (.int .i64 d.n)).setCell ⟨g, 16, none⟩ (.slice ke d.kids.length kf)).setCell ⟨g, 17, none⟩ (.int .i64 d.at_)).setCell ⟨w3.heap.size, 4, none⟩ (.slice (some ⟨g, 0, none⟩) 3 cap)) = WF at RF ⊢
              clear hWF
              obtain ⟨t0, t1, t2, t3, t4, t5, tf, tl⟩ := (RF.out.six6 (.head _)).six
              obtain ⟨r0, r1, r2, r3, r4, r5, rf, rl⟩ := (RF.out.six6 (.tail _ (.head _))).six
              go_wp2_with fail
              exact RF.out.fin (NodeD.mk 23 [] [] 0 [c, b, d] p) _ rfl rfl rfl (.tail _ (.head _)) (.head _)
        | false =>
          have hr := HR.out
          rw [if_neg (by rw [aI]; decide)] at hr
          have ANI := Lib.hid aI
          have HR := Lib.hid hr
          clear hr aI
          cases aR : aheadP s 0 [114, 101, 116, 117, 114, 110] with
          | true =>
            have hr := HR.out
            rw [if_pos aR] at hr
            have AY := Lib.hid aR
            have HR := Lib.hid hr
            clear hr aR
            go_wp2_with fail
            refine (R12.out.mayN (b := ⟨#[105, 102]⟩) rfl ANI.out).mono ?_
            rintro e w99 ⟨rfl, rfl⟩
            go_wp2_with fail
            refine (R12.out.mayY (b := ⟨#[114, 101, 116, 117, 114, 110]⟩) rfl AY.out).mono ?_
            rintro e w13 ⟨rfl, R13⟩
            obtain ⟨m0, m1, m2, m3, m4, m5, mf, ml⟩ := (R13.out.six6 (.head _)).six
            have R14 := Lib.hid (R13.out.set (one_ne hne) 0 (.int .i64 25))
            cases as_ : aheadP (nextP s) 0 [59] with
            | true =>
              have hr := HR.out
              rw [if_pos as_] at hr
              have AS := Lib.hid as_
              have HR15 := Lib.hid hr
              clear hr as_
              go_wp2_with fail
              refine (R14.out.aheadR 0 (by omega) (b := ⟨#[59]⟩) rfl AS.out).mono ?_
              rintro e w15 ⟨rfl, R15⟩
              go_wp2_with fail
              refine R15.out.must HR15.out (by simp [World.setCell]) rfl (fun fl w' e ht => ?_) (fun s16 w16 hr16 hr16l R16 => ?_)
              · subst e; go_wp2_with fail; exact ⟨rfl, rfl, ht⟩
              have HR16 := Lib.hid hr16
              clear hr16
              have hrz := HR16.out
              obtain rfl : r = .ok (NodeD.mk 25 [] [] 0 [] p, s16) := by simpa [PM.pure] using hrz.symm
              obtain ⟨t0, t1, t2, t3, t4, t5, tf, tl⟩ := (R16.out.six6 (.head _)).six
              obtain ⟨r0, r1, r2, r3, r4, r5, rf, rl⟩ := (R16.out.six6 (.tail _ (.head _))).six
              clear hrz
              go_wp2_with fail
              exact R16.out.nilKid.fin (NodeD.mk 25 [] [] 0 [] p) _ rfl rfl rfl (.tail _ (.head _)) (.head _)
            | false =>
              have hr := HR.out
              rw [if_neg (by rw [as_]; decide)] at hr
              have AS := Lib.hid as_
              have HR15 := Lib.hid hr
              clear hr as_
              go_wp2_with fail
              refine (R14.out.aheadR 0 (by omega) (b := ⟨#[59]⟩) rfl AS.out).mono ?_
              rintro e w15 ⟨rfl, R15⟩
              go_wp2_with fail
              refine R15.out.nt HR15.out (fun r1 h1 => C1.out.1 _ pB en _ r1 R15.out.pat h1) trivial (fun fl w' e ht => ?_) (fun a v s16 w16 hr16 hr16l R16 hv => ?_)
              · subst e; go_wp2_with fail; exact ⟨rfl, rfl, ht⟩
              obtain ⟨ka, kc, rfl⟩ := hv
              have HR16 := Lib.hid hr16
              clear hr16
              obtain ⟨q0, q1, q2, q3, q4, q5, qf, ql⟩ := (R16.out.six6 (.head _)).six
              have R17 := Lib.hid ((R16.out.set (one_ne hne) 4 (.slice (some ⟨w16.heap.size, 0, none⟩) 1 1)).row1 (T := 79) w16.heap.size (by simp [World.setCell]))
              go_wp2_with fail
              refine R17.out.must HR16.out (by simp [World.setCell]) rfl (fun fl w' e ht => ?_) (fun s18 w18 hr18 hr18l R18 => ?_)
              · subst e; go_wp2_with fail; exact ⟨rfl, rfl, ht⟩
              have HR18 := Lib.hid hr18
              clear hr18
              have hrz := HR18.out
              obtain rfl : r = .ok (NodeD.mk 25 [] [] 0 [a] p, s18) := by simpa [PM.pure] using hrz.symm
              obtain ⟨t0, t1, t2, t3, t4, t5, tf, tl⟩ := (R18.out.six6 (.head _)).six
              obtain ⟨r0, r1, r2, r3, r4, r5, rf, rl⟩ := (R18.out.six6 (.tail _ (.head _))).six
              clear hrz
              go_wp2_with fail
              exact R18.out.fin (NodeD.mk 25 [] [] 0 [a] p) _ rfl rfl rfl (.tail _ (.head _)) (.head _)
          | false =>
            have hr := HR.out
            rw [if_neg (by rw [aR]; decide)] at hr
            have ANR := Lib.hid aR
            have HR := Lib.hid hr
            clear hr aR
            cases aV : aheadP s 0 [118, 97, 114] with
            | true =>
              have hr := HR.out
              rw [if_pos aV] at hr
              have AY := Lib.hid aV
              have HR := Lib.hid hr
              clear hr aV
              go_wp2_with fail
              refine (R12.out.mayN (b := ⟨#[105, 102]⟩) rfl ANI.out).mono ?_
              rintro e w99 ⟨rfl, rfl⟩
              go_wp2_with fail
              refine (R12.out.mayN (b := ⟨#[114, 101, 116, 117, 114, 110]⟩) rfl ANR.out).mono ?_
              rintro e w99 ⟨rfl, rfl⟩
              go_wp2_with fail
              refine (R12.out.mayY (b := ⟨#[118, 97, 114]⟩) rfl AY.out).mono ?_
              rintro e w13 ⟨rfl, R13⟩
              obtain ⟨m0, m1, m2, m3, m4, m5, mf, ml⟩ := (R13.out.six6 (.head _)).six
              go_wp2_with fail
              refine R13.out.whole HR.out (fun fl w' e ht => ?_) (fun d s14 w14 hr14 hr14l R14 => ?_)
              · subst e; go_wp2_with fail; exact ⟨rfl, rfl, ht⟩
              have HR14 := Lib.hid hr14
              clear hr14
              obtain ⟨q0, q1, q2, q3, q4, q5, qf, ql⟩ := (R14.out.six6 (.head _)).six
              have R15 := Lib.hid ((R14.out.set (one_ne hne) 0 (.int .i64 20)).set (one_ne hne) 2 (.string (mkB d)))
              go_wp2_with fail
              refine R15.out.name HR14.out (fun fl w' e ht => ?_) (fun y s16 w16 hr16 hr16l R16 => ?_)
              · subst e; go_wp2_with fail; exact ⟨rfl, rfl, ht⟩
              have HR16 := Lib.hid hr16
              clear hr16
              obtain ⟨u0, u1, u2, u3, u4, u5, uf, ul⟩ := (R16.out.six6 (.head _)).six
              have R17 := Lib.hid (R16.out.set (one_ne hne) 1 (.string (mkB y.1)))
              go_wp2_with fail
              refine R17.out.must HR16.out (by simp [World.setCell]) rfl (fun fl w' e ht => ?_) (fun s18 w18 hr18 hr18l R18 => ?_)
              · subst e; go_wp2_with fail; exact ⟨rfl, rfl, ht⟩
              have HR18 := Lib.hid hr18
              clear hr18
              go_wp2_with fail
              refine R18.out.nt HR18.out (fun r1 h1 => C1.out.1 _ pB en _ r1 R18.out.pat h1) trivial (fun fl w' e ht => ?_) (fun a v s19 w19 hr19 hr19l R19 hv => ?_)
              · subst e; go_wp2_with fail; exact ⟨rfl, rfl, ht⟩
              obtain ⟨ka, kc, rfl⟩ := hv
              have HR19 := Lib.hid hr19
              clear hr19
              obtain ⟨v0, v1, v2, v3, v4, v5, vf, vl⟩ := (R19.out.six6 (.head _)).six
              have R20 := Lib.hid ((R19.out.set (one_ne hne) 4 (.slice (some ⟨w19.heap.size, 0, none⟩) 1 1)).row1 (T := 79) w19.heap.size (by simp [World.setCell]))
              go_wp2_with fail
              refine R20.out.must HR19.out (by simp [World.setCell]) rfl (fun fl w' e ht => ?_) (fun s21 w21 hr21 hr21l R21 => ?_)
              · subst e; go_wp2_with fail; exact ⟨rfl, rfl, ht⟩
              have HR21 := Lib.hid hr21
              clear hr21
              have hrz := HR21.out
              obtain rfl : r = .ok (NodeD.mk 20 y.1 d 0 [a] p, s21) := by simpa [PM.pure] using hrz.symm
              obtain ⟨t0, t1, t2, t3, t4, t5, tf, tl⟩ := (R21.out.six6 (.head _)).six
              obtain ⟨r0, r1, r2, r3, r4, r5, rf, rl⟩ := (R21.out.six6 (.tail _ (.head _))).six
              clear hrz
              go_wp2_with fail
              exact R21.out.fin (NodeD.mk 20 y.1 d 0 [a] p) _ rfl rfl rfl (.tail _ (.head _)) (.head _)
            | false =>
              have hr := HR.out
              rw [if_neg (by rw [aV]; decide)] at hr
              have ANV := Lib.hid aV
              have HR := Lib.hid hr
              clear hr aV
              cases aS : aheadP s 0 [115, 101, 116] with
              | true =>
                have hr := HR.out
                rw [if_pos aS] at hr
                have AY := Lib.hid aS
                have HR := Lib.hid hr
                clear hr aS
                go_wp2_with fail
                refine (R12.out.mayN (b := ⟨#[105, 102]⟩) rfl ANI.out).mono ?_
                rintro e w99 ⟨rfl, rfl⟩
                go_wp2_with fail
                refine (R12.out.mayN (b := ⟨#[114, 101, 116, 117, 114, 110]⟩) rfl ANR.out).mono ?_
                rintro e w99 ⟨rfl, rfl⟩
                go_wp2_with fail
                refine (R12.out.mayN (b := ⟨#[118, 97, 114]⟩) rfl ANV.out).mono ?_
                rintro e w99 ⟨rfl, rfl⟩
                go_wp2_with fail
                refine (R12.out.mayY (b := ⟨#[115, 101, 116]⟩) rfl AY.out).mono ?_
                rintro e w13 ⟨rfl, R13⟩
                obtain ⟨m0, m1, m2, m3, m4, m5, mf, ml⟩ := (R13.out.six6 (.head _)).six
                go_wp2_with fail
                refine (C1.out.2.2.2 w13 pB w3.heap.size en _ r p R13.out.pat (by omega) (R13.out.six6 (.head _)) HR.out).mono ?_
                rintro e w14 hS
                cases r with
                | error f =>
                  obtain ⟨ht, rfl⟩ := hS
                  go_wp2_with fail
                  exact ⟨rfl, rfl, Touch.trans R13.out.tch ht (fun i hi => by
                    rcases hi with rfl | rfl
                    · exact .inl rfl
                    · exact .inr ⟨by omega, ml⟩)⟩
                | ok y =>
                  obtain ⟨a, s14⟩ := y
                  obtain ⟨op, tx, ty, nn, ks, ap⟩ := a
                  obtain ⟨rfl, ha, ka, kc, R14⟩ := R13.out.setq (one_ne hne) hS
                  simp only [NodeD.kids, NodeD.mk.injEq, true_and] at ha
                  obtain ⟨rfl, rfl, rfl, rfl, rfl⟩ := ha
                  obtain ⟨t0, t1, t2, t3, t4, t5, tf, tl⟩ := (R14.out.six6 (.head _)).six
                  obtain ⟨r0, r1, r2, r3, r4, r5, rf, rl⟩ := (R14.out.six6 (.tail _ (.head _))).six
                  clear hS
                  go_wp2_with fail
                  exact R14.out.fin (NodeD.mk 21 [] [] 0 ks ap) _ rfl rfl rfl (.tail _ (.head _)) (.head _)
              | false =>
                have hr := HR.out
                rw [if_neg (by rw [aS]; decide)] at hr
                have ANS := Lib.hid aS
                have HR := Lib.hid hr
                clear hr aS
                cases aT : aheadP s 0 [116, 114, 121] with
                | true =>
                  have hr := HR.out
                  rw [if_pos aT] at hr
                  have AY := Lib.hid aT
                  have HR := Lib.hid hr
                  clear hr aT
                  go_wp2_with fail
                  refine (R12.out.mayN (b := ⟨#[105, 102]⟩) rfl ANI.out).mono ?_
                  rintro e w99 ⟨rfl, rfl⟩
                  go_wp2_with fail
                  refine (R12.out.mayN (b := ⟨#[114, 101, 116, 117, 114, 110]⟩) rfl ANR.out).mono ?_
                  rintro e w99 ⟨rfl, rfl⟩
                  go_wp2_with fail
                  refine (R12.out.mayN (b := ⟨#[118, 97, 114]⟩) rfl ANV.out).mono ?_
                  rintro e w99 ⟨rfl, rfl⟩
                  go_wp2_with fail
                  refine (R12.out.mayN (b := ⟨#[115, 101, 116]⟩) rfl ANS.out).mono ?_
                  rintro e w99 ⟨rfl, rfl⟩
                  go_wp2_with fail
                  refine (R12.out.mayY (b := ⟨#[116, 114, 121]⟩) rfl AY.out).mono ?_
                  rintro e w13 ⟨rfl, R13⟩
                  obtain ⟨m0, m1, m2, m3, m4, m5, mf, ml⟩ := (R13.out.six6 (.head _)).six
                  go_wp2_with fail
                  refine R13.out.nt HR.out (fun r1 h1 => C1.out.2.2.1 _ pB en _ r1 R13.out.pat h1) trivial (fun fl w' e ht => ?_) (fun b v s14 w14 hr14 hr14l R14 hv => ?_)
                  · subst e; go_wp2_with fail; exact ⟨rfl, rfl, ht⟩
                  obtain ⟨kb, kd, rfl⟩ := hv
                  have HR14 := Lib.hid hr14
                  clear hr14
                  obtain ⟨q0, q1, q2, q3, q4, q5, qf, ql⟩ := (R14.out.six6 (.head _)).six
                  have R15 := Lib.hid (((R14.out.set (one_ne hne) 0 (.int .i64 27)).set (one_ne hne) 4 (.slice (some ⟨w14.heap.size, 0, none⟩) 1 1)).alloc' 79 #[.int .i64 b.op, .string (mkB b.text), .string (mkB b.type), .int .i64 b.n, .slice kb b.kids.length kd, .int .i64 b.at_] w14.heap.size (by simp [World.setCell]))
                  have hq : w3.heap.size < w14.heap.size := ql
                  have hn2 := two_ne (T := 79) (T2 := 79) (cs := #[.int .i64 b.op, .string (mkB b.text), .string (mkB b.type), .int .i64 b.n, .slice kb b.kids.length kd, .int .i64 b.at_]) (cs2 := zeroN) (q := w14.heap.size) (q2 := w.heap.size) (q' := w3.heap.size) (by omega) (by omega)
                  go_wp2_with fail
                  refine R15.out.musts HR14.out (by simp [World.setCell]) rfl rfl (fun fl w' e ht => ?_) (fun s16 w16 hr16 hr16l R16 => ?_)
                  · subst e; go_wp2_with fail; exact ⟨rfl, rfl, ht⟩
                  have HR16 := Lib.hid hr16
                  clear hr16
                  go_wp2_with fail
                  refine R16.out.name HR16.out (fun fl w' e ht => ?_) (fun c s17 w17 hr17 hr17l R17 => ?_)
                  · subst e; go_wp2_with fail; exact ⟨rfl, rfl, ht⟩
                  have HR17 := Lib.hid hr17
                  clear hr17
                  obtain ⟨u0, u1, u2, u3, u4, u5, uf, ul⟩ := (R17.out.six6 (.tail _ (.head _))).six
                  have R18 := Lib.hid (R17.out.swap.set hn2 2 (.string (mkB c.1)))
                  go_wp2_with fail
                  refine R18.out.name HR17.out (fun fl w' e ht => ?_) (fun y s19 w19 hr19 hr19l R19 => ?_)
                  · subst e; go_wp2_with fail; exact ⟨rfl, rfl, ht⟩
                  have HR19 := Lib.hid hr19
                  clear hr19
                  obtain ⟨v0, v1, v2, v3, v4, v5, vf, vl⟩ := (R19.out.six6 (.head _)).six
                  have R20 := Lib.hid (R19.out.set hn2 1 (.string (mkB y.1)))
                  go_wp2_with fail
                  refine R20.out.must HR19.out (by simp [World.setCell]) rfl (fun fl w' e ht => ?_) (fun s21 w21 hr21 hr21l R21 => ?_)
                  · subst e; go_wp2_with fail; exact ⟨rfl, rfl, ht⟩
                  have HR21 := Lib.hid hr21
                  clear hr21
                  have R22 := Lib.hid R21.out.swap
                  simp only [List.setIfInBounds_toArray, List.set_cons_zero, List.set_cons_succ] at R22
                  clear R21
                  obtain ⟨w22, hw22⟩ : ∃ w22, w22 = w21 := ⟨_, rfl⟩
                  rw [← hw22] at R22 ⊢
                  clear hw22
                  have hgl : w14.heap.size < w22.heap.size := (R22.out.six6 (.head _)).lt
                  obtain ⟨i0, hi0, hz0, hz1, hz2⟩ := info_of node_info
                  have cK : w22.cell? ⟨w3.heap.size, 4, none⟩ = some (.slice (some ⟨w14.heap.size, 0, none⟩) 1 1) := (R22.out.six6 (.tail _ (.head _))).cell 4
                  have cKd : w22.drew.cell? ⟨w3.heap.size, 4, none⟩ = some (.slice (some ⟨w14.heap.size, 0, none⟩) 1 1) := cK
                  have cKa : ∀ o, (w22.alloc o).cell? ⟨w3.heap.size, 4, none⟩ = some (.slice (some ⟨w14.heap.size, 0, none⟩) 1 1) := fun o => ((R22.out.six6 (.tail _ (.head _))).alloc o).cell 4
                  have OWN : Hid (∀ W : World, Blk W w14.heap.size 79 #[.int .i64 b.op, .string (mkB b.text), .string (mkB b.type), .int .i64 b.n, .slice kb b.kids.length kd, .int .i64 b.at_] → W.ownsRow (w3.heap.size + 1) 79 6 (.slice (some ⟨w14.heap.size, 0, none⟩) 1 1) 1 (#[.int .i64 b.op, .string (mkB b.text), .string (mkB b.type), .int .i64 b.n, .slice kb b.kids.length kd, .int .i64 b.at_] : Array Value).toList) := Lib.hid (fun W hb => ⟨rfl, .inr ⟨w14.heap.size, 1, _, rfl, by omega, hb, Nat.le_refl _, by simp [maxLen], rfl, rfl⟩⟩)
                  have hnk : ∀ k, k ≤ w3.heap.size → some k ≠ some w14.heap.size := fun k hk e => by cases e; omega
                  go_wp2_with fail
                  go_region_law (first
                    | (go_simp; go_at_call 106; go_loud ((first | (refine R22.out.drew.ntT HR21.out (fun r1 h1 => C1.out.2.2.1 _ pB en _ r1 R22.out.drew.pat h1) trivial (fun fl w' e ht => by subst e; go_wp2_with fail; exact ⟨rfl, rfl, ht⟩) (fun d v sz wz hrz hlz Rz Tz hv => ?_); have zb : Hid True := Lib.hid trivial) | (refine (R22.out.alloc' 79 #[.int .i64 0, .string ⟨#[]⟩, .string ⟨#[]⟩, .int .i64 0, .slice none 0 0, .int .i64 0] w22.heap.size rfl).drew.ntT HR21.out (fun r1 h1 => C1.out.2.2.1 _ pB en _ r1 (R22.out.alloc0 _).drew.pat h1) trivial (fun fl w' e ht => by subst e; go_wp2_with fail; exact ⟨rfl, rfl, ht⟩) (fun d v sz wz hrz hlz Rz' Tz hv => ?_); have Rz := Lib.hid Rz'.out.forget; have zc := Lib.hid (Rz'.out.six6 (.head _)); clear Rz')); obtain ⟨ke, kf, rfl⟩ := hv; have hzl : w14.heap.size < wz.heap.size := (Rz.out.six6 (.head _)).lt; have cz := (Rz.out.six6 (.tail _ (.head _))).cell 4; have cza := fun o => ((Rz.out.six6 (.tail _ (.head _))).alloc o).cell 4; have HRz := Lib.hid hrz; clear hrz))
                    | (clear zb; go_loud (refine step_append_lies _ rfl _ _ 77 rfl (w3.heap.size + 1) 79 i0 (.agg #[.int .i64 0, .string ⟨#[]⟩, .string ⟨#[]⟩, .int .i64 0, .slice none 0 0, .int .i64 0]) 6 80 Tryz.underlying77 hi0 hz0 hz1 hz2 rfl (by decide) (.slice (some ⟨w14.heap.size, 0, none⟩) 1 1) 1 _ (by rfl) (OWN.out _ ((Rz.out.six6 (.head _)).alloc _)) ⟨wz.heap.size, 0, none⟩ 1 1 zrow (by rfl) (by rfl) (news_at _ _ zrow) (by simp [Value.oneCell']) (by omega) (by unfold maxLen; omega) (by omega) (by simp; omega) _ (by rfl) ?_; intro g cap wa hoa hga hata hla; have HOA := Lib.hid hoa; have HGA := Lib.hid hga; have HATA := Lib.hid hata; have ca := (Blk.kept ((Rz.out.six6 (.tail _ (.head _))).alloc _) hga (hnk _ (Nat.le_refl _))); have ca4 := ca.cell 4; have caf := ca.frozen 4; have RA := Lib.hid (Rz.out.alloc0 (.cells #[.int .i64 0, .string ⟨#[]⟩, .string ⟨#[]⟩, .int .i64 0, .slice none 0 0, .int .i64 0] 79)); have d0 : wa.cell? ⟨g, 6, none⟩ = some (.int .i64 0) := (hoa.cellAt 6 (by decide)).trans rfl; have d1 : wa.cell? ⟨g, 7, none⟩ = some (.string ⟨#[]⟩) := (hoa.cellAt 7 (by decide)).trans rfl; have d2 : wa.cell? ⟨g, 8, none⟩ = some (.string ⟨#[]⟩) := (hoa.cellAt 8 (by decide)).trans rfl; have d3 : wa.cell? ⟨g, 9, none⟩ = some (.int .i64 0) := (hoa.cellAt 9 (by decide)).trans rfl; have d4 : wa.cell? ⟨g, 10, none⟩ = some (.slice none 0 0) := (hoa.cellAt 10 (by decide)).trans rfl; have d5 : wa.cell? ⟨g, 11, none⟩ = some (.int .i64 0) := (hoa.cellAt 11 (by decide)).trans rfl; have df := hoa.frozenAt; have hgn1 : ¬ g = w3.heap.size := (by have := (hoa.lt g rfl).1; omega); have hgn2 : ¬ w3.heap.size = g := (by omega); clear hoa hga hata ca))
                    | (go_loud (refine step_append_lies _ rfl _ _ 77 rfl (w3.heap.size + 1) 79 i0 (.agg #[.int .i64 0, .string ⟨#[]⟩, .string ⟨#[]⟩, .int .i64 0, .slice none 0 0, .int .i64 0]) 6 80 Tryz.underlying77 hi0 hz0 hz1 hz2 rfl (by decide) (.slice (some ⟨w14.heap.size, 0, none⟩) 1 1) 1 _ (by rfl) (OWN.out _ (Rz.out.six6 (.head _))) ⟨w22.heap.size, 0, none⟩ 1 1 zrow (by rfl) (by rfl) (fun j u hu => by rw [addr_add_lit, Nat.zero_add, zc.out.cell]; simpa using hu) (by simp [Value.oneCell']) (by omega) (by unfold maxLen; omega) (by omega) (by omega) _ (by rfl) ?_; intro g cap wa hoa hga hata hla; have HOA := Lib.hid hoa; have HGA := Lib.hid hga; have HATA := Lib.hid hata; have ca := (Blk.kept (Rz.out.six6 (.tail _ (.head _))) hga (hnk _ (Nat.le_refl _))); have ca4 := ca.cell 4; have caf := ca.frozen 4; have RA := Lib.hid (Rz.out); have d0 : wa.cell? ⟨g, 6, none⟩ = some (.int .i64 0) := (hoa.cellAt 6 (by decide)).trans rfl; have d1 : wa.cell? ⟨g, 7, none⟩ = some (.string ⟨#[]⟩) := (hoa.cellAt 7 (by decide)).trans rfl; have d2 : wa.cell? ⟨g, 8, none⟩ = some (.string ⟨#[]⟩) := (hoa.cellAt 8 (by decide)).trans rfl; have d3 : wa.cell? ⟨g, 9, none⟩ = some (.int .i64 0) := (hoa.cellAt 9 (by decide)).trans rfl; have d4 : wa.cell? ⟨g, 10, none⟩ = some (.slice none 0 0) := (hoa.cellAt 10 (by decide)).trans rfl; have d5 : wa.cell? ⟨g, 11, none⟩ = some (.int .i64 0) := (hoa.cellAt 11 (by decide)).trans rfl; have df := hoa.frozenAt; have hgn1 : ¬ g = w3.heap.size := (by have := (hoa.lt g rfl).1; omega); have hgn2 : ¬ w3.heap.size = g := (by omega); clear hoa hga hata ca)))
                  all_goals
                    have hrz := HRz.out
                    obtain rfl : r = .ok (NodeD.mk 27 y.1 c.1 0 [b, d] p, sz) := by simpa [PM.pure] using hrz.symm
                    have RF' := Rd.appZero [(b, .slice kb b.kids.length kd)] d (.slice ke d.kids.length kf) 1 rfl RA.out (by simp [ncells]) (by intro p hp; simp only [List.mem_cons, List.not_mem_nil, or_false] at hp; subst hp <;> simp) (.head _) (by omega) (by omega) HOA.out HGA.out HATA.out
                    simp only [Nat.reduceMul, Nat.reduceAdd] at RF'
                    have RF := Lib.hid RF'
                    clear RF' hrz
                    (try rw [six_comm (h := hgn2)])
                    generalize hWF : (((((((wa.setCell ⟨g, 6, none⟩ (.int .i64 d.op)).setCell ⟨g, 7, none⟩ (.string (mkB d.text))).setCell ⟨g, 8, none⟩ (.string (mkB d.type))).setCell ⟨g, 9, none⟩ (.int .i64 d.n)).setCell ⟨g, 10, none⟩ (.slice ke d.kids.length kf)).setCell ⟨g, 11, none⟩ (.int .i64 d.at_)).setCell ⟨w3.heap.size, 4, none⟩ (.slice (some ⟨g, 0, none⟩) 2 cap)) = WF at RF ⊢
                    clear hWF
                    obtain ⟨t0, t1, t2, t3, t4, t5, tf, tl⟩ := (RF.out.six6 (.head _)).six
                    obtain ⟨r0, r1, r2, r3, r4, r5, rf, rl⟩ := (RF.out.six6 (.tail _ (.head _))).six
                    go_wp2_with fail
                    exact RF.out.fin (NodeD.mk 27 y.1 c.1 0 [b, d] p) _ rfl rfl rfl (.tail _ (.head _)) (.head _)
                | false =>
                  have hr := HR.out
                  rw [if_neg (by rw [aT]; decide)] at hr
                  have ANT := Lib.hid aT
                  have HR := Lib.hid hr
                  clear hr aT
                  have hr := HR.out
                  obtain rfl : r = .error (p, 18) := by simpa [PM.fail] using hr.symm
                  clear hr
                  go_wp2_with fail
                  refine (R12.out.mayN (b := ⟨#[105, 102]⟩) rfl ANI.out).mono ?_
                  rintro e w99 ⟨rfl, rfl⟩
                  go_wp2_with fail
                  refine (R12.out.mayN (b := ⟨#[114, 101, 116, 117, 114, 110]⟩) rfl ANR.out).mono ?_
                  rintro e w99 ⟨rfl, rfl⟩
                  go_wp2_with fail
                  refine (R12.out.mayN (b := ⟨#[118, 97, 114]⟩) rfl ANV.out).mono ?_
                  rintro e w99 ⟨rfl, rfl⟩
                  go_wp2_with fail
                  refine (R12.out.mayN (b := ⟨#[115, 101, 116]⟩) rfl ANS.out).mono ?_
                  rintro e w99 ⟨rfl, rfl⟩
                  go_wp2_with fail
                  refine (R12.out.mayN (b := ⟨#[116, 114, 121]⟩) rfl ANT.out).mono ?_
                  rintro e w99 ⟨rfl, rfl⟩
                  go_wp2_with fail
                  refine (fail_any _ _ _ _).mono ?_
                  rintro e w9 ⟨rfl, rfl⟩
                  go_wp2_with fail
                  exact ⟨rfl, rfl, R12.out.tch⟩
end Go.Proofs.YtcaigcmbgihhkaaGreatDoor
