/-
  Part of a proof: SmK.
-/
import Derived.Test.YtcaigcmbgihhkaaDoorZSmJ
import Derived.Test.YtcaigcmbgihhkaaDoorZSmH
import Derived.Test.YtcaigcmbgihhkaaDoorZSmA
import Derived.Test.YtcaigcmbgihhkaaDoorZPsA
namespace Go.Proofs.YtcaigcmbgihhkaaDoor
open Go Go.RowKit Go.Shelf
set_option linter.unusedVariables false
set_option linter.unusedSimpArgs false
attribute [local go_sem] Oper.semAt_some
theorem parse_why {src : Bs} {f : Fault} (h : parseL src = .error f) : f.2 ≠ 0 := by
  have := parse_places src
  rw [h] at this
  exact this.2
set_option maxRecDepth 100000 in
set_option maxHeartbeats 4000000 in
theorem parseSame_any (a b : ByteArray) (ha : a.size ≤ 140737488351232) (hb : b.size ≤ 140737488351232) (W : World) (hS : SpaceAt W) : Calls Tryd.prog 6 #[.string a, .string b] W fun e W' => e = .returned (.bool true) ∧ Below W.heap.size W W' := by
  have H1 := Lib.hid (parse_any W a ha hS)
  have H2 := Lib.hid (fun w (h : SpaceAt w) => parse_any w b hb h)
  have HS := Lib.hid hS
  clear hS
  cases hpa : parseL (bl a) with
  | error f =>
    rw [hpa] at H1
    have hq := parse_why hpa
    obtain ⟨p, q⟩ := f
    have hq2 : (q != 0) = true := by simpa using hq
    clear hpa hq
    cases hpb : parseL (bl b) with
    | error f2 =>
      rw [hpb] at H2
      obtain ⟨p2, q2⟩ := f2
      clear hpb
      go_enter Tryd.func6, Tryd.ntmps6
      go_wp2_with fail
      refine H1.out.mono ?_
      rintro e w1 ⟨b1, rfl⟩
      have B1 := Lib.hid b1
      clear b1
      go_wp2_with fail
      refine (H2.out _ (HS.out.mono B1.out)).mono ?_
      rintro e w2 ⟨b2, rfl⟩
      have B2 := Lib.hid (B1.out.trans (b2.mono B1.out.size))
      clear b2
      go_wp2_with fail
      refine (known25_any _ (HS.out.mono B2.out)).mono ?_
      rintro e w3 ⟨rfl, b3⟩
      have B3 := Lib.hid (B2.out.trans (b3.mono B2.out.size))
      clear b3
      go_wp2_with fail
      go_ret
      exact ⟨rfl, B3.out⟩
    | ok l2 =>
      rw [hpb] at H2
      clear hpb
      go_enter Tryd.func6, Tryd.ntmps6
      go_wp2_with fail
      refine H1.out.mono ?_
      rintro e w1 ⟨b1, rfl⟩
      have B1 := Lib.hid b1
      clear b1
      go_wp2_with fail
      refine (H2.out _ (HS.out.mono B1.out)).mono ?_
      rintro e w2 ⟨b2, v2, rfl, -⟩
      have B2 := Lib.hid (B1.out.trans (b2.mono B1.out.size))
      clear b2
      go_wp2_with fail
      refine (known25_any _ (HS.out.mono B2.out)).mono ?_
      rintro e w3 ⟨rfl, b3⟩
      have B3 := Lib.hid (B2.out.trans (b3.mono B2.out.size))
      clear b3
      go_wp2_with fail
      go_ret
      exact ⟨rfl, B3.out⟩
  | ok l1 =>
    rw [hpa] at H1
    have hc1 := parse_few hpa
    clear hpa
    cases hpb : parseL (bl b) with
    | error f2 =>
      rw [hpb] at H2
      have hq := parse_why hpb
      obtain ⟨p2, q2⟩ := f2
      have hq2 : (q2 != 0) = true := by simpa using hq
      clear hpb hq
      go_enter Tryd.func6, Tryd.ntmps6
      go_wp2_with fail
      refine H1.out.mono ?_
      rintro e w1 ⟨b1, v1, rfl, -⟩
      have B1 := Lib.hid b1
      clear b1
      go_wp2_with fail
      refine (H2.out _ (HS.out.mono B1.out)).mono ?_
      rintro e w2 ⟨b2, rfl⟩
      have B2 := Lib.hid (B1.out.trans (b2.mono B1.out.size))
      clear b2
      go_wp2_with fail
      refine (known25_any _ (HS.out.mono B2.out)).mono ?_
      rintro e w3 ⟨rfl, b3⟩
      have B3 := Lib.hid (B2.out.trans (b3.mono B2.out.size))
      clear b3
      go_wp2_with fail
      go_ret
      exact ⟨rfl, B3.out⟩
    | ok l2 =>
      rw [hpb] at H2
      have hc2 := parse_few hpb
      clear hpb
      go_enter Tryd.func6, Tryd.ntmps6
      go_wp2_with fail
      refine H1.out.mono ?_
      rintro e w1 ⟨b1, v1, rfl, c1⟩
      obtain ⟨a1, d1, rfl⟩ := c1.form
      have B1 := Lib.hid b1
      have C1 := Lib.hid c1.all
      clear b1 c1
      go_wp2_with fail
      refine (H2.out _ (HS.out.mono B1.out)).mono ?_
      rintro e w2 ⟨b2, v2, rfl, c2⟩
      obtain ⟨a2, d2, rfl⟩ := c2.form
      have B2 := Lib.hid (B1.out.trans (b2.mono B1.out.size))
      have C12 := Lib.hid (C1.out.later b2)
      have C2 := Lib.hid c2.all
      clear b2 c2
      go_wp2_with fail
      refine (sameAll_any l1 l2 _ _ _ C12.out C2.out).mono ?_
      rintro e w3 ⟨rfl, b3⟩
      have B3 := Lib.hid (B2.out.trans (b3.mono B2.out.size))
      have C13 := Lib.hid (C12.out.later b3)
      have C23 := Lib.hid (C2.out.later b3)
      clear b3
      go_wp2_with fail
      refine (taken_any l1 hc1 _ _ C13.out).mono ?_
      rintro e w4 ⟨v4, rfl, t4, b4⟩
      have t4' := t4.at_
      obtain ⟨a4, d4, rfl⟩ := t4'.form
      have B4 := Lib.hid (B3.out.trans (b4.mono B3.out.size))
      have C14 := Lib.hid (C13.out.later b4)
      have C24 := Lib.hid (C23.out.later b4)
      have T4 := Lib.hid t4'.all
      clear b4 t4 t4'
      go_wp2_with fail
      refine (taken_any l2 hc2 _ _ C24.out).mono ?_
      rintro e w5 ⟨v5, rfl, t5, b5⟩
      have t5' := t5.at_
      obtain ⟨a5, d5, rfl⟩ := t5'.form
      have B5 := Lib.hid (B4.out.trans (b5.mono B4.out.size))
      have C15 := Lib.hid (C14.out.later b5)
      have T45 := Lib.hid (T4.out.later b5)
      have T5 := Lib.hid t5'.all
      clear b5 t5 t5'
      go_wp2_with fail
      refine (rsameAll_any l1 l2 _ _ _ T45.out T5.out).mono ?_
      rintro e w6 ⟨rfl, b6⟩
      have B6 := Lib.hid (B5.out.trans (b6.mono B5.out.size))
      have C16 := Lib.hid (C15.out.later b6)
      have hbe : (sameCs l1 l2 == sameCs l1 l2) = true := by simp
      clear b6
      go_wp2_with fail
      refine (sameAll_any l1 l1 _ _ _ C16.out C16.out).mono ?_
      rintro e w7 ⟨rfl, b7⟩
      rw [(sameCs_iff l1 l1).2 rfl]
      have B7 := Lib.hid (B6.out.trans (b7.mono B6.out.size))
      clear b7
      go_wp2_with fail
      refine (known25_any _ (HS.out.mono B7.out)).mono ?_
      rintro e w8 ⟨rfl, b8⟩
      have B8 := Lib.hid (B7.out.trans (b8.mono B7.out.size))
      clear b8
      go_wp2_with fail
      go_ret
      exact ⟨rfl, B8.out⟩
end Go.Proofs.YtcaigcmbgihhkaaDoor
