/-
  The document's code as bytes: 'Put' of code; 'Same', 'Kept'.
-/
import Derived.Test.YtmlcififmjpcpaaDoorInsJ
namespace Go.Proofs.YtmlcififmjpcpaaDoor
open Go.RowKit
set_option linter.unusedVariables false
set_option linter.unusedSimpArgs false

attribute [local go_sem] Oper.semAt_some

set_option maxRecDepth 100000 in
set_option maxHeartbeats 2000000 in
theorem rputc_any (W : World) (v cv : Value) (xs : List UInt8) (code : List InsD) (hv : BytesIn W.heap.size W v xs) (hc : CodeIn W.heap.size W cv code) (hl : xs.length ≤ 189999999900000) (hg : ∀ x ∈ code, goodIns x) :
    Calls Tryd.prog 18 #[v, cv] W fun e W' => (∃ v', e = .returned (.tuple #[v', .int .i64 (putL xs code).2]) ∧ BytesIn W'.heap.size W' v' (putL xs code).1) ∧ Below W.heap.size W W' := by
  obtain ⟨ao, cap, rfl, _⟩ := SliceIn.form hc
  obtain ⟨aob, capb, rfl, _⟩ := SliceIn.form hv
  obtain ⟨⟨rb, re⟩, hR⟩ : ∃ R, R = putL xs code := ⟨_, rfl⟩
  rw [← hR]
  dsimp only
  by_cases h512 : code.length > 512
  · rw [putL, if_pos h512] at hR
    cases hR
    have hb1 : decide (512 < (code.length : Int)) = true := decide_eq_true (by omega)
    clear hv hc hg h512
    go_enter Tryd.func18, Tryd.ntmps18
    go_wp2
    go_ret2
    exact ⟨⟨_, rfl, SliceIn.nil _ _ _⟩, Below.refl _ _⟩
  · rw [putL, if_neg h512] at hR
    have hR' := Lib.hid hR
    clear hR
    have hb1 : decide (512 < (code.length : Int)) = false := decide_eq_false (by omega)
    have h10 := bin64 code.length (by omega)
    have hp := rput_any W _ xs (code.length : Int) _ hv (by omega) (by omega) (by omega)
    have hc' := Lib.hid hc
    have hg' := Lib.hid hg
    clear hc hv hg
    go_enter Tryd.func18, Tryd.ntmps18
    go_wp2_with fail
    refine hp.mono ?_
    rintro e w1 ⟨v1, rfl, hv1, hbl1⟩
    clear hp
    go_wp2
    go_loopw [6, 7] (fun s6 s7 wr => ∃ (k : Nat) (bs : List UInt8), k ≤ code.length ∧ s7 = .int .i64 (k : Int) ∧ BytesIn wr.heap.size wr s6 bs ∧ putFrom bs (code.drop k) = putFrom (xs ++ vput (zz code.length)) code ∧ bs.length ≤ xs.length + 10 + 20 * k ∧ Below W.heap.size W wr) (fun _ s7 _ => code.length - (intOf s7).toNat)
    case atStart => exact ⟨0, _, Nat.zero_le _, rfl, hv1, rfl, by simp; omega, hbl1⟩
    case round =>
      obtain ⟨k, bs, hk, rfl, hbs, hput, hlen, hbl⟩ := hrel
      by_cases hlt : k < code.length
      · obtain ⟨⟨op, a⟩, hx⟩ : ∃ x, code[k]? = some x := ⟨_, List.getElem?_eq_getElem hlt⟩
        have hgx := hg'.out _ (List.mem_of_getElem? hx)
        have hd := drop_get hx
        rw [hd] at hput
        obtain ⟨b, cap', hcv, hcap'⟩ := SliceIn.some_ hc'.out (by omega)
        cases hcv
        have hcell : ∀ w2, Below W.heap.size W w2 → w2.cell? (b.add (k * 2)) = some (.int .i64 op) ∧ w2.cell? ⟨(b.add (k * 2)).block, (b.add (k * 2)).off + 1, none⟩ = some (.int .i64 a) := fun w2 h => code_at hc'.out (Nat.le_refl _) h rfl hx
        have hc0 := (hcell wr hbl).1
        have hkind := refKind_any wr op
        have hbad : insBad ⟨op, a⟩ = (decide (insKind op < 0) || decide (a < 0) || (decide (insKind op = 0) && decide (a ≠ 0))) := rfl
        have hib : insBytes ⟨op, a⟩ = vput (zz op) ++ (if insKind op = 0 then [] else vput (zz a)) := rfl
        have hil := insBytes_len hgx
        have hcell' := Lib.hid hcell
        have hkind' := Lib.hid hkind
        have hlow := Lib.hid hbl
        have hbs' := Lib.hid hbs
        have hgx' := Lib.hid hgx
        have hib' := Lib.hid hib
        have hput' := Lib.hid hput
        clear hkind hbl hbs hgx hd hx hib hput hcell
        generalize insKind op = kd at hkind' hbad hib'
        by_cases hbd : insBad ⟨op, a⟩ = true
        · have hres : putFrom (xs ++ vput (zz code.length)) code = none := by rw [← hput'.out, putFrom, if_pos hbd]
          rw [hbad] at hbd
          have hres' := Lib.hid hres
          clear hres hput' hbad hib' hil
          rcases Bool.or_eq_true_iff.1 hbd with hbd | hbd
          · rcases Bool.or_eq_true_iff.1 hbd with h1 | h1
            · clear hbd
              go_wp2_with (go_at_call 8; refine hkind'.out.mono ?_; rintro e w2 ⟨rfl, hb2⟩; have hb2' := Lib.hid (hlow.out.trans (hb2.mono hlow.out.size)); have hx1 := (hcell'.out w2 hb2'.out).2; clear hb2)
              go_ret2
              refine ⟨?_, hb2'.out⟩; have e := hR'.out; rw [hres'.out] at e; cases e; exact ⟨_, rfl, SliceIn.nil _ _ _⟩
            · clear hbd
              cases h0 : decide (kd < 0)
              all_goals
                go_wp2_with (go_at_call 8; refine hkind'.out.mono ?_; rintro e w2 ⟨rfl, hb2⟩; have hb2' := Lib.hid (hlow.out.trans (hb2.mono hlow.out.size)); have hx1 := (hcell'.out w2 hb2'.out).2; clear hb2)
                go_ret2
                refine ⟨?_, hb2'.out⟩; have e := hR'.out; rw [hres'.out] at e; cases e; exact ⟨_, rfl, SliceIn.nil _ _ _⟩
          · obtain ⟨h1, h2⟩ := Bool.and_eq_true_iff.1 hbd
            obtain rfl := of_decide_eq_true h1
            have h3 : (a == 0) = false := beq_eq_false_iff_ne.2 (of_decide_eq_true h2)
            have h4 : (a != 0) = true := by simp [bne, h3]
            clear hbd h1 h2
            cases h0 : decide (a < 0)
            all_goals
              go_wp2_with (go_at_call 8; refine hkind'.out.mono ?_; rintro e w2 ⟨rfl, hb2⟩; have hb2' := Lib.hid (hlow.out.trans (hb2.mono hlow.out.size)); have hx1 := (hcell'.out w2 hb2'.out).2; clear hb2)
              go_ret2
              refine ⟨?_, hb2'.out⟩; have e := hR'.out; rw [hres'.out] at e; cases e; exact ⟨_, rfl, SliceIn.nil _ _ _⟩
        · have hbd' : insBad ⟨op, a⟩ = false := by simpa using hbd
          rw [putFrom, if_neg hbd] at hput'
          clear hbd
          rw [hbad] at hbd'
          obtain ⟨hbd1, hbd2⟩ := Bool.or_eq_false_iff.1 hbd'
          obtain ⟨h0, h1⟩ := Bool.or_eq_false_iff.1 hbd1
          clear hbd' hbd1 hbad
          have hp1 : ∀ w2 : World, Below wr.heap.size wr w2 → Calls Tryd.prog 36 #[u6, .int .i64 op] w2 fun e W' => ∃ v', e = .returned v' ∧ BytesIn W'.heap.size W' v' (bs ++ vput (zz op)) ∧ Below w2.heap.size w2 W' := fun w2 h => rput_any w2 u6 bs op _ (SliceIn.later hbs'.out (Nat.le_refl _) h) (by omega) hgx'.out.1.1 hgx'.out.1.2
          have hp1' := Lib.hid hp1
          clear hp1
          by_cases hkd : kd = 0
          · have ha : a = 0 := by simpa [hkd] using hbd2
            subst hkd ha
            rw [if_pos rfl, List.append_nil] at hib'
            clear h0 h1 hbd2
            go_wp2_with (go_at_call 8; refine hkind'.out.mono ?_; rintro e w2 ⟨rfl, hb2⟩; have hb2' := Lib.hid (hlow.out.trans (hb2.mono hlow.out.size)); have hx0 := (hcell'.out w2 hb2'.out).1; have hx1 := (hcell'.out w2 hb2'.out).2; have hb2w := Lib.hid hb2; clear hb2)
            refine (hp1'.out _ hb2w.out).mono ?_
            rintro e w3 ⟨v3, rfl, hv3, hb3⟩
            have hb3' := Lib.hid (hb2'.out.trans (hb3.mono hb2'.out.size))
            have hv3' := Lib.hid hv3
            clear hb3 hv3
            go_wp2
            go_roundw
            case rel =>
              refine ⟨k + 1, bs ++ insBytes ⟨op, 0⟩, by omega, by simp, by rw [hib'.out]; exact hv3'.out, hput'.out, ?_, hb3'.out⟩
              rw [List.length_append]
              omega
            case measure => simp [intOf]; omega
          · have hkp : decide (0 < kd) = true := decide_eq_true (by have := of_decide_eq_false h0; omega)
            have h3 : (kd == 0) = false := beq_eq_false_iff_ne.2 hkd
            rw [if_neg hkd] at hib'
            have hp2 : ∀ (w2 : World) (v3 : Value), BytesIn w2.heap.size w2 v3 (bs ++ vput (zz op)) → Calls Tryd.prog 36 #[v3, .int .i64 a] w2 fun e W' => ∃ v', e = .returned v' ∧ BytesIn W'.heap.size W' v' (bs ++ vput (zz op) ++ vput (zz a)) ∧ Below w2.heap.size w2 W' := fun w2 v3 h => rput_any w2 v3 _ a _ h (by
              have := vput_len10 (zz_lt op hgx'.out.1.1 hgx'.out.1.2)
              rw [List.length_append]
              omega) hgx'.out.2.1 hgx'.out.2.2
            have hp2' := Lib.hid hp2
            clear hp2 hbd2 hkd
            go_wp2_with (go_at_call 8; refine hkind'.out.mono ?_; rintro e w2 ⟨rfl, hb2⟩; have hb2' := Lib.hid (hlow.out.trans (hb2.mono hlow.out.size)); have hx0 := (hcell'.out w2 hb2'.out).1; have hx1 := (hcell'.out w2 hb2'.out).2; have hb2w := Lib.hid hb2; clear hb2)
            refine (hp1'.out _ hb2w.out).mono ?_
            rintro e w3 ⟨v3, rfl, hv3, hb3⟩
            have hb3' := Lib.hid (hb2'.out.trans (hb3.mono hb2'.out.size))
            have hx2 := (hcell'.out w3 hb3'.out).2
            have hv3' := Lib.hid hv3
            clear hb3 hv3
            go_wp2_with fail
            refine (hp2'.out _ _ hv3'.out).mono ?_
            rintro e w4 ⟨v4, rfl, hv4, hb4⟩
            have hb4' := Lib.hid (hb3'.out.trans (hb4.mono hb3'.out.size))
            have hv4' := Lib.hid hv4
            clear hb4 hv4
            go_wp2
            go_roundw
            case rel =>
              refine ⟨k + 1, bs ++ insBytes ⟨op, a⟩, by omega, by simp, by rw [hib'.out, ← List.append_assoc]; exact hv4'.out, hput'.out, ?_, hb4'.out⟩
              rw [List.length_append]
              omega
            case measure => simp [intOf]; omega
      · obtain rfl : k = code.length := by omega
        rw [List.drop_length] at hput
        have hput' := Lib.hid hput
        have hbs' := Lib.hid hbs
        have hlow := Lib.hid hbl
        clear hput hbs hbl
        go_wp2
        go_ret2
        refine ⟨?_, hlow.out⟩
        have e := hR'.out
        rw [← hput'.out] at e
        cases e
        exact ⟨_, rfl, hbs'.out⟩

set_option maxRecDepth 100000 in
theorem kept_any (W : World) (v1 v2 : Value) (xs : List UInt8) (h1 : BytesIn W.heap.size W v1 xs) (h2 : BytesIn W.heap.size W v2 xs) :
    Calls Tryd.prog 22 #[v1, v2] W fun e W' => e = .returned (.bool true) ∧ Below W.heap.size W W' := by
  have c1 := run_string_of h1
  have c2 := run_string_of h2
  obtain ⟨ao, cap, rfl, _⟩ := SliceIn.form h1
  obtain ⟨ao2, cap2, rfl, _⟩ := SliceIn.form h2
  have e1 : ((⟨xs.toArray⟩ : ByteArray).toList == (⟨xs.toArray⟩ : ByteArray).toList) = true := beq_self_eq_true _
  clear h1 h2
  go_enter Tryd.func22, Tryd.ntmps22
  go_wp2
  go_ret
  exact ⟨rfl, Below.refl _ _⟩
end Go.Proofs.YtmlcififmjpcpaaDoor
