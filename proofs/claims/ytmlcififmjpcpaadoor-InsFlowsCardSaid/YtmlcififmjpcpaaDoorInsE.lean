/-
  Code as bytes: 'Put'; the fixed calls of 'known'.
-/
import Derived.Test.YtmlcififmjpcpaaDoorInsD
namespace Go.Proofs.YtmlcififmjpcpaaDoor
open Go.RowKit
set_option linter.unusedVariables false
set_option linter.unusedSimpArgs false

attribute [local go_sem] Oper.semAt_some

structure InsD where
  op : Int
  a : Int
deriving DecidableEq

def icells (x : InsD) : List Value := [.int .i64 x.op, .int .i64 x.a]
theorem icells_len (x : InsD) : (icells x).length = 2 := rfl
def CodeIn (n : Nat) (W : World) (v : Value) (xs : List InsD) : Prop := SliceIn n 2 W v xs.length (xs.flatMap icells)
def goodIns (x : InsD) : Prop := (-9223372036854775808 ≤ x.op ∧ x.op ≤ 9223372036854775807) ∧ (-9223372036854775808 ≤ x.a ∧ x.a ≤ 9223372036854775807)

def insBad (x : InsD) : Bool := decide (insKind x.op < 0) || decide (x.a < 0) || (decide (insKind x.op = 0) && decide (x.a ≠ 0))
def insBytes (x : InsD) : List UInt8 := vput (zz x.op) ++ (if insKind x.op = 0 then [] else vput (zz x.a))
def putFrom : List UInt8 → List InsD → Option (List UInt8)
  | b, [] => some b
  | b, x :: r => if insBad x then none else putFrom (b ++ insBytes x) r
/-- What 'Put' answers: the bytes, and the kind of failure. -/
def putL (b : List UInt8) (code : List InsD) : List UInt8 × Int :=
  if code.length > 512 then ([], 6) else match putFrom (b ++ vput (zz code.length)) code with | none => ([], 12) | some r => (r, 0)

theorem code_at {n : Nat} {W W' : World} {v : Value} {xs : List InsD} (h : CodeIn n W v xs) (hn : n ≤ W.heap.size) (hb : Below W.heap.size W W') {b : Addr} {cap k : Nat} {op a : Int} (hv : v = .slice (some b) xs.length cap) (hx : xs[k]? = some ⟨op, a⟩) :
    W'.cell? (b.add (k * 2)) = some (.int .i64 op) ∧ W'.cell? ⟨(b.add (k * 2)).block, (b.add (k * 2)).off + 1, none⟩ = some (.int .i64 a) := by
  have h' := SliceIn.later h hn hb
  constructor
  · exact h'.first hv (by have := flatMap_get icells 2 icells_len xs k 0 _ hx (by omega); exact this)
  · exact h'.field hv (by have := flatMap_get icells 2 icells_len xs k 1 _ hx (by omega); exact this) (by omega)

theorem drop_get {α : Type} {xs : List α} {k : Nat} {x : α} (h : xs[k]? = some x) : xs.drop k = x :: xs.drop (k + 1) := by
  obtain ⟨hl, rfl⟩ := List.getElem?_eq_some_iff.1 h
  exact List.drop_eq_getElem_cons hl

theorem insBytes_len {x : InsD} (h : goodIns x) : (insBytes x).length ≤ 20 := by
  have h1 := vput_len10 (zz_lt x.op h.1.1 h.1.2)
  have h2 := vput_len10 (zz_lt x.a h.2.1 h.2.2)
  unfold insBytes
  split <;> simp <;> omega

theorem bin64 (n : Nat) (h : n ≤ 512) : (vput (zz (n : Int))).length ≤ 10 := vput_len10 (zz_lt _ (by omega) (by omega))

set_option maxRecDepth 100000 in
set_option maxHeartbeats 2000000 in
theorem put_any (W : World) (v cv : Value) (xs : List UInt8) (code : List InsD) (hF : FormsAt W) (hz : 0 < W.heap.size) (hv : BytesIn W.heap.size W v xs) (hc : CodeIn W.heap.size W cv code) (hl : xs.length ≤ 189999999900000) (hg : ∀ x ∈ code, goodIns x) :
    Calls Tryd.prog 17 #[v, cv] W fun e W' => (∃ v', e = .returned (.tuple #[v', .int .i64 (putL xs code).2]) ∧ BytesIn W'.heap.size W' v' (putL xs code).1) ∧ Below W.heap.size W W' := by
  obtain ⟨ao, cap, rfl, _⟩ := SliceIn.form hc
  obtain ⟨⟨rb, re⟩, hR⟩ : ∃ R, R = putL xs code := ⟨_, rfl⟩
  rw [← hR]
  dsimp only
  by_cases h512 : code.length > 512
  · rw [putL, if_pos h512] at hR
    cases hR
    have hb1 : decide (512 < (code.length : Int)) = true := decide_eq_true (by omega)
    clear hF hv hc hg h512
    go_enter Tryd.func17, Tryd.ntmps17
    go_wp2
    go_ret2
    exact ⟨⟨_, rfl, SliceIn.nil _ _ _⟩, Below.refl _ _⟩
  · rw [putL, if_neg h512] at hR
    have hR' := Lib.hid hR
    clear hR
    have hb1 : decide (512 < (code.length : Int)) = false := decide_eq_false (by omega)
    have h10 := bin64 code.length (by omega)
    have hp := bput_any W v xs (code.length : Int) (by omega) (by omega) hv (by omega)
    have hF' := Lib.hid hF
    have hc' := Lib.hid hc
    have hg' := Lib.hid hg
    clear hF hc hv hg
    go_enter Tryd.func17, Tryd.ntmps17
    go_wp2_with fail
    refine hp.mono ?_
    rintro e w1 ⟨v1, rfl, hv1, hbl1⟩
    clear hp
    go_wp2
    go_loopw [0, 18] (fun s0 s18 wr => ∃ (k : Nat) (bs : List UInt8), k ≤ code.length ∧ s18 = .int .i64 (k : Int) ∧ BytesIn wr.heap.size wr s0 bs ∧ putFrom bs (code.drop k) = putFrom (xs ++ vput (zz code.length)) code ∧ bs.length ≤ xs.length + 10 + 20 * k ∧ Below W.heap.size W wr) (fun _ s18 _ => code.length - (intOf s18).toNat)
    case atStart => exact ⟨0, _, Nat.zero_le _, rfl, hv1, rfl, by simp; omega, hbl1⟩
    case round =>
      obtain ⟨k, bs, hk, rfl, hbs, hput, hlen, hbl⟩ := hrel
      by_cases hlt : k < code.length
      · obtain ⟨⟨op, a⟩, hx⟩ : ∃ x, code[k]? = some x := ⟨_, List.getElem?_eq_getElem hlt⟩
        have hgx := hg'.out _ (List.mem_of_getElem? hx)
        have hd := drop_get hx
        rw [hd] at hput
        have hF1 := hF'.out.mono hz hbl
        have hz1 : 0 < wr.heap.size := Nat.lt_of_lt_of_le hz hbl.size
        obtain ⟨b, cap', hcv, hcap'⟩ := SliceIn.some_ hc'.out (by omega)
        cases hcv
        obtain ⟨hc0, hc1⟩ := code_at hc'.out (Nat.le_refl _) hbl rfl hx
        have hkind : ∀ w2 : World, Below wr.heap.size wr w2 → Calls Tryd.prog 7 #[.int .i64 op] w2 fun e W' => e = .returned (.int .i64 (insKind op)) ∧ Below w2.heap.size w2 W' := fun w2 h => kind_any w2 op (hF1.mono hz1 h) (Nat.lt_of_lt_of_le hz1 h.size)
        have hbad : insBad ⟨op, a⟩ = (decide (insKind op < 0) || decide (a < 0) || (decide (insKind op = 0) && decide (a ≠ 0))) := rfl
        have hib : insBytes ⟨op, a⟩ = vput (zz op) ++ (if insKind op = 0 then [] else vput (zz a)) := rfl
        have hil := insBytes_len hgx
        have hnew := Blk.new wr 55 #[.int .i64 op, .int .i64 a]
        have hba := (Below.refl wr.heap.size wr).alloc (Nat.le_refl _) (.cells #[.int .i64 op, .int .i64 a] 55)
        have hkind' := Lib.hid hkind
        have hlow := Lib.hid hbl
        have hbs' := Lib.hid hbs
        have hgx' := Lib.hid hgx
        have hib' := Lib.hid hib
        have hnew' := Lib.hid hnew
        have hba' := Lib.hid hba
        have hput' := Lib.hid hput
        clear hkind hbl hbs hgx hF1 hd hx hib hnew hba hput
        generalize insKind op = kd at hkind' hbad hib' 
        by_cases hbd : insBad ⟨op, a⟩ = true
        · have hres : putFrom (xs ++ vput (zz code.length)) code = none := by rw [← hput'.out, putFrom, if_pos hbd]
          rw [hbad] at hbd
          have hres' := Lib.hid hres
          clear hres hput' hbad hib' hil
          have fin : ∀ w2 : World, Below wr.heap.size wr w2 → Below W.heap.size W w2 := fun w2 h => hlow.out.trans (h.mono hlow.out.size)
          have fin' := Lib.hid fin
          clear fin
          rcases Bool.or_eq_true_iff.1 hbd with hbd | hbd
          · rcases Bool.or_eq_true_iff.1 hbd with h1 | h1
            · clear hbd
              go_wp2_with (go_at_call 7; refine (hkind'.out _ hba'.out).mono ?_; rintro e w2 ⟨rfl, hb2⟩; have hx0 := (hnew'.out.below hb2 (by simp)).cell 0; have hx1 := (hnew'.out.below hb2 (by simp)).cell 1; have hb2' := Lib.hid hb2; clear hb2)
              go_ret2
              refine ⟨?_, fin'.out _ (hba'.out.trans (hb2'.out.mono (by simp)))⟩; have e := hR'.out; rw [hres'.out] at e; cases e; exact ⟨_, rfl, SliceIn.nil _ _ _⟩
            · clear hbd
              cases h0 : decide (kd < 0)
              all_goals
                go_wp2_with (go_at_call 7; refine (hkind'.out _ hba'.out).mono ?_; rintro e w2 ⟨rfl, hb2⟩; have hx0 := (hnew'.out.below hb2 (by simp)).cell 0; have hx1 := (hnew'.out.below hb2 (by simp)).cell 1; have hb2' := Lib.hid hb2; clear hb2)
                go_ret2
                refine ⟨?_, fin'.out _ (hba'.out.trans (hb2'.out.mono (by simp)))⟩; have e := hR'.out; rw [hres'.out] at e; cases e; exact ⟨_, rfl, SliceIn.nil _ _ _⟩
          · obtain ⟨h1, h2⟩ := Bool.and_eq_true_iff.1 hbd
            obtain rfl := of_decide_eq_true h1
            have h3 : (a == 0) = false := beq_eq_false_iff_ne.2 (of_decide_eq_true h2)
            have h4 : (a != 0) = true := by simp [bne, h3]
            clear hbd h1 h2
            cases h0 : decide (a < 0)
            all_goals
              go_wp2_with (go_at_call 7; refine (hkind'.out _ hba'.out).mono ?_; rintro e w2 ⟨rfl, hb2⟩; have hx0 := (hnew'.out.below hb2 (by simp)).cell 0; have hx1 := (hnew'.out.below hb2 (by simp)).cell 1; have hb2' := Lib.hid hb2; clear hb2)
              go_ret2
              refine ⟨?_, fin'.out _ (hba'.out.trans (hb2'.out.mono (by simp)))⟩; have e := hR'.out; rw [hres'.out] at e; cases e; exact ⟨_, rfl, SliceIn.nil _ _ _⟩
        · have hbd' : insBad ⟨op, a⟩ = false := by simpa using hbd
          rw [putFrom, if_neg hbd] at hput'
          clear hbd
          rw [hbad] at hbd'
          obtain ⟨hbd1, hbd2⟩ := Bool.or_eq_false_iff.1 hbd'
          obtain ⟨h0, h1⟩ := Bool.or_eq_false_iff.1 hbd1
          clear hbd' hbd1 hbad
          have hbs2 : ∀ w2 : World, Below wr.heap.size wr w2 → BytesIn w2.heap.size w2 u0 bs := fun w2 h => (SliceIn.later hbs'.out (Nat.le_refl _) h).up h.size
          have hp1 : ∀ w2 : World, Below wr.heap.size wr w2 → Calls Tryd.prog 35 #[u0, .int .i64 op] w2 fun e W' => ∃ v', e = .returned v' ∧ BytesIn W'.heap.size W' v' (bs ++ vput (zz op)) ∧ Below w2.heap.size w2 W' := fun w2 h => bput_any w2 u0 bs op hgx'.out.1.1 hgx'.out.1.2 (hbs2 w2 h) (by omega)
          have hp1' := Lib.hid hp1
          clear hbs2 hp1
          by_cases hkd : kd = 0
          · have ha : a = 0 := by simpa [hkd] using hbd2
            subst hkd ha
            rw [if_pos rfl, List.append_nil] at hib'
            clear h0 h1 hbd2
            go_wp2_with (first | (go_at_call 7; refine (hkind'.out _ hba'.out).mono ?_; rintro e w2 ⟨rfl, hb2⟩; have hx0 := (hnew'.out.below hb2 (by simp)).cell 0; have hx1 := (hnew'.out.below hb2 (by simp)).cell 1; have hb2' := Lib.hid (hba'.out.trans (hb2.mono (by simp))); clear hb2) | (go_at_call 35; refine (hp1'.out _ hb2'.out).mono ?_; rintro e w3 ⟨v3, rfl, hv3, hb3⟩; have hb3' := Lib.hid (hb2'.out.trans (hb3.mono hb2'.out.size)); have hv3' := Lib.hid hv3; clear hb3 hv3))
            go_roundw
            case rel =>
              refine ⟨k + 1, bs ++ insBytes ⟨op, 0⟩, by omega, by simp, by rw [hib'.out]; exact hv3'.out, hput'.out, ?_, hlow.out.trans (hb3'.out.mono hlow.out.size)⟩
              rw [List.length_append]
              omega
            case measure => simp [intOf]; omega
          · have h3 : (kd == 0) = false := beq_eq_false_iff_ne.2 hkd
            have h4 : (kd != 0) = true := by simp [bne, h3]
            rw [if_neg hkd] at hib'
            have hp2 : ∀ (w2 : World) (v3 : Value), BytesIn w2.heap.size w2 v3 (bs ++ vput (zz op)) → Calls Tryd.prog 35 #[v3, .int .i64 a] w2 fun e W' => ∃ v', e = .returned v' ∧ BytesIn W'.heap.size W' v' (bs ++ vput (zz op) ++ vput (zz a)) ∧ Below w2.heap.size w2 W' := fun w2 v3 h => bput_any w2 v3 _ a hgx'.out.2.1 hgx'.out.2.2 h (by
              have := vput_len10 (zz_lt op hgx'.out.1.1 hgx'.out.1.2)
              rw [List.length_append]
              omega)
            have hp2' := Lib.hid hp2
            clear hp2 hbd2 hkd
            go_wp2_with (go_at_call 7; refine (hkind'.out _ hba'.out).mono ?_; rintro e w2 ⟨rfl, hb2⟩; have hx0 := (hnew'.out.below hb2 (by simp)).cell 0; have hx1 := (hnew'.out.below hb2 (by simp)).cell 1; have hb2' := Lib.hid (hba'.out.trans (hb2.mono (by simp))); have hnew2 := Lib.hid (hnew'.out.below hb2 (by simp)); clear hb2)
            refine (hp1'.out _ hb2'.out).mono ?_
            rintro e w3 ⟨v3, rfl, hv3, hb3⟩
            have hx2 := (hnew2.out.below hb3 hnew2.out.lt).cell 1
            have hb3' := Lib.hid (hb2'.out.trans (hb3.mono hb2'.out.size))
            have hv3' := Lib.hid hv3
            clear hb3 hv3
            go_wp2_with fail
            refine (hp2'.out _ _ hv3'.out).mono ?_
            rintro e w4 ⟨v4, rfl, hv4, hb4⟩
            have hb4' := Lib.hid (hb3'.out.trans (hb4.mono hb3'.out.size))
            have hv4' := Lib.hid hv4
            clear hb4 hv4
            go_wp2
            go_roundw
            case rel =>
              refine ⟨k + 1, bs ++ insBytes ⟨op, a⟩, by omega, by simp, by rw [hib'.out, ← List.append_assoc]; exact hv4'.out, hput'.out, ?_, hlow.out.trans (hb4'.out.mono hlow.out.size)⟩
              rw [List.length_append]
              omega
            case measure => simp [intOf]; omega
      · obtain rfl : k = code.length := by omega
        rw [List.drop_length] at hput
        have hput' := Lib.hid hput
        have hbs' := Lib.hid hbs
        have hlow := Lib.hid hbl
        clear hput hbs hbl
        go_wp2
        go_ret2
        refine ⟨?_, hlow.out⟩
        have e := hR'.out
        rw [← hput'.out] at e
        cases e
        exact ⟨_, rfl, hbs'.out⟩
end Go.Proofs.YtmlcififmjpcpaaDoor
