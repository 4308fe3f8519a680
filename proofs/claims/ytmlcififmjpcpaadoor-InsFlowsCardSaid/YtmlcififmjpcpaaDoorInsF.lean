/-
  The fixed calls of 'known' (chapter 4).
-/
import Derived.Test.YtmlcififmjpcpaaDoorInsE
import Derived.Laws.IdiomStrings
namespace Go.Proofs.YtmlcififmjpcpaaDoor
open Go.RowKit
set_option linter.unusedVariables false
set_option linter.unusedSimpArgs false

attribute [local go_sem] Oper.semAt_some

theorem run_string_of {n : Nat} {W : World} {v : Value} {bs : List UInt8} (h : BytesIn n W v bs) : (convert 33 9 v).run Tryd.prog W = .ok (.string ⟨bs.toArray⟩) W := by
  obtain ⟨hl, ao, cap, rfl, h1, h2, h3, h4⟩ := h
  cases ao with
  | none =>
    have : bs = [] := List.eq_nil_of_length_eq_zero (h3 rfl).1
    subst this
    exact run_convert_bytes_nil W 33 5 Tryd.underlying33 Tryd.underlying5 _ _ 9 Tryd.underlying9
  | some b =>
    exact run_convert_bytes_back W 33 9 5 b cap bs Tryd.underlying33 Tryd.underlying5 Tryd.underlying9 (fun j hj => (h4 b rfl).2 j _ (by simp [bcells, hj]))

theorem known_put : putL [] [⟨1, 3⟩, ⟨15, 0⟩] = ([4, 2, 6, 30], 0) := by
  have e1 : insKind 1 = 1 := by decide
  have e2 : insKind 15 = 0 := by decide
  have b1 : insBad ⟨1, 3⟩ = false := by decide
  have b2 : insBad ⟨15, 0⟩ = false := by decide
  have v1 : vput (zz (2 : Int)) = [4] := by rw [show zz 2 = 4 by decide, vput_lt (by decide)]; rfl
  have v2 : vput (zz (1 : Int)) = [2] := by rw [show zz 1 = 2 by decide, vput_lt (by decide)]; rfl
  have v3 : vput (zz (3 : Int)) = [6] := by rw [show zz 3 = 6 by decide, vput_lt (by decide)]; rfl
  have v4 : vput (zz (15 : Int)) = [30] := by rw [show zz 15 = 30 by decide, vput_lt (by decide)]; rfl
  simp [putL, putFrom, b1, b2, insBytes, e1, e2, v1, v2, v3, v4]

theorem known_find : insFind ⟨#[111, 108, 100]⟩ = 45 := by decide
theorem known_name : insName 44 = ⟨#[115, 112, 97, 119, 110]⟩ := by decide
theorem known_kind : insKind 32 = 5 := by decide

set_option maxRecDepth 100000 in
set_option maxHeartbeats 2000000 in
theorem known4_any (W : World) (hF : FormsAt W) (hz : 0 < W.heap.size) : Calls Tryd.prog 13 #[] W fun e W' => e = .returned (.bool true) ∧ Below W.heap.size W W' := by
  have hB := Blk.new W 55 #[.int .i64 1, .int .i64 3, .int .i64 15, .int .i64 0]
  have hb1 := (Below.refl W.heap.size W).alloc (Nat.le_refl _) (.cells #[.int .i64 1, .int .i64 3, .int .i64 15, .int .i64 0] 55)
  have hown : (W.alloc (.cells #[.int .i64 1, .int .i64 3, .int .i64 15, .int .i64 0] 55)).ownsRow 0 55 2 (.slice (some ⟨W.heap.size, 0, none⟩) 2 2) 2 [.int .i64 1, .int .i64 3, .int .i64 15, .int .i64 0] :=
    (RowAt.mk_ (S := fun _ => True) trivial hB (Nat.le_refl 2) (by simp [maxLen]) rfl rfl rfl).1
  have hput := put_any _ (.slice none 0 0) (.slice (some ⟨W.heap.size, 0, none⟩) 2 2) [] [⟨1, 3⟩, ⟨15, 0⟩] (hF.mono hz hb1) (by simp) (SliceIn.nil _ _ _) (SliceIn.of_own hown) (by simp) (by intro x hx; rcases List.mem_cons.1 hx with rfl | hx; (exact ⟨⟨by decide, by decide⟩, by decide, by decide⟩); rcases List.mem_cons.1 hx with rfl | hx; (exact ⟨⟨by decide, by decide⟩, by decide, by decide⟩); cases hx)
  rw [known_put] at hput
  have hrest : ∀ w2, Below W.heap.size W w2 → Calls Tryd.prog 9 #[.int .i64 44] w2 fun e W' => e = .returned (.string ⟨#[115, 112, 97, 119, 110]⟩) ∧ Below w2.heap.size w2 W' := fun w2 h => by
    have := name_any w2 44 (hF.mono hz h) (Nat.lt_of_lt_of_le hz h.size)
    rwa [known_name] at this
  have hrest2 : ∀ w2, Below W.heap.size W w2 → Calls Tryd.prog 11 #[.string ⟨#[111, 108, 100]⟩] w2 fun e W' => e = .returned (.int .i64 45) ∧ Below w2.heap.size w2 W' := fun w2 h => by
    have := find1_any w2 ⟨#[111, 108, 100]⟩ (hF.mono hz h) (Nat.lt_of_lt_of_le hz h.size)
    rwa [known_find] at this
  have hrest3 : ∀ w2, Below W.heap.size W w2 → Calls Tryd.prog 7 #[.int .i64 32] w2 fun e W' => e = .returned (.int .i64 5) ∧ Below w2.heap.size w2 W' := fun w2 h => by
    have := kind_any w2 32 (hF.mono hz h) (Nat.lt_of_lt_of_le hz h.size)
    rwa [known_kind] at this
  have r1 := Lib.hid hrest
  have r2 := Lib.hid hrest2
  have r3 := Lib.hid hrest3
  have hb1' := Lib.hid hb1
  clear hrest hrest2 hrest3 hB hown hF hb1
  go_enter Tryd.func13, Tryd.ntmps13
  go_wp2_with fail
  refine hput.mono ?_
  rintro e w1 ⟨⟨v1, rfl, hv1⟩, hbl⟩
  have hconv := run_string_of hv1
  have hw1 := Lib.hid (hb1'.out.trans (hbl.mono hb1'.out.size))
  clear hput hbl hv1
  go_wp2_with (first | (go_at_call 9; refine (r1.out _ hw1.out).mono ?_; rintro e w2 ⟨rfl, hb2⟩; have hw2 := Lib.hid (hw1.out.trans (hb2.mono hw1.out.size)); clear hb2) | (go_at_call 11; refine (r2.out _ hw2.out).mono ?_; rintro e w3 ⟨rfl, hb3⟩; have hw3 := Lib.hid (hw2.out.trans (hb3.mono hw2.out.size)); clear hb3) | (go_at_call 7; refine (r3.out _ hw3.out).mono ?_; rintro e w4 ⟨rfl, hb4⟩; have hw4 := Lib.hid (hw3.out.trans (hb4.mono hw3.out.size)); clear hb4))
  go_ret
  exact ⟨rfl, hw4.out⟩
end Go.Proofs.YtmlcififmjpcpaaDoor
