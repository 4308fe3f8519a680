/-
  The document's own answers for names and kinds: contracts.
-/
import Derived.Test.YtmlcififmjpcpaaDoorInsA
namespace Go.Proofs.YtmlcififmjpcpaaDoor
open Go.RowKit
set_option linter.unusedVariables false

attribute [local go_sem] Oper.semAt_some

def insNameCells : List Value := insNms.map fun n => .string ⟨n.toArray⟩
theorem insNameCells_at (k : Nat) (h : k < 46) : insNameCells[k]? = some (.string ⟨(insNms.getD k []).toArray⟩) := by
  have hl : k < insNms.length := h
  simp [insNameCells, hl]

set_option maxRecDepth 100000 in
theorem names_any (W : World) : Calls Tryd.prog 31 #[] W fun e W' => e = .returned (.slice (some ⟨W.heap.size, 0, none⟩) 46 46) ∧ Blk W' W.heap.size 9 insNameCells.toArray ∧ Below W.heap.size W W' := by
  go_enter Tryd.func31, Tryd.ntmps31
  go_wp2
  go_ret
  exact ⟨rfl, Blk.new _ _ _, (Below.refl _ _).alloc (Nat.le_refl _) _⟩

set_option maxRecDepth 100000 in
theorem refName_any (W : World) (op : Int) : Calls Tryd.prog 10 #[.int .i64 op] W fun e W' => e = .returned (.string (insName op)) ∧ Below W.heap.size W W' := by
  by_cases h0 : 0 ≤ op
  · have hb0 : decide (op < 0) = false := decide_eq_false (by omega)
    by_cases h1 : op < 46
    · obtain ⟨k, rfl⟩ : ∃ k : Nat, op = k := ⟨op.toNat, by omega⟩
      have hk : k < 46 := by omega
      have e : insName (k : Int) = ⟨(insNms.getD k []).toArray⟩ := by rw [insName, if_pos ⟨h0, h1⟩]; rfl
      rw [e]
      obtain ⟨x, hx⟩ : ∃ x : ByteArray, x = ⟨(insNms.getD k []).toArray⟩ := ⟨_, rfl⟩
      rw [← hx]
      have hc := insNameCells_at k hk
      rw [← hx] at hc
      have hc' := Lib.hid hc
      have hb1 : decide (46 ≤ (k : Int)) = false := decide_eq_false (by omega)
      clear e hx hc h0 h1
      go_enter Tryd.func10, Tryd.ntmps10
      go_wp2_with (go_at_call 31; refine (names_any _).mono ?_; rintro e w1 ⟨rfl, hB, hb⟩; have hcell := (hB.cell k).trans (by simpa using hc'.out))
      go_ret
      exact ⟨rfl, by first | exact Below.trans ‹Below W.heap.size W _› (Below.mono ‹_› (by have := (‹Below W.heap.size W _›).size; omega)) | assumption⟩
    · have e : insName op = ⟨#[]⟩ := by rw [insName, if_neg (by omega)]
      rw [e]
      have hb1 : decide (46 ≤ op) = true := decide_eq_true (by omega)
      clear e h0 h1
      go_enter Tryd.func10, Tryd.ntmps10
      go_wp2_with (go_at_call 31; refine (names_any _).mono ?_; rintro e w1 ⟨rfl, hB, hb⟩)
      go_ret
      exact ⟨rfl, ‹_›⟩
  · have e : insName op = ⟨#[]⟩ := by rw [insName, if_neg (by omega)]
    rw [e]
    have hb0 : decide (op < 0) = true := decide_eq_true (by omega)
    clear e h0
    go_enter Tryd.func10, Tryd.ntmps10
    go_wp2
    go_ret
    exact ⟨rfl, Below.refl _ _⟩

theorem kind_rest (k : Nat) (h : k < 46) (hn : k ∉ ([1, 2, 25, 28, 38, 39, 26, 27, 45, 32, 6, 7, 22, 23, 24] : List Nat)) : insKinds.getD k 0 = 0 ∧ (insNms.getD k []).isEmpty = false := by
  have : ∀ k : Fin 46, k.val ∉ ([1, 2, 25, 28, 38, 39, 26, 27, 45, 32, 6, 7, 22, 23, 24] : List Nat) → insKinds.getD k.val 0 = 0 ∧ (insNms.getD k.val []).isEmpty = false := by decide
  exact this ⟨k, h⟩ hn

set_option maxRecDepth 100000 in
set_option maxHeartbeats 1000000 in
theorem refKind_any (W : World) (op : Int) : Calls Tryd.prog 8 #[.int .i64 op] W fun e W' => e = .returned (.int .i64 (insKind op)) ∧ Below W.heap.size W W' := by
  by_cases hs : op = 1 ∨ op = 2 ∨ op = 25 ∨ op = 28 ∨ op = 38 ∨ op = 39 ∨ op = 26 ∨ op = 27 ∨ op = 45 ∨ op = 32 ∨ op = 6 ∨ op = 7 ∨ op = 22 ∨ op = 23 ∨ op = 24
  · rcases hs with rfl | rfl | rfl | rfl | rfl | rfl | rfl | rfl | rfl | rfl | rfl | rfl | rfl | rfl | rfl
    all_goals
      go_enter Tryd.func8, Tryd.ntmps8
      go_wp2
      go_ret
      exact ⟨rfl, Below.refl _ _⟩
  · have hn : op ∉ ([1, 2, 25, 28, 38, 39, 26, 27, 45, 32, 6, 7, 22, 23, 24] : List Int) := by simpa using hs
    have hb1 : (op == 1) = false := beq_eq_false_iff_ne.2 (fun e => hn (by simp [e]))
    have hb2 : (op == 2) = false := beq_eq_false_iff_ne.2 (fun e => hn (by simp [e]))
    have hb25 : (op == 25) = false := beq_eq_false_iff_ne.2 (fun e => hn (by simp [e]))
    have hb28 : (op == 28) = false := beq_eq_false_iff_ne.2 (fun e => hn (by simp [e]))
    have hb38 : (op == 38) = false := beq_eq_false_iff_ne.2 (fun e => hn (by simp [e]))
    have hb39 : (op == 39) = false := beq_eq_false_iff_ne.2 (fun e => hn (by simp [e]))
    have hb26 : (op == 26) = false := beq_eq_false_iff_ne.2 (fun e => hn (by simp [e]))
    have hb27 : (op == 27) = false := beq_eq_false_iff_ne.2 (fun e => hn (by simp [e]))
    have hb45 : (op == 45) = false := beq_eq_false_iff_ne.2 (fun e => hn (by simp [e]))
    have hb32 : (op == 32) = false := beq_eq_false_iff_ne.2 (fun e => hn (by simp [e]))
    have hb6 : (op == 6) = false := beq_eq_false_iff_ne.2 (fun e => hn (by simp [e]))
    have hb7 : (op == 7) = false := beq_eq_false_iff_ne.2 (fun e => hn (by simp [e]))
    have hb22 : (op == 22) = false := beq_eq_false_iff_ne.2 (fun e => hn (by simp [e]))
    have hb23 : (op == 23) = false := beq_eq_false_iff_ne.2 (fun e => hn (by simp [e]))
    have hb24 : (op == 24) = false := beq_eq_false_iff_ne.2 (fun e => hn (by simp [e]))
    have hname := refName_any W op
    by_cases h : 0 ≤ op ∧ op < 46
    · obtain ⟨k, rfl⟩ : ∃ k : Nat, op = k := ⟨op.toNat, by omega⟩
      have hk : k < 46 := by omega
      obtain ⟨e1, e2⟩ := kind_rest k hk (by
        intro hm
        apply hn
        simp only [List.mem_cons, List.not_mem_nil, or_false] at hm ⊢
        omega)
      have e : insKind (k : Int) = 0 := by rw [insKind, if_pos h]; exact e1
      have e3 : (insName (k : Int)).toList.isEmpty = false := by
        rw [insName, if_pos h, Lib.toList_data]
        simpa using e2
      rw [e]
      obtain ⟨x, hx⟩ : ∃ x : ByteArray, x = insName (k : Int) := ⟨_, rfl⟩
      rw [← hx] at e3 hname
      clear e e1 e2 hn hs hx h
      go_enter Tryd.func8, Tryd.ntmps8
      go_wp2_with (go_at_call 10; refine hname.mono ?_; rintro e w1 ⟨rfl, hb⟩)
      go_ret
      exact ⟨rfl, ‹_›⟩
    · have e : insKind op = -1 := by rw [insKind, if_neg h]
      have e1 : insName op = ⟨#[]⟩ := by rw [insName, if_neg h]
      rw [e]
      rw [e1] at hname
      clear e e1 hn hs h
      go_enter Tryd.func8, Tryd.ntmps8
      go_wp2_with (go_at_call 10; refine hname.mono ?_; rintro e w1 ⟨rfl, hb⟩)
      go_ret
      exact ⟨rfl, ‹_›⟩

set_option maxRecDepth 100000 in
set_option maxHeartbeats 1000000 in
theorem refFind_any (W : World) (s : ByteArray) : Calls Tryd.prog 12 #[.string s] W fun e W' => e = .returned (.int .i64 (insFind s)) ∧ Below W.heap.size W W' := by
  go_enter Tryd.func12, Tryd.ntmps12
  go_wp2_with (go_at_call 31; refine (names_any _).mono ?_; rintro e w1 ⟨rfl, hBk, hb⟩)
  go_loopw [4] (fun i wr => ∃ k : Nat, k ≤ 46 ∧ i = .int .i64 k ∧ findFrom s (insNms.drop k) k = insFind s ∧ wr = w1) (fun i _ => 46 - (intOf i).toNat)
  case atStart => exact ⟨0, by omega, rfl, rfl, rfl⟩
  case round =>
    obtain ⟨k, hk, rfl, hf, rfl⟩ := hrel
    by_cases hlt : k < 46
    · rw [findFrom_drop s k hlt] at hf
      have hcell := (hBk.cell k).trans ((List.getElem?_toArray ..).trans (insNameCells_at k hlt))
      obtain ⟨nm, hnm⟩ : ∃ x : ByteArray, x = ⟨(insNms.getD k []).toArray⟩ := ⟨_, rfl⟩
      rw [← hnm] at hcell hf
      clear hnm
      by_cases he : nm = s
      · rw [if_pos he] at hf
        have hb1 : (nm.toList == s.toList) = true := by rw [he]; exact beq_self_eq_true _
        have hf' := Lib.hid hf
        clear hf
        go_wp2
        go_ret
        exact ⟨by rw [← hf'.out]; rfl, hb⟩
      · rw [if_neg he] at hf
        have hb1 : (nm.toList == s.toList) = false := beq_eq_false_iff_ne.2 (fun e => he (byteArray_toList_inj e))
        have hf' := Lib.hid hf
        clear hf
        go_wp2
        go_roundw
        case rel => exact ⟨k + 1, by omega, by simp, hf'.out, trivial⟩
        case measure => simp [intOf]; omega
    · obtain rfl : k = 46 := by omega
      have hf' := Lib.hid hf
      clear hf
      go_wp2
      go_ret
      exact ⟨by rw [← hf'.out]; rfl, hb⟩
end Go.Proofs.YtmlcififmjpcpaaDoor
