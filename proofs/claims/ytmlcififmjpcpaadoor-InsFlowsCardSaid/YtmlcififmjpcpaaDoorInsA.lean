/-
  'known', 'Kind', 'Name', 'Find' and the document's own: contracts.
-/
import Derived.Test.YtmlcififmjpcpaaDoorInsTab
import Derived.Test.YtmlcififmjpcpaaDoorBase
import Derived.OwnWalkIn
import Derived.TacticsInMore
import Derived.LoopNIn
import Derived.LoopIn
import Derived.Outline
import Derived.Deep.QuietTactic
import Derived.BigQuiet
import Derived.Deep.WholeRow
import Derived.WalkLawsBesides
import Derived.Deep.DeepMust
import Derived.Deep.DeepFit
import Derived.Lib.Hide
import Derived.Lib.Strings
namespace Go.Proofs.YtmlcififmjpcpaaDoor
open Go.RowKit
set_option linter.unusedVariables false

attribute [local go_sem] Oper.semAt_some

def insKnown (op : Int) : Bool := decide (0 ≤ op) && decide (op < 46)
def insKind (op : Int) : Int := if 0 ≤ op ∧ op < 46 then insKinds.getD op.toNat 0 else -1
def insName (op : Int) : ByteArray := if 0 ≤ op ∧ op < 46 then ⟨(insNms.getD op.toNat []).toArray⟩ else ⟨#[]⟩
/-- The first name from place i on that is s. -/
def findFrom (s : ByteArray) : List (List UInt8) → Nat → Int
  | [], _ => -1
  | n :: ns, i => if (⟨n.toArray⟩ : ByteArray) = s then i else findFrom s ns (i + 1)
def insFind (s : ByteArray) : Int := findFrom s insNms 0

theorem insKnown_cases (op : Int) : (∃ k : Nat, op = k ∧ k < 46 ∧ insKnown op = true) ∨ (¬ (0 ≤ op ∧ op < 46) ∧ insKnown op = false) := by
  by_cases h : 0 ≤ op ∧ op < 46
  · exact .inl ⟨op.toNat, by omega, by omega, by simp [insKnown, h.1, h.2]⟩
  · refine .inr ⟨h, ?_⟩
    simp only [insKnown, Bool.and_eq_false_iff, decide_eq_false_iff_not]
    by_cases h0 : 0 ≤ op
    · exact .inr (fun h2 => h ⟨h0, h2⟩)
    · exact .inl h0

set_option maxRecDepth 100000 in
theorem known1_any (W : World) (op : Int) : Calls Tryd.prog 30 #[.int .i64 op] W fun e W' => e = .returned (.bool (insKnown op)) ∧ Below W.heap.size W W' := by
  unfold insKnown
  cases h0 : decide (0 ≤ op)
  · go_enter Tryd.func30, Tryd.ntmps30
    go_wp2
    go_ret
    exact ⟨rfl, Below.refl _ _⟩
  · go_enter Tryd.func30, Tryd.ntmps30
    go_wp2
    go_ret
    exact ⟨by simp, Below.refl _ _⟩

set_option maxRecDepth 100000 in
theorem kind_any (W : World) (op : Int) (hF : FormsAt W) (hz : 0 < W.heap.size) : Calls Tryd.prog 7 #[.int .i64 op] W fun e W' => e = .returned (.int .i64 (insKind op)) ∧ Below W.heap.size W W' := by
  rcases insKnown_cases op with ⟨k, rfl, hk, hb⟩ | ⟨hn, hb⟩
  · have e : insKind (k : Int) = insKinds.getD k 0 := by rw [insKind, if_pos ⟨by omega, by omega⟩]; rfl
    rw [e]
    have hkn := known1_any W k
    rw [hb] at hkn
    obtain ⟨x, hx⟩ : ∃ x, x = insKinds.getD k 0 := ⟨_, rfl⟩
    rw [← hx]
    have hc := fun w' hb => (hF.mono (w' := w') hz hb).kind hk
    rw [← hx] at hc
    have hFh := Lib.hid hc
    clear hF e hb hx hc
    go_enter Tryd.func7, Tryd.ntmps7
    go_wp2_with (go_at_call 30; refine hkn.mono ?_; rintro e w1 ⟨rfl, hb⟩; have hc := hFh.out w1 hb)
    go_ret
    exact ⟨rfl, ‹_›⟩
  · have e : insKind op = -1 := by rw [insKind, if_neg hn]
    rw [e]
    have hkn := known1_any W op
    rw [hb] at hkn
    clear hF hn hb e
    go_enter Tryd.func7, Tryd.ntmps7
    go_wp2_with (go_at_call 30; refine hkn.mono ?_; rintro e w1 ⟨rfl, hb⟩)
    go_ret
    exact ⟨rfl, ‹_›⟩

set_option maxRecDepth 100000 in
theorem name_any (W : World) (op : Int) (hF : FormsAt W) (hz : 0 < W.heap.size) : Calls Tryd.prog 9 #[.int .i64 op] W fun e W' => e = .returned (.string (insName op)) ∧ Below W.heap.size W W' := by
  rcases insKnown_cases op with ⟨k, rfl, hk, hb⟩ | ⟨hn, hb⟩
  · have e : insName (k : Int) = ⟨(insNms.getD k []).toArray⟩ := by rw [insName, if_pos ⟨by omega, by omega⟩]; rfl
    rw [e]
    have hkn := known1_any W k
    rw [hb] at hkn
    obtain ⟨x, hx⟩ : ∃ x : ByteArray, x = ⟨(insNms.getD k []).toArray⟩ := ⟨_, rfl⟩
    rw [← hx]
    have hc := fun w' hb => (hF.mono (w' := w') hz hb).name hk
    rw [← hx] at hc
    have hFh := Lib.hid hc
    clear hF e hb hx hc
    go_enter Tryd.func9, Tryd.ntmps9
    go_wp2_with (go_at_call 30; refine hkn.mono ?_; rintro e w1 ⟨rfl, hb⟩; have hc := hFh.out w1 hb)
    go_ret
    exact ⟨rfl, ‹_›⟩
  · have e : insName op = ⟨#[]⟩ := by rw [insName, if_neg hn]
    rw [e]
    have hkn := known1_any W op
    rw [hb] at hkn
    clear hF hn hb e
    go_enter Tryd.func9, Tryd.ntmps9
    go_wp2_with (go_at_call 30; refine hkn.mono ?_; rintro e w1 ⟨rfl, hb⟩)
    go_ret
    exact ⟨rfl, ‹_›⟩

theorem insCellsL_pair : ∀ (ns : List (List UInt8)) (ks : List Int) (i : Nat), i < ns.length → i < ks.length →
    ((insCellsL ns ks).drop (i * 2)).take 2 = [.string ⟨(ns.getD i []).toArray⟩, .int .i64 (ks.getD i 0)] := by
  intro ns
  induction ns with
  | nil => intro ks i h; simp at h
  | cons n ns ih =>
    intro ks i h h'
    cases ks with
    | nil => simp at h'
    | cons k ks =>
      cases i with
      | zero => rfl
      | succ i =>
        have e := ih ks i (by simpa using h) (by simpa using h')
        rw [show (i + 1) * 2 = i * 2 + 1 + 1 by omega]
        simp only [insCellsL, List.drop_succ_cons, e]
        simp

theorem findFrom_drop (s : ByteArray) (k : Nat) (h : k < 46) : findFrom s (insNms.drop k) k = if (⟨(insNms.getD k []).toArray⟩ : ByteArray) = s then (k : Int) else findFrom s (insNms.drop (k + 1)) (k + 1) := by
  have e : insNms.drop k = insNms.getD k [] :: insNms.drop (k + 1) := by
    have hl : k < insNms.length := h
    rw [List.drop_eq_getElem_cons hl]
    simp [hl]
  rw [e]
  rfl

theorem byteArray_toList_inj {a b : ByteArray} (h : a.toList = b.toList) : a = b := by
  rw [Lib.toList_data, Lib.toList_data] at h
  cases a; cases b
  simpa using Array.toList_inj.1 h

set_option maxRecDepth 100000 in
set_option maxHeartbeats 1000000 in
theorem find1_any (W : World) (s : ByteArray) (hF : FormsAt W) (hz : 0 < W.heap.size) : Calls Tryd.prog 11 #[.string s] W fun e W' => e = .returned (.int .i64 (insFind s)) ∧ Below W.heap.size W W' := by
  have hSz : (Tryd.prog.info? 51).map (·.size) = some insCells.length := by kernel_rfl
  have hB0 := Below.refl W.heap.size W
  go_enter Tryd.func11, Tryd.ntmps11
  go_wp2_with fail
  refine wp_load_mid 51 _ rfl 0 0 rfl insCells _ hF Tryd.underlying51 rfl hSz ?_
  clear hF hSz
  go_wp2
  go_loopw [6] (fun i wr => ∃ k : Nat, k ≤ 46 ∧ i = .int .i64 k ∧ findFrom s (insNms.drop k) k = insFind s ∧ Below W.heap.size W wr) (fun i _ => 46 - (intOf i).toNat)
  case atStart => exact ⟨0, by omega, rfl, rfl, hB0⟩
  case round =>
    obtain ⟨k, hk, rfl, hf, hB⟩ := hrel
    by_cases hlt : k < 46
    · rw [findFrom_drop s k hlt] at hf
      have hX := insCellsL_pair insNms insKinds k hlt hlt
      obtain ⟨nm, hnm⟩ : ∃ x : ByteArray, x = ⟨(insNms.getD k []).toArray⟩ := ⟨_, rfl⟩
      rw [← hnm] at hX hf
      obtain ⟨kd, hkd⟩ : ∃ x, x = insKinds.getD k 0 := ⟨_, rfl⟩
      rw [← hkd] at hX
      clear hnm hkd
      have hI : ∀ w, (Instr.index 51 (.agg insCells.toArray) (.int .i64 (k : Int))).run Tryd.prog w = .ok (.agg #[.string nm, .int .i64 kd]) w := fun w => by
        change List.take 2 (List.drop (k * 2) insCells) = _ at hX
        simp [Instr.index, run_underlying Tryd.underlying51, asIntOf, go_sem, hlt, hX]
      clear hX
      by_cases he : nm = s
      · rw [if_pos he] at hf
        have hb : (nm.toList == s.toList) = true := by rw [he]; exact beq_self_eq_true _
        have hf' := Lib.hid hf
        clear hf
        go_wp2
        go_ret
        exact ⟨by rw [← hf'.out]; rfl, hB.alloc (by have := hB.size; omega) _⟩
      · rw [if_neg he] at hf
        have hb : (nm.toList == s.toList) = false := beq_eq_false_iff_ne.2 (fun e => he (byteArray_toList_inj e))
        have hf' := Lib.hid hf
        clear hf
        go_wp2
        go_roundw
        case rel => exact ⟨k + 1, by omega, by simp, hf'.out, hB.alloc (by have := hB.size; omega) _⟩
        case measure => simp [intOf]; omega
    · obtain rfl : k = 46 := by omega
      have hf' := Lib.hid hf
      clear hf
      go_wp2
      go_ret
      exact ⟨by rw [← hf'.out]; rfl, hB⟩
end Go.Proofs.YtmlcififmjpcpaaDoor
