/-
  Plain laws: what is entered and left splits a list of holds; threads that have places of their own.
-/
import Derived.Test.YtmlcififmjpcpaaLockH
import Derived.Test.YtmlcififmjpcpaaLockPlain
namespace Go.Proofs.Ytmlcififmjpcpaa
open Go.RowKit
set_option linter.unusedVariables false

theorem clear_or_split (hs : List Hold) (a : Int) : Clear hs a ∨ ∃ l1 h l2, hs = l1 ++ h :: l2 ∧ Clear l1 a ∧ h.a = a := by
  induction hs with
  | nil => exact .inl (fun h hh => by simp at hh)
  | cons x r ih =>
    by_cases hx : x.a = a
    · exact .inr ⟨[], x, r, rfl, fun h hh => by simp at hh, hx⟩
    · rcases ih with h | ⟨l1, h, l2, e, hc, hh⟩
      · exact .inl (fun y hy => by rcases List.mem_cons.1 hy with rfl | hy; exact hx; exact h y hy)
      · exact .inr ⟨x :: l1, h, l2, by rw [e]; rfl, fun y hy => by rcases List.mem_cons.1 hy with rfl | hy; exact hx; exact hc y hy, hh⟩
theorem idx_split {l1 l2 : List Hold} {h : Hold} {a : Int} (hc : Clear l1 a) (hh : h.a = a) : idx (l1 ++ h :: l2) a = some l1.length := by
  rw [idx, List.findIdx?_eq_some_iff_getElem]
  refine ⟨by simp, by simp [hh], fun j hj => ?_⟩
  rw [List.getElem_append_left hj]
  simpa using hc _ (List.getElem_mem _)
theorem getD_split (l1 l2 : List Hold) (h : Hold) : (l1 ++ h :: l2).getD l1.length Hold.zero = h := by simp
theorem enter_split {l1 l2 : List Hold} {h : Hold} {a who : Int} (ha : 1 ≤ a) (hc : Clear l1 a) (hh : h.a = a) : enterL (l1 ++ h :: l2) a who = if h.who = who then (0, l1 ++ ⟨a, who, wrap64 (h.n + 1)⟩ :: l2) else (29, l1 ++ h :: l2) := by
  unfold enterL
  rw [if_neg (by omega), idx_split hc hh]
  dsimp only
  rw [getD_split]
  split <;> simp
theorem exit_split {l1 l2 : List Hold} {h : Hold} {a who : Int} (hc : Clear l1 a) (hh : h.a = a) : exitL (l1 ++ h :: l2) a who = if h.who = who then (if wrap64 (h.n - 1) = 0 then (0, l1 ++ l2) else (0, l1 ++ ⟨a, who, wrap64 (h.n - 1)⟩ :: l2)) else (28, l1 ++ h :: l2) := by
  unfold exitL
  rw [idx_split hc hh]
  dsimp only
  rw [getD_split]
  have e : (l1 ++ h :: l2).take l1.length ++ (l1 ++ h :: l2).drop (l1.length + 1) = l1 ++ l2 := by simp
  rw [e]
  split
  · split <;> simp
  · rfl

/-- Each thread has places of its own. -/
def Own8 (hs : List Hold) : Prop := ∀ h ∈ hs, h.a % 8 = h.who
theorem filt_append (a b : List Hold) (w : Int) : filt (a ++ b) w = filt a w ++ filt b w := List.filter_append _ _
theorem filt_cons_in {h : Hold} {l : List Hold} {w : Int} (hw : h.who ≠ w) : filt (h :: l) w = h :: filt l w := by simp [filt, hw]
theorem filt_cons_out {h : Hold} {l : List Hold} {w : Int} (hw : h.who = w) : filt (h :: l) w = filt l w := by simp [filt, hw]
theorem clear_filt {hs : List Hold} {a w : Int} (h : Clear hs a) : Clear (filt hs w) a := fun x hx => h x (List.mem_filter.1 hx).1

theorem enter8 {hs : List Hold} {a q : Int} (h8 : Own8 hs) (ha : 1 ≤ a) (hq : a % 8 = q) : Own8 (enterL hs a q).2 ∧ (enterL hs a q).2.length ≤ hs.length + 1 ∧
    (∀ w, q ≠ w → filt (enterL hs a q).2 w = (enterL (filt hs w) a q).2) ∧ filt (enterL hs a q).2 q = filt hs q := by
  rcases clear_or_split hs a with hc | ⟨l1, h, l2, rfl, hc, hh⟩
  · rw [enter_none hc ha]
    refine ⟨fun x hx => ?_, by simp, fun w hw => ?_, ?_⟩
    · rcases List.mem_append.1 hx with hx | hx
      · exact h8 x hx
      · simp at hx; rw [hx]; exact hq
    · rw [enter_none (clear_filt hc) ha, filt_append, filt_cons_in hw]; rfl
    · rw [filt_append, filt_cons_out rfl]; simp [filt]
  · have hw : h.who = q := by rw [← h8 h (by simp), hh, hq]
    rw [enter_split ha hc hh, if_pos hw]
    refine ⟨fun x hx => ?_, by simp, fun w hqw => ?_, ?_⟩
    · rcases List.mem_append.1 hx with hx | hx
      · exact h8 x (by simp [hx])
      · rcases List.mem_cons.1 hx with rfl | hx
        · exact hq
        · exact h8 x (by simp [hx])
    · rw [filt_append, filt_append, filt_cons_in hqw, filt_cons_in (by rw [hw]; exact hqw), enter_split ha (clear_filt hc) hh, if_pos hw]
    · rw [filt_append, filt_append, filt_cons_out rfl, filt_cons_out hw]
theorem exit8 {hs : List Hold} {a q : Int} (h8 : Own8 hs) (hq : a % 8 = q) : Own8 (exitL hs a q).2 ∧ (exitL hs a q).2.length ≤ hs.length + 1 ∧
    (∀ w, q ≠ w → filt (exitL hs a q).2 w = (exitL (filt hs w) a q).2) ∧ filt (exitL hs a q).2 q = filt hs q := by
  rcases clear_or_split hs a with hc | ⟨l1, h, l2, rfl, hc, hh⟩
  · rw [exit_none hc]
    exact ⟨h8, by simp, fun w hw => by rw [exit_none (clear_filt hc)], rfl⟩
  · have hw : h.who = q := by rw [← h8 h (by simp), hh, hq]
    rw [exit_split hc hh, if_pos hw]
    by_cases hz : wrap64 (h.n - 1) = 0
    · rw [if_pos hz]
      refine ⟨fun x hx => ?_, by simp; omega, fun w hqw => ?_, ?_⟩
      · rcases List.mem_append.1 hx with hx | hx
        · exact h8 x (by simp [hx])
        · exact h8 x (by simp [hx])
      · rw [filt_append, filt_append, filt_cons_in (by rw [hw]; exact hqw), exit_split (clear_filt hc) hh, if_pos hw, if_pos hz]
      · rw [filt_append, filt_append, filt_cons_out hw]
    · rw [if_neg hz]
      refine ⟨fun x hx => ?_, by simp, fun w hqw => ?_, ?_⟩
      · rcases List.mem_append.1 hx with hx | hx
        · exact h8 x (by simp [hx])
        · rcases List.mem_cons.1 hx with rfl | hx
          · exact hq
          · exact h8 x (by simp [hx])
      · rw [filt_append, filt_append, filt_cons_in hqw, filt_cons_in (by rw [hw]; exact hqw), exit_split (clear_filt hc) hh, if_pos hw, if_neg hz]
      · rw [filt_append, filt_append, filt_cons_out rfl, filt_cons_out hw]

theorem pick8 (n : Int) : ∃ q : Nat, (wrap64 (n.tmod 8 + 8)).tmod 8 = (q : Int) ∧ q < 8 := by
  have e1 := tmod_bd n 8 (by omega)
  have e2 : wrap64 (n.tmod 8 + 8) = n.tmod 8 + 8 := by unfold wrap64; omega
  rw [e2]
  have e3 := tmod_nn (n.tmod 8 + 8) 8 (by omega) (by omega)
  exact ⟨((n.tmod 8 + 8).tmod 8).toNat, by omega, by omega⟩
theorem mod_place {x : Int} {q : Nat} (h0 : 0 ≤ x) (hq : q < 8) : (x * 8 + (q : Int)) % 8 = q := by omega
end Go.Proofs.Ytmlcififmjpcpaa
