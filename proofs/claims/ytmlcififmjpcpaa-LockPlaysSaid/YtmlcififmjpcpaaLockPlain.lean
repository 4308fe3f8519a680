/-
  Plain laws on lists of holds: what Enter and Exit do at one place, the others being elsewhere.
-/
import Derived.Test.YtmlcififmjpcpaaLockG
namespace Go.Proofs.Ytmlcififmjpcpaa
open Go.RowKit

def Clear (hs : List Hold) (a : Int) : Prop := ∀ h ∈ hs, h.a ≠ a

theorem idx_clear {hs : List Hold} {a : Int} (h : Clear hs a) : idx hs a = none := by
  rw [idx, List.findIdx?_eq_none_iff]
  intro x hx
  simpa using h x hx
theorem idx_last {hs : List Hold} {a who n : Int} (h : Clear hs a) : idx (hs ++ [⟨a, who, n⟩]) a = some hs.length := by
  rw [idx, List.findIdx?_eq_some_iff_getElem]
  refine ⟨by simp, by simp, fun j hj => ?_⟩
  rw [List.getElem_append_left hj]
  simpa using h _ (List.getElem_mem _)
theorem getD_last (hs : List Hold) (x : Hold) : (hs ++ [x]).getD hs.length Hold.zero = x := by simp

theorem enter_clear {hs : List Hold} {a p who : Int} (h : Clear hs a) (hp : p ≠ a) : Clear (enterL hs p who).2 a ∧ (enterL hs p who).2.length ≤ hs.length + 1 := by
  unfold enterL
  split
  · exact ⟨h, by simp⟩
  · split
    · refine ⟨fun x hx => ?_, by simp⟩
      rcases List.mem_append.1 hx with hx | hx
      · exact h x hx
      · simp at hx; rw [hx]; exact hp
    · split
      · refine ⟨fun x hx => ?_, by simp⟩
        rcases List.mem_or_eq_of_mem_set hx with hx | hx
        · exact h x hx
        · rw [hx]; exact hp
      · exact ⟨h, by simp⟩
theorem exit_clear {hs : List Hold} {a p who : Int} (h : Clear hs a) : Clear (exitL hs p who).2 a ∧ (exitL hs p who).2.length ≤ hs.length := by
  unfold exitL
  split
  · exact ⟨h, by simp⟩
  · rename_i i hi
    obtain ⟨hil, hia⟩ := idx_lt hi
    have hpa : p ≠ a := by
      rw [← hia]
      have : hs.getD i Hold.zero ∈ hs := by rw [List.getD_eq_getElem?_getD, List.getElem?_eq_getElem hil]; simp
      exact h _ this
    split
    · split
      · refine ⟨fun x hx => ?_, by simp; omega⟩
        rcases List.mem_append.1 hx with hx | hx
        · exact h x (List.mem_of_mem_take hx)
        · exact h x (List.mem_of_mem_drop hx)
      · refine ⟨fun x hx => ?_, by simp⟩
        rcases List.mem_or_eq_of_mem_set hx with hx | hx
        · exact h x hx
        · rw [hx]; exact hpa
    · exact ⟨h, by simp⟩

/-- Held j times. -/
def st (hs : List Hold) (a who : Int) (j : Nat) : List Hold := if j = 0 then hs else hs ++ [⟨a, who, (j : Int)⟩]
theorem st_length (hs : List Hold) (a who : Int) (j : Nat) : (st hs a who j).length ≤ hs.length + 1 := by unfold st; split <;> simp
theorem wrap_small {n : Int} (h0 : 0 ≤ n) (h1 : n < 100) : wrap64 n = n := by unfold wrap64; omega

theorem enter_own {hs : List Hold} {a who : Int} {j : Nat} (h : Clear hs a) (ha : 1 ≤ a) (hj : j < 90) : enterL (st hs a who j) a who = (0, st hs a who (j + 1)) := by
  unfold enterL
  rw [if_neg (by omega)]
  cases j with
  | zero => simp [st, idx_clear h]
  | succ j =>
    have e1 : st hs a who (j + 1) = hs ++ [⟨a, who, ((j + 1 : Nat) : Int)⟩] := by simp [st]
    have e2 : st hs a who (j + 1 + 1) = hs ++ [⟨a, who, ((j + 1 + 1 : Nat) : Int)⟩] := by simp [st]
    rw [e1, e2, idx_last h]
    dsimp only
    rw [getD_last, if_pos rfl]
    have e3 : wrap64 (((j + 1 : Nat) : Int) + 1) = ((j + 1 + 1 : Nat) : Int) := by rw [wrap_small (by omega) (by omega)]; omega
    dsimp only
    rw [e3]
    simp
theorem enter_other {hs : List Hold} {a who other : Int} {j : Nat} (h : Clear hs a) (ha : 1 ≤ a) (ho : who ≠ other) (hj : 1 ≤ j) : enterL (st hs a who j) a other = (29, st hs a who j) := by
  unfold enterL
  rw [if_neg (by omega)]
  have e1 : st hs a who j = hs ++ [⟨a, who, (j : Int)⟩] := by simp [st]; omega
  rw [e1, idx_last h]
  dsimp only
  rw [getD_last, if_neg (by simpa using ho)]
theorem exit_other {hs : List Hold} {a who other : Int} {j : Nat} (h : Clear hs a) (ho : who ≠ other) (hj : 1 ≤ j) : exitL (st hs a who j) a other = (28, st hs a who j) := by
  unfold exitL
  have e1 : st hs a who j = hs ++ [⟨a, who, (j : Int)⟩] := by simp [st]; omega
  rw [e1, idx_last h]
  dsimp only
  rw [getD_last, if_neg (by simpa using ho)]
theorem exit_own {hs : List Hold} {a who : Int} {j : Nat} (h : Clear hs a) (hj : j < 90) : exitL (st hs a who (j + 1)) a who = (0, st hs a who j) := by
  unfold exitL
  have e1 : st hs a who (j + 1) = hs ++ [⟨a, who, ((j + 1 : Nat) : Int)⟩] := by simp [st]
  rw [e1, idx_last h]
  dsimp only
  rw [getD_last, if_pos rfl]
  dsimp only
  have e3 : wrap64 (((j + 1 : Nat) : Int) - 1) = (j : Int) := by rw [wrap_small (by omega) (by omega)]; omega
  rw [e3]
  cases j with
  | zero => simp [st]
  | succ j => rw [if_neg (by omega)]; simp [st]
theorem exit_none {hs : List Hold} {a who : Int} (h : Clear hs a) : exitL hs a who = (28, hs) := by
  unfold exitL
  rw [idx_clear h]
theorem enter_none {hs : List Hold} {a who : Int} (h : Clear hs a) (ha : 1 ≤ a) : enterL hs a who = (0, hs ++ [⟨a, who, 1⟩]) := by
  unfold enterL
  rw [if_neg (by omega), idx_clear h]
theorem enter_low {hs : List Hold} {a who : Int} (ha : a < 1) : enterL hs a who = (2, hs) := by
  unfold enterL
  rw [if_pos ha]
theorem enter_not2 {hs : List Hold} {a who : Int} (ha : 1 ≤ a) : (enterL hs a who).1 ≠ 2 := by
  unfold enterL
  rw [if_neg (by omega)]
  split
  · simp
  · split <;> simp
theorem tmod_bd (n : Int) (m : Int) (hm : 0 < m) : -m < n.tmod m ∧ n.tmod m < m := by
  rcases Int.le_total 0 n with h | h
  · rw [Int.tmod_eq_emod_of_nonneg h]
    have := Int.emod_nonneg n (show m ≠ 0 by omega)
    have := Int.emod_lt_of_pos n hm
    omega
  · have e : n.tmod m = -((-n).tmod m) := by rw [Int.neg_tmod, Int.neg_neg]
    rw [e, Int.tmod_eq_emod_of_nonneg (by omega)]
    have := Int.emod_nonneg (-n) (show m ≠ 0 by omega)
    have := Int.emod_lt_of_pos (-n) hm
    omega
theorem tmod_nn (n : Int) (m : Int) (hn : 0 ≤ n) (hm : 0 < m) : 0 ≤ n.tmod m ∧ n.tmod m < m := by
  rw [Int.tmod_eq_emod_of_nonneg hn]
  exact ⟨Int.emod_nonneg n (by omega), Int.emod_lt_of_pos n hm⟩
/-- How often, as the law reckons it. -/
theorem pick5 (n : Int) : ∃ q : Nat, wrap64 (1 + (wrap64 (n.tmod 5 + 5)).tmod 5) = (q : Int) ∧ 1 ≤ q ∧ q ≤ 5 := by
  have e1 := tmod_bd n 5 (by omega)
  have e2 : wrap64 (n.tmod 5 + 5) = n.tmod 5 + 5 := by unfold wrap64; omega
  rw [e2]
  have e3 := tmod_nn (n.tmod 5 + 5) 5 (by omega) (by omega)
  have e4 : wrap64 (1 + (n.tmod 5 + 5).tmod 5) = 1 + (n.tmod 5 + 5).tmod 5 := by unfold wrap64; omega
  rw [e4]
  exact ⟨(1 + (n.tmod 5 + 5).tmod 5).toNat, by omega, by omega, by omega⟩
end Go.Proofs.Ytmlcififmjpcpaa
