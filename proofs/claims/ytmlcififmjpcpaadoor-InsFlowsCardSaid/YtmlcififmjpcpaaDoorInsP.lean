/-
  Plain laws on code as bytes: what was put is got back, or its numbers are too great.
-/
import Derived.Test.YtmlcififmjpcpaaDoorInsN
namespace Go.Proofs.YtmlcififmjpcpaaDoor
open Go.RowKit
set_option linter.unusedVariables false
set_option linter.unusedSimpArgs false

theorem codeFrom_len (bs : List UInt8) : ∀ (m : Nat) (at_ : Int) (acc : List InsD), (codeFrom bs m at_ acc).1.length ≤ acc.length + m := by
  intro m
  induction m with
  | zero => intro at_ acc; simp [codeFrom]
  | succ m ih =>
    intro at_ acc
    rw [codeFrom]
    split
    · simp
    · split
      · refine Nat.le_trans (ih _ _) ?_
        rw [List.length_append, List.length_singleton]; omega
      · split
        · simp
        · refine Nat.le_trans (ih _ _) ?_
          rw [List.length_append, List.length_singleton]; omega
theorem getCode_len (bs : List UInt8) (at_ : Int) : (getCode bs at_).1.length ≤ 1000 := by
  rw [getCode]
  split
  · simp
  · have h1 := codeFrom_len bs (numL bs at_ 512 6).1.toNat (numL bs at_ 512 6).2.1 []
    have h2 := numL_range bs at_ 512 6 (by decide)
    have h3 := h2.1
    have h4 := h2.2.1
    generalize (numL bs at_ 512 6).1 = x at h1 h3 h4 ⊢
    rw [List.length_nil] at h1
    omega

theorem putFrom_some : ∀ (code : List InsD) (b r : List UInt8), putFrom b code = some r → r = b ++ code.flatMap insBytes ∧ ∀ x ∈ code, insBad x = false
  | [], b, r, h => by simp [putFrom] at h; simp [h]
  | x :: t, b, r, h => by
    rw [putFrom] at h
    by_cases hx : insBad x = true
    · rw [if_pos hx] at h; cases h
    · rw [if_neg hx] at h
      obtain ⟨h1, h2⟩ := putFrom_some t _ r h
      refine ⟨by rw [h1, List.flatMap_cons, List.append_assoc], fun y hy => ?_⟩
      rcases List.mem_cons.1 hy with rfl | hy
      · simpa using hx
      · exact h2 y hy

theorem insBad_false {x : InsD} (h : insBad x = false) : 0 ≤ x.op ∧ x.op ≤ 45 ∧ 0 ≤ x.a ∧ (insKind x.op = 0 → x.a = 0) := by
  simp only [insBad, Bool.or_eq_false_iff, decide_eq_false_iff_not, Bool.and_eq_false_iff] at h
  obtain ⟨⟨h1, h2⟩, h3⟩ := h
  have hk : 0 ≤ x.op ∧ x.op < 46 := by
    by_cases h : 0 ≤ x.op ∧ x.op < 46
    · exact h
    · rw [insKind, if_neg h] at h1; omega
  refine ⟨hk.1, by omega, by omega, fun h0 => ?_⟩
  rcases h3 with h3 | h3
  · exact absurd h0 h3
  · omega

theorem codeFrom_back : ∀ (code : List InsD) (pre post : List UInt8) (acc : List InsD), (∀ x ∈ code, insBad x = false ∧ goodIns x) →
    codeFrom (pre ++ code.flatMap insBytes ++ post) code.length (pre.length : Int) acc = (acc ++ code, ((pre ++ code.flatMap insBytes).length : Int), 0) ∨ codeFrom (pre ++ code.flatMap insBytes ++ post) code.length (pre.length : Int) acc = ([], 0, 12)
  | [], pre, post, acc, _ => by left; simp [codeFrom]
  | x :: t, pre, post, acc, h => by
    obtain ⟨hx, hgx⟩ := h x (by simp)
    obtain ⟨h0, h1, h2, h3⟩ := insBad_false hx
    have ht := fun y hy => h y (List.mem_cons_of_mem _ hy)
    rw [List.length_cons, codeFrom]
    by_cases hk : insKind x.op = 0
    · have hb : insBytes x = vput (zz x.op) := by rw [insBytes, if_pos hk, List.append_nil]
      have hg := get_put pre x.op (t.flatMap insBytes ++ post) hgx.1.1 hgx.1.2
      have e : pre ++ (x :: t).flatMap insBytes ++ post = pre ++ vput (zz x.op) ++ (t.flatMap insBytes ++ post) := by rw [List.flatMap_cons, hb]; simp [List.append_assoc]
      have e2 : pre ++ (x :: t).flatMap insBytes ++ post = (pre ++ vput (zz x.op)) ++ t.flatMap insBytes ++ post := by rw [e]; simp [List.append_assoc]
      rw [← e] at hg
      rw [numL_ok hg rfl (by omega), if_neg (by simp)]
      dsimp only
      rw [if_pos hk]
      have ih := codeFrom_back t (pre ++ vput (zz x.op)) post (acc ++ [⟨x.op, 0⟩]) ht
      rw [← e2] at ih
      have hx0 : (⟨x.op, 0⟩ : InsD) = x := by
        have := h3 hk
        cases x; simp_all
      rw [hx0] at ih ⊢
      rcases ih with ih | ih
      · left
        rw [ih, List.flatMap_cons, hb]
        simp [List.append_assoc]
      · right; exact ih
    · have hb : insBytes x = vput (zz x.op) ++ vput (zz x.a) := by rw [insBytes, if_neg hk]
      have hg := get_put pre x.op (vput (zz x.a) ++ (t.flatMap insBytes ++ post)) hgx.1.1 hgx.1.2
      have hg2 := get_put (pre ++ vput (zz x.op)) x.a (t.flatMap insBytes ++ post) hgx.2.1 hgx.2.2
      have e : pre ++ (x :: t).flatMap insBytes ++ post = pre ++ vput (zz x.op) ++ (vput (zz x.a) ++ (t.flatMap insBytes ++ post)) := by rw [List.flatMap_cons, hb]; simp [List.append_assoc]
      have e1 : pre ++ (x :: t).flatMap insBytes ++ post = pre ++ vput (zz x.op) ++ vput (zz x.a) ++ (t.flatMap insBytes ++ post) := by rw [e]; simp [List.append_assoc]
      have e2 : pre ++ (x :: t).flatMap insBytes ++ post = (pre ++ vput (zz x.op) ++ vput (zz x.a)) ++ t.flatMap insBytes ++ post := by rw [e]; simp [List.append_assoc]
      rw [← e] at hg
      rw [← e1] at hg2
      rw [numL_ok hg rfl (by omega), if_neg (by simp)]
      dsimp only
      rw [if_neg hk]
      by_cases ha : 65535 < x.a
      · right
        rw [numL_bad hg2 rfl (.inr ha), if_pos (by decide)]
      · rw [numL_ok hg2 rfl (by omega), if_neg (by simp)]
        dsimp only
        have ih := codeFrom_back t (pre ++ vput (zz x.op) ++ vput (zz x.a)) post (acc ++ [⟨x.op, x.a⟩]) ht
        rw [← e2] at ih
        rcases ih with ih | ih
        · left
          rw [ih, List.flatMap_cons, hb]
          simp [List.append_assoc]
        · right; exact ih

/-- What was put is got: the same code, or an 'A' that is too great. -/
theorem code_back (bs r : List UInt8) (code : List InsD) (hg : ∀ x ∈ code, goodIns x) (h : putL bs code = (r, 0)) :
    getCode r (bs.length : Int) = (code, (r.length : Int), 0) ∨ getCode r (bs.length : Int) = ([], 0, 12) := by
  rw [putL] at h
  by_cases h512 : code.length > 512
  · rw [if_pos h512] at h; cases h
  · rw [if_neg h512] at h
    cases hp : putFrom (bs ++ vput (zz code.length)) code with
    | none => rw [hp] at h; cases h
    | some r2 =>
      rw [hp] at h
      cases h
      obtain ⟨e, hb⟩ := putFrom_some code _ _ hp
      have hgp := get_put bs (code.length : Int) (code.flatMap insBytes) (by omega) (by omega)
      rw [← e] at hgp
      rw [getCode, numL_ok hgp rfl (by omega), if_neg (by simp)]
      dsimp only
      rw [Int.toNat_natCast]
      have := codeFrom_back code (bs ++ vput (zz code.length)) [] [] (fun x hx => ⟨hb x hx, hg x hx⟩)
      rw [List.append_nil, ← e, List.nil_append] at this
      exact this
theorem putL_len (bs : List UInt8) (code : List InsD) (hg : ∀ x ∈ code, goodIns x) : (putL bs code).1.length ≤ bs.length + 11000 := by
  rw [putL]
  split
  · simp
  · split
    · simp
    · rename_i r hp
      obtain ⟨e, _⟩ := putFrom_some code _ _ hp
      have h10 := bin64 code.length (by omega)
      have hl : ∀ l : List InsD, (∀ x ∈ l, goodIns x) → (l.flatMap insBytes).length ≤ l.length * 20 := by
        intro l
        induction l with
        | nil => intro _; simp
        | cons x t ih =>
          intro h
          have h1 := insBytes_len (h x (by simp))
          have h2 := ih (fun y hy => h y (List.mem_cons_of_mem _ hy))
          rw [List.flatMap_cons, List.length_append, List.length_cons]
          omega
      have := hl code hg
      dsimp only
      rw [e, List.length_append, List.length_append]
      omega
end Go.Proofs.YtmlcififmjpcpaaDoor
