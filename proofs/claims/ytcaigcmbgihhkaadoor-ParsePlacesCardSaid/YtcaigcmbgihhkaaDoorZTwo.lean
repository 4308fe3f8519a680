/-
  Part of a proof: LexTwoP, LexIsW.
-/
import Derived.Test.YtcaigcmbgihhkaaDoorZRef
namespace Go.Proofs.YtcaigcmbgihhkaaDoor
open Go Go.RowKit
set_option linter.unusedVariables false
set_option linter.unusedSimpArgs false
def Lx (S : Nat) (l : Bs) (acc : List WordD) : List WordD × Int × Int := lexFrom S (l.length + 1) l acc
theorem Lx_eq (S : Nat) (l : Bs) (acc : List WordD) : Lx S l acc = if l = [] then (acc, 0, 0) else match wordL l with
    | none => ([], ((S - l.length : Nat) : Int), 18)
    | some (k, t, v, n) => Lx S (skipL (l.drop n)) (acc ++ [⟨k, t, v, ((S - l.length : Nat) : Int)⟩]) := by
  rw [Lx, lexFrom]
  by_cases h : l = []
  · rw [if_pos h, if_pos h]
  · rw [if_neg h, if_neg h]
    cases hw : wordL l with
    | none => rfl
    | some x =>
      obtain ⟨k, t, v, n⟩ := x
      obtain ⟨h1, h2, _⟩ := wordL_n hw
      have h3 := skipL_len (l.drop n)
      rw [List.length_drop] at h3
      exact lexFrom_more S _ _ _ _ (by omega) (by omega)
theorem lexL_Lx (src : Bs) (h : src.length ≤ 16384) : lexL src = Lx src.length (skipL src) [] := by
  have := skipL_len src
  rw [lexL, if_neg (by omega), Lx]
  exact lexFrom_more _ _ _ _ _ (by omega) (by omega)
def strip (x : WordD) : Int × Bs × Int := (x.kind, x.text, x.n)
theorem lexFrom_at (size : Nat) : ∀ (m : Nat) (l : Bs) (acc : List WordD), 0 ≤ (lexFrom size m l acc).2.1 ∧ (lexFrom size m l acc).2.1 ≤ size
  | 0, l, acc => by simp [lexFrom]
  | m + 1, l, acc => by
    rw [lexFrom]
    split
    · simp
    · split
      · simp only; omega
      · exact lexFrom_at size m _ _
end Go.Proofs.YtcaigcmbgihhkaaDoor
namespace Go.Proofs.YtcaigcmbgihhkaaDoor
open Go Go.RowKit
set_option linter.unusedVariables false
set_option linter.unusedSimpArgs false
def okc (c : UInt8) : Prop := (32 ≤ c.toNat ∧ c.toNat ≤ 126) ∨ c = 10 ∨ c = 9
theorem escL_ok {c e : UInt8} (h : escL c = some e) : okc e := by
  unfold escL at h
  repeat' split at h
  · cases h; exact .inr (.inl rfl)
  · cases h; exact .inr (.inr rfl)
  · rename_i h1
    cases h
    rcases h1 with rfl | rfl
    · exact .inl (by decide)
    · exact .inl (by decide)
  · cases h
theorem textL_ok : ∀ (l acc : Bs) (n : Nat) (t : Bs) (m : Nat), textL l acc n = some (t, m) → (∀ c ∈ acc, okc c) → (∀ c ∈ t, okc c) ∧ t.length ≤ 64
  | [], acc, n, t, m, h, _ => by simp [textL] at h
  | c :: r, acc, n, t, m, h, ha => by
    rw [textL.eq_def] at h
    simp only at h
    split at h
    · split at h
      · rename_i hl
        simp only [Option.some.injEq, Prod.mk.injEq] at h
        obtain ⟨rfl, _⟩ := h
        exact ⟨ha, hl⟩
      · cases h
    · split at h
      · cases h
      · rename_i h2
        split at h
        · cases r with
          | nil => cases h
          | cons d r2 =>
            simp only at h
            split at h
            · cases h
            · rename_i e he
              refine textL_ok r2 _ _ _ _ h (fun x hx => ?_)
              rcases List.mem_append.1 hx with hx | hx
              · exact ha x hx
              · simp at hx; subst hx; exact escL_ok he
        · refine textL_ok r _ _ _ _ h (fun x hx => ?_)
          rcases List.mem_append.1 hx with hx | hx
          · exact ha x hx
          · simp at hx; subst hx; exact .inl (by omega)
def IsW (x : WordD) : Prop := ∃ l n, l.length ≤ 16384 ∧ wordL l = some (x.kind, x.text, x.n, n)
theorem Lx_isW (S : Nat) : ∀ (m : Nat) (l : Bs) (acc : List WordD), l.length ≤ 16384 → (∀ x ∈ acc, IsW x) → ∀ x ∈ (lexFrom S m l acc).1, IsW x
  | 0, l, acc, _, ha => ha
  | m + 1, l, acc, hl, ha => by
    rw [lexFrom]
    split
    · exact ha
    · split
      · simp
      · rename_i k t v n hw
        have h3 := skipL_len (l.drop n)
        rw [List.length_drop] at h3
        exact Lx_isW S m _ _ (by omega) (fun x hx => by
          rcases List.mem_append.1 hx with hx | hx
          · exact ha x hx
          · simp at hx; subst hx; exact ⟨l, n, hl, hw⟩)
theorem lexL_isW (src : Bs) : ∀ x ∈ (lexL src).1, IsW x := by
  unfold lexL
  split
  · simp
  · exact Lx_isW _ _ _ _ (by have := skipL_len src; omega) (by simp)
theorem wordL_text {l : Bs} {k : Int} {t : Bs} {v : Int} {n : Nat} (h : wordL l = some (k, t, v, n)) : t.length ≤ l.length + 64 := by
  cases l with
  | nil => simp [wordL] at h
  | cons c r =>
    rw [wordL.eq_def] at h
    simp only at h
    split at h
    · split at h
      · cases h
      · rename_i t' n' ht
        simp only [Option.some.injEq, Prod.mk.injEq] at h
        obtain ⟨rfl, rfl, rfl, rfl⟩ := h
        have := (textL_ok _ _ _ _ _ ht (by simp)).2
        omega
    · split at h
      · have hle : ((c :: r).takeWhile partB).length ≤ (c :: r).length := (List.takeWhile_prefix _).length_le
        rw [plainL] at h
        split at h
        · split at h
          · cases h
          · simp only [Option.some.injEq, Prod.mk.injEq] at h
            rw [← h.2.1]; omega
        · split at h
          · split at h
            · simp only [Option.some.injEq, Prod.mk.injEq] at h
              rw [← h.2.1]; omega
            · simp only [Option.some.injEq, Prod.mk.injEq] at h
              rw [← h.2.1]; omega
          · cases h
      · rw [signL.eq_def] at h
        simp only at h
        split at h
        · rename_i d hd
          simp only [Option.some.injEq, Prod.mk.injEq] at h
          have hm := List.mem_of_find?_eq_some hd
          have h2 : d.length = 2 := by
            have : ∀ x ∈ doublesL, x.length = 2 := by decide
            exact this d hm
          rw [← h.2.1]; omega
        · split at h
          · simp only [Option.some.injEq, Prod.mk.injEq] at h
            rw [← h.2.1]; simp
          · cases h
theorem IsW.text {x : WordD} (h : IsW x) : x.text.length ≤ 20000 := by
  obtain ⟨l, n, hl, hw⟩ := h
  have := wordL_text hw
  omega
theorem lexFrom_len (size : Nat) : ∀ (m : Nat) (l : Bs) (acc : List WordD), (lexFrom size m l acc).1.length ≤ acc.length + l.length
  | 0, l, acc => by simp [lexFrom]
  | m + 1, l, acc => by
    rw [lexFrom]
    split
    · simp
    · split
      · simp
      · rename_i k t v n hw
        obtain ⟨h1, h2, _⟩ := wordL_n hw
        have h3 := skipL_len (l.drop n)
        have h4 := lexFrom_len size m (skipL (l.drop n)) (acc ++ [⟨k, t, v, ((size - l.length : Nat) : Int)⟩])
        rw [List.length_drop] at h3
        simp only [List.length_append, List.length_singleton] at h4
        omega
theorem lexL_len (l : Bs) : (lexL l).1.length ≤ 16384 := by
  unfold lexL
  split
  · simp
  · have h1 := lexFrom_len l.length (l.length + 1) (skipL l) []
    have h2 := skipL_len l
    simp only [List.length_nil] at h1
    omega
end Go.Proofs.YtcaigcmbgihhkaaDoor
