/-
  Part of a proof: LexTwoP, LexIsW, LexBackP.
-/
import Derived.Test.YtcaigcmbgihhkaaGreatDoorZRef
import Derived.Test.YtcaigcmbgihhkaaGreatDoorZRepE
namespace Go.Proofs.YtcaigcmbgihhkaaGreatDoor
open Go Go.RowKit
set_option linter.unusedVariables false
set_option linter.unusedSimpArgs false
theorem takeWhile_app (p : UInt8 → Bool) (x : UInt8) (hx : p x = false) : ∀ (l t : Bs), (l ++ x :: t).takeWhile p = l.takeWhile p
  | [], t => by simp [hx]
  | c :: r, t => by
    rw [List.cons_append, List.takeWhile_cons, List.takeWhile_cons, takeWhile_app p x hx r t]
theorem find_congr {α : Type} {p q : α → Bool} : ∀ (l : List α), (∀ x ∈ l, p x = q x) → l.find? p = l.find? q
  | [], _ => rfl
  | a :: r, h => by rw [List.find?_cons, List.find?_cons, h a (by simp), find_congr r (fun x hx => h x (by simp [hx]))]
def Lx (S : Nat) (l : Bs) (acc : List WordD) : List WordD × Int × Int := lexFrom S (l.length + 1) l acc
theorem Lx_eq (S : Nat) (l : Bs) (acc : List WordD) : Lx S l acc = if l = [] then (acc, 0, 0) else match wordL l with
    | none => ([], ((S - l.length : Nat) : Int), 18)
    | some (k, t, v, n) => Lx S (skipL (l.drop n)) (acc ++ [⟨k, t, v, ((S - l.length : Nat) : Int)⟩]) := by
  rw [Lx, lexFrom]
  by_cases h : l = []
  · rw [if_pos h, if_pos h]
  · rw [if_neg h, if_neg h]
    cases hw : wordL l with
    | none => rfl
    | some x =>
      obtain ⟨k, t, v, n⟩ := x
      obtain ⟨h1, h2, _⟩ := wordL_n hw
      have h3 := skipL_len (l.drop n)
      rw [List.length_drop] at h3
      exact lexFrom_more S _ _ _ _ (by omega) (by omega)
theorem lexL_Lx (src : Bs) (h : src.length ≤ 16384) : lexL src = Lx src.length (skipL src) [] := by
  have := skipL_len src
  rw [lexL, if_neg (by omega), Lx]
  exact lexFrom_more _ _ _ _ _ (by omega) (by omega)
def strip (x : WordD) : Int × Bs × Int := (x.kind, x.text, x.n)
end Go.Proofs.YtcaigcmbgihhkaaGreatDoor
namespace Go.Proofs.YtcaigcmbgihhkaaGreatDoor
open Go Go.RowKit
set_option linter.unusedVariables false
set_option linter.unusedSimpArgs false
def okc (c : UInt8) : Prop := (32 ≤ c.toNat ∧ c.toNat ≤ 126) ∨ c = 10 ∨ c = 9
theorem escL_ok {c e : UInt8} (h : escL c = some e) : okc e := by
  unfold escL at h
  repeat' split at h
  · cases h; exact .inr (.inl rfl)
  · cases h; exact .inr (.inr rfl)
  · rename_i h1
    cases h
    rcases h1 with rfl | rfl
    · exact .inl (by decide)
    · exact .inl (by decide)
  · cases h
theorem textL_ok : ∀ (l acc : Bs) (n : Nat) (t : Bs) (m : Nat), textL l acc n = some (t, m) → (∀ c ∈ acc, okc c) → (∀ c ∈ t, okc c) ∧ t.length ≤ 64
  | [], acc, n, t, m, h, _ => by simp [textL] at h
  | c :: r, acc, n, t, m, h, ha => by
    rw [textL.eq_def] at h
    simp only at h
    split at h
    · split at h
      · rename_i hl
        simp only [Option.some.injEq, Prod.mk.injEq] at h
        obtain ⟨rfl, _⟩ := h
        exact ⟨ha, hl⟩
      · cases h
    · split at h
      · cases h
      · rename_i h2
        split at h
        · cases r with
          | nil => cases h
          | cons d r2 =>
            simp only at h
            split at h
            · cases h
            · rename_i e he
              refine textL_ok r2 _ _ _ _ h (fun x hx => ?_)
              rcases List.mem_append.1 hx with hx | hx
              · exact ha x hx
              · simp at hx; subst hx; exact escL_ok he
        · refine textL_ok r _ _ _ _ h (fun x hx => ?_)
          rcases List.mem_append.1 hx with hx | hx
          · exact ha x hx
          · simp at hx; subst hx; exact .inl (by omega)
def IsW (x : WordD) : Prop := ∃ l n, l.length ≤ 16384 ∧ wordL l = some (x.kind, x.text, x.n, n)
theorem Lx_isW (S : Nat) : ∀ (m : Nat) (l : Bs) (acc : List WordD), l.length ≤ 16384 → (∀ x ∈ acc, IsW x) → ∀ x ∈ (lexFrom S m l acc).1, IsW x
  | 0, l, acc, _, ha => ha
  | m + 1, l, acc, hl, ha => by
    rw [lexFrom]
    split
    · exact ha
    · split
      · simp
      · rename_i k t v n hw
        have h3 := skipL_len (l.drop n)
        rw [List.length_drop] at h3
        exact Lx_isW S m _ _ (by omega) (fun x hx => by
          rcases List.mem_append.1 hx with hx | hx
          · exact ha x hx
          · simp at hx; subst hx; exact ⟨l, n, hl, hw⟩)
theorem lexL_isW (src : Bs) : ∀ x ∈ (lexL src).1, IsW x := by
  unfold lexL
  split
  · simp
  · exact Lx_isW _ _ _ _ (by have := skipL_len src; omega) (by simp)
theorem wordL_text {l : Bs} {k : Int} {t : Bs} {v : Int} {n : Nat} (h : wordL l = some (k, t, v, n)) : t.length ≤ l.length + 64 := by
  cases l with
  | nil => simp [wordL] at h
  | cons c r =>
    rw [wordL.eq_def] at h
    simp only at h
    split at h
    · split at h
      · cases h
      · rename_i t' n' ht
        simp only [Option.some.injEq, Prod.mk.injEq] at h
        obtain ⟨rfl, rfl, rfl, rfl⟩ := h
        have := (textL_ok _ _ _ _ _ ht (by simp)).2
        omega
    · split at h
      · have hle : ((c :: r).takeWhile partB).length ≤ (c :: r).length := (List.takeWhile_prefix _).length_le
        rw [plainL] at h
        split at h
        · split at h
          · cases h
          · simp only [Option.some.injEq, Prod.mk.injEq] at h
            rw [← h.2.1]; omega
        · split at h
          · split at h
            · simp only [Option.some.injEq, Prod.mk.injEq] at h
              rw [← h.2.1]; omega
            · simp only [Option.some.injEq, Prod.mk.injEq] at h
              rw [← h.2.1]; omega
          · cases h
      · rw [signL.eq_def] at h
        simp only at h
        split at h
        · rename_i d hd
          simp only [Option.some.injEq, Prod.mk.injEq] at h
          have hm := List.mem_of_find?_eq_some hd
          have h2 : d.length = 2 := by
            have : ∀ x ∈ doublesL, x.length = 2 := by decide
            exact this d hm
          rw [← h.2.1]; omega
        · split at h
          · simp only [Option.some.injEq, Prod.mk.injEq] at h
            rw [← h.2.1]; simp
          · cases h
theorem IsW.text {x : WordD} (h : IsW x) : x.text.length ≤ 20000 := by
  obtain ⟨l, n, hl, hw⟩ := h
  have := wordL_text hw
  omega
theorem lexFrom_len (size : Nat) : ∀ (m : Nat) (l : Bs) (acc : List WordD), (lexFrom size m l acc).1.length ≤ acc.length + l.length
  | 0, l, acc => by simp [lexFrom]
  | m + 1, l, acc => by
    rw [lexFrom]
    split
    · simp
    · split
      · simp
      · rename_i k t v n hw
        obtain ⟨h1, h2, _⟩ := wordL_n hw
        have h3 := skipL_len (l.drop n)
        have h4 := lexFrom_len size m (skipL (l.drop n)) (acc ++ [⟨k, t, v, ((size - l.length : Nat) : Int)⟩])
        rw [List.length_drop] at h3
        simp only [List.length_append, List.length_singleton] at h4
        omega
theorem lexL_len (l : Bs) : (lexL l).1.length ≤ 16384 := by
  unfold lexL
  split
  · simp
  · have h1 := lexFrom_len l.length (l.length + 1) (skipL l) []
    have h2 := skipL_len l
    simp only [List.length_nil] at h1
    omega
end Go.Proofs.YtcaigcmbgihhkaaGreatDoor
namespace Go.Proofs.YtcaigcmbgihhkaaGreatDoor
open Go Go.RowKit
set_option linter.unusedVariables false
set_option linter.unusedSimpArgs false
def encW (x : WordD) : Bs := if x.kind = 3 then [34] ++ qL x.text ++ [34] else x.text
def joinL (l : List WordD) : Bs := l.flatMap fun x => encW x ++ [32]
theorem u8_of {c : UInt8} {k : Nat} (hk : k < 256) (h : c.toNat = k) : c = UInt8.ofNat k := by
  apply UInt8.toNat_inj.1
  rw [h]
  simp
  omega
theorem textL_q : ∀ (t acc : Bs) (n : Nat) (rest : Bs), (∀ c ∈ t, okc c) → acc.length + t.length ≤ 64 → textL (qL t ++ 34 :: rest) acc n = some (acc ++ t, n + (qL t).length + 1)
  | [], acc, n, rest, _, hl => by
    simp only [qL, List.flatMap_nil, List.nil_append, List.append_nil, List.length_nil, Nat.add_zero] at hl ⊢
    rw [textL.eq_def]
    simp only
    rw [if_pos trivial, if_pos hl]
  | c :: t, acc, n, rest, h, hl => by
    simp only [List.length_cons] at hl
    have hrec := fun n' => textL_q t (acc ++ [c]) n' rest (fun x hx => h x (by simp [hx])) (by simp; omega)
    have happ : acc ++ [c] ++ t = acc ++ c :: t := by simp
    rw [qL_cons]
    unfold qb
    rw [repP0]
    by_cases h1 : c.toNat = 10
    · obtain rfl : c = 10 := u8_of (k := 10) (by decide) h1
      rw [if_pos h1]
      have e : textL ((some [92, 110] : Option Bs).getD [10] ++ qL t ++ 34 :: rest) acc n = textL (qL t ++ 34 :: rest) (acc ++ [10]) (n + 2) := rfl
      rw [e, hrec, happ]
      simp only [Option.some.injEq, Prod.mk.injEq, true_and, List.length_append, Option.getD_some, List.length_cons, List.length_nil]
      omega
    · rw [if_neg h1]
      by_cases h2 : c.toNat = 9
      · obtain rfl : c = 9 := u8_of (k := 9) (by decide) h2
        rw [if_pos h2]
        have e : textL ((some [92, 116] : Option Bs).getD [9] ++ qL t ++ 34 :: rest) acc n = textL (qL t ++ 34 :: rest) (acc ++ [9]) (n + 2) := rfl
        rw [e, hrec, happ]
        simp only [Option.some.injEq, Prod.mk.injEq, true_and, List.length_append, Option.getD_some, List.length_cons, List.length_nil]
        omega
      · rw [if_neg h2]
        by_cases h3 : c.toNat = 34
        · obtain rfl : c = 34 := u8_of (k := 34) (by decide) h3
          rw [if_pos h3]
          have e : textL ((some [92, 34] : Option Bs).getD [34] ++ qL t ++ 34 :: rest) acc n = textL (qL t ++ 34 :: rest) (acc ++ [34]) (n + 2) := rfl
          rw [e, hrec, happ]
          simp only [Option.some.injEq, Prod.mk.injEq, true_and, List.length_append, Option.getD_some, List.length_cons, List.length_nil]
          omega
        · rw [if_neg h3]
          by_cases h4 : c.toNat = 92
          · obtain rfl : c = 92 := u8_of (k := 92) (by decide) h4
            rw [if_pos h4]
            have e : textL ((some [92, 92] : Option Bs).getD [92] ++ qL t ++ 34 :: rest) acc n = textL (qL t ++ 34 :: rest) (acc ++ [92]) (n + 2) := rfl
            rw [e, hrec, happ]
            simp only [Option.some.injEq, Prod.mk.injEq, true_and, List.length_append, Option.getD_some, List.length_cons, List.length_nil]
            omega
          · rw [if_neg h4]
            have hk := h c (by simp)
            have hr : 32 ≤ c.toNat ∧ c.toNat ≤ 126 := by
              rcases hk with hk | rfl | rfl
              · exact hk
              · exact absurd rfl h1
              · exact absurd rfl h2
            have n1 : ¬ c = 34 := fun e => h3 (by rw [e]; rfl)
            have n2 : ¬ c = 92 := fun e => h4 (by rw [e]; rfl)
            have e : textL ((none : Option Bs).getD [c] ++ qL t ++ 34 :: rest) acc n = textL (qL t ++ 34 :: rest) (acc ++ [c]) (n + 1) := by
              show textL (c :: (qL t ++ 34 :: rest)) acc n = _
              rw [textL.eq_def]
              simp only
              rw [if_neg n1, if_neg (by omega), if_neg n2]
            rw [e, hrec, happ]
            simp only [Option.some.injEq, Prod.mk.injEq, true_and, List.length_append, Option.getD_none, List.length_cons, List.length_nil]
            omega
theorem blank0 {c : UInt8} {r : Bs} (h1 : blkB c = false) (h2 : ¬ (c = 47 ∧ r.head? = some 47)) : skipL (c :: r) = c :: r := by
  rw [skipL, blankN, if_neg (by rw [h1]; simp), if_neg h2]
  rfl
theorem part_blk {c : UInt8} (h : partB c = true) : blkB c = false ∧ c ≠ 47 ∧ c ≠ 34 := by
  refine ⟨?_, ?_, ?_⟩
  · cases hb : blkB c with
    | false => rfl
    | true =>
      simp only [blkB, Bool.or_eq_true, beq_iff_eq] at hb
      rcases hb with ((rfl | rfl) | rfl) | rfl <;> revert h <;> decide
  · rintro rfl; revert h; decide
  · rintro rfl; revert h; decide
theorem all_tw (p : UInt8 → Bool) : ∀ (l : Bs), ∀ x ∈ l.takeWhile p, p x = true
  | [], x, hx => by simp at hx
  | c :: r, x, hx => by
    rw [List.takeWhile_cons] at hx
    split at hx
    · rename_i h
      rcases List.mem_cons.1 hx with rfl | hx
      · exact h
      · exact all_tw p r x hx
    · simp at hx
theorem tw_all (p : UInt8 → Bool) : ∀ (l : Bs), (∀ x ∈ l, p x = true) → l.takeWhile p = l
  | [], _ => rfl
  | c :: r, h => by rw [List.takeWhile_cons, if_pos (h c (by simp)), tw_all p r (fun x hx => h x (by simp [hx]))]
theorem word_back {l : Bs} {k : Int} {tx : Bs} {v : Int} {n : Nat} (h : wordL l = some (k, tx, v, n)) (p : Int) (rest : Bs) :
    wordL (encW ⟨k, tx, v, p⟩ ++ 32 :: rest) = some (k, tx, v, (encW ⟨k, tx, v, p⟩).length) ∧ skipL (encW ⟨k, tx, v, p⟩ ++ 32 :: rest) = encW ⟨k, tx, v, p⟩ ++ 32 :: rest ∧ encW ⟨k, tx, v, p⟩ ≠ [] := by
  cases l with
  | nil => simp [wordL] at h
  | cons c r =>
    rw [wordL.eq_def] at h
    simp only at h
    split at h
    · split at h
      · cases h
      · rename_i t' n' ht
        simp only [Option.some.injEq, Prod.mk.injEq] at h
        obtain ⟨rfl, rfl, rfl, rfl⟩ := h
        obtain ⟨h1, h2⟩ := textL_ok _ _ _ _ _ ht (by simp)
        have e : encW ⟨3, t', 0, p⟩ = 34 :: (qL t' ++ [34]) := rfl
        have hq := textL_q t' [] 1 (32 :: rest) h1 (by simpa using h2)
        refine ⟨?_, ?_, by rw [e]; simp⟩
        · rw [e, List.cons_append, wordL.eq_def]
          simp only
          rw [if_pos trivial, List.append_assoc, List.singleton_append, hq]
          simp
          omega
        · rw [e, List.cons_append]
          exact blank0 (by decide) (by simp)
    · rename_i hc34
      split at h
      · rename_i hp
        have hall : ∀ x ∈ (c :: r).takeWhile partB, partB x = true := all_tw partB _
        have htw : ∃ q, (c :: r).takeWhile partB = c :: q := by rw [List.takeWhile_cons, if_pos hp]; exact ⟨_, rfl⟩
        obtain ⟨q, hq⟩ := htw
        rw [hq] at h hall
        have hx : tx = c :: q ∧ n = (c :: q).length ∧ k ≠ 3 := by
          rw [plainL] at h
          split at h
          · split at h
            · cases h
            · simp only [Option.some.injEq, Prod.mk.injEq] at h
              exact ⟨h.2.1.symm, h.2.2.2.symm, by rw [← h.1]; decide⟩
          · split at h
            · split at h
              · simp only [Option.some.injEq, Prod.mk.injEq] at h
                exact ⟨h.2.1.symm, h.2.2.2.symm, by rw [← h.1]; decide⟩
              · simp only [Option.some.injEq, Prod.mk.injEq] at h
                exact ⟨h.2.1.symm, h.2.2.2.symm, by rw [← h.1]; decide⟩
            · cases h
        obtain ⟨rfl, rfl, hk3⟩ := hx
        have e : encW ⟨k, c :: q, v, p⟩ = c :: q := by rw [encW, if_neg hk3]
        obtain ⟨b1, b2, b3⟩ := part_blk hp
        refine ⟨?_, ?_, by rw [e]; simp⟩
        · rw [e, List.cons_append, wordL.eq_def]
          simp only
          rw [if_neg hc34, if_pos hp, ← List.cons_append, takeWhile_app partB 32 (by decide), tw_all partB _ hall]
          exact h
        · rw [e, List.cons_append]
          exact blank0 b1 (fun x => b2 x.1)
      · rw [signL.eq_def] at h
        simp only at h
        split at h
        · rename_i d hd
          simp only [Option.some.injEq, Prod.mk.injEq] at h
          obtain ⟨rfl, rfl, rfl, rfl⟩ := h
          have hm := List.mem_of_find?_eq_some hd
          have e : encW ⟨4, d, 0, p⟩ = d := rfl
          rw [e]
          simp only [doublesL, List.mem_cons, List.not_mem_nil, or_false] at hm
          rcases hm with rfl | rfl | rfl | rfl | rfl | rfl <;> exact ⟨rfl, rfl, by simp⟩
        · split at h
          · rename_i hm
            simp only [Option.some.injEq, Prod.mk.injEq] at h
            obtain ⟨rfl, rfl, rfl, rfl⟩ := h
            have e : encW ⟨4, [c], 0, p⟩ = [c] := rfl
            rw [e]
            simp only [singlesL, List.mem_cons, List.not_mem_nil, or_false] at hm
            rcases hm with rfl | rfl | rfl | rfl | rfl | rfl | rfl | rfl | rfl | rfl | rfl | rfl | rfl | rfl | rfl | rfl | rfl | rfl <;> exact ⟨rfl, rfl, by simp⟩
          · cases h
theorem encW_len (x : WordD) (h : x.text.length ≤ 20000) : (encW x).length ≤ 40002 := by
  unfold encW
  split
  · simp only [List.length_append, List.length_cons, List.length_nil, qL_len]
    have := spN_le x.text
    omega
  · omega
theorem joinL_len : ∀ (l : List WordD), (∀ x ∈ l, x.text.length ≤ 20000) → (joinL l).length ≤ l.length * 40003
  | [], _ => by simp [joinL]
  | x :: r, h => by
    have h1 := encW_len x (h x (by simp))
    have h2 := joinL_len r (fun y hy => h y (by simp [hy]))
    have e : joinL (x :: r) = encW x ++ 32 :: joinL r := by simp [joinL]
    rw [e, List.length_append, List.length_cons, List.length_cons]
    omega
theorem joinL_snoc (l : List WordD) (x : WordD) : joinL (l ++ [x]) = joinL l ++ encW x ++ [32] := by simp [joinL]
end Go.Proofs.YtcaigcmbgihhkaaGreatDoor
