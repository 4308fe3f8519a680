/-
  Part of a proof: LexTwoP, LexIsW.
-/
import Derived.Test.YtcaigcmbgihhkaaDoorZRef
namespace Go.Proofs.YtcaigcmbgihhkaaDoor
open Go Go.RowKit
set_option linter.unusedVariables false
set_option linter.unusedSimpArgs false
theorem blankN_app : ∀ (m : Bool) (l b : Bs), blankN m (l ++ 10 :: b) = if blankN m l = l.length then l.length + 1 + blankN false b else blankN m l
  | true, [], b => by simp [blankN]; omega
  | false, [], b => by simp [blankN, blkB]; omega
  | true, c :: r, b => by
    rw [List.cons_append, blankN, blankN, blankN_app false r b, blankN_app true r b, List.length_cons]
    by_cases h : c = 10
    · rw [if_pos h, if_pos h]
      by_cases e : blankN false r = r.length
      · rw [if_pos e, if_pos (by omega)]; omega
      · rw [if_neg e, if_neg (by omega)]
    · rw [if_neg h, if_neg h]
      by_cases e : blankN true r = r.length
      · rw [if_pos e, if_pos (by omega)]; omega
      · rw [if_neg e, if_neg (by omega)]
  | false, c :: r, b => by
    have hh : ((r ++ 10 :: b).head? = some 47) ↔ (r.head? = some 47) := by cases r <;> simp
    rw [List.cons_append, blankN, blankN, blankN_app false r b, blankN_app true r b, List.length_cons]
    by_cases h : blkB c = true
    · rw [if_pos h, if_pos h]
      by_cases e : blankN false r = r.length
      · rw [if_pos e, if_pos (by omega)]; omega
      · rw [if_neg e, if_neg (by omega)]
    · rw [if_neg h, if_neg h]
      by_cases h2 : c = 47 ∧ r.head? = some 47
      · rw [if_pos ⟨h2.1, hh.2 h2.2⟩, if_pos h2]
        by_cases e : blankN true r = r.length
        · rw [if_pos e, if_pos (by omega)]; omega
        · rw [if_neg e, if_neg (by omega)]
      · rw [if_neg (fun x => h2 ⟨x.1, hh.1 x.2⟩), if_neg h2, if_neg (by omega)]
theorem skipL_nil_iff (l : Bs) : skipL l = [] ↔ blankN false l = l.length := by
  have := blankN_le false l
  rw [skipL, List.drop_eq_nil_iff]
  omega
theorem skipL_app (l b : Bs) : skipL (l ++ 10 :: b) = if skipL l = [] then skipL b else skipL l ++ 10 :: b := by
  have hle := blankN_le false l
  by_cases h : skipL l = []
  · rw [if_pos h]
    have h' := (skipL_nil_iff l).1 h
    rw [skipL, blankN_app, if_pos h', skipL, List.drop_append, List.drop_eq_nil_of_le (by omega), List.nil_append, show l.length + 1 + blankN false b - l.length = blankN false b + 1 by omega]
    rfl
  · rw [if_neg h]
    have h' : ¬ blankN false l = l.length := fun e => h ((skipL_nil_iff l).2 e)
    rw [skipL, blankN_app, if_neg h', skipL, List.drop_append_of_le_length (by omega)]
theorem textL_app : ∀ (l : Bs) (acc : Bs) (n : Nat) (x : Bs × Nat) (t : Bs), textL l acc n = some x → textL (l ++ t) acc n = some x
  | [], acc, n, x, t, h => by simp [textL] at h
  | c :: r, acc, n, x, t, h => by
    rw [textL.eq_def] at h
    simp only at h
    rw [List.cons_append, textL.eq_def]
    simp only
    split at h
    · rename_i h1
      rw [if_pos h1]; exact h
    · rename_i h1
      rw [if_neg h1]
      split at h
      · cases h
      · rename_i h2
        rw [if_neg h2]
        split at h
        · rename_i h3
          rw [if_pos h3]
          cases r with
          | nil => cases h
          | cons d r2 =>
            simp only [List.cons_append] at h ⊢
            split at h
            · cases h
            · rename_i e he
              exact textL_app r2 _ _ _ _ h
        · rename_i h3
          rw [if_neg h3]
          exact textL_app r _ _ _ _ h
theorem takeWhile_app (p : UInt8 → Bool) (x : UInt8) (hx : p x = false) : ∀ (l t : Bs), (l ++ x :: t).takeWhile p = l.takeWhile p
  | [], t => by simp [hx]
  | c :: r, t => by
    rw [List.cons_append, List.takeWhile_cons, List.takeWhile_cons, takeWhile_app p x hx r t]
theorem find_congr {α : Type} {p q : α → Bool} : ∀ (l : List α), (∀ x ∈ l, p x = q x) → l.find? p = l.find? q
  | [], _ => rfl
  | a :: r, h => by rw [List.find?_cons, List.find?_cons, h a (by simp), find_congr r (fun x hx => h x (by simp [hx]))]
theorem doubles_app (y : UInt8) (hy : ∀ d ∈ doublesL, d[1]? ≠ some y) (c : UInt8) (r t : Bs) : doublesL.find? (fun d => d.isPrefixOf (c :: r ++ y :: t)) = doublesL.find? (fun d => d.isPrefixOf (c :: r)) := by
  apply find_congr
  intro d hd
  have h2 : ∃ p q, d = [p, q] := by
    have : ∀ x ∈ doublesL, x.length = 2 := by decide
    have := this d hd
    match d, this with
    | [p, q], _ => exact ⟨p, q, rfl⟩
  obtain ⟨p, q, rfl⟩ := h2
  have hq : q ≠ y := fun e => hy _ hd (by simp [e])
  cases r with
  | nil =>
    simp only [List.cons_append, List.nil_append, List.isPrefixOf]
    have : (q == y) = false := beq_eq_false_iff_ne.2 hq
    simp [this]
  | cons e r2 => rfl
theorem wordL_app (y : UInt8) (hp : partB y = false) (hy : ∀ d ∈ doublesL, d[1]? ≠ some y) (l t : Bs) (x : Int × Bs × Int × Nat) (h : wordL l = some x) : wordL (l ++ y :: t) = some x := by
  cases l with
  | nil => simp [wordL] at h
  | cons c r =>
    rw [wordL.eq_def] at h
    simp only at h
    rw [List.cons_append, wordL.eq_def]
    simp only
    split at h
    · rename_i h1
      rw [if_pos h1]
      split at h
      · cases h
      · rename_i t' n' ht
        rw [textL_app r [] 1 _ _ ht]
        exact h
    · rename_i h1
      rw [if_neg h1]
      split at h
      · rename_i h2
        rw [if_pos h2, ← List.cons_append, takeWhile_app partB y hp]
        exact h
      · rename_i h2
        rw [if_neg h2, ← List.cons_append]
        have hd := doubles_app y hy c r t
        rw [signL.eq_def] at h ⊢
        simp only at h ⊢
        rw [hd]
        exact h
def Lx (S : Nat) (l : Bs) (acc : List WordD) : List WordD × Int × Int := lexFrom S (l.length + 1) l acc
theorem Lx_eq (S : Nat) (l : Bs) (acc : List WordD) : Lx S l acc = if l = [] then (acc, 0, 0) else match wordL l with
    | none => ([], ((S - l.length : Nat) : Int), 18)
    | some (k, t, v, n) => Lx S (skipL (l.drop n)) (acc ++ [⟨k, t, v, ((S - l.length : Nat) : Int)⟩]) := by
  rw [Lx, lexFrom]
  by_cases h : l = []
  · rw [if_pos h, if_pos h]
  · rw [if_neg h, if_neg h]
    cases hw : wordL l with
    | none => rfl
    | some x =>
      obtain ⟨k, t, v, n⟩ := x
      obtain ⟨h1, h2, _⟩ := wordL_n hw
      have h3 := skipL_len (l.drop n)
      rw [List.length_drop] at h3
      exact lexFrom_more S _ _ _ _ (by omega) (by omega)
theorem lexL_Lx (src : Bs) (h : src.length ≤ 16384) : lexL src = Lx src.length (skipL src) [] := by
  have := skipL_len src
  rw [lexL, if_neg (by omega), Lx]
  exact lexFrom_more _ _ _ _ _ (by omega) (by omega)
theorem Lx_first (sa : Nat) (b : Bs) : ∀ (m : Nat) (l : Bs) (acc L : List WordD), l.length = m → l.length ≤ sa → Lx sa l acc = (L, 0, 0) →
    Lx (sa + 1 + b.length) (if l = [] then skipL b else l ++ 10 :: b) acc = Lx (sa + 1 + b.length) (skipL b) L := by
  intro m
  induction m using Nat.strongRecOn with
  | _ m ih =>
    intro l acc L hm hsa h
    rw [Lx_eq] at h
    by_cases hl : l = []
    · rw [if_pos hl] at h
      cases h
      rw [if_pos hl]
    · rw [if_neg hl] at h ⊢
      cases hw : wordL l with
      | none => rw [hw] at h; simp at h
      | some x =>
        obtain ⟨k, t, v, n⟩ := x
        rw [hw] at h
        simp only at h
        obtain ⟨h1, h2, _⟩ := wordL_n hw
        have h3 := skipL_len (l.drop n)
        rw [List.length_drop] at h3
        have hrec := ih (skipL (l.drop n)).length (by omega) _ _ _ rfl (by omega) h
        rw [Lx_eq, if_neg (by simp), wordL_app 10 (by decide) (by decide) l b _ hw]
        simp only
        rw [List.drop_append_of_le_length h2, skipL_app]
        have e : ((sa + 1 + b.length - (l ++ 10 :: b).length : Nat) : Int) = ((sa - l.length : Nat) : Int) := by
          rw [List.length_append, List.length_cons]; omega
        rw [e]
        exact hrec
def strip (x : WordD) : Int × Bs × Int := (x.kind, x.text, x.n)
theorem Lx_shift (sb d : Nat) : ∀ (m : Nat) (l : Bs) (acc acc' : List WordD), l.length = m → l.length ≤ sb →
    (∃ X X', Lx sb l acc = (acc ++ X, 0, 0) ∧ Lx (d + sb) l acc' = (acc' ++ X', 0, 0) ∧ X'.map strip = X.map strip) ∨ (∃ p : Int, Lx sb l acc = ([], p, 18) ∧ Lx (d + sb) l acc' = ([], p + d, 18)) := by
  intro m
  induction m using Nat.strongRecOn with
  | _ m ih =>
    intro l acc acc' hm hsb
    rw [Lx_eq sb, Lx_eq (d + sb)]
    by_cases hl : l = []
    · rw [if_pos hl, if_pos hl]
      exact .inl ⟨[], [], by simp, by simp, rfl⟩
    · rw [if_neg hl, if_neg hl]
      cases hw : wordL l with
      | none => exact .inr ⟨_, rfl, by simp only [Prod.mk.injEq, true_and, and_true]; omega⟩
      | some x =>
        obtain ⟨k, t, v, n⟩ := x
        simp only
        obtain ⟨h1, h2, _⟩ := wordL_n hw
        have h3 := skipL_len (l.drop n)
        rw [List.length_drop] at h3
        rcases ih (skipL (l.drop n)).length (by omega) _ (acc ++ [⟨k, t, v, ((sb - l.length : Nat) : Int)⟩]) (acc' ++ [⟨k, t, v, ((d + sb - l.length : Nat) : Int)⟩]) rfl (by omega) with ⟨X, X', a1, a2, a3⟩ | ⟨p, a1, a2⟩
        · refine .inl ⟨_ :: X, _ :: X', by rw [a1, List.append_assoc]; rfl, by rw [a2, List.append_assoc]; rfl, ?_⟩
          rw [List.map_cons, List.map_cons, a3]
          rfl
        · exact .inr ⟨p, a1, a2⟩
theorem lex_two (a b : Bs) (h : a.length + 1 + b.length ≤ 16384) (L : List WordD) (ha : lexL a = (L, 0, 0)) :
    (∃ X X', lexL b = (X, 0, 0) ∧ lexL (a ++ 10 :: b) = (L ++ X', 0, 0) ∧ X'.map strip = X.map strip) ∨ (∃ p : Int, lexL b = ([], p, 18) ∧ lexL (a ++ 10 :: b) = ([], p + (a.length : Int) + 1, 18)) := by
  have hz : (a ++ 10 :: b).length = a.length + 1 + b.length := by rw [List.length_append, List.length_cons]; omega
  rw [lexL_Lx a (by omega)] at ha
  have hsa := skipL_len a
  have hsb := skipL_len b
  have h1 := Lx_first a.length b _ (skipL a) [] L rfl hsa ha
  rw [← skipL_app, ← hz, ← lexL_Lx _ (by omega), hz] at h1
  rw [h1, lexL_Lx b (by omega)]
  rcases Lx_shift b.length (a.length + 1) _ (skipL b) [] L rfl hsb with ⟨X, X', a1, a2, a3⟩ | ⟨p, a1, a2⟩
  · exact .inl ⟨X, X', by rw [a1]; rfl, a2, a3⟩
  · exact .inr ⟨p, a1, by rw [a2]; simp only [Prod.mk.injEq, true_and, and_true]; omega⟩
theorem lexFrom_at (size : Nat) : ∀ (m : Nat) (l : Bs) (acc : List WordD), 0 ≤ (lexFrom size m l acc).2.1 ∧ (lexFrom size m l acc).2.1 ≤ size
  | 0, l, acc => by simp [lexFrom]
  | m + 1, l, acc => by
    rw [lexFrom]
    split
    · simp
    · split
      · simp only; omega
      · exact lexFrom_at size m _ _
end Go.Proofs.YtcaigcmbgihhkaaDoor
namespace Go.Proofs.YtcaigcmbgihhkaaDoor
open Go Go.RowKit
set_option linter.unusedVariables false
set_option linter.unusedSimpArgs false
def okc (c : UInt8) : Prop := (32 ≤ c.toNat ∧ c.toNat ≤ 126) ∨ c = 10 ∨ c = 9
theorem escL_ok {c e : UInt8} (h : escL c = some e) : okc e := by
  unfold escL at h
  repeat' split at h
  · cases h; exact .inr (.inl rfl)
  · cases h; exact .inr (.inr rfl)
  · rename_i h1
    cases h
    rcases h1 with rfl | rfl
    · exact .inl (by decide)
    · exact .inl (by decide)
  · cases h
theorem textL_ok : ∀ (l acc : Bs) (n : Nat) (t : Bs) (m : Nat), textL l acc n = some (t, m) → (∀ c ∈ acc, okc c) → (∀ c ∈ t, okc c) ∧ t.length ≤ 64
  | [], acc, n, t, m, h, _ => by simp [textL] at h
  | c :: r, acc, n, t, m, h, ha => by
    rw [textL.eq_def] at h
    simp only at h
    split at h
    · split at h
      · rename_i hl
        simp only [Option.some.injEq, Prod.mk.injEq] at h
        obtain ⟨rfl, _⟩ := h
        exact ⟨ha, hl⟩
      · cases h
    · split at h
      · cases h
      · rename_i h2
        split at h
        · cases r with
          | nil => cases h
          | cons d r2 =>
            simp only at h
            split at h
            · cases h
            · rename_i e he
              refine textL_ok r2 _ _ _ _ h (fun x hx => ?_)
              rcases List.mem_append.1 hx with hx | hx
              · exact ha x hx
              · simp at hx; subst hx; exact escL_ok he
        · refine textL_ok r _ _ _ _ h (fun x hx => ?_)
          rcases List.mem_append.1 hx with hx | hx
          · exact ha x hx
          · simp at hx; subst hx; exact .inl (by omega)
def IsW (x : WordD) : Prop := ∃ l n, l.length ≤ 16384 ∧ wordL l = some (x.kind, x.text, x.n, n)
theorem Lx_isW (S : Nat) : ∀ (m : Nat) (l : Bs) (acc : List WordD), l.length ≤ 16384 → (∀ x ∈ acc, IsW x) → ∀ x ∈ (lexFrom S m l acc).1, IsW x
  | 0, l, acc, _, ha => ha
  | m + 1, l, acc, hl, ha => by
    rw [lexFrom]
    split
    · exact ha
    · split
      · simp
      · rename_i k t v n hw
        have h3 := skipL_len (l.drop n)
        rw [List.length_drop] at h3
        exact Lx_isW S m _ _ (by omega) (fun x hx => by
          rcases List.mem_append.1 hx with hx | hx
          · exact ha x hx
          · simp at hx; subst hx; exact ⟨l, n, hl, hw⟩)
theorem lexL_isW (src : Bs) : ∀ x ∈ (lexL src).1, IsW x := by
  unfold lexL
  split
  · simp
  · exact Lx_isW _ _ _ _ (by have := skipL_len src; omega) (by simp)
theorem wordL_text {l : Bs} {k : Int} {t : Bs} {v : Int} {n : Nat} (h : wordL l = some (k, t, v, n)) : t.length ≤ l.length + 64 := by
  cases l with
  | nil => simp [wordL] at h
  | cons c r =>
    rw [wordL.eq_def] at h
    simp only at h
    split at h
    · split at h
      · cases h
      · rename_i t' n' ht
        simp only [Option.some.injEq, Prod.mk.injEq] at h
        obtain ⟨rfl, rfl, rfl, rfl⟩ := h
        have := (textL_ok _ _ _ _ _ ht (by simp)).2
        omega
    · split at h
      · have hle : ((c :: r).takeWhile partB).length ≤ (c :: r).length := (List.takeWhile_prefix _).length_le
        rw [plainL] at h
        split at h
        · split at h
          · cases h
          · simp only [Option.some.injEq, Prod.mk.injEq] at h
            rw [← h.2.1]; omega
        · split at h
          · split at h
            · simp only [Option.some.injEq, Prod.mk.injEq] at h
              rw [← h.2.1]; omega
            · simp only [Option.some.injEq, Prod.mk.injEq] at h
              rw [← h.2.1]; omega
          · cases h
      · rw [signL.eq_def] at h
        simp only at h
        split at h
        · rename_i d hd
          simp only [Option.some.injEq, Prod.mk.injEq] at h
          have hm := List.mem_of_find?_eq_some hd
          have h2 : d.length = 2 := by
            have : ∀ x ∈ doublesL, x.length = 2 := by decide
            exact this d hm
          rw [← h.2.1]; omega
        · split at h
          · simp only [Option.some.injEq, Prod.mk.injEq] at h
            rw [← h.2.1]; simp
          · cases h
theorem IsW.text {x : WordD} (h : IsW x) : x.text.length ≤ 20000 := by
  obtain ⟨l, n, hl, hw⟩ := h
  have := wordL_text hw
  omega
theorem lexFrom_len (size : Nat) : ∀ (m : Nat) (l : Bs) (acc : List WordD), (lexFrom size m l acc).1.length ≤ acc.length + l.length
  | 0, l, acc => by simp [lexFrom]
  | m + 1, l, acc => by
    rw [lexFrom]
    split
    · simp
    · split
      · simp
      · rename_i k t v n hw
        obtain ⟨h1, h2, _⟩ := wordL_n hw
        have h3 := skipL_len (l.drop n)
        have h4 := lexFrom_len size m (skipL (l.drop n)) (acc ++ [⟨k, t, v, ((size - l.length : Nat) : Int)⟩])
        rw [List.length_drop] at h3
        simp only [List.length_append, List.length_singleton] at h4
        omega
theorem lexL_len (l : Bs) : (lexL l).1.length ≤ 16384 := by
  unfold lexL
  split
  · simp
  · have h1 := lexFrom_len l.length (l.length + 1) (skipL l) []
    have h2 := skipL_len l
    simp only [List.length_nil] at h1
    omega
end Go.Proofs.YtcaigcmbgihhkaaDoor
